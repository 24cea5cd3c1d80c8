/- Own texts, put together: Ra Rb Rc Rd. Conditions: as told at each. -/
import Derived.Test.YtopgbgnmjogeeaaDoorMCrW0
import Derived.Test.YtopgbgnmjogeeaaDoorMCrB0
import Derived.Test.YtopgbgnmjogeeaaDoorMCrA0
import Derived.Test.YtopgbgnmjogeeaaDoorMCrS0
import Derived.Test.YtopgbgnmjogeeaaDoorMCrV0
import Derived.Test.YtopgbgnmjogeeaaDoorMCrY0
/- Chapter 36, plain: the graph that any calls build. No program in sight. Conditions: none. -/
namespace Go.Z.Tse
set_option maxRecDepth 8000
set_option linter.unusedVariables false
set_option linter.unusedSimpArgs false
set_option linter.unusedSectionVars false
open Go Go.Z Go.Z.Aig Go.Proofs.YtopgbgnmjogeeaaDoor

structure Ac where
  kind : Int
  a : Int
  b : Int
  c : Int
def encA (x : Ac) : List Value := [.int .i64 x.kind, .int .i64 x.a, .int .i64 x.b, .int .i64 x.c]
theorem encA_len (x : Ac) : (encA x).length = 4 := rfl
def Ac.ok (x : Ac) : Prop := I64 x.kind ∧ I64 x.a ∧ I64 x.b ∧ I64 x.c
def callA (S : St) (x : Ac) : St :=
  if x.kind = 0 then (input1 S).2.2 else if x.kind = 1 then (and1 S x.a x.b).2.2 else if x.kind = 2 then (or1 S x.a x.b).2.2 else if x.kind = 3 then (xor1 S x.a x.b).2.2 else if x.kind = 4 then (mux1 S x.c x.a x.b).2.2 else S
def afterA (l : List Ac) : St := l.foldl callA L0
theorem afterA_snoc (l : List Ac) (k : Nat) (hk : k < l.length) : afterA (l.take (k + 1)) = callA (afterA (l.take k)) l[k] := by
  unfold afterA; rw [List.take_add_one, List.getElem?_eq_getElem hk, Option.toList_some, List.foldl_append]; rfl
theorem two_le (S : St) (a b c d : Int) : (two S a b c d).2.2.length ≤ S.length + 3 := by
  unfold two
  simp only
  have h1 := (and0_len (S := S) a b).1
  have h2 := (and0_len (S := (and0 S a b).2.2) c d).1
  split
  · dsimp only; omega
  · split
    · dsimp only; omega
    · have h3 := (and0_len (S := (and0 (and0 S a b).2.2 c d).2.2) (nt (and0 S a b).1) (nt (and0 (and0 S a b).2.2 c d).1)).1
      split <;> dsimp only <;> omega
theorem callA_len (S : St) (x : Ac) : (callA S x).length ≤ S.length + 3 := by
  have h0 := fun a b => (and0_len (S := S) a b).1
  unfold callA
  split
  · unfold input1 add; split <;> simp
  · split
    · unfold and1; split
      · have := h0 x.a x.b; omega
      · simp
    · split
      · unfold or1; split
        · have := h0 (nt x.a) (nt x.b); dsimp only; split <;> dsimp only <;> omega
        · simp
      · split
        · unfold xor1; split
          · exact two_le ..
          · simp
        · split
          · unfold mux1; split
            · exact two_le ..
            · simp
          · omega
theorem afterA_le (l : List Ac) : (afterA l).length ≤ 1 + 3 * l.length := by
  have : ∀ (l : List Ac) (S : St), (l.foldl callA S).length ≤ S.length + 3 * l.length := by
    intro l
    induction l with
    | nil => intro S; simp
    | cons x l ih => intro S; have := ih (callA S x); have := callA_len S x; simp only [List.foldl_cons, List.length_cons]; omega
  have := this l L0
  simpa [afterA, L0] using this
theorem callA_gate {S : St} (hw : WF S) (hl : S.length + 2 < 131072) {x : Ac} (h : x.kind ≠ 0) : Ext S (callA S x) := by
  have hB : ∀ a, hasB S a = true → has S a := fun a => hasB_iff.1
  unfold callA
  rw [if_neg h]
  split
  · by_cases h1 : (hasB S x.a && hasB S x.b) = true
    · obtain ⟨ha, hb⟩ := Bool.and_eq_true_iff.1 h1
      exact (good_and hw (by omega) (hB _ ha) (hB _ hb)).ext
    · unfold and1; rw [if_neg h1]; exact Ext.refl S
  · split
    · by_cases h1 : (hasB S x.a && hasB S x.b) = true
      · obtain ⟨ha, hb⟩ := Bool.and_eq_true_iff.1 h1
        exact (good_or hw (by omega) (hB _ ha) (hB _ hb)).ext
      · unfold or1; rw [if_neg h1]; exact Ext.refl S
    · split
      · by_cases h1 : (hasB S x.a && hasB S x.b) = true
        · obtain ⟨ha, hb⟩ := Bool.and_eq_true_iff.1 h1
          exact (good_xor hw (by omega) (hB _ ha) (hB _ hb)).ext
        · unfold xor1; rw [if_neg h1]; exact Ext.refl S
      · split
        · by_cases h1 : (hasB S x.c && (hasB S x.a && hasB S x.b)) = true
          · obtain ⟨hc, h2⟩ := Bool.and_eq_true_iff.1 h1
            obtain ⟨ha, hb⟩ := Bool.and_eq_true_iff.1 h2
            exact (good_mux hw (by omega) (hB _ hc) (hB _ ha) (hB _ hb)).ext
          · unfold mux1; rw [if_neg h1]; exact Ext.refl S
        · exact Ext.refl S
theorem callA_ins {S : St} (hw : WF S) (hl : S.length + 2 < 131072) {x : Ac} (h : x.kind ≠ 0) : ins 0 (callA S x) = ins 0 S := (callA_gate hw hl h).cut.2.1
theorem input1_eq {S : St} (hl : S.length < 131072) : input1 S = (2 * (S.length : Int), (0 : Int), S ++ [((0 : Int), (0 : Int), true)]) := by unfold input1 add; rw [if_neg (by omega)]
theorem callA_in {S : St} (hl : S.length < 131072) {x : Ac} (h : x.kind = 0) : (ins 0 (callA S x)).length = (ins 0 S).length + 1 := by
  unfold callA
  rw [if_pos h, input1_eq hl, ins_append, List.length_append]
  rfl
end Go.Z.Tse
/- Chapter 36: the graph that any calls build; refused roots; equality of formulas. Conditions: none. -/
namespace Go.Proofs.YtopgbgnmjogeeaaDoor
set_option maxRecDepth 8000
set_option linter.unusedVariables false
set_option linter.unusedSimpArgs false
set_option linter.unusedSectionVars false
open Go Go.Z Go.Z.Aig Go.Z.Tse Go.Z.Sat

theorem built36_ok {ρ : Nat → Obj → Prop} (a : Option Addr) (c : Nat) (l : List Ac) (hl : RSl ρ 4 a l.length (l.flatMap encA)) (hlen : l.length ≤ 9223372036854775806) (hx : ∀ x ∈ l, x.ok) : Con Tryd.prog ρ 25 #[.slice a l.length c] []
    (fun v H => ∃ p, v = .tuple #[.pointer (some ⟨p, 0, none⟩), .int .i64 ((ins 0 (afterA (l.take 60))).length)] ∧ H = [Gr p (afterA (l.take 60))]) := by
  obtain ⟨b, off, cs, T, fz, hr⟩ := RSl.row encA_len hl
  refine con_intro Tryd.func25 Tryd.call25 rfl Tryd.ntmps25 rfl (L := [(0, _)]) rfl fun w hh => ?_
  refine g_seq ?_
  refine g_region ?_
  refine g_pure (p_assign rfl) rfl ?_
  refine g_pure (p_assign rfl) rfl ?_
  refine g_nil ?_
  refine g_qt ?_
  refine g_seq ?_
  refine g_region ?_
  refine g_call (Hin := []) (Hr := ?hr1) (R := ?rr1) rfl rfl rfl ?hin1 ?hc1 ?hk1
  case hin1 => repeat' (first | exact Cover.nil | exact Take.here | apply Cover.cons | apply Take.there)
  case hc1 => intro ρ' hρ hR; exact new_ok
  rintro _ _ ⟨p, rfl, rfl⟩
  refine g_pure (p_assign rfl) rfl ?_
  refine g_nil ?_
  refine g_qt ?_
  refine g_seq ?_
  refine g_region ?_
  refine g_pure (p_assign rfl) rfl ?_
  refine g_nil ?_
  refine g_qt ?_
  refine g_seq ?_
  refine g_seq ?_
  refine g_region ?_
  refine g_pure (p_assign rfl) rfl ?_
  refine g_nil ?_
  refine g_qt ?_
  refine g_block ?_
  refine g_loop (fun k : Nat => [(0, .slice a l.length c), (4, .pointer (some ⟨p, 0, none⟩)), (5, .int .i64 (ins 0 (afterA (l.take k))).length), (6, .int .i64 k)])
    (fun k => [Gr p (afterA (l.take k))]) (fun k => k ≤ l.length ∧ k ≤ 60) (fun k => 60 - k) 0 ⟨Nat.zero_le _, Nat.zero_le _⟩ (by (repeat (first | exact trivial | refine ⟨by rfl, ?_⟩)); done) (by repeat' (first | exact Cover.nil | exact Take.here | apply Cover.cons | apply Take.there)) ?_
  rintro k ⟨hk, hk60⟩
  have hS3 := afterA_le (l.take k)
  have hTl : (l.take k).length ≤ k := by rw [List.length_take]; omega
  have hS2 := ins_le (afterA (l.take k)) 0
  have hlast : k = l.length ∨ k = 60 → afterA (l.take k) = afterA (l.take 60) := fun h => by
    rcases h with rfl | rfl
    · rw [List.take_of_length_le (Nat.le_refl _), List.take_of_length_le hk60]
    · rfl
  have hnext : ∀ hkl : k < l.length, afterA (l.take (k + 1)) = callA (afterA (l.take k)) l[k] := fun hkl => afterA_snoc l k hkl
  obtain ⟨S, hS⟩ : ∃ S, afterA (l.take k) = S := ⟨_, rfl⟩
  rw [hS] at hS3 hS2 hlast hnext ⊢
  refine g_seq ?_
  refine g_seq ?_
  refine g_region ?_
  refine g_pure (p_move rfl) rfl ?_
  refine g_pure (p_move rfl) rfl ?_
  refine g_pure (p_len (by rfl) rfl) rfl ?_
  refine g_pure (p_lss rfl rfl) rfl ?_
  refine g_pure (p_move rfl) rfl ?_
  refine g_splitd rfl rfl (fun h1 => ?_) (fun h1 => ?_)
  · have hkl : k < l.length := by omega
    refine g_yes rfl rfl ?_
    refine g_pure (p_move rfl) rfl ?_
    refine g_yes rfl rfl ?_
    refine g_pure (p_lss rfl rfl) rfl ?_
    first | refine g_pure (p_pickt rfl rfl) rfl ?_ | refine g_pure (p_pickf rfl rfl) rfl ?_
    refine g_nil ?_
    refine g_qt ?_
    refine g_ifd rfl (fun h2 => ?_) (fun h2 => ?_)
    · obtain ⟨r1, r2, r3⟩ := hr (by omega)
      obtain ⟨q1, q2⟩ := r3 k hkl
      obtain ⟨ok0, ok1, ok2, ok3⟩ := hx l[k] (List.getElem_mem hkl)
      have q3 : sub cs (off + (k : Int).toNat * 4) 4 = some (encA l[k]) := by rw [Int.toNat_natCast]; exact q1 (by decide)
      have hn := hnext hkl
      generalize l[k] = x at q1 q2 q3 ok0 ok1 ok2 ok3 hn
      refine gr_wf (p := p) (S := S) (by repeat' (first | exact Take.here | apply Take.there)) fun hw => ?_
      have hgate : x.kind ≠ 0 → (ins 0 S).length = (ins 0 (afterA (l.take (k + 1)))).length := fun h0 => by rw [hn, callA_ins hw (by omega) h0]
      refine g_skip ?_
      refine g_qt ?_
      refine g_seq ?_
      refine g_block ?_
      refine g_seq ?_
      refine g_region ?_
      refine g_pure (p_move rfl) rfl ?_
      refine g_pure (p_move rfl) rfl ?_
      refine g_pure (p_indexAddr rfl rfl (by omega) (fun _ => r1)) rfl ?_
      refine g_pure (p_loadN (by rfl) rfl (Has.ro r2) q3) rfl ?_
      refine g_eff (e_alloc (by rfl)) rfl (fun _ _ => ?_)
      rintro ⟨b7, rfl, rfl⟩
      first | refine g_eff0 (e_storeO rfl rfl (by rfl) (by rfl) (by rfl) (by repeat' (first | exact Take.here | apply Take.there)) (by rfl)) (fun _ _ => ?_) | refine g_eff0 (e_storeN rfl rfl (by rfl) (by rfl) (by rfl) (by repeat' (first | exact Take.here | apply Take.there)) (by simp)) (fun _ _ => ?_)
      rintro rfl
      refine g_nil ?_
      refine g_qt ?_
      refine g_seq ?_
      refine g_region ?_
      refine g_pure (p_fieldAddr rfl) rfl ?_
      refine g_pure (p_load (by rfl) rfl (by first | (apply Has.own; (repeat' (first | exact Take.here | apply Take.there)); done) | exact Has.ro (by assumption)) (by first | rfl | assumption)) rfl ?_
      refine g_nil ?_
      refine g_qt ?_
      refine g_block ?_
      refine g_seq ?_
      refine g_region ?_
      refine g_pure (p_eql rfl rfl) rfl ?_
      refine g_pure (p_assign rfl) rfl ?_
      refine g_nil ?_
      refine g_qt ?_
      refine g_ifd rfl (fun c0 => ?_) (fun c0 => ?_)
      · have e := input1_eq (S := S) (by omega)
        have e2 : afterA (l.take (k + 1)) = S ++ [(0, 0, true)] := by rw [hn]; unfold callA; rw [if_pos c0, e]
        have e3 : ((ins 0 S).length : Int) + 1 = ((ins 0 (afterA (l.take (k + 1)))).length : Int) := by rw [hn, callA_in (by omega) c0]; rfl
        refine g_seq ?_
        refine g_region ?_
        refine g_pure (p_move rfl) rfl ?_
        refine g_call (Hin := ?hi2) (Hr := ?hr2) (R := ?rr2) rfl rfl rfl ?hin2 ?hc2 ?hk2
        case hc2 => intro ρ' hρ hR; exact input_at e
        case hin2 => repeat' (first | exact Cover.nil | exact Take.here | apply Cover.cons | apply Take.there)
        rintro _ _ ⟨rfl, rfl⟩
        refine g_pure (p_move rfl) rfl ?_
        refine g_pure (p_extract rfl rfl) rfl ?_
        refine g_pure (p_extract rfl rfl) rfl ?_
        refine g_pure (p_assign rfl) rfl ?_
        refine g_pure (p_assign rfl) rfl ?_
        refine g_nil ?_
        refine g_qt ?_
        refine g_seq ?_
        refine g_region ?_
        refine g_pure (p_move rfl) rfl ?_
        refine g_pure (p_eqlT rfl rfl rfl) rfl ?_
        refine g_nil ?_
        refine g_qt ?_
        refine g_ift rfl ?_
        refine g_region ?_
        refine g_pure (p_move rfl) rfl ?_
        first | refine g_pure (p_addi rfl rfl (by omega)) rfl ?_ | refine g_pure (p_add rfl rfl) rfl ?_
        refine g_pure (p_assign rfl) rfl ?_
        refine g_nil ?_
        refine g_qb ?_
        refine g_qb ?_
        refine g_qt ?_
        refine g_region ?_
        refine g_pure (p_move rfl) rfl ?_
        first | refine g_pure (p_addi rfl rfl (by omega)) rfl ?_ | refine g_pure (p_add rfl rfl) rfl ?_
        refine g_pure (p_assign rfl) rfl ?_
        refine g_nil ?_
        refine g_qn ?_
        rw [e3, ← e2]
        exact g_next (k + 1) (by (repeat (first | exact trivial | refine ⟨by rfl, ?_⟩)); done) (by repeat' (first | exact Cover.nil | exact Take.here | apply Cover.cons | apply Take.there)) ⟨by omega, by omega⟩ (by omega)
      · refine g_seq ?_
        refine g_region ?_
        refine g_pure (p_eql rfl rfl) rfl ?_
        refine g_pure (p_assign rfl) rfl ?_
        refine g_nil ?_
        refine g_qt ?_
        refine g_ifd rfl (fun c1 => ?_) (fun c1 => ?_)
        · have e : afterA (l.take (k + 1)) = (and1 S x.a x.b).2.2 := by rw [hn]; unfold callA; rw [if_neg c0, if_pos c1]
          refine g_region ?_
          refine g_pure (p_move rfl) rfl ?_
          refine g_pure (p_fieldAddr rfl) rfl ?_
          refine g_pure (p_load (by rfl) rfl (by first | (apply Has.own; (repeat' (first | exact Take.here | apply Take.there)); done) | exact Has.ro (by assumption)) (by first | rfl | assumption)) rfl ?_
          refine g_pure (p_fieldAddr rfl) rfl ?_
          refine g_pure (p_load (by rfl) rfl (by first | (apply Has.own; (repeat' (first | exact Take.here | apply Take.there)); done) | exact Has.ro (by assumption)) (by first | rfl | assumption)) rfl ?_
          refine g_call (Hin := ?hi3) (Hr := ?hr3) (R := ?rr3) rfl rfl rfl ?hin3 ?hc3 ?hk3
          case hc3 => intro ρ' hρ hR; exact and_ok p S x.a x.b ok1 ok2
          case hin3 => repeat' (first | exact Cover.nil | exact Take.here | apply Cover.cons | apply Take.there)
          rintro _ _ ⟨rfl, rfl⟩
          refine g_nil ?_
          refine g_qb ?_
          refine g_qb ?_
          refine g_qt ?_
          refine g_region ?_
          refine g_pure (p_move rfl) rfl ?_
          first | refine g_pure (p_addi rfl rfl (by omega)) rfl ?_ | refine g_pure (p_add rfl rfl) rfl ?_
          refine g_pure (p_assign rfl) rfl ?_
          refine g_nil ?_
          refine g_qn ?_
          rw [hgate c0, ← e]
          exact g_next (k + 1) (by (repeat (first | exact trivial | refine ⟨by rfl, ?_⟩)); done) (by repeat' (first | exact Cover.nil | exact Take.here | apply Cover.cons | apply Take.there)) ⟨by omega, by omega⟩ (by omega)
        · refine g_seq ?_
          refine g_region ?_
          refine g_pure (p_eql rfl rfl) rfl ?_
          refine g_pure (p_assign rfl) rfl ?_
          refine g_nil ?_
          refine g_qt ?_
          refine g_ifd rfl (fun c2 => ?_) (fun c2 => ?_)
          · have e : afterA (l.take (k + 1)) = (or1 S x.a x.b).2.2 := by rw [hn]; unfold callA; rw [if_neg c0, if_neg c1, if_pos c2]
            refine g_region ?_
            refine g_pure (p_move rfl) rfl ?_
            refine g_pure (p_fieldAddr rfl) rfl ?_
            refine g_pure (p_load (by rfl) rfl (by first | (apply Has.own; (repeat' (first | exact Take.here | apply Take.there)); done) | exact Has.ro (by assumption)) (by first | rfl | assumption)) rfl ?_
            refine g_pure (p_fieldAddr rfl) rfl ?_
            refine g_pure (p_load (by rfl) rfl (by first | (apply Has.own; (repeat' (first | exact Take.here | apply Take.there)); done) | exact Has.ro (by assumption)) (by first | rfl | assumption)) rfl ?_
            refine g_call (Hin := ?hi4) (Hr := ?hr4) (R := ?rr4) rfl rfl rfl ?hin4 ?hc4 ?hk4
            case hc4 => intro ρ' hρ hR; exact or_ok p S x.a x.b ok1 ok2
            case hin4 => repeat' (first | exact Cover.nil | exact Take.here | apply Cover.cons | apply Take.there)
            rintro _ _ ⟨rfl, rfl⟩
            refine g_nil ?_
            refine g_qb ?_
            refine g_qb ?_
            refine g_qt ?_
            refine g_region ?_
            refine g_pure (p_move rfl) rfl ?_
            first | refine g_pure (p_addi rfl rfl (by omega)) rfl ?_ | refine g_pure (p_add rfl rfl) rfl ?_
            refine g_pure (p_assign rfl) rfl ?_
            refine g_nil ?_
            refine g_qn ?_
            rw [hgate c0, ← e]
            exact g_next (k + 1) (by (repeat (first | exact trivial | refine ⟨by rfl, ?_⟩)); done) (by repeat' (first | exact Cover.nil | exact Take.here | apply Cover.cons | apply Take.there)) ⟨by omega, by omega⟩ (by omega)
          · refine g_seq ?_
            refine g_region ?_
            refine g_pure (p_eql rfl rfl) rfl ?_
            refine g_pure (p_assign rfl) rfl ?_
            refine g_nil ?_
            refine g_qt ?_
            refine g_ifd rfl (fun c3 => ?_) (fun c3 => ?_)
            · have e : afterA (l.take (k + 1)) = (xor1 S x.a x.b).2.2 := by rw [hn]; unfold callA; rw [if_neg c0, if_neg c1, if_neg c2, if_pos c3]
              refine g_region ?_
              refine g_pure (p_move rfl) rfl ?_
              refine g_pure (p_fieldAddr rfl) rfl ?_
              refine g_pure (p_load (by rfl) rfl (by first | (apply Has.own; (repeat' (first | exact Take.here | apply Take.there)); done) | exact Has.ro (by assumption)) (by first | rfl | assumption)) rfl ?_
              refine g_pure (p_fieldAddr rfl) rfl ?_
              refine g_pure (p_load (by rfl) rfl (by first | (apply Has.own; (repeat' (first | exact Take.here | apply Take.there)); done) | exact Has.ro (by assumption)) (by first | rfl | assumption)) rfl ?_
              refine g_call (Hin := ?hi5) (Hr := ?hr5) (R := ?rr5) rfl rfl rfl ?hin5 ?hc5 ?hk5
              case hc5 => intro ρ' hρ hR; exact xor_ok p S x.a x.b ok1 ok2
              case hin5 => repeat' (first | exact Cover.nil | exact Take.here | apply Cover.cons | apply Take.there)
              rintro _ _ ⟨rfl, rfl⟩
              refine g_nil ?_
              refine g_qb ?_
              refine g_qb ?_
              refine g_qt ?_
              refine g_region ?_
              refine g_pure (p_move rfl) rfl ?_
              first | refine g_pure (p_addi rfl rfl (by omega)) rfl ?_ | refine g_pure (p_add rfl rfl) rfl ?_
              refine g_pure (p_assign rfl) rfl ?_
              refine g_nil ?_
              refine g_qn ?_
              rw [hgate c0, ← e]
              exact g_next (k + 1) (by (repeat (first | exact trivial | refine ⟨by rfl, ?_⟩)); done) (by repeat' (first | exact Cover.nil | exact Take.here | apply Cover.cons | apply Take.there)) ⟨by omega, by omega⟩ (by omega)
            · refine g_seq ?_
              refine g_region ?_
              refine g_pure (p_eql rfl rfl) rfl ?_
              refine g_pure (p_assign rfl) rfl ?_
              refine g_nil ?_
              refine g_qt ?_
              refine g_ifd rfl (fun c4 => ?_) (fun c4 => ?_)
              · have e : afterA (l.take (k + 1)) = (mux1 S x.c x.a x.b).2.2 := by rw [hn]; unfold callA; rw [if_neg c0, if_neg c1, if_neg c2, if_neg c3, if_pos c4]
                refine g_region ?_
                refine g_pure (p_move rfl) rfl ?_
                refine g_pure (p_fieldAddr rfl) rfl ?_
                refine g_pure (p_load (by rfl) rfl (by first | (apply Has.own; (repeat' (first | exact Take.here | apply Take.there)); done) | exact Has.ro (by assumption)) (by first | rfl | assumption)) rfl ?_
                refine g_pure (p_fieldAddr rfl) rfl ?_
                refine g_pure (p_load (by rfl) rfl (by first | (apply Has.own; (repeat' (first | exact Take.here | apply Take.there)); done) | exact Has.ro (by assumption)) (by first | rfl | assumption)) rfl ?_
                refine g_pure (p_fieldAddr rfl) rfl ?_
                refine g_pure (p_load (by rfl) rfl (by first | (apply Has.own; (repeat' (first | exact Take.here | apply Take.there)); done) | exact Has.ro (by assumption)) (by first | rfl | assumption)) rfl ?_
                refine g_call (Hin := ?hi6) (Hr := ?hr6) (R := ?rr6) rfl rfl rfl ?hin6 ?hc6 ?hk6
                case hc6 => intro ρ' hρ hR; exact mux_ok p S x.c x.a x.b ok3 ok1 ok2
                case hin6 => repeat' (first | exact Cover.nil | exact Take.here | apply Cover.cons | apply Take.there)
                rintro _ _ ⟨rfl, rfl⟩
                refine g_nil ?_
                refine g_qb ?_
                refine g_qb ?_
                refine g_qt ?_
                refine g_region ?_
                refine g_pure (p_move rfl) rfl ?_
                first | refine g_pure (p_addi rfl rfl (by omega)) rfl ?_ | refine g_pure (p_add rfl rfl) rfl ?_
                refine g_pure (p_assign rfl) rfl ?_
                refine g_nil ?_
                refine g_qn ?_
                rw [hgate c0, ← e]
                exact g_next (k + 1) (by (repeat (first | exact trivial | refine ⟨by rfl, ?_⟩)); done) (by repeat' (first | exact Cover.nil | exact Take.here | apply Cover.cons | apply Take.there)) ⟨by omega, by omega⟩ (by omega)
              · have e : afterA (l.take (k + 1)) = S := by rw [hn]; unfold callA; rw [if_neg c0, if_neg c1, if_neg c2, if_neg c3, if_neg c4]
                refine g_skip ?_
                refine g_qb ?_
                refine g_qb ?_
                refine g_qt ?_
                refine g_region ?_
                refine g_pure (p_move rfl) rfl ?_
                first | refine g_pure (p_addi rfl rfl (by omega)) rfl ?_ | refine g_pure (p_add rfl rfl) rfl ?_
                refine g_pure (p_assign rfl) rfl ?_
                refine g_nil ?_
                refine g_qn ?_
                rw [← e]
                exact g_next (k + 1) (by (repeat (first | exact trivial | refine ⟨by rfl, ?_⟩)); done) (by repeat' (first | exact Cover.nil | exact Take.here | apply Cover.cons | apply Take.there)) ⟨by omega, by omega⟩ (by omega)
    · refine g_exit ?_
      refine g_qt_exit ?_
      refine g_qn_exit ?_
      refine g_qb_exit ?_
      refine g_qt ?_
      refine g_seq ?_
      refine g_region ?_
      refine g_pure (p_move rfl) rfl ?_
      refine g_pure (p_move rfl) rfl ?_
      refine g_pure (p_assign rfl) rfl ?_
      refine g_pure (p_assign rfl) rfl ?_
      refine g_nil ?_
      refine g_qt ?_
      refine g_ret ?_
      rw [hlast (.inr (by omega))]
      exact g_post (rs := [.tmp 2, .tmp 3]) rfl (.tmp rfl (.tmp rfl .nil)) ⟨p, rfl, rfl⟩ (by repeat' (first | exact Cover.nil | exact Take.here | apply Cover.cons | apply Take.there))
  · refine g_no rfl rfl rfl rfl ?_
    refine g_no rfl rfl rfl rfl ?_
    first | refine g_pure (p_pickt rfl rfl) rfl ?_ | refine g_pure (p_pickf rfl rfl) rfl ?_
    refine g_nil ?_
    refine g_qt ?_
    refine g_iff rfl ?_
    refine g_exit ?_
    refine g_qt_exit ?_
    refine g_qn_exit ?_
    refine g_qb_exit ?_
    refine g_qt ?_
    refine g_seq ?_
    refine g_region ?_
    refine g_pure (p_move rfl) rfl ?_
    refine g_pure (p_move rfl) rfl ?_
    refine g_pure (p_assign rfl) rfl ?_
    refine g_pure (p_assign rfl) rfl ?_
    refine g_nil ?_
    refine g_qt ?_
    refine g_ret ?_
    rw [hlast (.inl (by omega))]
    exact g_post (rs := [.tmp 2, .tmp 3]) rfl (.tmp rfl (.tmp rfl .nil)) ⟨p, rfl, rfl⟩ (by repeat' (first | exact Cover.nil | exact Take.here | apply Cover.cons | apply Take.there))

theorem of_nil {ρ : Nat → Obj → Prop} (al : Option Addr) (k cl : Nat) : Con Tryd.prog ρ 26 #[.pointer none, .slice al k cl] [] (fun v H => v = .tuple #[.agg #[.int .i64 0, .slice none 0 0], .int .i64 1] ∧ H = []) := by
  refine con_intro Tryd.func26 Tryd.call26 rfl Tryd.ntmps26 rfl (L := [(0, _), (1, _)]) rfl fun w hh => ?_
  refine g_seq ?_
  refine g_region ?_
  refine g_eff (e_alloc (by rfl)) rfl (fun _ _ => ?_)
  rintro ⟨b4, rfl, rfl⟩
  refine g_pure (p_assign rfl) rfl ?_
  refine g_nil ?_
  refine g_qt ?_
  refine g_seq ?_
  refine g_seq ?_
  refine g_region ?_
  refine g_pure (p_move rfl) rfl ?_
  refine g_pure (p_eqnil (by rfl) rfl rfl) rfl ?_
  refine g_nil ?_
  refine g_qt ?_
  refine g_ift rfl ?_
  refine g_seq ?_
  refine g_region ?_
  refine g_pure (p_build (by rfl) rfl (by rfl)) rfl ?_
  first | refine g_eff0 (e_storeO rfl rfl (by rfl) (by rfl) (by rfl) (by repeat' (first | exact Take.here | apply Take.there)) (by rfl)) (fun _ _ => ?_) | refine g_eff0 (e_storeN rfl rfl (by rfl) (by rfl) (by rfl) (by repeat' (first | exact Take.here | apply Take.there)) (by simp)) (fun _ _ => ?_)
  rintro rfl
  refine g_pure (p_assign rfl) rfl ?_
  refine g_nil ?_
  refine g_qt ?_
  refine g_ret ?_
  refine g_qt_ret ?_
  exact g_post (Ho := []) (rs := [.cell 4 24, .tmp 5]) rfl (Res.cellN (by rfl) rfl (Has.own (by repeat' (first | exact Take.here | apply Take.there))) (by rfl) (.tmp rfl .nil)) ⟨rfl, rfl⟩ (by repeat' (first | exact Cover.nil | exact Take.here | apply Cover.cons | apply Take.there))
theorem of_no {ρ : Nat → Obj → Prop} (p : Nat) (S : St) (hw : WF S) (hg : Ro ρ (Gr p S)) (al : Option Addr) (cl : Nat) (rs : List Int) (hl : RSl ρ 1 al rs.length (rs.map encI)) (hlen : rs.length ≤ 1000000) (hI : ∀ r ∈ rs, I64 r) (hr : ¬ ∀ r ∈ rs, has S r) :
    Con Tryd.prog ρ 26 #[.pointer (some ⟨p, 0, none⟩), .slice al rs.length cl] [] (fun v H => v = .tuple #[.agg #[.int .i64 0, .slice none 0 0], .int .i64 14] ∧ H = []) := by
  have hlim := hw.lim
  obtain ⟨_, b, off, cs, T, fz, hcs⟩ := hl
  refine con_intro Tryd.func26 Tryd.call26 rfl Tryd.ntmps26 rfl (L := [(0, _), (1, _)]) rfl fun w hh => ?_
  refine g_seq ?_
  refine g_region ?_
  refine g_eff (e_alloc (by rfl)) rfl (fun _ _ => ?_)
  rintro ⟨b4, rfl, rfl⟩
  refine g_pure (p_assign rfl) rfl ?_
  refine g_nil ?_
  refine g_qt ?_
  refine g_seq ?_
  refine g_seq ?_
  refine g_region ?_
  refine g_pure (p_move rfl) rfl ?_
  refine g_pure (p_eqnil (by rfl) rfl rfl) rfl ?_
  refine g_nil ?_
  refine g_qt ?_
  refine g_iff rfl ?_
  refine g_skip ?_
  refine g_qt ?_
  refine g_seq ?_
  refine g_region ?_
  refine g_pure (p_move rfl) rfl ?_
  refine g_call (Hin := []) (Hr := ?hr7) (R := ?rr7) rfl rfl rfl ?hin7 ?hc7 ?hk7
  case hin7 => repeat' (first | exact Cover.nil | exact Take.here | apply Cover.cons | apply Take.there)
  case hc7 => intro ρ' hρ hR; exact glen_ok p S (hg.mono hρ)
  rintro _ _ ⟨rfl, rfl⟩
  refine g_pure (p_assign rfl) rfl ?_
  refine g_nil ?_
  refine g_qt ?_
  refine g_seq ?_
  refine g_seq ?_
  refine g_region ?_
  refine g_pure (p_move rfl) rfl ?_
  refine g_pure (p_len (by rfl) rfl) rfl ?_
  refine g_pure (p_move rfl) rfl ?_
  refine g_nil ?_
  refine g_qt ?_
  refine g_block ?_
  refine g_loop (fun i : Nat => [(0, .pointer (some ⟨p, 0, none⟩)), (1, .slice al rs.length cl), (4, .pointer (some ⟨b4, 0, none⟩)), (6, .int .i64 S.length), (23, .slice al rs.length cl), (24, .int .i64 rs.length), (25, .int .i64 i)])
    (fun _ => [Blk b4 (.cells [.int .i64 0, .slice none 0 0].toArray 24 (0, 0))]) (fun i => i ≤ rs.length ∧ ∀ r ∈ rs.take i, has S r) (fun i => rs.length - i) 0 ⟨Nat.zero_le _, by simp⟩ (by (repeat (first | exact trivial | refine ⟨by rfl, ?_⟩)); done) (by repeat' (first | exact Cover.nil | exact Take.here | apply Cover.cons | apply Take.there)) ?_
  rintro i ⟨hi, hall⟩
  refine g_seq ?_
  refine g_region ?_
  refine g_pure (p_lss rfl rfl) rfl ?_
  refine g_nil ?_
  refine g_qt ?_
  refine g_seq ?_
  refine g_ifd rfl (fun q => ?_) (fun q => ?_)
  · have hil : i < rs.length := by omega
    obtain ⟨r1, r2, r3⟩ := hcs (by omega)
    have hri := hI rs[i] (List.getElem_mem hil)
    have hri1 := hri.1
    have hri2 := hri.2
    have hx : cs[off + (i : Int).toNat * 1]? = some (.int .i64 rs[i]) := by simpa [encI, List.getElem?_eq_getElem hil] using r3 i (.int .i64 rs[i]) (by simp [List.getElem?_eq_getElem hil, encI])
    have hnx : has S rs[i] → ∀ r ∈ rs.take (i + 1), has S r := fun h r hrm => by
      rw [List.take_add_one, List.getElem?_eq_getElem hil] at hrm
      rcases List.mem_append.1 hrm with hrm | hrm
      · exact hall r hrm
      · simp at hrm; subst hrm; exact h
    generalize rs[i] = r at hri hri1 hri2 hx hnx
    refine g_skip ?_
    refine g_qt ?_
    refine g_seq ?_
    refine g_block ?_
    refine g_seq ?_
    refine g_region ?_
    refine g_pure (p_indexAddr rfl rfl (by omega) (fun _ => r1)) rfl ?_
    refine g_pure (p_load (by rfl) rfl (Has.ro r2) hx) rfl ?_
    refine g_pure (p_assign rfl) rfl ?_
    refine g_nil ?_
    refine g_qt ?_
    refine g_seq ?_
    refine g_region ?_
    refine g_pure (p_move rfl) rfl ?_
    refine g_pure (p_lss rfl rfl) rfl ?_
    refine g_pure (p_move rfl) rfl ?_
    refine g_splitd rfl rfl (fun z => ?_) (fun z => ?_)
    · refine g_no rfl rfl rfl rfl ?_
      refine g_no rfl rfl rfl rfl ?_
      refine g_no rfl rfl rfl rfl ?_
      refine g_no rfl rfl rfl rfl ?_
      first | refine g_pure (p_pickt rfl rfl) rfl ?_ | refine g_pure (p_pickf rfl rfl) rfl ?_
      refine g_nil ?_
      refine g_qt ?_
      refine g_ift rfl ?_
      refine g_seq ?_
      refine g_region ?_
      refine g_pure (p_build (by rfl) rfl (by rfl)) rfl ?_
      first | refine g_eff0 (e_storeO rfl rfl (by rfl) (by rfl) (by rfl) (by repeat' (first | exact Take.here | apply Take.there)) (by rfl)) (fun _ _ => ?_) | refine g_eff0 (e_storeN rfl rfl (by rfl) (by rfl) (by rfl) (by repeat' (first | exact Take.here | apply Take.there)) (by simp)) (fun _ _ => ?_)
      rintro rfl
      refine g_pure (p_assign rfl) rfl ?_
      refine g_nil ?_
      refine g_qt ?_
      refine g_ret ?_
      refine g_qb_ret ?_
      refine g_qt_ret ?_
      refine g_qn_ret ?_
      refine g_qb_ret ?_
      refine g_qt_ret ?_
      exact g_post (Ho := []) (rs := [.cell 4 24, .tmp 5]) rfl (Res.cellN (by rfl) rfl (Has.own (by repeat' (first | exact Take.here | apply Take.there))) (by rfl) (.tmp rfl .nil)) ⟨rfl, rfl⟩ (by repeat' (first | exact Cover.nil | exact Take.here | apply Cover.cons | apply Take.there))
    · refine g_yes rfl rfl ?_
      refine g_pure (p_move rfl) rfl ?_
      refine g_yes rfl rfl ?_
      first | refine g_pure (p_quon rfl rfl (by omega) (by omega)) rfl ?_ | refine g_pure (p_quoi rfl rfl (by omega) (by omega)) rfl ?_ | refine g_pure (p_quo rfl rfl (by omega)) rfl ?_
      refine g_yes rfl rfl ?_
      refine g_pure (p_move rfl) rfl ?_
      refine g_yes rfl rfl ?_
      refine g_pure (p_geq rfl rfl) rfl ?_
      first | refine g_pure (p_pickt rfl rfl) rfl ?_ | refine g_pure (p_pickf rfl rfl) rfl ?_
      refine g_nil ?_
      refine g_qt ?_
      refine g_ifd rfl (fun z2 => ?_) (fun z2 => ?_)
      · refine g_seq ?_
        refine g_region ?_
        refine g_pure (p_build (by rfl) rfl (by rfl)) rfl ?_
        first | refine g_eff0 (e_storeO rfl rfl (by rfl) (by rfl) (by rfl) (by repeat' (first | exact Take.here | apply Take.there)) (by rfl)) (fun _ _ => ?_) | refine g_eff0 (e_storeN rfl rfl (by rfl) (by rfl) (by rfl) (by repeat' (first | exact Take.here | apply Take.there)) (by simp)) (fun _ _ => ?_)
        rintro rfl
        refine g_pure (p_assign rfl) rfl ?_
        refine g_nil ?_
        refine g_qt ?_
        refine g_ret ?_
        refine g_qb_ret ?_
        refine g_qt_ret ?_
        refine g_qn_ret ?_
        refine g_qb_ret ?_
        refine g_qt_ret ?_
        exact g_post (Ho := []) (rs := [.cell 4 24, .tmp 5]) rfl (Res.cellN (by rfl) rfl (Has.own (by repeat' (first | exact Take.here | apply Take.there))) (by rfl) (.tmp rfl .nil)) ⟨rfl, rfl⟩ (by repeat' (first | exact Cover.nil | exact Take.here | apply Cover.cons | apply Take.there))
      · refine g_skip ?_
        refine g_qb ?_
        refine g_qt ?_
        refine g_region ?_
        first | refine g_pure (p_addi rfl rfl (by omega)) rfl ?_ | refine g_pure (p_add rfl rfl) rfl ?_
        refine g_pure (p_move rfl) rfl ?_
        refine g_nil ?_
        refine g_qn ?_
        exact g_next (i + 1) (by (repeat (first | exact trivial | refine ⟨by rfl, ?_⟩)); done) (by repeat' (first | exact Cover.nil | exact Take.here | apply Cover.cons | apply Take.there)) ⟨by omega, hnx ⟨by omega, by omega⟩⟩ (by omega)
  · have hie : i = rs.length := by omega
    subst hie
    rw [List.take_length] at hall
    exact absurd hall hr

theorem dsame_ok {ρ : Nat → Obj → Prop} (n : Int) (ca cb : Option Addr) (cc cd : Nat) (F : Fm) (hA : FmR ρ ca F) (hB : FmR ρ cb F) :
    Con Tryd.prog ρ 27 #[.agg #[.int .i64 n, .slice ca F.length cc], .agg #[.int .i64 n, .slice cb F.length cd]] [] (fun v H => v = .bool true ∧ H = []) := by
  have hlen := hA.len
  refine con_intro Tryd.func27 Tryd.call27 rfl Tryd.ntmps27 rfl (L := [(0, _), (1, _)]) rfl fun w hh => ?_
  refine g_seq ?_
  refine g_region ?_
  refine g_eff (e_box rfl (by rfl)) rfl (fun _ _ => ?_)
  rintro ⟨b2, rfl, rfl⟩
  refine g_eff (e_box rfl (by rfl)) rfl (fun _ _ => ?_)
  rintro ⟨b3, rfl, rfl⟩
  refine g_pure (p_assign rfl) rfl ?_
  refine g_nil ?_
  refine g_qt ?_
  refine g_seq ?_
  refine g_seq ?_
  refine g_region ?_
  refine g_pure (p_fieldAddr rfl) rfl ?_
  refine g_pure (p_load (by rfl) rfl (by first | (apply Has.own; (repeat' (first | exact Take.here | apply Take.there)); done) | exact Has.ro (by assumption)) (by first | rfl | assumption)) rfl ?_
  refine g_pure (p_fieldAddr rfl) rfl ?_
  refine g_pure (p_load (by rfl) rfl (by first | (apply Has.own; (repeat' (first | exact Take.here | apply Take.there)); done) | exact Has.ro (by assumption)) (by first | rfl | assumption)) rfl ?_
  refine g_pure (p_neqF rfl rfl rfl) rfl ?_
  refine g_pure (p_move rfl) rfl ?_
  refine g_yes rfl rfl ?_
  refine g_pure (p_fieldAddr rfl) rfl ?_
  refine g_yes rfl rfl ?_
  refine g_pure (p_load (by rfl) rfl (by first | (apply Has.own; (repeat' (first | exact Take.here | apply Take.there)); done) | exact Has.ro (by assumption)) (by first | rfl | assumption)) rfl ?_
  refine g_yes rfl rfl ?_
  refine g_pure (p_len (by rfl) rfl) rfl ?_
  refine g_yes rfl rfl ?_
  refine g_pure (p_fieldAddr rfl) rfl ?_
  refine g_yes rfl rfl ?_
  refine g_pure (p_load (by rfl) rfl (by first | (apply Has.own; (repeat' (first | exact Take.here | apply Take.there)); done) | exact Has.ro (by assumption)) (by first | rfl | assumption)) rfl ?_
  refine g_yes rfl rfl ?_
  refine g_pure (p_len (by rfl) rfl) rfl ?_
  refine g_yes rfl rfl ?_
  refine g_pure (p_neqF rfl rfl rfl) rfl ?_
  first | refine g_pure (p_pickt rfl rfl) rfl ?_ | refine g_pure (p_pickf rfl rfl) rfl ?_
  refine g_nil ?_
  refine g_qt ?_
  refine g_iff rfl ?_
  refine g_skip ?_
  refine g_qt ?_
  refine g_seq ?_
  refine g_seq ?_
  refine g_region ?_
  refine g_pure (p_assign rfl) rfl ?_
  refine g_nil ?_
  refine g_qt ?_
  refine g_block ?_
  refine g_loop (fun i : Nat => [(2, .pointer (some ⟨b2, 0, none⟩)), (3, .pointer (some ⟨b3, 0, none⟩)), (5, .int .i64 i)])
    (fun _ => [Blk b2 (.cells [.int .i64 n, .slice ca F.length cc].toArray 24 (0, 0)), Blk b3 (.cells [.int .i64 n, .slice cb F.length cd].toArray 24 (0, 0))]) (fun i => i ≤ F.length) (fun i => F.length - i) 0 (Nat.zero_le _) (by (repeat (first | exact trivial | refine ⟨by rfl, ?_⟩)); done) (by repeat' (first | exact Cover.nil | exact Take.here | apply Cover.cons | apply Take.there)) ?_
  intro i hi
  refine g_seq ?_
  refine g_seq ?_
  refine g_region ?_
  refine g_pure (p_move rfl) rfl ?_
  refine g_pure (p_fieldAddr rfl) rfl ?_
  refine g_pure (p_load (by rfl) rfl (by first | (apply Has.own; (repeat' (first | exact Take.here | apply Take.there)); done) | exact Has.ro (by assumption)) (by first | rfl | assumption)) rfl ?_
  refine g_pure (p_len (by rfl) rfl) rfl ?_
  refine g_pure (p_lss rfl rfl) rfl ?_
  refine g_nil ?_
  refine g_qt ?_
  refine g_ifd rfl (fun q => ?_) (fun q => ?_)
  · have hil : i < F.length := by omega
    obtain ⟨b, off, cs, T1, fz, r1, r2, r3⟩ := hA.at (by omega)
    obtain ⟨ai, ci, x1', hrow⟩ := r3 i hil
    have x1 : cs[off + (i : Int).toNat * 1]? = some (.slice ai F[i].length ci) := x1'
    obtain ⟨b', off', cs', T1', fz', s1, s2, s3⟩ := hB.at (by omega)
    obtain ⟨bi, di, y1', hrow2⟩ := s3 i hil
    have y1 : cs'[off' + (i : Int).toNat * 1]? = some (.slice bi F[i].length di) := y1'
    have hcl := hA.lens _ (List.getElem_mem hil)
    refine g_skip ?_
    refine g_qt ?_
    refine g_seq ?_
    refine g_block ?_
    refine g_seq ?_
    refine g_seq ?_
    refine m_begin0 (.fl 0 0 (.fl 1 1 (.fl 2 0 (.fl 3 0 (.fl 4 1 (.fl 5 0 (.fl 6 0 (.fl 7 1 (.fl 8 0 (.fl 9 0 (.fl 10 1 (.fl 11 0 (.fl 12 0 .done))))))))))))) (by kernel_rfl) (by kernel_rfl) ?_
    refine m_float0 rfl (fun _ _ => p_fieldAddr rfl) rfl ?_
    refine m_float rfl (p_load (by rfl) rfl (by first | (apply Has.own; (repeat' (first | exact Take.here | apply Take.there)); done) | exact Has.ro (by assumption)) (by first | rfl | assumption)) rfl ?_
    refine m_float0 rfl (fun _ _ => p_move rfl) rfl ?_
    refine m_float0 rfl (fun _ _ => p_indexAddr rfl rfl (by omega) (fun _ => r1)) rfl ?_
    refine m_float rfl (p_load (by rfl) rfl (Has.ro r2) x1) rfl ?_
    refine m_float0 rfl (fun _ _ => p_len (by rfl) rfl) rfl ?_
    refine m_float0 rfl (fun _ _ => p_fieldAddr rfl) rfl ?_
    refine m_float rfl (p_load (by rfl) rfl (by first | (apply Has.own; (repeat' (first | exact Take.here | apply Take.there)); done) | exact Has.ro (by assumption)) (by first | rfl | assumption)) rfl ?_
    refine m_float0 rfl (fun _ _ => p_move rfl) rfl ?_
    refine m_float0 rfl (fun _ _ => p_indexAddr rfl rfl (by omega) (fun _ => s1)) rfl ?_
    refine m_float rfl (p_load (by rfl) rfl (Has.ro s2) y1) rfl ?_
    refine m_float0 rfl (fun _ _ => p_len (by rfl) rfl) rfl ?_
    refine m_float0 rfl (fun _ _ => p_neqF rfl rfl rfl) rfl ?_
    refine m_nil ?_
    refine g_qt ?_
    refine g_iff rfl ?_
    refine g_skip ?_
    refine g_qt ?_
    refine g_seq ?_
    refine g_region ?_
    refine g_pure (p_assign rfl) rfl ?_
    refine g_nil ?_
    refine g_qt ?_
    refine g_block ?_
    refine g_loop (fun j : Nat => [(2, .pointer (some ⟨b2, 0, none⟩)), (3, .pointer (some ⟨b3, 0, none⟩)), (5, .int .i64 i), (6, .int .i64 j)])
      (fun _ => [Blk b2 (.cells [.int .i64 n, .slice ca F.length cc].toArray 24 (0, 0)), Blk b3 (.cells [.int .i64 n, .slice cb F.length cd].toArray 24 (0, 0))]) (fun j => j ≤ F[i].length) (fun j => F[i].length - j) 0 (Nat.zero_le _) (by (repeat (first | exact trivial | refine ⟨by rfl, ?_⟩)); done) (by repeat' (first | exact Cover.nil | exact Take.here | apply Cover.cons | apply Take.there)) ?_
    intro j hj
    refine g_seq ?_
    refine g_seq ?_
    refine g_region ?_
    refine g_pure (p_move rfl) rfl ?_
    refine g_pure (p_fieldAddr rfl) rfl ?_
    refine g_pure (p_load (by rfl) rfl (by first | (apply Has.own; (repeat' (first | exact Take.here | apply Take.there)); done) | exact Has.ro (by assumption)) (by first | rfl | assumption)) rfl ?_
    refine g_pure (p_move rfl) rfl ?_
    refine g_pure (p_indexAddr rfl rfl (by omega) (fun _ => r1)) rfl ?_
    refine g_pure (p_load (by rfl) rfl (Has.ro r2) x1) rfl ?_
    refine g_pure (p_len (by rfl) rfl) rfl ?_
    refine g_pure (p_lss rfl rfl) rfl ?_
    refine g_nil ?_
    refine g_qt ?_
    refine g_ifd rfl (fun q2 => ?_) (fun q2 => ?_)
    · have hjl : j < F[i].length := by omega
      obtain ⟨_, c1, o1, k1, T3, f3, hk1⟩ := hrow
      obtain ⟨t1, t2, t3⟩ := hk1 (by omega)
      obtain ⟨_, c2, o2, k2, T4, f4, hk2⟩ := hrow2
      obtain ⟨u1, u2, u3⟩ := hk2 (by omega)
      have e1 : k1[o1 + (j : Int).toNat * 1]? = some (.int .i64 F[i][j]) := by simpa [encI, List.getElem?_eq_getElem hjl] using t3 j (.int .i64 F[i][j]) (by simp [List.getElem?_eq_getElem hjl, encI])
      have e2 : k2[o2 + (j : Int).toNat * 1]? = some (.int .i64 F[i][j]) := by simpa [encI, List.getElem?_eq_getElem hjl] using u3 j (.int .i64 F[i][j]) (by simp [List.getElem?_eq_getElem hjl, encI])
      refine g_skip ?_
      refine g_qt ?_
      refine g_seq ?_
      refine g_block ?_
      refine g_seq ?_
      refine m_begin0 (.fl 0 0 (.fl 1 1 (.fl 2 0 (.fl 3 0 (.fl 4 1 (.fl 5 0 (.fl 6 0 (.fl 7 1 (.fl 8 0 (.fl 9 1 (.fl 10 0 (.fl 11 0 (.fl 12 1 (.fl 13 0 (.fl 14 0 (.fl 15 1 (.fl 16 0 .done))))))))))))))))) (by kernel_rfl) (by kernel_rfl) ?_
      refine m_float0 rfl (fun _ _ => p_fieldAddr rfl) rfl ?_
      refine m_float rfl (p_load (by rfl) rfl (by first | (apply Has.own; (repeat' (first | exact Take.here | apply Take.there)); done) | exact Has.ro (by assumption)) (by first | rfl | assumption)) rfl ?_
      refine m_float0 rfl (fun _ _ => p_move rfl) rfl ?_
      refine m_float0 rfl (fun _ _ => p_indexAddr rfl rfl (by omega) (fun _ => r1)) rfl ?_
      refine m_float rfl (p_load (by rfl) rfl (Has.ro r2) x1) rfl ?_
      refine m_float0 rfl (fun _ _ => p_move rfl) rfl ?_
      refine m_float0 rfl (fun _ _ => p_indexAddr rfl rfl (by omega) (fun _ => t1)) rfl ?_
      refine m_float rfl (p_load (by rfl) rfl (Has.ro t2) e1) rfl ?_
      refine m_float0 rfl (fun _ _ => p_fieldAddr rfl) rfl ?_
      refine m_float rfl (p_load (by rfl) rfl (by first | (apply Has.own; (repeat' (first | exact Take.here | apply Take.there)); done) | exact Has.ro (by assumption)) (by first | rfl | assumption)) rfl ?_
      refine m_float0 rfl (fun _ _ => p_move rfl) rfl ?_
      refine m_float0 rfl (fun _ _ => p_indexAddr rfl rfl (by omega) (fun _ => s1)) rfl ?_
      refine m_float rfl (p_load (by rfl) rfl (Has.ro s2) y1) rfl ?_
      refine m_float0 rfl (fun _ _ => p_move rfl) rfl ?_
      refine m_float0 rfl (fun _ _ => p_indexAddr rfl rfl (by omega) (fun _ => u1)) rfl ?_
      refine m_float rfl (p_load (by rfl) rfl (Has.ro u2) e2) rfl ?_
      refine m_float0 rfl (fun _ _ => p_neqF rfl rfl rfl) rfl ?_
      refine m_nil ?_
      refine g_qt ?_
      refine g_iff rfl ?_
      refine g_skip ?_
      refine g_qb ?_
      refine g_qt ?_
      refine g_region ?_
      refine g_pure (p_move rfl) rfl ?_
      first | refine g_pure (p_addi rfl rfl (by omega)) rfl ?_ | refine g_pure (p_add rfl rfl) rfl ?_
      refine g_pure (p_assign rfl) rfl ?_
      refine g_nil ?_
      refine g_qn ?_
      exact g_next (j + 1) (by (repeat (first | exact trivial | refine ⟨by rfl, ?_⟩)); done) (by repeat' (first | exact Cover.nil | exact Take.here | apply Cover.cons | apply Take.there)) (by omega) (by omega)
    · refine g_exit ?_
      refine g_qt_exit ?_
      refine g_qn_exit ?_
      refine g_qb_exit ?_
      refine g_qb ?_
      refine g_qt ?_
      refine g_region ?_
      refine g_pure (p_move rfl) rfl ?_
      first | refine g_pure (p_addi rfl rfl (by omega)) rfl ?_ | refine g_pure (p_add rfl rfl) rfl ?_
      refine g_pure (p_assign rfl) rfl ?_
      refine g_nil ?_
      refine g_qn ?_
      exact g_next (i + 1) (by (repeat (first | exact trivial | refine ⟨by rfl, ?_⟩)); done) (by repeat' (first | exact Cover.nil | exact Take.here | apply Cover.cons | apply Take.there)) (by omega) (by omega)
  · refine g_exit ?_
    refine g_qt_exit ?_
    refine g_qn_exit ?_
    refine g_qb_exit ?_
    refine g_qt ?_
    refine g_seq ?_
    refine g_region ?_
    refine g_pure (p_assign rfl) rfl ?_
    refine g_nil ?_
    refine g_qt ?_
    refine g_ret ?_
    exact g_post (Ho := []) (rs := [.tmp 4]) rfl (.tmp rfl .nil) ⟨rfl, rfl⟩ (by repeat' (first | exact Cover.nil | exact Take.here | apply Cover.cons | apply Take.there))
end Go.Proofs.YtopgbgnmjogeeaaDoor
/- Chapter 36: the page's examples. Conditions: what the library's variables hold (LibC). -/
namespace Go.Z.Tse
set_option maxRecDepth 8000
set_option linter.unusedVariables false
set_option linter.unusedSimpArgs false
set_option linter.unusedSectionVars false
open Go Go.Z Go.Z.Aig Go.Z.Sat Go.Z.Txt Go.Lib Go.Proofs.YtopgbgnmjogeeaaDoor

def SA : St := [(0, 0, false), (0, 0, true), (0, 0, true), (2, 4, false)]
def actsA : List Ac := [⟨0, 0, 0, 0⟩, ⟨0, 0, 0, 0⟩, ⟨1, 2, 4, 0⟩]
theorem exA_st : afterA (actsA.take 60) = SA := by decide
theorem exA_ok : ∀ x ∈ actsA, x.ok := by
  intro x hx
  simp only [actsA, List.mem_cons, List.not_mem_nil, or_false] at hx
  rcases hx with rfl | rfl | rfl <;> exact ⟨⟨by decide, by decide⟩, ⟨by decide, by decide⟩, ⟨by decide, by decide⟩, ⟨by decide, by decide⟩⟩
def FA : List (List Int) := [[-3, 1], [-3, 2], [3, -1, -2], [3]]
theorem exA_cnf {nd : Nat → Bool} (h : ∀ u, nd u = true ↔ Nd SA [6] u) : cnfF SA nd [6] = FA := by
  have h3 : nd 3 = true := (h 3).2 (Nd.root (S := SA) (r := 6) (by simp))
  unfold cnfF
  rw [show SA.length = 4 from rfl, gates_succ, gates_succ, gates_succ, gates_succ, h3]
  have g0 : gcls SA 0 = [] := rfl
  have g1 : gcls SA 1 = [] := rfl
  have g2 : gcls SA 2 = [] := rfl
  have g3 : gcls SA 3 = [[-3, 1], [-3, 2], [3, -1, -2]] := rfl
  have gz : gates SA nd 0 = [] := rfl
  rw [g0, g1, g2, g3, gz, ite_self, ite_self, ite_self, if_pos rfl]
  rfl
theorem exA_fm : check1 3 FA = 0 := by decide
theorem exA_lits : ∀ c ∈ FA, ∀ x ∈ c, I64 x := by
  intro c hc x hx
  simp only [FA, List.mem_cons, List.not_mem_nil, or_false] at hc
  rcases hc with rfl | rfl | rfl | rfl <;> simp only [List.mem_cons, List.not_mem_nil, or_false] at hx <;> rcases hx with rfl | rfl | rfl <;> exact ⟨by decide, by decide⟩
theorem exA_lens : ∀ c ∈ FA, c.length ≤ 1000 := by
  intro c hc
  simp only [FA, List.mem_cons, List.not_mem_nil, or_false] at hc
  rcases hc with rfl | rfl | rfl | rfl <;> decide
/-- what a small formula must bear -/
theorem small_Ok {n : Int} {F : Fm} (hl : F.length ≤ 2000) (ht : total F ≤ 2000) (hc : check1 n F = 0) : Ok n.toNat F := by
  have hnn := check1_nonneg hc
  have hv : n ≤ 262144 := by
    unfold check1 at hc
    split at hc
    · cases hc
    · omega
  have hall : allB n F = true := by
    unfold check1 at hc
    rw [if_neg (by omega), if_neg (by omega)] at hc
    split at hc
    · assumption
    · cases hc
  refine ⟨fun c hcm l hl => ?_, by omega, by omega, fun c hcm => by have := mem_total hcm; omega, fun k => by have := useRow_total F k; omega⟩
  have h1 := List.all_eq_true.1 hall c hcm
  have h2 := List.all_eq_true.1 h1 l hl
  refine okB_okL ?_
  rw [Int.toNat_of_nonneg hnn.1]; exact h2
theorem itoa_dig {n : Int} (h : 0 ≤ n ∧ n < 10) : itoa n = [UInt8.ofNat (48 + n.toNat)] := by rw [Val.itoa_pos (by omega)]; exact Val.dec_small (by omega)
theorem itoa_ndig {n : Int} (h : n < 0 ∧ -10 < n) : itoa n = [45, UInt8.ofNat (48 + n.natAbs)] := by rw [Val.itoa_neg h.1, Val.dec_small (by omega)]
theorem exB_text : textV 2 [[1, -2], []] = [112, 32, 99, 110, 102, 32, 50, 32, 50, 10, 49, 32, 45, 50, 32, 48, 10, 48, 10] := by
  unfold textV headT lineT
  simp only [List.map_cons, List.map_nil, List.length_cons, List.length_nil]
  rw [itoa_dig (n := 2) (by decide), itoa_dig (n := ((0 + 1 + 1 : Nat) : Int)) (by decide), itoa_dig (n := 1) (by decide), itoa_ndig (n := -2) (by decide)]
  rfl
theorem exB_check : check1 2 [[1, -2], []] = 0 := by decide
def txC : List UInt8 := [112, 32, 99, 110, 102, 32, 49, 32, 49, 10, 50, 32, 48, 10]
theorem numV_dig {n : Int} (h : 0 ≤ n ∧ n < 10) : numV [UInt8.ofNat (48 + n.toNat)] = some n := by rw [← itoa_dig h]; exact numV_itoa (by omega)
theorem exC_parse : parseV txC = .error (2, 14) := by
  have e1 : numV [49] = some 1 := numV_dig (n := 1) (by decide)
  have e2 : numV [50] = some 2 := numV_dig (n := 2) (by decide)
  have e0 : numV [48] = some 0 := numV_dig (n := 0) (by decide)
  have h : headV [112, 32, 99, 110, 102, 32, 49, 32, 49] = .ok (1, 1) := by
    unfold headV
    rw [show pieces 32 [112, 32, 99, 110, 102, 32, 49, 32, 49] = [[112], [99, 110, 102], [49], [49]] from rfl]
    dsimp only
    rw [if_pos ⟨rfl, rfl⟩, e1]
    rfl
  have hw : wordsV (pieces 32 [50, 32, 48]) = some [2] := by
    rw [show pieces 32 [50, 32, 48] = [[50], [48]] from rfl]
    show (match numV [50] with | some n => if n = 0 then none else (wordsV [[48]]).map (n :: ·) | none => none) = _
    rw [e2]
    show (wordsV [[48]]).map ((2 : Int) :: ·) = _
    show (match numV [48] with | some n => if n = 0 then some [] else none | none => none).map ((2 : Int) :: ·) = some [2]
    rw [e0]
    rfl
  unfold parseV
  rw [show txC = [112, 32, 99, 110, 102, 32, 49, 32, 49] ++ 10 :: [50, 32, 48, 10] from rfl, cut_hit _ (by decide)]
  dsimp only
  rw [h]
  dsimp only
  rw [show (1 : Int).toNat = 0 + 1 from rfl, bodyV, show [50, 32, 48, 10] = [50, 32, 48] ++ 10 :: ([] : List UInt8) from rfl, cut_hit _ (by decide)]
  dsimp only
  rw [hw]
  rfl
end Go.Z.Tse
namespace Go.Proofs.YtopgbgnmjogeeaaDoor
set_option maxRecDepth 8000
set_option linter.unusedVariables false
set_option linter.unusedSimpArgs false
set_option linter.unusedSectionVars false
open Go Go.Z Go.Z.Aig Go.Z.Tse Go.Z.Sat Go.Z.Txt

theorem cons_ro {ρ : Nat → Obj → Prop} {b : Nat} {cs : List Value} {T : TypeId} {f : Nat × Nat} {F : Fm} (r0 : ρ b (.cells cs.toArray T f)) (hl : F.length ≤ 1000000) (hlen : cs.length = F.length) (hlens : ∀ c ∈ F, c.length ≤ 1000) (hI : ∀ c ∈ F, ∀ x ∈ c, I64 x)
    (hr : ∀ j (hj : j < F.length), ∃ a c, cs[j]? = some (.slice a F[j].length c) ∧ RSl ρ 1 a F[j].length (F[j].map encI)) : FmR ρ (some ⟨b, 0, none⟩) F := by
  refine ⟨⟨cs, ⟨by rw [List.length_map]; exact hlen, fun j hj => ?_⟩, ?_⟩, by omega, fun c hc => by have := hlens c hc; omega, hI⟩
  · rw [List.length_map] at hj
    obtain ⟨a, c, h1, h2⟩ := hr j hj
    exact ⟨a, c, by rw [List.getElem_map, List.length_map]; exact h1, by rw [List.getElem_map, List.length_map]; exact h2⟩
  · have h := RSl.of_blk (size := 1) (k := cs.length) r0 (by omega)
    rw [Nat.mul_one, List.take_length] at h
    rw [List.length_map, ← hlen]; exact h
theorem exA_ro {ρ : Nat → Obj → Prop} {b b1 b2 b3 b4 : Nat} {T T1 T2 T3 T4 : TypeId} {f f1 f2 f3 f4 : Nat × Nat} (r0 : ρ b (.cells [.slice (some ⟨b1, 0, none⟩) 2 2, .slice (some ⟨b2, 0, none⟩) 2 2, .slice (some ⟨b3, 0, none⟩) 3 3, .slice (some ⟨b4, 0, none⟩) 1 1].toArray T f))
    (r1 : ρ b1 (.cells [encI (-3), encI 1].toArray T1 f1)) (r2 : ρ b2 (.cells [encI (-3), encI 2].toArray T2 f2)) (r3 : ρ b3 (.cells [encI 3, encI (-1), encI (-2)].toArray T3 f3)) (r4 : ρ b4 (.cells [encI 3].toArray T4 f4)) : FmR ρ (some ⟨b, 0, none⟩) FA :=
  cons_ro r0 (by decide) rfl exA_lens exA_lits fun j hj => match j, hj with
    | 0, _ => ⟨_, 2, rfl, RSl.of_blk (k := 2) r1 (by simp)⟩
    | 1, _ => ⟨_, 2, rfl, RSl.of_blk (k := 2) r2 (by simp)⟩
    | 2, _ => ⟨_, 3, rfl, RSl.of_blk (k := 3) r3 (by simp)⟩
    | 3, _ => ⟨_, 1, rfl, RSl.of_blk (k := 1) r4 (by simp)⟩
theorem exB_ro {ρ : Nat → Obj → Prop} {b b1 b2 : Nat} {T T1 T2 : TypeId} {f f1 f2 : Nat × Nat} (r0 : ρ b (.cells [.slice (some ⟨b1, 0, none⟩) 2 2, .slice (some ⟨b2, 0, none⟩) 0 0].toArray T f))
    (r1 : ρ b1 (.cells [encI 1, encI (-2)].toArray T1 f1)) (r2 : ρ b2 (.cells ([] : List Value).toArray T2 f2)) : FmR ρ (some ⟨b, 0, none⟩) [[1, -2], []] :=
  cons_ro r0 (by decide) rfl (by decide) (by
    intro c hc x hx
    simp only [List.mem_cons, List.not_mem_nil, or_false] at hc
    rcases hc with rfl | rfl
    · simp only [List.mem_cons, List.not_mem_nil, or_false] at hx
      rcases hx with rfl | rfl <;> exact ⟨by decide, by decide⟩
    · cases hx) fun j hj => match j, hj with
    | 0, _ => ⟨_, 2, rfl, RSl.of_blk (k := 2) r1 (by simp)⟩
    | 1, _ => ⟨_, 0, rfl, RSl.of_blk (k := 0) r2 (by simp)⟩
theorem exA_wf : WF SA := by
  have h1 : WF (L0 ++ [(0, 0, true)]) := WF.new.input (by decide)
  have h2 : WF (L0 ++ [(0, 0, true)] ++ [(0, 0, true)]) := h1.input (by decide)
  have h3 := h2.gate' (by decide) (x := 2) (y := 4) (by decide) (by decide) (by decide) (by decide)
  exact h3
theorem of_exA {ρ : Nat → Obj → Prop} {p : Nat} (hg : Ro ρ (Gr p SA)) {al : Option Addr} {cl : Nat} (hl : RSl ρ 1 al 1 [encI 6]) : Con Tryd.prog ρ 26 #[.pointer (some ⟨p, 0, none⟩), .slice al 1 cl] []
    (fun v H => ∃ ca cc, v = .tuple #[.agg #[.int .i64 3, .slice ca FA.length cc], .int .i64 0] ∧ H = [Own2 40 3 ca cc (FA.map encCl)]) :=
  (of_ok p SA exA_wf hg al cl [6] hl (by decide) (fun r hr => by rw [List.mem_singleton.1 hr]; exact ⟨by decide, by decide⟩)).mono fun v H ⟨ca, cc, nd, hnd, e1, e2⟩ => by
    rw [exA_cnf hnd] at e1 e2
    exact ⟨ca, cc, e1, e2⟩
theorem of_exE {ρ : Nat → Obj → Prop} {p : Nat} (hg : Ro ρ (Gr p SA)) {al : Option Addr} {cl : Nat} (hl : RSl ρ 1 al 1 [encI 8]) : Con Tryd.prog ρ 26 #[.pointer (some ⟨p, 0, none⟩), .slice al 1 cl] []
    (fun v H => v = .tuple #[.agg #[.int .i64 0, .slice none 0 0], .int .i64 14] ∧ H = []) :=
  of_no p SA exA_wf hg al cl [8] hl (by decide) (fun r hr => by rw [List.mem_singleton.1 hr]; exact ⟨by decide, by decide⟩) (fun h => by have := (h 8 (by simp)).2; revert this; decide)
theorem built_exA {ρ : Nat → Obj → Prop} {a : Option Addr} {c : Nat} (hl : RSl ρ 4 a 3 (actsA.flatMap encA)) : Con Tryd.prog ρ 25 #[.slice a 3 c] []
    (fun v H => ∃ p, v = .tuple #[.pointer (some ⟨p, 0, none⟩), .int .i64 2] ∧ H = [Gr p SA]) :=
  (built36_ok a c actsA hl (by decide) exA_ok).mono fun v H ⟨p, e1, e2⟩ => by
    rw [exA_st] at e1 e2
    exact ⟨p, e1, e2⟩

theorem text_exB {ρ : Nat → Obj → Prop} (hk : LibC ρ) {ca : Option Addr} {cc : Nat} (hF : FmR ρ ca [[1, -2], []]) : Con Tryd.prog ρ 7 #[.agg #[.int .i64 2, .slice ca 2 cc]] []
    (fun v H => v = .tuple #[.string ⟨#[112, 32, 99, 110, 102, 32, 50, 32, 50, 10, 49, 32, 45, 50, 32, 48, 10, 48, 10]⟩, .int .i64 0] ∧ H = []) :=
  (text_ok hk 2 ⟨by decide, by decide⟩ ca cc _ hF (by rw [exB_text]; decide)).mono fun v H h => by
    rw [if_pos exB_check, exB_text] at h
    exact h
theorem parse_exC {ρ : Nat → Obj → Prop} (hk : LibC ρ) : Con Tryd.prog ρ 8 #[.string ⟨#[112, 32, 99, 110, 102, 32, 49, 32, 49, 10, 50, 32, 48, 10]⟩] []
    (fun v H => v = .tuple #[.agg #[.int .i64 0, .slice none 0 0], .int .i64 2, .int .i64 14] ∧ H = []) :=
  (parse_ok hk txC (by decide)).mono fun v H h => by
    unfold ParR at h
    rw [exC_parse] at h
    exact h
theorem right_exA {ρ : Nat → Obj → Prop} {ca : Option Addr} {cc : Nat} (hF : FmR ρ ca FA) {xs : List Bool} (hx : xs.length = 3) {ma : Option Addr} {mc : Nat} (hm : RSl ρ 1 ma 3 (xs.map encB)) : Con Tryd.prog ρ 13 #[.agg #[.int .i64 3, .slice ca FA.length cc], .slice ma 3 mc] [] (fun v H => v = .bool (rightB 3 FA xs) ∧ H = []) := by
  have hm' : RSl ρ 1 ma xs.length (xs.map encB) := by rw [hx]; exact hm
  have := right_ok (cc := cc) (mc := mc) (n := 3) ⟨hF, ⟨by decide, by decide⟩, fun c hc => by have := exA_lens c hc; omega⟩ (fun h => small_Ok (by decide) (by decide) h) hm' (by omega)
  rwa [hx] at this

theorem awake36_ok {ρ : Nat → Obj → Prop} (hk : LibC ρ) : Con Tryd.prog ρ 12 #[] [] (fun v H => v = .bool true ∧ H = []) := by
  refine con_intro Tryd.func12 Tryd.call12 rfl Tryd.ntmps12 rfl (L := []) rfl fun w hh => ?_
  refine g_seq ?_
  refine g_region ?_
  refine g_pure (p_assign rfl) rfl ?_
  refine g_nil ?_
  refine g_qt ?_
  refine g_seq ?_
  refine g_region ?_
  refine g_pure (p_build (by rfl) rfl (by rfl)) rfl ?_
  refine g_pure (p_build (by rfl) rfl (by rfl)) rfl ?_
  refine g_pure (p_build (by rfl) rfl (by rfl)) rfl ?_
  refine g_eff (e_bs (xs := [.tmp 16, .tmp 17, .tmp 18]) rfl rfl rfl (by rfl) (by rfl) rfl (by rfl)) rfl (fun _ _ => ?_)
  rintro ⟨b19, rfl, rfl⟩
  refine g_call (Hin := []) (Hr := ?hr1) (R := ?rr1) rfl rfl rfl ?hin1 ?hc1 ?hk1
  case hin1 => repeat' (first | exact Cover.nil | exact Take.here | apply Cover.cons | apply Take.there)
  case hc1 => intro ρ' hρ hR; exact built_exA (RSl.of_blk (k := 3) hR.1.blk (by simp))
  rintro _ _ ⟨p, rfl, rfl⟩
  refine g_pure (p_move rfl) rfl ?_
  refine g_pure (p_extract rfl rfl) rfl ?_
  refine g_pure (p_extract rfl rfl) rfl ?_
  refine g_pure (p_assign rfl) rfl ?_
  refine g_pure (p_assign rfl) rfl ?_
  refine g_nil ?_
  refine g_qt ?_
  refine g_seq ?_
  refine g_region ?_
  refine g_pure (p_move rfl) rfl ?_
  refine g_eff (e_bs (xs := [.const (.int .i64 6)]) rfl rfl rfl (by rfl) (by rfl) rfl (by rfl)) rfl (fun _ _ => ?_)
  rintro ⟨b25, rfl, rfl⟩
  refine g_call (Hin := []) (Hr := ?hr2) (R := ?rr2) rfl rfl rfl ?hin2 ?hc2 ?hk2
  case hin2 => repeat' (first | exact Cover.nil | exact Take.here | apply Cover.cons | apply Take.there)
  case hc2 => intro ρ' hρ hR; exact of_exA (Take.ro (A := Gr p SA) (by repeat' (first | exact Take.here | apply Take.there)) hR) (RSl.of_blk (Take.ro (A := Blk b25 (.cells [encI 6].toArray 74 (0, 0))) (by repeat' (first | exact Take.here | apply Take.there)) hR).blk (Nat.le_refl _))
  rintro _ _ ⟨ca, cc, rfl, rfl⟩
  refine g_pure (p_move rfl) rfl ?_
  refine g_pure (p_extract rfl rfl) rfl ?_
  refine g_pure (p_extract rfl rfl) rfl ?_
  refine g_eff (e_alloc (by rfl)) rfl (fun _ _ => ?_)
  rintro ⟨b3, rfl, rfl⟩
  first | refine g_eff0 (e_storeO rfl rfl (by rfl) (by rfl) (by rfl) (by repeat' (first | exact Take.here | apply Take.there)) (by rfl)) (fun _ _ => ?_) | refine g_eff0 (e_storeN rfl rfl (by rfl) (by rfl) (by rfl) (by repeat' (first | exact Take.here | apply Take.there)) (by simp)) (fun _ _ => ?_)
  rintro rfl
  refine g_pure (p_assign rfl) rfl ?_
  refine g_nil ?_
  refine g_qt ?_
  refine g_seq ?_
  refine g_region ?_
  refine g_eff (e_bs (xs := [.const (.int .i64 6)]) rfl rfl rfl (by rfl) (by rfl) rfl (by rfl)) rfl (fun _ _ => ?_)
  rintro ⟨b30, rfl, rfl⟩
  refine g_call (Hin := []) (Hr := ?hr3) (R := ?rr3) rfl rfl rfl ?hin3 ?hc3 ?hk3
  case hin3 => repeat' (first | exact Cover.nil | exact Take.here | apply Cover.cons | apply Take.there)
  case hc3 => intro ρ' hρ hR; exact of_nil _ _ _
  rintro _ _ ⟨rfl, rfl⟩
  refine g_pure (p_move rfl) rfl ?_
  refine g_pure (p_extract rfl rfl) rfl ?_
  refine g_pure (p_extract rfl rfl) rfl ?_
  refine g_eff (e_alloc (by rfl)) rfl (fun _ _ => ?_)
  rintro ⟨b5, rfl, rfl⟩
  first | refine g_eff0 (e_storeO rfl rfl (by rfl) (by rfl) (by rfl) (by repeat' (first | exact Take.here | apply Take.there)) (by rfl)) (fun _ _ => ?_) | refine g_eff0 (e_storeN rfl rfl (by rfl) (by rfl) (by rfl) (by repeat' (first | exact Take.here | apply Take.there)) (by simp)) (fun _ _ => ?_)
  rintro rfl
  refine g_pure (p_assign rfl) rfl ?_
  refine g_nil ?_
  refine g_qt ?_
  refine g_seq ?_
  refine g_region ?_
  refine g_pure (p_move rfl) rfl ?_
  refine g_eff (e_bs (xs := [.const (.int .i64 8)]) rfl rfl rfl (by rfl) (by rfl) rfl (by rfl)) rfl (fun _ _ => ?_)
  rintro ⟨b36, rfl, rfl⟩
  refine g_call (Hin := []) (Hr := ?hr4) (R := ?rr4) rfl rfl rfl ?hin4 ?hc4 ?hk4
  case hin4 => repeat' (first | exact Cover.nil | exact Take.here | apply Cover.cons | apply Take.there)
  case hc4 => intro ρ' hρ hR; exact of_exE (Take.ro (A := Gr p SA) (by repeat' (first | exact Take.here | apply Take.there)) hR) (RSl.of_blk (Take.ro (A := Blk b36 (.cells [encI 8].toArray 74 (0, 0))) (by repeat' (first | exact Take.here | apply Take.there)) hR).blk (Nat.le_refl _))
  rintro _ _ ⟨rfl, rfl⟩
  refine g_pure (p_move rfl) rfl ?_
  refine g_pure (p_extract rfl rfl) rfl ?_
  refine g_pure (p_extract rfl rfl) rfl ?_
  refine g_eff (e_alloc (by rfl)) rfl (fun _ _ => ?_)
  rintro ⟨b7, rfl, rfl⟩
  first | refine g_eff0 (e_storeO rfl rfl (by rfl) (by rfl) (by rfl) (by repeat' (first | exact Take.here | apply Take.there)) (by rfl)) (fun _ _ => ?_) | refine g_eff0 (e_storeN rfl rfl (by rfl) (by rfl) (by rfl) (by repeat' (first | exact Take.here | apply Take.there)) (by simp)) (fun _ _ => ?_)
  rintro rfl
  refine g_pure (p_assign rfl) rfl ?_
  refine g_nil ?_
  refine g_qt ?_
  refine g_seq ?_
  refine g_region ?_
  refine g_eff (e_bs (xs := [.const (.int .i64 1), .const (.int .i64 (-2))]) rfl rfl rfl (by rfl) (by rfl) rfl (by rfl)) rfl (fun _ _ => ?_)
  rintro ⟨b41, rfl, rfl⟩
  refine g_eff (e_bs (xs := []) rfl rfl rfl (by rfl) (by rfl) rfl (by rfl)) rfl (fun _ _ => ?_)
  rintro ⟨b42, rfl, rfl⟩
  refine g_eff (e_bs (xs := [.tmp 41, .tmp 42]) rfl rfl rfl (by rfl) (by rfl) rfl (by rfl)) rfl (fun _ _ => ?_)
  rintro ⟨b43, rfl, rfl⟩
  refine g_pure (p_build (by rfl) rfl (by rfl)) rfl ?_
  refine g_call (Hin := []) (Hr := ?hr5) (R := ?rr5) rfl rfl rfl ?hin5 ?hc5 ?hk5
  case hin5 => repeat' (first | exact Cover.nil | exact Take.here | apply Cover.cons | apply Take.there)
  case hc5 => intro ρ' hρ hR; exact text_exB (hk.mono hρ) (exB_ro hR.1.blk (Take.ro (A := Blk b41 (.cells [encI 1, encI (-2)].toArray 3 (0, 0))) (by repeat' (first | exact Take.here | apply Take.there)) hR).blk (Take.ro (A := Blk b42 (.cells ([] : List Value).toArray 3 (0, 0))) (by repeat' (first | exact Take.here | apply Take.there)) hR).blk)
  rintro _ _ ⟨rfl, rfl⟩
  refine g_pure (p_move rfl) rfl ?_
  refine g_pure (p_extract rfl rfl) rfl ?_
  refine g_pure (p_extract rfl rfl) rfl ?_
  refine g_pure (p_assign rfl) rfl ?_
  refine g_pure (p_assign rfl) rfl ?_
  refine g_nil ?_
  refine g_qt ?_
  refine g_seq ?_
  refine g_region ?_
  refine g_call (Hin := []) (Hr := ?hr6) (R := ?rr6) rfl rfl rfl ?hin6 ?hc6 ?hk6
  case hin6 => repeat' (first | exact Cover.nil | exact Take.here | apply Cover.cons | apply Take.there)
  case hc6 => intro ρ' hρ hR; exact parse_exC (hk.mono hρ)
  rintro _ _ ⟨rfl, rfl⟩
  refine g_pure (p_move rfl) rfl ?_
  refine g_pure (p_extract rfl rfl) rfl ?_
  refine g_pure (p_extract rfl rfl) rfl ?_
  refine g_pure (p_extract rfl rfl) rfl ?_
  refine g_eff (e_alloc (by rfl)) rfl (fun _ _ => ?_)
  rintro ⟨b11, rfl, rfl⟩
  first | refine g_eff0 (e_storeO rfl rfl (by rfl) (by rfl) (by rfl) (by repeat' (first | exact Take.here | apply Take.there)) (by rfl)) (fun _ _ => ?_) | refine g_eff0 (e_storeN rfl rfl (by rfl) (by rfl) (by rfl) (by repeat' (first | exact Take.here | apply Take.there)) (by simp)) (fun _ _ => ?_)
  rintro rfl
  refine g_pure (p_assign rfl) rfl ?_
  refine g_pure (p_assign rfl) rfl ?_
  refine g_nil ?_
  refine g_qt ?_
  refine g_seq ?_
  refine g_region ?_
  refine g_eff (e_bs (xs := [.const (.int .i64 (-3)), .const (.int .i64 1)]) rfl rfl rfl (by rfl) (by rfl) rfl (by rfl)) rfl (fun _ _ => ?_)
  rintro ⟨b53, rfl, rfl⟩
  refine g_eff (e_bs (xs := [.const (.int .i64 (-3)), .const (.int .i64 2)]) rfl rfl rfl (by rfl) (by rfl) rfl (by rfl)) rfl (fun _ _ => ?_)
  rintro ⟨b54, rfl, rfl⟩
  refine g_eff (e_bs (xs := [.const (.int .i64 3), .const (.int .i64 (-1)), .const (.int .i64 (-2))]) rfl rfl rfl (by rfl) (by rfl) rfl (by rfl)) rfl (fun _ _ => ?_)
  rintro ⟨b55, rfl, rfl⟩
  refine g_eff (e_bs (xs := [.const (.int .i64 3)]) rfl rfl rfl (by rfl) (by rfl) rfl (by rfl)) rfl (fun _ _ => ?_)
  rintro ⟨b56, rfl, rfl⟩
  refine g_eff (e_bs (xs := [.tmp 53, .tmp 54, .tmp 55, .tmp 56]) rfl rfl rfl (by rfl) (by rfl) rfl (by rfl)) rfl (fun _ _ => ?_)
  rintro ⟨b57, rfl, rfl⟩
  refine g_pure (p_build (by rfl) rfl (by rfl)) rfl ?_
  refine g_eff (e_alloc (by rfl)) rfl (fun _ _ => ?_)
  rintro ⟨b14, rfl, rfl⟩
  first | refine g_eff0 (e_storeO rfl rfl (by rfl) (by rfl) (by rfl) (by repeat' (first | exact Take.here | apply Take.there)) (by rfl)) (fun _ _ => ?_) | refine g_eff0 (e_storeN rfl rfl (by rfl) (by rfl) (by rfl) (by repeat' (first | exact Take.here | apply Take.there)) (by simp)) (fun _ _ => ?_)
  rintro rfl
  refine g_nil ?_
  refine g_qt ?_
  refine g_seq ?_
  refine g_region ?_
  refine g_pure (p_move rfl) rfl ?_
  refine g_pure (p_eql rfl rfl) rfl ?_
  refine g_pure (p_move rfl) rfl ?_
  refine g_yes rfl rfl ?_
  refine g_pure (p_move rfl) rfl ?_
  refine g_yes rfl rfl ?_
  refine g_pure (p_eqlT rfl rfl rfl) rfl ?_
  first | refine g_pure (p_pickt rfl rfl) rfl ?_ | refine g_pure (p_pickf rfl rfl) rfl ?_
  refine g_pure (p_move rfl) rfl ?_
  refine g_yes rfl rfl ?_
  refine g_pure (p_move rfl) rfl ?_
  refine g_yes rfl rfl ?_
  refine g_pure (p_eqlT rfl rfl rfl) rfl ?_
  first | refine g_pure (p_pickt rfl rfl) rfl ?_ | refine g_pure (p_pickf rfl rfl) rfl ?_
  refine g_pure (p_move rfl) rfl ?_
  refine g_yes rfl rfl ?_
  refine g_pure (p_move rfl) rfl ?_
  refine g_yes rfl rfl ?_
  refine g_pure (p_eqlT rfl rfl rfl) rfl ?_
  first | refine g_pure (p_pickt rfl rfl) rfl ?_ | refine g_pure (p_pickf rfl rfl) rfl ?_
  refine g_pure (p_move rfl) rfl ?_
  refine g_yes rfl rfl ?_
  refine g_pure (p_move rfl) rfl ?_
  refine g_yes rfl rfl ?_
  refine g_pure (p_eqlT rfl rfl rfl) rfl ?_
  first | refine g_pure (p_pickt rfl rfl) rfl ?_ | refine g_pure (p_pickf rfl rfl) rfl ?_
  refine g_pure (p_move rfl) rfl ?_
  refine g_yes rfl rfl ?_
  refine g_pure (p_move rfl) rfl ?_
  refine g_yes rfl rfl ?_
  refine g_pure (p_eqlT rfl rfl rfl) rfl ?_
  first | refine g_pure (p_pickt rfl rfl) rfl ?_ | refine g_pure (p_pickf rfl rfl) rfl ?_
  refine g_pure (p_move rfl) rfl ?_
  refine g_yes rfl rfl ?_
  refine g_pure (p_move rfl) rfl ?_
  refine g_yes rfl rfl ?_
  refine g_pure (p_eqlsT (by rfl) rfl rfl rfl) rfl ?_
  first | refine g_pure (p_pickt rfl rfl) rfl ?_ | refine g_pure (p_pickf rfl rfl) rfl ?_
  refine g_pure (p_move rfl) rfl ?_
  refine g_yes rfl rfl ?_
  first | refine g_pure (p_loadO (by rfl) rfl (by first | (apply Has.own; (repeat' (first | exact Take.here | apply Take.there)); done) | exact Has.ro (by assumption)) (by rfl)) rfl ?_ | refine g_pure (p_loadN (by rfl) rfl (by first | (apply Has.own; (repeat' (first | exact Take.here | apply Take.there)); done) | exact Has.ro (by assumption)) (by first | rfl | assumption)) rfl ?_
  refine g_yes rfl rfl ?_
  first | refine g_pure (p_loadO (by rfl) rfl (by first | (apply Has.own; (repeat' (first | exact Take.here | apply Take.there)); done) | exact Has.ro (by assumption)) (by rfl)) rfl ?_ | refine g_pure (p_loadN (by rfl) rfl (by first | (apply Has.own; (repeat' (first | exact Take.here | apply Take.there)); done) | exact Has.ro (by assumption)) (by first | rfl | assumption)) rfl ?_
  refine g_yes rfl rfl ?_
  refine g_call (Hin := []) (Hr := ?hr7) (R := ?rr7) rfl rfl rfl ?hin7 ?hc7 ?hk7
  case hin7 => repeat' (first | exact Cover.nil | exact Take.here | apply Cover.cons | apply Take.there)
  case hc7 => intro ρ' hρ hR; exact dsame_ok 3 ca (some ⟨b57, 0, none⟩) cc 4 FA ⟨Own2.ro (Take.ro (A := Own2 40 3 ca cc (FA.map encCl)) (by repeat' (first | exact Take.here | apply Take.there)) hR), by decide, fun c hc => by (have := exA_lens c hc; omega), exA_lits⟩ (exA_ro (Take.ro (A := Blk b57 (.cells [.slice (some ⟨b53, 0, none⟩) 2 2, .slice (some ⟨b54, 0, none⟩) 2 2, .slice (some ⟨b55, 0, none⟩) 3 3, .slice (some ⟨b56, 0, none⟩) 1 1].toArray 40 (0, 0))) (by repeat' (first | exact Take.here | apply Take.there)) hR).blk (Take.ro (A := Blk b53 (.cells [encI (-3), encI 1].toArray 3 (0, 0))) (by repeat' (first | exact Take.here | apply Take.there)) hR).blk (Take.ro (A := Blk b54 (.cells [encI (-3), encI 2].toArray 3 (0, 0))) (by repeat' (first | exact Take.here | apply Take.there)) hR).blk (Take.ro (A := Blk b55 (.cells [encI 3, encI (-1), encI (-2)].toArray 3 (0, 0))) (by repeat' (first | exact Take.here | apply Take.there)) hR).blk (Take.ro (A := Blk b56 (.cells [encI 3].toArray 3 (0, 0))) (by repeat' (first | exact Take.here | apply Take.there)) hR).blk)
  rintro _ _ ⟨rfl, rfl⟩
  first | refine g_pure (p_pickt rfl rfl) rfl ?_ | refine g_pure (p_pickf rfl rfl) rfl ?_
  refine g_pure (p_move rfl) rfl ?_
  refine g_yes rfl rfl ?_
  first | refine g_pure (p_loadO (by rfl) rfl (by first | (apply Has.own; (repeat' (first | exact Take.here | apply Take.there)); done) | exact Has.ro (by assumption)) (by rfl)) rfl ?_ | refine g_pure (p_loadN (by rfl) rfl (by first | (apply Has.own; (repeat' (first | exact Take.here | apply Take.there)); done) | exact Has.ro (by assumption)) (by first | rfl | assumption)) rfl ?_
  refine g_yes rfl rfl ?_
  refine g_eff (e_bs (xs := [.const (.bool true), .const (.bool true), .const (.bool true)]) rfl rfl rfl (by rfl) (by rfl) rfl (by rfl)) rfl (fun _ _ => ?_)
  rintro ⟨b92, rfl, rfl⟩
  refine g_yes rfl rfl ?_
  refine g_call (Hin := []) (Hr := ?hr8) (R := ?rr8) rfl rfl rfl ?hin8 ?hc8 ?hk8
  case hin8 => repeat' (first | exact Cover.nil | exact Take.here | apply Cover.cons | apply Take.there)
  case hc8 => intro ρ' hρ hR; exact right_exA (cc := cc) ⟨Own2.ro (Take.ro (A := Own2 40 3 ca cc (FA.map encCl)) (by repeat' (first | exact Take.here | apply Take.there)) hR), by decide, fun c hc => by (have := exA_lens c hc; omega), exA_lits⟩ (xs := [true, true, true]) rfl (.of_blk (Take.ro (A := Blk b92 (.cells ([true, true, true].map encB).toArray 4 (0, 0))) (by repeat' (first | exact Take.here | apply Take.there)) hR).blk (Nat.le_refl _))
  rintro _ _ ⟨rfl, rfl⟩
  first | refine g_pure (p_pickt rfl rfl) rfl ?_ | refine g_pure (p_pickf rfl rfl) rfl ?_
  refine g_pure (p_move rfl) rfl ?_
  refine g_yes rfl rfl ?_
  first | refine g_pure (p_loadO (by rfl) rfl (by first | (apply Has.own; (repeat' (first | exact Take.here | apply Take.there)); done) | exact Has.ro (by assumption)) (by rfl)) rfl ?_ | refine g_pure (p_loadN (by rfl) rfl (by first | (apply Has.own; (repeat' (first | exact Take.here | apply Take.there)); done) | exact Has.ro (by assumption)) (by first | rfl | assumption)) rfl ?_
  refine g_yes rfl rfl ?_
  refine g_eff (e_bs (xs := [.const (.bool true), .const (.bool true), .const (.bool false)]) rfl rfl rfl (by rfl) (by rfl) rfl (by rfl)) rfl (fun _ _ => ?_)
  rintro ⟨b97, rfl, rfl⟩
  refine g_yes rfl rfl ?_
  refine g_call (Hin := []) (Hr := ?hr9) (R := ?rr9) rfl rfl rfl ?hin9 ?hc9 ?hk9
  case hin9 => repeat' (first | exact Cover.nil | exact Take.here | apply Cover.cons | apply Take.there)
  case hc9 => intro ρ' hρ hR; exact right_exA (cc := cc) ⟨Own2.ro (Take.ro (A := Own2 40 3 ca cc (FA.map encCl)) (by repeat' (first | exact Take.here | apply Take.there)) hR), by decide, fun c hc => by (have := exA_lens c hc; omega), exA_lits⟩ (xs := [true, true, false]) rfl (.of_blk (Take.ro (A := Blk b97 (.cells ([true, true, false].map encB).toArray 4 (0, 0))) (by repeat' (first | exact Take.here | apply Take.there)) hR).blk (Nat.le_refl _))
  rintro _ _ ⟨rfl, rfl⟩
  refine g_yes rfl rfl ?_
  refine g_pure (p_not rfl) rfl ?_
  first | refine g_pure (p_pickt rfl rfl) rfl ?_ | refine g_pure (p_pickf rfl rfl) rfl ?_
  refine g_pure (p_move rfl) rfl ?_
  refine g_yes rfl rfl ?_
  first | refine g_pure (p_loadO (by rfl) rfl (by first | (apply Has.own; (repeat' (first | exact Take.here | apply Take.there)); done) | exact Has.ro (by assumption)) (by rfl)) rfl ?_ | refine g_pure (p_loadN (by rfl) rfl (by first | (apply Has.own; (repeat' (first | exact Take.here | apply Take.there)); done) | exact Has.ro (by assumption)) (by first | rfl | assumption)) rfl ?_
  refine g_yes rfl rfl ?_
  refine g_call (Hin := []) (Hr := ?hr10) (R := ?rr10) rfl rfl rfl ?hin10 ?hc10 ?hk10
  case hin10 => repeat' (first | exact Cover.nil | exact Take.here | apply Cover.cons | apply Take.there)
  case hc10 => intro ρ' hρ hR; exact check_ok 3 ⟨by decide, by decide⟩ ca cc FA ⟨Own2.ro (Take.ro (A := Own2 40 3 ca cc (FA.map encCl)) (by repeat' (first | exact Take.here | apply Take.there)) hR), by decide, fun c hc => by (have := exA_lens c hc; omega), exA_lits⟩
  rintro _ _ ⟨rfl, rfl⟩
  refine g_yes rfl rfl ?_
  refine g_pure (p_eqlT rfl rfl rfl) rfl ?_
  first | refine g_pure (p_pickt rfl rfl) rfl ?_ | refine g_pure (p_pickf rfl rfl) rfl ?_
  refine g_pure (p_assign rfl) rfl ?_
  refine g_nil ?_
  refine g_qt ?_
  refine g_ret ?_
  exact g_post (Ho := []) (rs := [.tmp 0]) rfl (.tmp rfl .nil) ⟨rfl, rfl⟩ .nil
end Go.Proofs.YtopgbgnmjogeeaaDoor
/- Chapter 36: small formulas; the document's word on whether a model satisfies a formula; CnfRight. Conditions: what the library's variables hold (LibC). -/
namespace Go.Proofs.YtopgbgnmjogeeaaDoor
set_option maxRecDepth 8000
set_option linter.unusedVariables false
set_option linter.unusedSimpArgs false
set_option linter.unusedSectionVars false
open Go Go.Z Go.Z.Sat Go.Z.Txt Go.Z.Tse

theorem light36_ok {ρ : Nat → Obj → Prop} {n : Int} {ca : Option Addr} {cc : Nat} {F : Fm} (hF : FmI ρ n ca F) :
    Con Tryd.prog ρ 11 #[.agg #[.int .i64 n, .slice ca F.length cc]] [] (fun v H => ∃ b, v = .bool b ∧ H = [] ∧ (b = true → F.length + total F ≤ 2000)) := by
  have hlen := hF.fm.len
  refine con_intro Tryd.func11 Tryd.call11 rfl Tryd.ntmps11 rfl (L := [(0, _)]) rfl fun w hh => ?_
  refine g_seq ?_
  refine g_region ?_
  refine g_eff (e_box rfl (by rfl)) rfl (fun _ _ => ?_)
  rintro ⟨b1, rfl, rfl⟩
  refine g_pure (p_assign rfl) rfl ?_
  refine g_nil ?_
  refine g_qt ?_
  refine g_seq ?_
  refine g_region ?_
  refine g_pure (p_fieldAddr rfl) rfl ?_
  refine g_pure (p_load (by rfl) rfl (by first | (apply Has.own; (repeat' (first | exact Take.here | apply Take.there)); done) | exact Has.ro (by assumption)) (by first | rfl | assumption)) rfl ?_
  refine g_pure (p_len (by rfl) rfl) rfl ?_
  refine g_pure (p_assign rfl) rfl ?_
  refine g_nil ?_
  refine g_qt ?_
  refine g_seq ?_
  refine g_seq ?_
  refine g_region ?_
  refine g_pure (p_assign rfl) rfl ?_
  refine g_nil ?_
  refine g_qt ?_
  refine g_block ?_
  refine g_loop (fun i : Nat => [(1, .pointer (some ⟨b1, 0, none⟩)), (3, .int .i64 ((F.length : Int) + (total (F.take i) : Nat))), (4, .int .i64 i)])
    (fun _ => [Blk b1 (.cells [.int .i64 n, .slice ca F.length cc].toArray 24 (0, 0))]) (fun i => i ≤ F.length) (fun i => F.length - i) 0 (Nat.zero_le _) (by simp only [List.take_zero, show total [] = 0 from rfl, Int.natCast_zero, Int.add_zero]; exact (by (repeat (first | exact trivial | refine ⟨by rfl, ?_⟩)); done)) (by repeat' (first | exact Cover.nil | exact Take.here | apply Cover.cons | apply Take.there)) ?_
  intro i hi
  refine g_seq ?_
  refine g_seq ?_
  refine g_region ?_
  refine g_pure (p_move rfl) rfl ?_
  refine g_pure (p_fieldAddr rfl) rfl ?_
  refine g_pure (p_load (by rfl) rfl (by first | (apply Has.own; (repeat' (first | exact Take.here | apply Take.there)); done) | exact Has.ro (by assumption)) (by first | rfl | assumption)) rfl ?_
  refine g_pure (p_len (by rfl) rfl) rfl ?_
  refine g_pure (p_lss rfl rfl) rfl ?_
  refine g_pure (p_move rfl) rfl ?_
  refine g_splitd rfl rfl (fun q => ?_) (fun q => ?_)
  · have hil : i < F.length := by omega
    have htt := total_take F hil
    have hcl := hF.lens _ (List.getElem_mem hil)
    refine g_yes rfl rfl ?_
    refine g_pure (p_move rfl) rfl ?_
    refine g_yes rfl rfl ?_
    refine g_pure (p_leq rfl rfl) rfl ?_
    first | refine g_pure (p_pickt rfl rfl) rfl ?_ | refine g_pure (p_pickf rfl rfl) rfl ?_
    refine g_nil ?_
    refine g_qt ?_
    refine g_ifd rfl (fun q2 => ?_) (fun q2 => ?_)
    · obtain ⟨b, off, cs, T1, fz, r1, r2, r3⟩ := hF.fm.at (by omega)
      obtain ⟨ai, ci, x1', hrow⟩ := r3 i hil
      have x1 : cs[off + (i : Int).toNat * 1]? = some (.slice ai F[i].length ci) := x1'
      refine g_skip ?_
      refine g_qt ?_
      refine g_seq ?_
      refine g_block ?_
      refine g_region ?_
      refine g_pure (p_move rfl) rfl ?_
      refine g_pure (p_fieldAddr rfl) rfl ?_
      refine g_pure (p_load (by rfl) rfl (by first | (apply Has.own; (repeat' (first | exact Take.here | apply Take.there)); done) | exact Has.ro (by assumption)) (by first | rfl | assumption)) rfl ?_
      refine g_pure (p_move rfl) rfl ?_
      refine g_pure (p_indexAddr rfl rfl (by omega) (fun _ => r1)) rfl ?_
      refine g_pure (p_load (by rfl) rfl (Has.ro r2) x1) rfl ?_
      refine g_pure (p_len (by rfl) rfl) rfl ?_
      first | refine g_pure (p_addi rfl rfl (by omega)) rfl ?_ | refine g_pure (p_add rfl rfl) rfl ?_
      refine g_pure (p_assign rfl) rfl ?_
      refine g_nil ?_
      refine g_qb ?_
      refine g_qt ?_
      refine g_region ?_
      refine g_pure (p_move rfl) rfl ?_
      first | refine g_pure (p_addi rfl rfl (by omega)) rfl ?_ | refine g_pure (p_add rfl rfl) rfl ?_
      refine g_pure (p_assign rfl) rfl ?_
      refine g_nil ?_
      refine g_qn ?_
      rw [show (F.length : Int) + ((total (F.take i) : Nat) : Int) + ((F[i].length : Nat) : Int) = (F.length : Int) + ((total (F.take (i + 1)) : Nat) : Int) by omega]
      exact g_next (i + 1) (by (repeat (first | exact trivial | refine ⟨by rfl, ?_⟩)); done) (by repeat' (first | exact Cover.nil | exact Take.here | apply Cover.cons | apply Take.there)) (by omega) (by omega)
    · refine g_exit ?_
      refine g_qt_exit ?_
      refine g_qn_exit ?_
      refine g_qb_exit ?_
      refine g_qt ?_
      refine g_seq ?_
      refine g_region ?_
      refine g_pure (p_move rfl) rfl ?_
      refine g_pure (p_leq rfl rfl) rfl ?_
      refine g_pure (p_assign rfl) rfl ?_
      refine g_nil ?_
      refine g_qt ?_
      refine g_ret ?_
      exact g_post (Ho := []) (rs := [.tmp 2]) rfl (.tmp rfl .nil) ⟨_, rfl, rfl, fun h => absurd (of_decide_eq_true h) q2⟩ (by repeat' (first | exact Cover.nil | exact Take.here | apply Cover.cons | apply Take.there))
  · have hie : i = F.length := by omega
    subst hie
    rw [List.take_length]
    refine g_no rfl rfl rfl rfl ?_
    refine g_no rfl rfl rfl rfl ?_
    first | refine g_pure (p_pickt rfl rfl) rfl ?_ | refine g_pure (p_pickf rfl rfl) rfl ?_
    refine g_nil ?_
    refine g_qt ?_
    refine g_iff rfl ?_
    refine g_exit ?_
    refine g_qt_exit ?_
    refine g_qn_exit ?_
    refine g_qb_exit ?_
    refine g_qt ?_
    refine g_seq ?_
    refine g_region ?_
    refine g_pure (p_move rfl) rfl ?_
    refine g_pure (p_leq rfl rfl) rfl ?_
    refine g_pure (p_assign rfl) rfl ?_
    refine g_nil ?_
    refine g_qt ?_
    refine g_ret ?_
    exact g_post (Ho := []) (rs := [.tmp 2]) rfl (.tmp rfl .nil) ⟨_, rfl, rfl, fun h => by have := of_decide_eq_true h; omega⟩ (by repeat' (first | exact Cover.nil | exact Take.here | apply Cover.cons | apply Take.there))

theorem any_take {c : Cl} {xs : List Bool} {j : Nat} (hj : j < c.length) : (c.take (j + 1)).any (mt xs) = ((c.take j).any (mt xs) || mt xs c[j]) := by
  rw [List.take_add_one, List.getElem?_eq_getElem hj, List.any_append]; simp
theorem dright_ok {ρ : Nat → Obj → Prop} {n : Int} {ca : Option Addr} {cc : Nat} {F : Fm} (hF : FmI ρ n ca F) (hO : check1 n F = 0 → Ok n.toNat F) {ma : Option Addr} {mc : Nat} {xs : List Bool} (hm : RSl ρ 1 ma xs.length (xs.map encB)) (hlen : xs.length ≤ 9223372036854775807) :
    Con Tryd.prog ρ 14 #[.agg #[.int .i64 n, .slice ca F.length cc], .slice ma xs.length mc] [] (fun v H => v = .bool (rightB n F xs) ∧ H = []) := by
  have hFl := hF.fm.len
  obtain ⟨_, mb, mo, ms, mT, mf, hmr⟩ := hm
  refine con_intro Tryd.func14 Tryd.call14 rfl Tryd.ntmps14 rfl (L := [(0, _), (1, _)]) rfl fun w hh => ?_
  refine g_seq ?_
  refine g_region ?_
  refine g_eff (e_box rfl (by rfl)) rfl (fun _ _ => ?_)
  rintro ⟨b2, rfl, rfl⟩
  refine g_pure (p_assign rfl) rfl ?_
  refine g_nil ?_
  refine g_qt ?_
  refine g_seq ?_
  refine g_seq ?_
  refine g_region ?_
  first | refine g_pure (p_loadO (by rfl) rfl (by first | (apply Has.own; (repeat' (first | exact Take.here | apply Take.there)); done) | exact Has.ro (by assumption)) (by rfl)) rfl ?_ | refine g_pure (p_loadN (by rfl) rfl (by first | (apply Has.own; (repeat' (first | exact Take.here | apply Take.there)); done) | exact Has.ro (by assumption)) (by first | rfl | assumption)) rfl ?_
  refine g_call (Hin := []) (Hr := ?hr1) (R := ?rr1) rfl rfl rfl ?hin1 ?hc1 ?hk1
  case hin1 => repeat' (first | exact Cover.nil | exact Take.here | apply Cover.cons | apply Take.there)
  case hc1 => intro ρ' hρ hR; exact rcheck_ok n hF.vars ca cc F (hF.fm.mono hρ)
  rintro _ _ ⟨rfl, rfl⟩
  refine g_pure (p_neq rfl rfl) rfl ?_
  refine g_pure (p_move rfl) rfl ?_
  refine g_splitnd rfl rfl (fun c => ?_) (fun c => ?_)
  · refine g_no rfl rfl rfl rfl ?_
    refine g_no rfl rfl rfl rfl ?_
    refine g_no rfl rfl rfl rfl ?_
    refine g_no rfl rfl rfl rfl ?_
    refine g_no rfl rfl rfl rfl ?_
    first | refine g_pure (p_pickt rfl rfl) rfl ?_ | refine g_pure (p_pickf rfl rfl) rfl ?_
    refine g_nil ?_
    refine g_qt ?_
    refine g_ift rfl ?_
    refine g_seq ?_
    refine g_region ?_
    refine g_pure (p_assign rfl) rfl ?_
    refine g_nil ?_
    refine g_qt ?_
    refine g_ret ?_
    refine g_qt_ret ?_
    exact g_post (Ho := []) (rs := [.tmp 4]) rfl (.tmp rfl .nil) ⟨by unfold rightB; rw [decide_eq_false c]; rfl, rfl⟩ (by repeat' (first | exact Cover.nil | exact Take.here | apply Cover.cons | apply Take.there))
  · have hO := hO c
    have hnn := check1_nonneg c
    refine g_yes rfl rfl ?_
    refine g_pure (p_move rfl) rfl ?_
    refine g_yes rfl rfl ?_
    refine g_pure (p_len (by rfl) rfl) rfl ?_
    refine g_yes rfl rfl ?_
    refine g_pure (p_fieldAddr rfl) rfl ?_
    refine g_yes rfl rfl ?_
    refine g_pure (p_load (by rfl) rfl (by first | (apply Has.own; (repeat' (first | exact Take.here | apply Take.there)); done) | exact Has.ro (by assumption)) (by first | rfl | assumption)) rfl ?_
    refine g_yes rfl rfl ?_
    refine g_pure (p_neq rfl rfl) rfl ?_
    first | refine g_pure (p_pickt rfl rfl) rfl ?_ | refine g_pure (p_pickf rfl rfl) rfl ?_
    refine g_nil ?_
    refine g_qt ?_
    refine g_ifnd rfl (fun e => ?_) (fun e => ?_)
    · refine g_seq ?_
      refine g_region ?_
      refine g_pure (p_assign rfl) rfl ?_
      refine g_nil ?_
      refine g_qt ?_
      refine g_ret ?_
      refine g_qt_ret ?_
      exact g_post (Ho := []) (rs := [.tmp 4]) rfl (.tmp rfl .nil) ⟨by unfold rightB; rw [decide_eq_true c, decide_eq_false e]; rfl, rfl⟩ (by repeat' (first | exact Cover.nil | exact Take.here | apply Cover.cons | apply Take.there))
    · have hnx : n.toNat = xs.length := by omega
      rw [hnx] at hO
      have hvars := hO.vars
      have hget : ∀ k : Nat, k < xs.length → ma = some ⟨mb, mo, none⟩ ∧ ρ mb (.cells ms.toArray mT mf) ∧ ms[mo + k * 1]? = some (.bool (xs.getD k false)) := fun k hk => by
        obtain ⟨m1, m2, m3⟩ := hmr (by omega)
        refine ⟨m1, m2, flat2 m3 (i := k) ?_ rfl⟩
        rw [List.getElem?_map, List.getElem?_eq_getElem hk, List.getD_eq_getElem?_getD, List.getElem?_eq_getElem hk]; rfl
      have hres : rightB n F xs = F.all fun c => c.any (mt xs) := by unfold rightB; rw [decide_eq_true c, decide_eq_true e]; rfl
      rw [hres]
      refine g_skip ?_
      refine g_qt ?_
      refine g_seq ?_
      refine g_seq ?_
      refine g_region ?_
      refine g_pure (p_assign rfl) rfl ?_
      refine g_nil ?_
      refine g_qt ?_
      refine g_block ?_
      refine g_loop (fun i : Nat => [(1, .slice ma xs.length mc), (2, .pointer (some ⟨b2, 0, none⟩)), (5, .int .i64 i)])
        (fun _ => [Blk b2 (.cells [.int .i64 n, .slice ca F.length cc].toArray 24 (0, 0))]) (fun i => i ≤ F.length ∧ (F.take i).all (fun c => c.any (mt xs)) = true) (fun i => F.length - i) 0 ⟨Nat.zero_le _, rfl⟩ (by (repeat (first | exact trivial | refine ⟨by rfl, ?_⟩)); done) (by repeat' (first | exact Cover.nil | exact Take.here | apply Cover.cons | apply Take.there)) ?_
      rintro i ⟨hi, hall⟩
      refine g_seq ?_
      refine g_seq ?_
      refine g_region ?_
      refine g_pure (p_move rfl) rfl ?_
      refine g_pure (p_fieldAddr rfl) rfl ?_
      refine g_pure (p_load (by rfl) rfl (by first | (apply Has.own; (repeat' (first | exact Take.here | apply Take.there)); done) | exact Has.ro (by assumption)) (by first | rfl | assumption)) rfl ?_
      refine g_pure (p_len (by rfl) rfl) rfl ?_
      refine g_pure (p_lss rfl rfl) rfl ?_
      refine g_nil ?_
      refine g_qt ?_
      refine g_ifd rfl (fun q => ?_) (fun q => ?_)
      · have hil : i < F.length := by omega
        obtain ⟨b, off, cs, T1, fz, r1, r2, r3⟩ := hF.fm.at (by omega)
        obtain ⟨ai, ci, x1', _, bi, oi, ki, Ti, fi, r4⟩ := r3 i hil
        have x1 : cs[off + (i : Int).toNat * 1]? = some (.slice ai F[i].length ci) := x1'
        have hcl := hF.lens F[i] (List.getElem_mem hil)
        have hlits := hO.lits F[i] (List.getElem_mem hil)
        have hbad : F[i].any (mt xs) = false → (F.all fun c => c.any (mt xs)) = false := fun h => by
          rw [List.all_eq_false]
          exact ⟨F[i], List.getElem_mem hil, by rw [h]; decide⟩
        have hgood : F[i].any (mt xs) = true → (F.take (i + 1)).all (fun c => c.any (mt xs)) = true := fun h => by
          rw [List.take_add_one, List.getElem?_eq_getElem hil, List.all_append, hall]; simpa using h
        generalize F[i] = cl at x1 r4 hcl hlits hbad hgood
        refine g_skip ?_
        refine g_qt ?_
        refine g_seq ?_
        refine g_block ?_
        refine g_seq ?_
        refine g_region ?_
        refine g_pure (p_assign rfl) rfl ?_
        refine g_nil ?_
        refine g_qt ?_
        refine g_seq ?_
        refine g_seq ?_
        refine g_region ?_
        refine g_pure (p_assign rfl) rfl ?_
        refine g_nil ?_
        refine g_qt ?_
        refine g_block ?_
        refine g_loop (fun s : Nat × Bool => [(1, .slice ma xs.length mc), (2, .pointer (some ⟨b2, 0, none⟩)), (5, .int .i64 i), (6, .bool s.2), (7, .int .i64 s.1)])
          (fun _ => [Blk b2 (.cells [.int .i64 n, .slice ca F.length cc].toArray 24 (0, 0))]) (fun s => s.1 ≤ cl.length ∧ (cl.take s.1).any (mt xs) = s.2) (fun s => cl.length - s.1) (0, false) ⟨Nat.zero_le _, rfl⟩ (by (repeat (first | exact trivial | refine ⟨by rfl, ?_⟩)); done) (by repeat' (first | exact Cover.nil | exact Take.here | apply Cover.cons | apply Take.there)) ?_
        rintro ⟨j, y⟩ ⟨hj, hy⟩
        dsimp only at hj hy ⊢
        refine g_seq ?_
        refine g_seq ?_
        refine g_region ?_
        refine g_pure (p_move rfl) rfl ?_
        refine g_pure (p_fieldAddr rfl) rfl ?_
        refine g_pure (p_load (by rfl) rfl (by first | (apply Has.own; (repeat' (first | exact Take.here | apply Take.there)); done) | exact Has.ro (by assumption)) (by first | rfl | assumption)) rfl ?_
        refine g_pure (p_move rfl) rfl ?_
        refine g_pure (p_indexAddr rfl rfl (by omega) (fun _ => r1)) rfl ?_
        refine g_pure (p_load (by rfl) rfl (Has.ro r2) x1) rfl ?_
        refine g_pure (p_len (by rfl) rfl) rfl ?_
        refine g_pure (p_lss rfl rfl) rfl ?_
        refine g_nil ?_
        refine g_qt ?_
        refine g_ifd rfl (fun q2 => ?_) (fun q2 => ?_)
        · have hjl : j < cl.length := by omega
          obtain ⟨r5, r6, r7⟩ := r4 (by omega)
          have hx : ki[oi + (j : Int).toNat * 1]? = some (.int .i64 cl[j]) := by simpa [encI, List.getElem?_eq_getElem hjl] using r7 j (.int .i64 cl[j]) (by simp [List.getElem?_eq_getElem hjl, encI])
          have hl := hlits cl[j] (List.getElem_mem hjl)
          obtain ⟨hl0, hl1, hl2⟩ := hl
          have hs := any_take (xs := xs) hjl
          rw [hy] at hs
          generalize cl[j] = l at hx hl0 hl1 hl2 hs
          obtain ⟨P, hP⟩ : ∃ P, xs.getD (l - 1).toNat false = P := ⟨_, rfl⟩
          obtain ⟨N, hN⟩ : ∃ N, xs.getD (-l - 1).toNat false = N := ⟨_, rfl⟩
          have hp : 0 < l → mt xs l = P := fun h => by unfold Sat.mt; rw [if_neg (by omega), hP]
          have hn : l < 0 → mt xs l = !N := fun h => by unfold Sat.mt; rw [if_pos h, hN]
          have hgp : 0 < l → ma = some ⟨mb, mo, none⟩ ∧ ρ mb (.cells ms.toArray mT mf) ∧ ms[mo + (l - 1).toNat * 1]? = some (.bool P) := fun h => by rw [← hP]; exact hget _ (by omega)
          have hgn : l < 0 → ma = some ⟨mb, mo, none⟩ ∧ ρ mb (.cells ms.toArray mT mf) ∧ ms[mo + (-l - 1).toNat * 1]? = some (.bool N) := fun h => by rw [← hN]; exact hget _ (by omega)
          have hA : y = true → (cl.take (j + 1)).any (mt xs) = true := fun h => by rw [hs, h]; rfl
          have hB : P = true → 0 < l → (cl.take (j + 1)).any (mt xs) = true := fun h h2 => by rw [hs, hp h2, h, Bool.or_true]
          have hC : y = false → P = false → 0 < l → (cl.take (j + 1)).any (mt xs) = false := fun h h1 h2 => by rw [hs, h, hp h2, h1]; rfl
          have hD : y = false → l < 0 → (cl.take (j + 1)).any (mt xs) = !N := fun h h2 => by rw [hs, h, hn h2]; rfl
          have hj1 : j + 1 ≤ cl.length := hjl
          have hj2 : cl.length - (j + 1) < cl.length - j := by omega
          refine g_skip ?_
          refine g_qt ?_
          refine g_seq ?_
          refine g_block ?_
          refine g_seq ?_
          refine g_region ?_
          refine g_pure (p_fieldAddr rfl) rfl ?_
          refine g_pure (p_load (by rfl) rfl (by first | (apply Has.own; (repeat' (first | exact Take.here | apply Take.there)); done) | exact Has.ro (by assumption)) (by first | rfl | assumption)) rfl ?_
          refine g_pure (p_move rfl) rfl ?_
          refine g_pure (p_indexAddr rfl rfl (by omega) (fun _ => r1)) rfl ?_
          refine g_pure (p_load (by rfl) rfl (Has.ro r2) x1) rfl ?_
          refine g_pure (p_move rfl) rfl ?_
          refine g_pure (p_indexAddr rfl rfl (by omega) (fun _ => r5)) rfl ?_
          refine g_pure (p_load (by rfl) rfl (Has.ro r6) hx) rfl ?_
          refine g_pure (p_assign rfl) rfl ?_
          refine g_nil ?_
          refine g_qt ?_
          refine g_region ?_
          refine g_pure (p_move rfl) rfl ?_
          refine g_pure (p_move rfl) rfl ?_
          refine g_split rfl rfl (fun h1 => ?_) (fun h1 => ?_)
          · refine g_no rfl rfl rfl rfl ?_
            refine g_no rfl rfl rfl rfl ?_
            refine g_no rfl rfl rfl rfl ?_
            refine g_nou rfl rfl rfl ?_
            refine g_nou rfl rfl rfl ?_
            refine g_nou rfl rfl rfl ?_
            refine g_nou rfl rfl rfl ?_
            refine g_nou rfl rfl rfl ?_
            refine g_no rfl rfl rfl rfl ?_
            first | refine g_pure (p_pickt rfl rfl) rfl ?_ | refine g_pure (p_pickf rfl rfl) rfl ?_
            refine g_pure (p_move rfl) rfl ?_
            refine g_no rfl rfl rfl rfl ?_
            refine g_no rfl rfl rfl rfl ?_
            refine g_no rfl rfl rfl rfl ?_
            refine g_nou rfl rfl rfl ?_
            refine g_nou rfl rfl rfl ?_
            refine g_nou rfl rfl rfl ?_
            refine g_nou rfl rfl rfl ?_
            refine g_nou rfl rfl rfl ?_
            refine g_nou rfl rfl rfl ?_
            refine g_nou rfl rfl rfl ?_
            refine g_no rfl rfl rfl rfl ?_
            first | refine g_pure (p_pickt rfl rfl) rfl ?_ | refine g_pure (p_pickf rfl rfl) rfl ?_
            refine g_pure (p_assign rfl) rfl ?_
            refine g_nil ?_
            refine g_qb ?_
            refine g_qt ?_
            refine g_region ?_
            refine g_pure (p_move rfl) rfl ?_
            first | refine g_pure (p_addi rfl rfl (by omega)) rfl ?_ | refine g_pure (p_add rfl rfl) rfl ?_
            refine g_pure (p_assign rfl) rfl ?_
            refine g_nil ?_
            refine g_qn ?_
            first | (exfalso; omega) | exact g_next (j + 1, true) (by (repeat (first | exact trivial | refine ⟨by rfl, ?_⟩)); done) (by repeat' (first | exact Cover.nil | exact Take.here | apply Cover.cons | apply Take.there)) ⟨hj1, hA (by assumption)⟩ hj2 | exact g_next (j + 1, true) (by (repeat (first | exact trivial | refine ⟨by rfl, ?_⟩)); done) (by repeat' (first | exact Cover.nil | exact Take.here | apply Cover.cons | apply Take.there)) ⟨hj1, hB (by assumption) (by omega)⟩ hj2 | exact g_next (j + 1, false) (by (repeat (first | exact trivial | refine ⟨by rfl, ?_⟩)); done) (by repeat' (first | exact Cover.nil | exact Take.here | apply Cover.cons | apply Take.there)) ⟨hj1, hC (by assumption) (by assumption) (by omega)⟩ hj2 | exact g_next (j + 1, !N) (by (repeat (first | exact trivial | refine ⟨by rfl, ?_⟩)); done) (by repeat' (first | exact Cover.nil | exact Take.here | apply Cover.cons | apply Take.there)) ⟨hj1, hD (by assumption) (by omega)⟩ hj2
          · refine g_yes rfl rfl ?_
            refine g_pure (p_move rfl) rfl ?_
            refine g_yes rfl rfl ?_
            refine g_pure (p_gtr rfl rfl) rfl ?_
            refine g_yes rfl rfl ?_
            refine g_pure (p_move rfl) rfl ?_
            refine g_splitd rfl rfl (fun h5 => ?_) (fun h5 => ?_)
            · refine g_yes rfl rfl ?_
              refine g_pure (p_move rfl) rfl ?_
              refine g_yes rfl rfl ?_
              refine g_pure (p_move rfl) rfl ?_
              refine g_yes rfl rfl ?_
              first | refine g_pure (p_subi rfl rfl (by omega)) rfl ?_ | refine g_pure (p_sub rfl rfl) rfl ?_
              refine g_yes rfl rfl ?_
              refine g_pure (p_indexAddr rfl rfl (by omega) (fun _ => (hgp (by omega)).1)) rfl ?_
              refine g_yes rfl rfl ?_
              refine g_pure (p_load (by rfl) rfl (Has.ro (hgp (by omega)).2.1) (hgp (by omega)).2.2) rfl ?_
              refine g_yes rfl rfl ?_
              first | refine g_pure (p_pickt rfl rfl) rfl ?_ | refine g_pure (p_pickf rfl rfl) rfl ?_
              first | refine g_pure (p_pickt rfl rfl) rfl ?_ | refine g_pure (p_pickf rfl rfl) rfl ?_
              refine g_pure (p_move rfl) rfl ?_
              refine g_split rfl rfl (fun h6 => ?_) (fun h6 => ?_)
              · refine g_no rfl rfl rfl rfl ?_
                refine g_no rfl rfl rfl rfl ?_
                refine g_no rfl rfl rfl rfl ?_
                refine g_nou rfl rfl rfl ?_
                refine g_nou rfl rfl rfl ?_
                refine g_nou rfl rfl rfl ?_
                refine g_nou rfl rfl rfl ?_
                refine g_nou rfl rfl rfl ?_
                refine g_nou rfl rfl rfl ?_
                refine g_nou rfl rfl rfl ?_
                refine g_no rfl rfl rfl rfl ?_
                first | refine g_pure (p_pickt rfl rfl) rfl ?_ | refine g_pure (p_pickf rfl rfl) rfl ?_
                refine g_pure (p_assign rfl) rfl ?_
                refine g_nil ?_
                refine g_qb ?_
                refine g_qt ?_
                refine g_region ?_
                refine g_pure (p_move rfl) rfl ?_
                first | refine g_pure (p_addi rfl rfl (by omega)) rfl ?_ | refine g_pure (p_add rfl rfl) rfl ?_
                refine g_pure (p_assign rfl) rfl ?_
                refine g_nil ?_
                refine g_qn ?_
                first | (exfalso; omega) | exact g_next (j + 1, true) (by (repeat (first | exact trivial | refine ⟨by rfl, ?_⟩)); done) (by repeat' (first | exact Cover.nil | exact Take.here | apply Cover.cons | apply Take.there)) ⟨hj1, hA (by assumption)⟩ hj2 | exact g_next (j + 1, true) (by (repeat (first | exact trivial | refine ⟨by rfl, ?_⟩)); done) (by repeat' (first | exact Cover.nil | exact Take.here | apply Cover.cons | apply Take.there)) ⟨hj1, hB (by assumption) (by omega)⟩ hj2 | exact g_next (j + 1, false) (by (repeat (first | exact trivial | refine ⟨by rfl, ?_⟩)); done) (by repeat' (first | exact Cover.nil | exact Take.here | apply Cover.cons | apply Take.there)) ⟨hj1, hC (by assumption) (by assumption) (by omega)⟩ hj2 | exact g_next (j + 1, !N) (by (repeat (first | exact trivial | refine ⟨by rfl, ?_⟩)); done) (by repeat' (first | exact Cover.nil | exact Take.here | apply Cover.cons | apply Take.there)) ⟨hj1, hD (by assumption) (by omega)⟩ hj2
              · refine g_yes rfl rfl ?_
                refine g_pure (p_move rfl) rfl ?_
                refine g_yes rfl rfl ?_
                refine g_pure (p_lss rfl rfl) rfl ?_
                refine g_yes rfl rfl ?_
                refine g_pure (p_move rfl) rfl ?_
                refine g_splitd rfl rfl (fun h8 => ?_) (fun h8 => ?_)
                · refine g_yes rfl rfl ?_
                  refine g_pure (p_move rfl) rfl ?_
                  refine g_yes rfl rfl ?_
                  refine g_pure (p_move rfl) rfl ?_
                  refine g_yes rfl rfl ?_
                  first | refine g_pure (p_negi rfl (by omega)) rfl ?_ | refine g_pure (p_neg rfl) rfl ?_
                  refine g_yes rfl rfl ?_
                  first | refine g_pure (p_subi rfl rfl (by omega)) rfl ?_ | refine g_pure (p_sub rfl rfl) rfl ?_
                  refine g_yes rfl rfl ?_
                  refine g_pure (p_indexAddr rfl rfl (by omega) (fun _ => (hgn (by omega)).1)) rfl ?_
                  refine g_yes rfl rfl ?_
                  refine g_pure (p_load (by rfl) rfl (Has.ro (hgn (by omega)).2.1) (hgn (by omega)).2.2) rfl ?_
                  refine g_yes rfl rfl ?_
                  refine g_pure (p_not rfl) rfl ?_
                  refine g_yes rfl rfl ?_
                  first | refine g_pure (p_pickt rfl rfl) rfl ?_ | refine g_pure (p_pickf rfl rfl) rfl ?_
                  first | refine g_pure (p_pickt rfl rfl) rfl ?_ | refine g_pure (p_pickf rfl rfl) rfl ?_
                  refine g_pure (p_assign rfl) rfl ?_
                  refine g_nil ?_
                  refine g_qb ?_
                  refine g_qt ?_
                  refine g_region ?_
                  refine g_pure (p_move rfl) rfl ?_
                  first | refine g_pure (p_addi rfl rfl (by omega)) rfl ?_ | refine g_pure (p_add rfl rfl) rfl ?_
                  refine g_pure (p_assign rfl) rfl ?_
                  refine g_nil ?_
                  refine g_qn ?_
                  first | (exfalso; omega) | exact g_next (j + 1, true) (by (repeat (first | exact trivial | refine ⟨by rfl, ?_⟩)); done) (by repeat' (first | exact Cover.nil | exact Take.here | apply Cover.cons | apply Take.there)) ⟨hj1, hA (by assumption)⟩ hj2 | exact g_next (j + 1, true) (by (repeat (first | exact trivial | refine ⟨by rfl, ?_⟩)); done) (by repeat' (first | exact Cover.nil | exact Take.here | apply Cover.cons | apply Take.there)) ⟨hj1, hB (by assumption) (by omega)⟩ hj2 | exact g_next (j + 1, false) (by (repeat (first | exact trivial | refine ⟨by rfl, ?_⟩)); done) (by repeat' (first | exact Cover.nil | exact Take.here | apply Cover.cons | apply Take.there)) ⟨hj1, hC (by assumption) (by assumption) (by omega)⟩ hj2 | exact g_next (j + 1, !N) (by (repeat (first | exact trivial | refine ⟨by rfl, ?_⟩)); done) (by repeat' (first | exact Cover.nil | exact Take.here | apply Cover.cons | apply Take.there)) ⟨hj1, hD (by assumption) (by omega)⟩ hj2
                · refine g_no rfl rfl rfl rfl ?_
                  refine g_no rfl rfl rfl rfl ?_
                  refine g_no rfl rfl rfl rfl ?_
                  refine g_no rfl rfl rfl rfl ?_
                  refine g_no rfl rfl rfl rfl ?_
                  refine g_no rfl rfl rfl rfl ?_
                  refine g_no rfl rfl rfl rfl ?_
                  refine g_yes rfl rfl ?_
                  first | refine g_pure (p_pickt rfl rfl) rfl ?_ | refine g_pure (p_pickf rfl rfl) rfl ?_
                  first | refine g_pure (p_pickt rfl rfl) rfl ?_ | refine g_pure (p_pickf rfl rfl) rfl ?_
                  refine g_pure (p_assign rfl) rfl ?_
                  refine g_nil ?_
                  refine g_qb ?_
                  refine g_qt ?_
                  refine g_region ?_
                  refine g_pure (p_move rfl) rfl ?_
                  first | refine g_pure (p_addi rfl rfl (by omega)) rfl ?_ | refine g_pure (p_add rfl rfl) rfl ?_
                  refine g_pure (p_assign rfl) rfl ?_
                  refine g_nil ?_
                  refine g_qn ?_
                  first | (exfalso; omega) | exact g_next (j + 1, true) (by (repeat (first | exact trivial | refine ⟨by rfl, ?_⟩)); done) (by repeat' (first | exact Cover.nil | exact Take.here | apply Cover.cons | apply Take.there)) ⟨hj1, hA (by assumption)⟩ hj2 | exact g_next (j + 1, true) (by (repeat (first | exact trivial | refine ⟨by rfl, ?_⟩)); done) (by repeat' (first | exact Cover.nil | exact Take.here | apply Cover.cons | apply Take.there)) ⟨hj1, hB (by assumption) (by omega)⟩ hj2 | exact g_next (j + 1, false) (by (repeat (first | exact trivial | refine ⟨by rfl, ?_⟩)); done) (by repeat' (first | exact Cover.nil | exact Take.here | apply Cover.cons | apply Take.there)) ⟨hj1, hC (by assumption) (by assumption) (by omega)⟩ hj2 | exact g_next (j + 1, !N) (by (repeat (first | exact trivial | refine ⟨by rfl, ?_⟩)); done) (by repeat' (first | exact Cover.nil | exact Take.here | apply Cover.cons | apply Take.there)) ⟨hj1, hD (by assumption) (by omega)⟩ hj2
            · refine g_no rfl rfl rfl rfl ?_
              refine g_no rfl rfl rfl rfl ?_
              refine g_no rfl rfl rfl rfl ?_
              refine g_no rfl rfl rfl rfl ?_
              refine g_no rfl rfl rfl rfl ?_
              refine g_yes rfl rfl ?_
              first | refine g_pure (p_pickt rfl rfl) rfl ?_ | refine g_pure (p_pickf rfl rfl) rfl ?_
              first | refine g_pure (p_pickt rfl rfl) rfl ?_ | refine g_pure (p_pickf rfl rfl) rfl ?_
              refine g_pure (p_move rfl) rfl ?_
              refine g_yes rfl rfl ?_
              refine g_pure (p_move rfl) rfl ?_
              refine g_yes rfl rfl ?_
              refine g_pure (p_lss rfl rfl) rfl ?_
              refine g_yes rfl rfl ?_
              refine g_pure (p_move rfl) rfl ?_
              refine g_splitd rfl rfl (fun h10 => ?_) (fun h10 => ?_)
              · refine g_yes rfl rfl ?_
                refine g_pure (p_move rfl) rfl ?_
                refine g_yes rfl rfl ?_
                refine g_pure (p_move rfl) rfl ?_
                refine g_yes rfl rfl ?_
                first | refine g_pure (p_negi rfl (by omega)) rfl ?_ | refine g_pure (p_neg rfl) rfl ?_
                refine g_yes rfl rfl ?_
                first | refine g_pure (p_subi rfl rfl (by omega)) rfl ?_ | refine g_pure (p_sub rfl rfl) rfl ?_
                refine g_yes rfl rfl ?_
                refine g_pure (p_indexAddr rfl rfl (by omega) (fun _ => (hgn (by omega)).1)) rfl ?_
                refine g_yes rfl rfl ?_
                refine g_pure (p_load (by rfl) rfl (Has.ro (hgn (by omega)).2.1) (hgn (by omega)).2.2) rfl ?_
                refine g_yes rfl rfl ?_
                refine g_pure (p_not rfl) rfl ?_
                refine g_yes rfl rfl ?_
                first | refine g_pure (p_pickt rfl rfl) rfl ?_ | refine g_pure (p_pickf rfl rfl) rfl ?_
                first | refine g_pure (p_pickt rfl rfl) rfl ?_ | refine g_pure (p_pickf rfl rfl) rfl ?_
                refine g_pure (p_assign rfl) rfl ?_
                refine g_nil ?_
                refine g_qb ?_
                refine g_qt ?_
                refine g_region ?_
                refine g_pure (p_move rfl) rfl ?_
                first | refine g_pure (p_addi rfl rfl (by omega)) rfl ?_ | refine g_pure (p_add rfl rfl) rfl ?_
                refine g_pure (p_assign rfl) rfl ?_
                refine g_nil ?_
                refine g_qn ?_
                first | (exfalso; omega) | exact g_next (j + 1, true) (by (repeat (first | exact trivial | refine ⟨by rfl, ?_⟩)); done) (by repeat' (first | exact Cover.nil | exact Take.here | apply Cover.cons | apply Take.there)) ⟨hj1, hA (by assumption)⟩ hj2 | exact g_next (j + 1, true) (by (repeat (first | exact trivial | refine ⟨by rfl, ?_⟩)); done) (by repeat' (first | exact Cover.nil | exact Take.here | apply Cover.cons | apply Take.there)) ⟨hj1, hB (by assumption) (by omega)⟩ hj2 | exact g_next (j + 1, false) (by (repeat (first | exact trivial | refine ⟨by rfl, ?_⟩)); done) (by repeat' (first | exact Cover.nil | exact Take.here | apply Cover.cons | apply Take.there)) ⟨hj1, hC (by assumption) (by assumption) (by omega)⟩ hj2 | exact g_next (j + 1, !N) (by (repeat (first | exact trivial | refine ⟨by rfl, ?_⟩)); done) (by repeat' (first | exact Cover.nil | exact Take.here | apply Cover.cons | apply Take.there)) ⟨hj1, hD (by assumption) (by omega)⟩ hj2
              · refine g_no rfl rfl rfl rfl ?_
                refine g_no rfl rfl rfl rfl ?_
                refine g_no rfl rfl rfl rfl ?_
                refine g_no rfl rfl rfl rfl ?_
                refine g_no rfl rfl rfl rfl ?_
                refine g_no rfl rfl rfl rfl ?_
                refine g_no rfl rfl rfl rfl ?_
                refine g_yes rfl rfl ?_
                first | refine g_pure (p_pickt rfl rfl) rfl ?_ | refine g_pure (p_pickf rfl rfl) rfl ?_
                first | refine g_pure (p_pickt rfl rfl) rfl ?_ | refine g_pure (p_pickf rfl rfl) rfl ?_
                refine g_pure (p_assign rfl) rfl ?_
                refine g_nil ?_
                refine g_qb ?_
                refine g_qt ?_
                refine g_region ?_
                refine g_pure (p_move rfl) rfl ?_
                first | refine g_pure (p_addi rfl rfl (by omega)) rfl ?_ | refine g_pure (p_add rfl rfl) rfl ?_
                refine g_pure (p_assign rfl) rfl ?_
                refine g_nil ?_
                refine g_qn ?_
                first | (exfalso; omega) | exact g_next (j + 1, true) (by (repeat (first | exact trivial | refine ⟨by rfl, ?_⟩)); done) (by repeat' (first | exact Cover.nil | exact Take.here | apply Cover.cons | apply Take.there)) ⟨hj1, hA (by assumption)⟩ hj2 | exact g_next (j + 1, true) (by (repeat (first | exact trivial | refine ⟨by rfl, ?_⟩)); done) (by repeat' (first | exact Cover.nil | exact Take.here | apply Cover.cons | apply Take.there)) ⟨hj1, hB (by assumption) (by omega)⟩ hj2 | exact g_next (j + 1, false) (by (repeat (first | exact trivial | refine ⟨by rfl, ?_⟩)); done) (by repeat' (first | exact Cover.nil | exact Take.here | apply Cover.cons | apply Take.there)) ⟨hj1, hC (by assumption) (by assumption) (by omega)⟩ hj2 | exact g_next (j + 1, !N) (by (repeat (first | exact trivial | refine ⟨by rfl, ?_⟩)); done) (by repeat' (first | exact Cover.nil | exact Take.here | apply Cover.cons | apply Take.there)) ⟨hj1, hD (by assumption) (by omega)⟩ hj2
        · have hje : j = cl.length := by omega
          subst hje
          rw [List.take_length] at hy
          refine g_exit ?_
          refine g_qt_exit ?_
          refine g_qn_exit ?_
          refine g_qb_exit ?_
          refine g_qt ?_
          refine g_seq ?_
          refine g_region ?_
          refine g_pure (p_move rfl) rfl ?_
          refine g_pure (p_not rfl) rfl ?_
          refine g_nil ?_
          refine g_qt ?_
          refine g_if rfl (fun h3 => ?_) (fun h3 => ?_)
          · refine g_seq ?_
            refine g_region ?_
            refine g_pure (p_assign rfl) rfl ?_
            refine g_nil ?_
            refine g_qt ?_
            refine g_ret ?_
            refine g_qb_ret ?_
            refine g_qt_ret ?_
            refine g_qn_ret ?_
            refine g_qb_ret ?_
            refine g_qt_ret ?_
            exact g_post (Ho := []) (rs := [.tmp 4]) rfl (.tmp rfl .nil) ⟨by rw [hbad (by rw [hy]; simpa using h3)]; rfl, rfl⟩ (by repeat' (first | exact Cover.nil | exact Take.here | apply Cover.cons | apply Take.there))
          · refine g_skip ?_
            refine g_qb ?_
            refine g_qt ?_
            refine g_region ?_
            refine g_pure (p_move rfl) rfl ?_
            first | refine g_pure (p_addi rfl rfl (by omega)) rfl ?_ | refine g_pure (p_add rfl rfl) rfl ?_
            refine g_pure (p_assign rfl) rfl ?_
            refine g_nil ?_
            refine g_qn ?_
            exact g_next (i + 1) (by (repeat (first | exact trivial | refine ⟨by rfl, ?_⟩)); done) (by repeat' (first | exact Cover.nil | exact Take.here | apply Cover.cons | apply Take.there)) ⟨by omega, hgood (by rw [hy]; simpa using h3)⟩ (by omega)
      · have hie : i = F.length := by omega
        subst hie
        rw [List.take_length] at hall
        refine g_exit ?_
        refine g_qt_exit ?_
        refine g_qn_exit ?_
        refine g_qb_exit ?_
        refine g_qt ?_
        refine g_seq ?_
        refine g_region ?_
        refine g_pure (p_assign rfl) rfl ?_
        refine g_nil ?_
        refine g_qt ?_
        refine g_ret ?_
        exact g_post (Ho := []) (rs := [.tmp 4]) rfl (.tmp rfl .nil) ⟨by rw [hall]; rfl, rfl⟩ (by repeat' (first | exact Cover.nil | exact Take.here | apply Cover.cons | apply Take.there))

theorem cright_ok {ρ : Nat → Obj → Prop} (hk : LibC ρ) {n : Int} {ca : Option Addr} {cc : Nat} {F : Fm} (hF : FmI ρ n ca F) {ma : Option Addr} {mc : Nat} {xs : List Bool} (hm : RSl ρ 1 ma xs.length (xs.map encB)) (hlen : xs.length ≤ 9223372036854775807) :
    Con Tryd.prog ρ 4 #[.agg #[.int .i64 n, .slice ca F.length cc], .slice ma xs.length mc] [] (fun v _ => v = .bool true) := by
  refine con_intro Tryd.func4 Tryd.call4 rfl Tryd.ntmps4 rfl (L := [(0, _), (1, _)]) rfl fun w hh => ?_
  refine g_seq ?_
  refine g_region ?_
  refine g_eff (e_box rfl (by rfl)) rfl (fun _ _ => ?_)
  rintro ⟨b2, rfl, rfl⟩
  refine g_pure (p_assign rfl) rfl ?_
  refine g_nil ?_
  refine g_qt ?_
  refine g_seq ?_
  refine g_seq ?_
  refine g_region ?_
  first | refine g_pure (p_loadO (by rfl) rfl (by first | (apply Has.own; (repeat' (first | exact Take.here | apply Take.there)); done) | exact Has.ro (by assumption)) (by rfl)) rfl ?_ | refine g_pure (p_loadN (by rfl) rfl (by first | (apply Has.own; (repeat' (first | exact Take.here | apply Take.there)); done) | exact Has.ro (by assumption)) (by first | rfl | assumption)) rfl ?_
  refine g_call (Hin := []) (Hr := ?hr2) (R := ?rr2) rfl rfl rfl ?hin2 ?hc2 ?hk2
  case hin2 => repeat' (first | exact Cover.nil | exact Take.here | apply Cover.cons | apply Take.there)
  case hc2 => intro ρ' hρ hR; exact light36_ok (hF.mono hρ)
  rintro _ _ ⟨b, rfl, rfl, hL⟩
  refine g_pure (p_not rfl) rfl ?_
  refine g_nil ?_
  refine g_qt ?_
  cases b with
  | false =>
    refine g_ift rfl ?_
    refine g_seq ?_
    refine g_region ?_
    refine g_call (Hin := []) (Hr := ?hr3) (R := ?rr3) rfl rfl rfl ?hin3 ?hc3 ?hk3
    case hin3 => repeat' (first | exact Cover.nil | exact Take.here | apply Cover.cons | apply Take.there)
    case hc3 => intro ρ' hρ hR; exact awake36_ok (hk.mono hρ)
    rintro _ _ ⟨rfl, rfl⟩
    refine g_pure (p_assign rfl) rfl ?_
    refine g_nil ?_
    refine g_qt ?_
    refine g_ret ?_
    refine g_qt_ret ?_
    exact g_post (Ho := []) (rs := [.tmp 4]) rfl (.tmp rfl .nil) rfl .nil
  | true =>
    have hL := hL rfl
    have hO : check1 n F = 0 → Ok n.toNat F := fun h => small_Ok (by omega) (by omega) h
    refine g_iff rfl ?_
    refine g_skip ?_
    refine g_qt ?_
    refine g_seq ?_
    refine m_begin0 (.fl 0 1 (.fl 1 0 (.fl 3 1 (.fl 4 0 (.ef 2 (.ef 5 (.fl 6 0 (.fl 7 0 (.ef 8 (.fl 9 0 (.fl 10 0 .done))))))))))) (by kernel_rfl) (by kernel_rfl) ?_
    first | refine m_float rfl (p_loadO (by rfl) rfl (by first | (apply Has.own; (repeat' (first | exact Take.here | apply Take.there)); done) | exact Has.ro (by assumption)) (by rfl)) rfl ?_ | refine m_float rfl (p_loadN (by rfl) rfl (by first | (apply Has.own; (repeat' (first | exact Take.here | apply Take.there)); done) | exact Has.ro (by assumption)) (by first | rfl | assumption)) rfl ?_
    refine m_float0 rfl (fun _ _ => p_move rfl) rfl ?_
    first | refine m_float rfl (p_loadO (by rfl) rfl (by first | (apply Has.own; (repeat' (first | exact Take.here | apply Take.there)); done) | exact Has.ro (by assumption)) (by rfl)) rfl ?_ | refine m_float rfl (p_loadN (by rfl) rfl (by first | (apply Has.own; (repeat' (first | exact Take.here | apply Take.there)); done) | exact Has.ro (by assumption)) (by first | rfl | assumption)) rfl ?_
    refine m_float0 rfl (fun _ _ => p_move rfl) rfl ?_
    refine m_call (Hin := []) (Hr := ?hr4) (R := ?rr4) rfl wantedN rfl rfl rfl ?hin4 ?hc4 ?hk4
    case hin4 => repeat' (first | exact Cover.nil | exact Take.here | apply Cover.cons | apply Take.there)
    case hc4 => intro ρ' hρ hR; exact right_ok (cc := cc) (mc := mc) (hF.mono hρ) hO (hm.mono hρ) hlen
    rintro _ _ ⟨rfl, rfl⟩
    refine ⟨.some (by repeat' (first | exact Cover.nil | exact Take.here | apply Cover.cons | apply Take.there)), ?_⟩
    refine m_call (Hin := []) (Hr := ?hr5) (R := ?rr5) rfl wantedN rfl rfl rfl ?hin5 ?hc5 ?hk5
    case hin5 => repeat' (first | exact Cover.nil | exact Take.here | apply Cover.cons | apply Take.there)
    case hc5 => intro ρ' hρ hR; exact dright_ok (cc := cc) (mc := mc) (hF.mono hρ) hO (hm.mono hρ) hlen
    rintro _ _ ⟨rfl, rfl⟩
    refine ⟨.none (by kernel_rfl), ?_⟩
    refine m_float0 rfl (fun _ _ => p_eqlbT (by rfl) rfl rfl rfl) rfl ?_
    refine m_float0 rfl (fun _ _ => p_move rfl) rfl ?_
    refine m_call (Hin := []) (Hr := ?hr6) (R := ?rr6) rfl (wantedY rfl rfl) rfl rfl rfl ?hin6 ?hc6 ?hk6
    case hin6 => repeat' (first | exact Cover.nil | exact Take.here | apply Cover.cons | apply Take.there)
    case hc6 => intro ρ' hρ hR; exact awake36_ok (hk.mono hρ)
    rintro _ _ ⟨rfl, rfl⟩
    refine ⟨.none (by kernel_rfl), ?_⟩
    first | refine m_float0 rfl (fun _ _ => p_pickt rfl rfl) rfl ?_ | refine m_float0 rfl (fun _ _ => p_pickf rfl rfl) rfl ?_
    refine m_float0 rfl (fun _ _ => p_assign rfl) rfl ?_
    refine m_nil ?_
    refine g_qt ?_
    refine g_ret ?_
    exact g_post (Ho := []) (rs := [.tmp 4]) rfl (.tmp rfl .nil) rfl .nil
end Go.Proofs.YtopgbgnmjogeeaaDoor
