/- Own texts, put together: Rs Ra Rb Rk Rl Rm Rq Re Rf Rh. Conditions: as told at each. -/
import Derived.Test.YtopgbgnmjogeeaaGreatDoorMCmW0
import Derived.Test.YtopgbgnmjogeeaaGreatDoorMCmB0
import Derived.Test.YtopgbgnmjogeeaaGreatDoorMCmA0
import Derived.Test.YtopgbgnmjogeeaaGreatDoorMCmS0
import Derived.Test.YtopgbgnmjogeeaaGreatDoorMCmY0
/- Chapter 36, plain: the document's search for what roots need; what models of a graph's formula are. No program in sight. Conditions: none. -/
namespace Go.Z.Tse
set_option maxRecDepth 8000
set_option linter.unusedVariables false
set_option linter.unusedSimpArgs false
set_option linter.unusedSectionVars false
open Go Go.Z Go.Z.Aig Go.Proofs.YtopgbgnmjogeeaaGreatDoor

def isM (B : List Bool) (v : Nat) : Prop := B.getD v false = true
theorem isM_set {B : List Bool} {v u : Nat} (hv : v < B.length) : isM (B.set v true) u ↔ u = v ∨ isM B u := by
  unfold isM
  rw [List.getD_eq_getElem?_getD, List.getD_eq_getElem?_getD, List.getElem?_set]
  by_cases h : v = u
  · subst h; simp [hv]
  · rw [if_neg h]
    constructor
    · exact .inr
    · rintro (e | e)
      · exact absurd e.symm h
      · exact e
/-- the document's search: what is marked, and what is still to be looked at -/
structure DI (S : St) (rs : List Int) (B : List Bool) (T : List Nat) : Prop where
  len : B.length = S.length
  mkd : ∀ v, isM B v → v < S.length ∧ Nd S rs v
  td : ∀ v ∈ T, v < S.length ∧ Nd S rs v
  rt : ∀ r ∈ rs, isM B (r / 2).toNat ∨ (r / 2).toNat ∈ T
  cl : ∀ v x y, isM B v → 0 < v → S[v]? = some (x, y, false) → (isM B (x / 2).toNat ∨ (x / 2).toNat ∈ T) ∧ (isM B (y / 2).toNat ∨ (y / 2).toNat ∈ T)
theorem DI.start {S : St} {rs : List Int} (hr : ∀ r ∈ rs, Aig.has S r) : DI S rs (List.replicate S.length false) (rs.map fun r => (r / 2).toNat) := by
  have h0 : ∀ v, ¬ isM (List.replicate S.length false) v := fun v h => by
    unfold isM at h
    rw [List.getD_eq_getElem?_getD, List.getElem?_replicate] at h
    split at h <;> cases h
  refine ⟨by simp, fun v h => absurd h (h0 v), fun v hv => ?_, fun r h => .inr (List.mem_map_of_mem h), fun v x y h => absurd h (h0 v)⟩
  obtain ⟨r, hrm, rfl⟩ := List.mem_map.1 hv
  have h1 := (hr r hrm).1
  have h2 := (hr r hrm).2
  exact ⟨by omega, .root hrm⟩
theorem DI.skip {S : St} {rs : List Int} {B : List Bool} {T : List Nat} {v : Nat} (h : DI S rs B (T ++ [v])) (hv : isM B v) : DI S rs B T := by
  have key : ∀ u, isM B u ∨ u ∈ T ++ [v] → isM B u ∨ u ∈ T := fun u hu => by
    rcases hu with hu | hu
    · exact .inl hu
    · rcases List.mem_append.1 hu with hu | hu
      · exact .inr hu
      · obtain rfl := List.mem_singleton.1 hu; exact .inl hv
  exact ⟨h.len, h.mkd, fun u hu => h.td u (by simp [hu]), fun r hr => key _ (h.rt r hr), fun u x y h1 h2 h3 => ⟨key _ (h.cl u x y h1 h2 h3).1, key _ (h.cl u x y h1 h2 h3).2⟩⟩
theorem DI.mark {S : St} {rs : List Int} {B : List Bool} {T N : List Nat} {v : Nat} (h : DI S rs B (T ++ [v])) (hN : ∀ u ∈ N, u < S.length ∧ Nd S rs u) (hc : ∀ x y, 0 < v → S[v]? = some (x, y, false) → (x / 2).toNat ∈ N ∧ (y / 2).toNat ∈ N) : DI S rs (B.set v true) (T ++ N) := by
  have hv := h.td v (by simp)
  have hvl : v < B.length := by rw [h.len]; exact hv.1
  have key : ∀ u, isM B u ∨ u ∈ T ++ [v] → isM (B.set v true) u ∨ u ∈ T ++ N := fun u hu => by
    rw [isM_set hvl]
    rcases hu with hu | hu
    · exact .inl (.inr hu)
    · rcases List.mem_append.1 hu with hu | hu
      · exact .inr (List.mem_append_left _ hu)
      · exact .inl (.inl (List.mem_singleton.1 hu))
  refine ⟨by rw [List.length_set]; exact h.len, fun u hu => ?_, fun u hu => ?_, fun r hr => key _ (h.rt r hr), fun u x y h1 h2 h3 => ?_⟩
  · rcases (isM_set hvl).1 hu with rfl | hu
    · exact hv
    · exact h.mkd u hu
  · rcases List.mem_append.1 hu with hu | hu
    · exact h.td u (by simp [hu])
    · exact hN u hu
  · rcases (isM_set hvl).1 h1 with rfl | h1
    · have := hc x y h2 h3
      exact ⟨.inr (List.mem_append_right _ this.1), .inr (List.mem_append_right _ this.2)⟩
    · exact ⟨key _ (h.cl u x y h1 h2 h3).1, key _ (h.cl u x y h1 h2 h3).2⟩
theorem DI.all {S : St} {rs : List Int} {B : List Bool} (h : DI S rs B []) (v : Nat) : B.getD v false = true ↔ Nd S rs v := by
  refine ⟨fun hv => (h.mkd v hv).2, fun hv => ?_⟩
  have key : ∀ u, isM B u ∨ u ∈ ([] : List Nat) → isM B u := fun u hu => hu.elim id fun h => absurd h List.not_mem_nil
  show isM B v
  induction hv with
  | root hr => exact key _ (h.rt _ hr)
  | a _ h1 h2 ih => exact key _ (h.cl _ _ _ ih h1 h2).1
  | b _ h1 h2 ih => exact key _ (h.cl _ _ _ ih h1 h2).2
def nof (B : List Bool) : Nat := B.count false
theorem nof_set {B : List Bool} {v : Nat} (hv : v < B.length) (h : ¬ isM B v) : nof (B.set v true) + 1 = nof B := by
  unfold nof isM at *
  have hb : B[v] = false := by
    rw [List.getD_eq_getElem?_getD, List.getElem?_eq_getElem hv] at h
    simpa using h
  have hm : false ∈ B := by rw [← hb]; exact List.getElem_mem hv
  have hp : 0 < B.count false := List.count_pos_iff.2 hm
  rw [List.count_set hv, hb]
  simp
  omega
theorem nof_rep (n : Nat) : nof (List.replicate n false) = n := by simp [nof]

/-- the model of a graph's values -/
theorem models_law {S : St} (hw : WF S) (nd : Nat → Bool) {rs : List Int} (hr : ∀ r ∈ rs, Aig.has S r) (inp : List Bool) :
    Sat.rightB ((S.length : Int) - 1) (cnfF S nd rs) ((vals S inp).drop 1) = rs.all (litv (vals S inp)) := by
  have hp := hw.pos
  have hl : ((vals S inp).drop 1).length = S.length - 1 := by rw [List.length_drop, vals_len hw]
  have hc := cnf_check hw nd hr
  have hok := cnfF_ok hw nd hr
  rw [show (S.length : Int) - 1 = ((S.length - 1 : Nat) : Int) by omega] at hc ⊢
  have hM : ∀ v, 1 ≤ v → v ≤ S.length - 1 → Sat.moOf ((vals S inp).drop 1) v = (vals S inp).getD v false := fun v h1 h2 => by
    unfold Sat.moOf
    rw [List.getD_eq_getElem?_getD, List.getElem?_drop, show 1 + (v - 1) = v by omega, ← List.getD_eq_getElem?_getD]
  have h1 := Sat.right_iff hok hc hl
  have h2 := vals_mod hw nd (fun r h => (hr r h).1) inp
  rw [Bool.eq_iff_iff, List.all_eq_true, h1, ← h2]
  exact ⟨Sat.Mod_congr hok hM, Sat.Mod_congr hok fun v a b => (hM v a b).symm⟩
/-- the model's inputs -/
def insM (S : St) (xs : List Bool) : List Bool := (ins 0 S).map fun i => xs.getD ((i / 2).toNat - 1) false
theorem roots_law {S : St} (hw : WF S) {nd : Nat → Bool} {rs : List Int} (hnd : ∀ v, nd v = true ↔ Nd S rs v) (hr : ∀ r ∈ rs, Aig.has S r) {xs : List Bool} (hx : xs.length = S.length - 1)
    (hR : Sat.rightB ((S.length : Int) - 1) (cnfF S nd rs) xs = true) {v : Nat} (h0 : 0 < v) (hv : v < S.length) (hn : Nd S rs v) : (vals S (insM S xs)).getD v false = xs.getD (v - 1) false := by
  have hp := hw.pos
  have hc := cnf_check hw nd hr
  have hok := cnfF_ok hw nd hr
  rw [show (S.length : Int) - 1 = ((S.length - 1 : Nat) : Int) by omega] at hc hR
  have hM := (Sat.right_iff hok hc hx).1 hR
  refine mod_vals hw hnd hM (fun u x y hu hs => ?_) v h0 hv hn
  have e := ins_at S 0 u x y hs
  have e2 : (ins 0 S)[rank S u]? = some (2 * (u : Int)) := by simpa [rank] using e
  unfold insM Sat.moOf
  rw [List.getD_eq_getElem?_getD, List.getElem?_map, e2]
  simp only [Option.map_some, Option.getD_some]
  rw [show (2 * (u : Int) / 2).toNat = u by omega]
end Go.Z.Tse
/- Chapter 36, plain: the graph that any calls build. No program in sight. Conditions: none. -/
namespace Go.Z.Tse
set_option maxRecDepth 8000
set_option linter.unusedVariables false
set_option linter.unusedSimpArgs false
set_option linter.unusedSectionVars false
open Go Go.Z Go.Z.Aig Go.Proofs.YtopgbgnmjogeeaaGreatDoor

structure Ac where
  kind : Int
  a : Int
  b : Int
  c : Int
def encA (x : Ac) : List Value := [.int .i64 x.kind, .int .i64 x.a, .int .i64 x.b, .int .i64 x.c]
theorem encA_len (x : Ac) : (encA x).length = 4 := rfl
def Ac.ok (x : Ac) : Prop := I64 x.kind ∧ I64 x.a ∧ I64 x.b ∧ I64 x.c
def callA (S : St) (x : Ac) : St :=
  if x.kind = 0 then (input1 S).2.2 else if x.kind = 1 then (and1 S x.a x.b).2.2 else if x.kind = 2 then (or1 S x.a x.b).2.2 else if x.kind = 3 then (xor1 S x.a x.b).2.2 else if x.kind = 4 then (mux1 S x.c x.a x.b).2.2 else S
def afterA (l : List Ac) : St := l.foldl callA L0
theorem afterA_snoc (l : List Ac) (k : Nat) (hk : k < l.length) : afterA (l.take (k + 1)) = callA (afterA (l.take k)) l[k] := by
  unfold afterA; rw [List.take_add_one, List.getElem?_eq_getElem hk, Option.toList_some, List.foldl_append]; rfl
theorem two_le (S : St) (a b c d : Int) : (two S a b c d).2.2.length ≤ S.length + 3 := by
  unfold two
  simp only
  have h1 := (and0_len (S := S) a b).1
  have h2 := (and0_len (S := (and0 S a b).2.2) c d).1
  split
  · dsimp only; omega
  · split
    · dsimp only; omega
    · have h3 := (and0_len (S := (and0 (and0 S a b).2.2 c d).2.2) (nt (and0 S a b).1) (nt (and0 (and0 S a b).2.2 c d).1)).1
      split <;> dsimp only <;> omega
theorem callA_len (S : St) (x : Ac) : (callA S x).length ≤ S.length + 3 := by
  have h0 := fun a b => (and0_len (S := S) a b).1
  unfold callA
  split
  · unfold input1 add; split <;> simp
  · split
    · unfold and1; split
      · have := h0 x.a x.b; omega
      · simp
    · split
      · unfold or1; split
        · have := h0 (nt x.a) (nt x.b); dsimp only; split <;> dsimp only <;> omega
        · simp
      · split
        · unfold xor1; split
          · exact two_le ..
          · simp
        · split
          · unfold mux1; split
            · exact two_le ..
            · simp
          · omega
theorem afterA_le (l : List Ac) : (afterA l).length ≤ 1 + 3 * l.length := by
  have : ∀ (l : List Ac) (S : St), (l.foldl callA S).length ≤ S.length + 3 * l.length := by
    intro l
    induction l with
    | nil => intro S; simp
    | cons x l ih => intro S; have := ih (callA S x); have := callA_len S x; simp only [List.foldl_cons, List.length_cons]; omega
  have := this l L0
  simpa [afterA, L0] using this
theorem callA_gate {S : St} (hw : WF S) (hl : S.length + 2 < 131072) {x : Ac} (h : x.kind ≠ 0) : Ext S (callA S x) := by
  have hB : ∀ a, hasB S a = true → has S a := fun a => hasB_iff.1
  unfold callA
  rw [if_neg h]
  split
  · by_cases h1 : (hasB S x.a && hasB S x.b) = true
    · obtain ⟨ha, hb⟩ := Bool.and_eq_true_iff.1 h1
      exact (good_and hw (by omega) (hB _ ha) (hB _ hb)).ext
    · unfold and1; rw [if_neg h1]; exact Ext.refl S
  · split
    · by_cases h1 : (hasB S x.a && hasB S x.b) = true
      · obtain ⟨ha, hb⟩ := Bool.and_eq_true_iff.1 h1
        exact (good_or hw (by omega) (hB _ ha) (hB _ hb)).ext
      · unfold or1; rw [if_neg h1]; exact Ext.refl S
    · split
      · by_cases h1 : (hasB S x.a && hasB S x.b) = true
        · obtain ⟨ha, hb⟩ := Bool.and_eq_true_iff.1 h1
          exact (good_xor hw (by omega) (hB _ ha) (hB _ hb)).ext
        · unfold xor1; rw [if_neg h1]; exact Ext.refl S
      · split
        · by_cases h1 : (hasB S x.c && (hasB S x.a && hasB S x.b)) = true
          · obtain ⟨hc, h2⟩ := Bool.and_eq_true_iff.1 h1
            obtain ⟨ha, hb⟩ := Bool.and_eq_true_iff.1 h2
            exact (good_mux hw (by omega) (hB _ hc) (hB _ ha) (hB _ hb)).ext
          · unfold mux1; rw [if_neg h1]; exact Ext.refl S
        · exact Ext.refl S
theorem callA_ins {S : St} (hw : WF S) (hl : S.length + 2 < 131072) {x : Ac} (h : x.kind ≠ 0) : ins 0 (callA S x) = ins 0 S := (callA_gate hw hl h).cut.2.1
theorem input1_eq {S : St} (hl : S.length < 131072) : input1 S = (2 * (S.length : Int), (0 : Int), S ++ [((0 : Int), (0 : Int), true)]) := by unfold input1 add; rw [if_neg (by omega)]
theorem callA_in {S : St} (hl : S.length < 131072) {x : Ac} (h : x.kind = 0) : (ins 0 (callA S x)).length = (ins 0 S).length + 1 := by
  unfold callA
  rw [if_pos h, input1_eq hl, ins_append, List.length_append]
  rfl
end Go.Z.Tse
/- Chapter 36: the graph that any calls build; refused roots; equality of formulas. Conditions: none. -/
namespace Go.Proofs.YtopgbgnmjogeeaaGreatDoor
set_option maxRecDepth 8000
set_option linter.unusedVariables false
set_option linter.unusedSimpArgs false
set_option linter.unusedSectionVars false
open Go Go.Z Go.Z.Aig Go.Z.Tse Go.Z.Sat

theorem built36_ok {ρ : Nat → Obj → Prop} (a : Option Addr) (c : Nat) (l : List Ac) (hl : RSl ρ 4 a l.length (l.flatMap encA)) (hlen : l.length ≤ 9223372036854775807) (hx : ∀ x ∈ l, x.ok) : Con Tryz.prog ρ 8 #[.slice a l.length c] []
    (fun v H => ∃ p, v = .tuple #[.pointer (some ⟨p, 0, none⟩), .int .i64 ((ins 0 (afterA (l.take 60))).length)] ∧ H = [Gr p (afterA (l.take 60))]) := by
  obtain ⟨b, off, cs, T, fz, hr⟩ := RSl.row encA_len hl
  refine con_intro Tryz.func8 Tryz.call8 rfl Tryz.ntmps8 rfl (L := [(0, _)]) rfl fun w hh => ?_
  refine g_seq ?_
  refine g_region ?_
  refine g_pure (p_assign rfl) rfl ?_
  refine g_pure (p_assign rfl) rfl ?_
  refine g_nil ?_
  refine g_qt ?_
  refine g_seq ?_
  refine g_region ?_
  refine g_call (Hin := []) (Hr := ?hr1) (R := ?rr1) rfl rfl rfl ?hin1 ?hc1 ?hk1
  case hin1 => repeat' (first | exact Cover.nil | exact Take.here | apply Cover.cons | apply Take.there)
  case hc1 => intro ρ' hρ hR; exact new_ok
  rintro _ _ ⟨p, rfl, rfl⟩
  refine g_pure (p_assign rfl) rfl ?_
  refine g_nil ?_
  refine g_qt ?_
  refine g_seq ?_
  refine g_region ?_
  refine g_pure (p_assign rfl) rfl ?_
  refine g_nil ?_
  refine g_qt ?_
  refine g_seq ?_
  refine g_seq ?_
  refine g_region ?_
  refine g_pure (p_assign rfl) rfl ?_
  refine g_nil ?_
  refine g_qt ?_
  refine g_block ?_
  refine g_loop (fun k : Nat => [(0, .slice a l.length c), (4, .pointer (some ⟨p, 0, none⟩)), (5, .int .i64 (ins 0 (afterA (l.take k))).length), (6, .int .i64 k)])
    (fun k => [Gr p (afterA (l.take k))]) (fun k => k ≤ l.length ∧ k ≤ 60) (fun k => 60 - k) 0 ⟨Nat.zero_le _, Nat.zero_le _⟩ (by (repeat (first | exact trivial | refine ⟨by rfl, ?_⟩)); done) (by repeat' (first | exact Cover.nil | exact Take.here | apply Cover.cons | apply Take.there)) ?_
  rintro k ⟨hk, hk60⟩
  have hS3 := afterA_le (l.take k)
  have hTl : (l.take k).length ≤ k := by rw [List.length_take]; omega
  have hS2 := ins_le (afterA (l.take k)) 0
  have hlast : k = l.length ∨ k = 60 → afterA (l.take k) = afterA (l.take 60) := fun h => by
    rcases h with rfl | rfl
    · rw [List.take_of_length_le (Nat.le_refl _), List.take_of_length_le hk60]
    · rfl
  have hnext : ∀ hkl : k < l.length, afterA (l.take (k + 1)) = callA (afterA (l.take k)) l[k] := fun hkl => afterA_snoc l k hkl
  obtain ⟨S, hS⟩ : ∃ S, afterA (l.take k) = S := ⟨_, rfl⟩
  rw [hS] at hS3 hS2 hlast hnext ⊢
  refine g_seq ?_
  refine g_seq ?_
  refine g_region ?_
  refine g_pure (p_move rfl) rfl ?_
  refine g_pure (p_move rfl) rfl ?_
  refine g_pure (p_len (by rfl) rfl) rfl ?_
  refine g_pure (p_lss rfl rfl) rfl ?_
  refine g_pure (p_move rfl) rfl ?_
  refine g_splitd rfl rfl (fun h1 => ?_) (fun h1 => ?_)
  · have hkl : k < l.length := by omega
    refine g_yes rfl rfl ?_
    refine g_pure (p_move rfl) rfl ?_
    refine g_yes rfl rfl ?_
    refine g_pure (p_lss rfl rfl) rfl ?_
    first | refine g_pure (p_pickt rfl rfl) rfl ?_ | refine g_pure (p_pickf rfl rfl) rfl ?_
    refine g_nil ?_
    refine g_qt ?_
    refine g_ifd rfl (fun h2 => ?_) (fun h2 => ?_)
    · obtain ⟨r1, r2, r3⟩ := hr (by omega)
      obtain ⟨q1, q2⟩ := r3 k hkl
      obtain ⟨ok0, ok1, ok2, ok3⟩ := hx l[k] (List.getElem_mem hkl)
      have q3 : sub cs (off + (k : Int).toNat * 4) 4 = some (encA l[k]) := by rw [Int.toNat_natCast]; exact q1 (by decide)
      have hn := hnext hkl
      generalize l[k] = x at q1 q2 q3 ok0 ok1 ok2 ok3 hn
      refine gr_wf (p := p) (S := S) (by repeat' (first | exact Take.here | apply Take.there)) fun hw => ?_
      have hgate : x.kind ≠ 0 → (ins 0 S).length = (ins 0 (afterA (l.take (k + 1)))).length := fun h0 => by rw [hn, callA_ins hw (by omega) h0]
      refine g_skip ?_
      refine g_qt ?_
      refine g_seq ?_
      refine g_block ?_
      refine g_seq ?_
      refine g_region ?_
      refine g_pure (p_move rfl) rfl ?_
      refine g_pure (p_move rfl) rfl ?_
      refine g_pure (p_indexAddr rfl rfl (by omega) (fun _ => r1)) rfl ?_
      refine g_pure (p_loadN (by rfl) rfl (Has.ro r2) q3) rfl ?_
      refine g_eff (e_alloc (by rfl)) rfl (fun _ _ => ?_)
      rintro ⟨b7, rfl, rfl⟩
      first | refine g_eff0 (e_storeO rfl rfl (by rfl) (by rfl) (by rfl) (by repeat' (first | exact Take.here | apply Take.there)) (by rfl)) (fun _ _ => ?_) | refine g_eff0 (e_storeN rfl rfl (by rfl) (by rfl) (by rfl) (by repeat' (first | exact Take.here | apply Take.there)) (by simp)) (fun _ _ => ?_)
      rintro rfl
      refine g_nil ?_
      refine g_qt ?_
      refine g_seq ?_
      refine g_region ?_
      refine g_pure (p_fieldAddr rfl) rfl ?_
      refine g_pure (p_load (by rfl) rfl (by first | (apply Has.own; (repeat' (first | exact Take.here | apply Take.there)); done) | exact Has.ro (by assumption)) (by first | rfl | assumption)) rfl ?_
      refine g_nil ?_
      refine g_qt ?_
      refine g_block ?_
      refine g_seq ?_
      refine g_region ?_
      refine g_pure (p_eql rfl rfl) rfl ?_
      refine g_pure (p_assign rfl) rfl ?_
      refine g_nil ?_
      refine g_qt ?_
      refine g_ifd rfl (fun c0 => ?_) (fun c0 => ?_)
      · have e := input1_eq (S := S) (by omega)
        have e2 : afterA (l.take (k + 1)) = S ++ [(0, 0, true)] := by rw [hn]; unfold callA; rw [if_pos c0, e]
        have e3 : ((ins 0 S).length : Int) + 1 = ((ins 0 (afterA (l.take (k + 1)))).length : Int) := by rw [hn, callA_in (by omega) c0]; rfl
        refine g_seq ?_
        refine g_region ?_
        refine g_pure (p_move rfl) rfl ?_
        refine g_call (Hin := ?hi2) (Hr := ?hr2) (R := ?rr2) rfl rfl rfl ?hin2 ?hc2 ?hk2
        case hc2 => intro ρ' hρ hR; exact input_at e
        case hin2 => repeat' (first | exact Cover.nil | exact Take.here | apply Cover.cons | apply Take.there)
        rintro _ _ ⟨rfl, rfl⟩
        refine g_pure (p_move rfl) rfl ?_
        refine g_pure (p_extract rfl rfl) rfl ?_
        refine g_pure (p_extract rfl rfl) rfl ?_
        refine g_pure (p_assign rfl) rfl ?_
        refine g_pure (p_assign rfl) rfl ?_
        refine g_nil ?_
        refine g_qt ?_
        refine g_seq ?_
        refine g_region ?_
        refine g_pure (p_move rfl) rfl ?_
        refine g_pure (p_eqlT rfl rfl rfl) rfl ?_
        refine g_nil ?_
        refine g_qt ?_
        refine g_ift rfl ?_
        refine g_region ?_
        refine g_pure (p_move rfl) rfl ?_
        first | refine g_pure (p_addi rfl rfl (by omega)) rfl ?_ | refine g_pure (p_add rfl rfl) rfl ?_
        refine g_pure (p_assign rfl) rfl ?_
        refine g_nil ?_
        refine g_qb ?_
        refine g_qb ?_
        refine g_qt ?_
        refine g_region ?_
        refine g_pure (p_move rfl) rfl ?_
        first | refine g_pure (p_addi rfl rfl (by omega)) rfl ?_ | refine g_pure (p_add rfl rfl) rfl ?_
        refine g_pure (p_assign rfl) rfl ?_
        refine g_nil ?_
        refine g_qn ?_
        rw [e3, ← e2]
        exact g_next (k + 1) (by (repeat (first | exact trivial | refine ⟨by rfl, ?_⟩)); done) (by repeat' (first | exact Cover.nil | exact Take.here | apply Cover.cons | apply Take.there)) ⟨by omega, by omega⟩ (by omega)
      · refine g_seq ?_
        refine g_region ?_
        refine g_pure (p_eql rfl rfl) rfl ?_
        refine g_pure (p_assign rfl) rfl ?_
        refine g_nil ?_
        refine g_qt ?_
        refine g_ifd rfl (fun c1 => ?_) (fun c1 => ?_)
        · have e : afterA (l.take (k + 1)) = (and1 S x.a x.b).2.2 := by rw [hn]; unfold callA; rw [if_neg c0, if_pos c1]
          refine g_region ?_
          refine g_pure (p_move rfl) rfl ?_
          refine g_pure (p_fieldAddr rfl) rfl ?_
          refine g_pure (p_load (by rfl) rfl (by first | (apply Has.own; (repeat' (first | exact Take.here | apply Take.there)); done) | exact Has.ro (by assumption)) (by first | rfl | assumption)) rfl ?_
          refine g_pure (p_fieldAddr rfl) rfl ?_
          refine g_pure (p_load (by rfl) rfl (by first | (apply Has.own; (repeat' (first | exact Take.here | apply Take.there)); done) | exact Has.ro (by assumption)) (by first | rfl | assumption)) rfl ?_
          refine g_call (Hin := ?hi3) (Hr := ?hr3) (R := ?rr3) rfl rfl rfl ?hin3 ?hc3 ?hk3
          case hc3 => intro ρ' hρ hR; exact and_ok p S x.a x.b ok1 ok2
          case hin3 => repeat' (first | exact Cover.nil | exact Take.here | apply Cover.cons | apply Take.there)
          rintro _ _ ⟨rfl, rfl⟩
          refine g_nil ?_
          refine g_qb ?_
          refine g_qb ?_
          refine g_qt ?_
          refine g_region ?_
          refine g_pure (p_move rfl) rfl ?_
          first | refine g_pure (p_addi rfl rfl (by omega)) rfl ?_ | refine g_pure (p_add rfl rfl) rfl ?_
          refine g_pure (p_assign rfl) rfl ?_
          refine g_nil ?_
          refine g_qn ?_
          rw [hgate c0, ← e]
          exact g_next (k + 1) (by (repeat (first | exact trivial | refine ⟨by rfl, ?_⟩)); done) (by repeat' (first | exact Cover.nil | exact Take.here | apply Cover.cons | apply Take.there)) ⟨by omega, by omega⟩ (by omega)
        · refine g_seq ?_
          refine g_region ?_
          refine g_pure (p_eql rfl rfl) rfl ?_
          refine g_pure (p_assign rfl) rfl ?_
          refine g_nil ?_
          refine g_qt ?_
          refine g_ifd rfl (fun c2 => ?_) (fun c2 => ?_)
          · have e : afterA (l.take (k + 1)) = (or1 S x.a x.b).2.2 := by rw [hn]; unfold callA; rw [if_neg c0, if_neg c1, if_pos c2]
            refine g_region ?_
            refine g_pure (p_move rfl) rfl ?_
            refine g_pure (p_fieldAddr rfl) rfl ?_
            refine g_pure (p_load (by rfl) rfl (by first | (apply Has.own; (repeat' (first | exact Take.here | apply Take.there)); done) | exact Has.ro (by assumption)) (by first | rfl | assumption)) rfl ?_
            refine g_pure (p_fieldAddr rfl) rfl ?_
            refine g_pure (p_load (by rfl) rfl (by first | (apply Has.own; (repeat' (first | exact Take.here | apply Take.there)); done) | exact Has.ro (by assumption)) (by first | rfl | assumption)) rfl ?_
            refine g_call (Hin := ?hi4) (Hr := ?hr4) (R := ?rr4) rfl rfl rfl ?hin4 ?hc4 ?hk4
            case hc4 => intro ρ' hρ hR; exact or_ok p S x.a x.b ok1 ok2
            case hin4 => repeat' (first | exact Cover.nil | exact Take.here | apply Cover.cons | apply Take.there)
            rintro _ _ ⟨rfl, rfl⟩
            refine g_nil ?_
            refine g_qb ?_
            refine g_qb ?_
            refine g_qt ?_
            refine g_region ?_
            refine g_pure (p_move rfl) rfl ?_
            first | refine g_pure (p_addi rfl rfl (by omega)) rfl ?_ | refine g_pure (p_add rfl rfl) rfl ?_
            refine g_pure (p_assign rfl) rfl ?_
            refine g_nil ?_
            refine g_qn ?_
            rw [hgate c0, ← e]
            exact g_next (k + 1) (by (repeat (first | exact trivial | refine ⟨by rfl, ?_⟩)); done) (by repeat' (first | exact Cover.nil | exact Take.here | apply Cover.cons | apply Take.there)) ⟨by omega, by omega⟩ (by omega)
          · refine g_seq ?_
            refine g_region ?_
            refine g_pure (p_eql rfl rfl) rfl ?_
            refine g_pure (p_assign rfl) rfl ?_
            refine g_nil ?_
            refine g_qt ?_
            refine g_ifd rfl (fun c3 => ?_) (fun c3 => ?_)
            · have e : afterA (l.take (k + 1)) = (xor1 S x.a x.b).2.2 := by rw [hn]; unfold callA; rw [if_neg c0, if_neg c1, if_neg c2, if_pos c3]
              refine g_region ?_
              refine g_pure (p_move rfl) rfl ?_
              refine g_pure (p_fieldAddr rfl) rfl ?_
              refine g_pure (p_load (by rfl) rfl (by first | (apply Has.own; (repeat' (first | exact Take.here | apply Take.there)); done) | exact Has.ro (by assumption)) (by first | rfl | assumption)) rfl ?_
              refine g_pure (p_fieldAddr rfl) rfl ?_
              refine g_pure (p_load (by rfl) rfl (by first | (apply Has.own; (repeat' (first | exact Take.here | apply Take.there)); done) | exact Has.ro (by assumption)) (by first | rfl | assumption)) rfl ?_
              refine g_call (Hin := ?hi5) (Hr := ?hr5) (R := ?rr5) rfl rfl rfl ?hin5 ?hc5 ?hk5
              case hc5 => intro ρ' hρ hR; exact xor_ok p S x.a x.b ok1 ok2
              case hin5 => repeat' (first | exact Cover.nil | exact Take.here | apply Cover.cons | apply Take.there)
              rintro _ _ ⟨rfl, rfl⟩
              refine g_nil ?_
              refine g_qb ?_
              refine g_qb ?_
              refine g_qt ?_
              refine g_region ?_
              refine g_pure (p_move rfl) rfl ?_
              first | refine g_pure (p_addi rfl rfl (by omega)) rfl ?_ | refine g_pure (p_add rfl rfl) rfl ?_
              refine g_pure (p_assign rfl) rfl ?_
              refine g_nil ?_
              refine g_qn ?_
              rw [hgate c0, ← e]
              exact g_next (k + 1) (by (repeat (first | exact trivial | refine ⟨by rfl, ?_⟩)); done) (by repeat' (first | exact Cover.nil | exact Take.here | apply Cover.cons | apply Take.there)) ⟨by omega, by omega⟩ (by omega)
            · refine g_seq ?_
              refine g_region ?_
              refine g_pure (p_eql rfl rfl) rfl ?_
              refine g_pure (p_assign rfl) rfl ?_
              refine g_nil ?_
              refine g_qt ?_
              refine g_ifd rfl (fun c4 => ?_) (fun c4 => ?_)
              · have e : afterA (l.take (k + 1)) = (mux1 S x.c x.a x.b).2.2 := by rw [hn]; unfold callA; rw [if_neg c0, if_neg c1, if_neg c2, if_neg c3, if_pos c4]
                refine g_region ?_
                refine g_pure (p_move rfl) rfl ?_
                refine g_pure (p_fieldAddr rfl) rfl ?_
                refine g_pure (p_load (by rfl) rfl (by first | (apply Has.own; (repeat' (first | exact Take.here | apply Take.there)); done) | exact Has.ro (by assumption)) (by first | rfl | assumption)) rfl ?_
                refine g_pure (p_fieldAddr rfl) rfl ?_
                refine g_pure (p_load (by rfl) rfl (by first | (apply Has.own; (repeat' (first | exact Take.here | apply Take.there)); done) | exact Has.ro (by assumption)) (by first | rfl | assumption)) rfl ?_
                refine g_pure (p_fieldAddr rfl) rfl ?_
                refine g_pure (p_load (by rfl) rfl (by first | (apply Has.own; (repeat' (first | exact Take.here | apply Take.there)); done) | exact Has.ro (by assumption)) (by first | rfl | assumption)) rfl ?_
                refine g_call (Hin := ?hi6) (Hr := ?hr6) (R := ?rr6) rfl rfl rfl ?hin6 ?hc6 ?hk6
                case hc6 => intro ρ' hρ hR; exact mux_ok p S x.c x.a x.b ok3 ok1 ok2
                case hin6 => repeat' (first | exact Cover.nil | exact Take.here | apply Cover.cons | apply Take.there)
                rintro _ _ ⟨rfl, rfl⟩
                refine g_nil ?_
                refine g_qb ?_
                refine g_qb ?_
                refine g_qt ?_
                refine g_region ?_
                refine g_pure (p_move rfl) rfl ?_
                first | refine g_pure (p_addi rfl rfl (by omega)) rfl ?_ | refine g_pure (p_add rfl rfl) rfl ?_
                refine g_pure (p_assign rfl) rfl ?_
                refine g_nil ?_
                refine g_qn ?_
                rw [hgate c0, ← e]
                exact g_next (k + 1) (by (repeat (first | exact trivial | refine ⟨by rfl, ?_⟩)); done) (by repeat' (first | exact Cover.nil | exact Take.here | apply Cover.cons | apply Take.there)) ⟨by omega, by omega⟩ (by omega)
              · have e : afterA (l.take (k + 1)) = S := by rw [hn]; unfold callA; rw [if_neg c0, if_neg c1, if_neg c2, if_neg c3, if_neg c4]
                refine g_skip ?_
                refine g_qb ?_
                refine g_qb ?_
                refine g_qt ?_
                refine g_region ?_
                refine g_pure (p_move rfl) rfl ?_
                first | refine g_pure (p_addi rfl rfl (by omega)) rfl ?_ | refine g_pure (p_add rfl rfl) rfl ?_
                refine g_pure (p_assign rfl) rfl ?_
                refine g_nil ?_
                refine g_qn ?_
                rw [← e]
                exact g_next (k + 1) (by (repeat (first | exact trivial | refine ⟨by rfl, ?_⟩)); done) (by repeat' (first | exact Cover.nil | exact Take.here | apply Cover.cons | apply Take.there)) ⟨by omega, by omega⟩ (by omega)
    · refine g_exit ?_
      refine g_qt_exit ?_
      refine g_qn_exit ?_
      refine g_qb_exit ?_
      refine g_qt ?_
      refine g_seq ?_
      refine g_region ?_
      refine g_pure (p_move rfl) rfl ?_
      refine g_pure (p_move rfl) rfl ?_
      refine g_pure (p_assign rfl) rfl ?_
      refine g_pure (p_assign rfl) rfl ?_
      refine g_nil ?_
      refine g_qt ?_
      refine g_ret ?_
      rw [hlast (.inr (by omega))]
      exact g_post (rs := [.tmp 2, .tmp 3]) rfl (.tmp rfl (.tmp rfl .nil)) ⟨p, rfl, rfl⟩ (by repeat' (first | exact Cover.nil | exact Take.here | apply Cover.cons | apply Take.there))
  · refine g_no rfl rfl rfl rfl ?_
    refine g_no rfl rfl rfl rfl ?_
    first | refine g_pure (p_pickt rfl rfl) rfl ?_ | refine g_pure (p_pickf rfl rfl) rfl ?_
    refine g_nil ?_
    refine g_qt ?_
    refine g_iff rfl ?_
    refine g_exit ?_
    refine g_qt_exit ?_
    refine g_qn_exit ?_
    refine g_qb_exit ?_
    refine g_qt ?_
    refine g_seq ?_
    refine g_region ?_
    refine g_pure (p_move rfl) rfl ?_
    refine g_pure (p_move rfl) rfl ?_
    refine g_pure (p_assign rfl) rfl ?_
    refine g_pure (p_assign rfl) rfl ?_
    refine g_nil ?_
    refine g_qt ?_
    refine g_ret ?_
    rw [hlast (.inl (by omega))]
    exact g_post (rs := [.tmp 2, .tmp 3]) rfl (.tmp rfl (.tmp rfl .nil)) ⟨p, rfl, rfl⟩ (by repeat' (first | exact Cover.nil | exact Take.here | apply Cover.cons | apply Take.there))

theorem of_nil {ρ : Nat → Obj → Prop} (al : Option Addr) (k cl : Nat) : Con Tryz.prog ρ 10 #[.pointer none, .slice al k cl] [] (fun v H => v = .tuple #[.agg #[.int .i64 0, .slice none 0 0], .int .i64 1] ∧ H = []) := by
  refine con_intro Tryz.func10 Tryz.call10 rfl Tryz.ntmps10 rfl (L := [(0, _), (1, _)]) rfl fun w hh => ?_
  refine g_seq ?_
  refine g_region ?_
  refine g_eff (e_alloc (by rfl)) rfl (fun _ _ => ?_)
  rintro ⟨b4, rfl, rfl⟩
  refine g_pure (p_assign rfl) rfl ?_
  refine g_nil ?_
  refine g_qt ?_
  refine g_seq ?_
  refine g_seq ?_
  refine g_region ?_
  refine g_pure (p_move rfl) rfl ?_
  refine g_pure (p_eqnil (by rfl) rfl rfl) rfl ?_
  refine g_nil ?_
  refine g_qt ?_
  refine g_ift rfl ?_
  refine g_seq ?_
  refine g_region ?_
  refine g_pure (p_build (by rfl) rfl (by rfl)) rfl ?_
  first | refine g_eff0 (e_storeO rfl rfl (by rfl) (by rfl) (by rfl) (by repeat' (first | exact Take.here | apply Take.there)) (by rfl)) (fun _ _ => ?_) | refine g_eff0 (e_storeN rfl rfl (by rfl) (by rfl) (by rfl) (by repeat' (first | exact Take.here | apply Take.there)) (by simp)) (fun _ _ => ?_)
  rintro rfl
  refine g_pure (p_assign rfl) rfl ?_
  refine g_nil ?_
  refine g_qt ?_
  refine g_ret ?_
  refine g_qt_ret ?_
  exact g_post (Ho := []) (rs := [.cell 4 30, .tmp 5]) rfl (Res.cellN (by rfl) rfl (Has.own (by repeat' (first | exact Take.here | apply Take.there))) (by rfl) (.tmp rfl .nil)) ⟨rfl, rfl⟩ (by repeat' (first | exact Cover.nil | exact Take.here | apply Cover.cons | apply Take.there))
theorem of_no {ρ : Nat → Obj → Prop} (p : Nat) (S : St) (hw : WF S) (hg : Ro ρ (Gr p S)) (al : Option Addr) (cl : Nat) (rs : List Int) (hl : RSl ρ 1 al rs.length (rs.map encI)) (hlen : rs.length ≤ 1000000) (hI : ∀ r ∈ rs, I64 r) (hr : ¬ ∀ r ∈ rs, has S r) :
    Con Tryz.prog ρ 10 #[.pointer (some ⟨p, 0, none⟩), .slice al rs.length cl] [] (fun v H => v = .tuple #[.agg #[.int .i64 0, .slice none 0 0], .int .i64 14] ∧ H = []) := by
  have hlim := hw.lim
  obtain ⟨_, b, off, cs, T, fz, hcs⟩ := hl
  refine con_intro Tryz.func10 Tryz.call10 rfl Tryz.ntmps10 rfl (L := [(0, _), (1, _)]) rfl fun w hh => ?_
  refine g_seq ?_
  refine g_region ?_
  refine g_eff (e_alloc (by rfl)) rfl (fun _ _ => ?_)
  rintro ⟨b4, rfl, rfl⟩
  refine g_pure (p_assign rfl) rfl ?_
  refine g_nil ?_
  refine g_qt ?_
  refine g_seq ?_
  refine g_seq ?_
  refine g_region ?_
  refine g_pure (p_move rfl) rfl ?_
  refine g_pure (p_eqnil (by rfl) rfl rfl) rfl ?_
  refine g_nil ?_
  refine g_qt ?_
  refine g_iff rfl ?_
  refine g_skip ?_
  refine g_qt ?_
  refine g_seq ?_
  refine g_region ?_
  refine g_pure (p_move rfl) rfl ?_
  refine g_call (Hin := []) (Hr := ?hr7) (R := ?rr7) rfl rfl rfl ?hin7 ?hc7 ?hk7
  case hin7 => repeat' (first | exact Cover.nil | exact Take.here | apply Cover.cons | apply Take.there)
  case hc7 => intro ρ' hρ hR; exact glen_ok p S (hg.mono hρ)
  rintro _ _ ⟨rfl, rfl⟩
  refine g_pure (p_assign rfl) rfl ?_
  refine g_nil ?_
  refine g_qt ?_
  refine g_seq ?_
  refine g_seq ?_
  refine g_region ?_
  refine g_pure (p_move rfl) rfl ?_
  refine g_pure (p_len (by rfl) rfl) rfl ?_
  refine g_pure (p_move rfl) rfl ?_
  refine g_nil ?_
  refine g_qt ?_
  refine g_block ?_
  refine g_loop (fun i : Nat => [(0, .pointer (some ⟨p, 0, none⟩)), (1, .slice al rs.length cl), (4, .pointer (some ⟨b4, 0, none⟩)), (6, .int .i64 S.length), (23, .slice al rs.length cl), (24, .int .i64 rs.length), (25, .int .i64 i)])
    (fun _ => [Blk b4 (.cells [.int .i64 0, .slice none 0 0].toArray 30 (0, 0))]) (fun i => i ≤ rs.length ∧ ∀ r ∈ rs.take i, has S r) (fun i => rs.length - i) 0 ⟨Nat.zero_le _, by simp⟩ (by (repeat (first | exact trivial | refine ⟨by rfl, ?_⟩)); done) (by repeat' (first | exact Cover.nil | exact Take.here | apply Cover.cons | apply Take.there)) ?_
  rintro i ⟨hi, hall⟩
  refine g_seq ?_
  refine g_region ?_
  refine g_pure (p_lss rfl rfl) rfl ?_
  refine g_nil ?_
  refine g_qt ?_
  refine g_seq ?_
  refine g_ifd rfl (fun q => ?_) (fun q => ?_)
  · have hil : i < rs.length := by omega
    obtain ⟨r1, r2, r3⟩ := hcs (by omega)
    have hri := hI rs[i] (List.getElem_mem hil)
    have hri1 := hri.1
    have hri2 := hri.2
    have hx : cs[off + (i : Int).toNat * 1]? = some (.int .i64 rs[i]) := by simpa [encI, List.getElem?_eq_getElem hil] using r3 i (.int .i64 rs[i]) (by simp [List.getElem?_eq_getElem hil, encI])
    have hnx : has S rs[i] → ∀ r ∈ rs.take (i + 1), has S r := fun h r hrm => by
      rw [List.take_add_one, List.getElem?_eq_getElem hil] at hrm
      rcases List.mem_append.1 hrm with hrm | hrm
      · exact hall r hrm
      · simp at hrm; subst hrm; exact h
    generalize rs[i] = r at hri hri1 hri2 hx hnx
    refine g_skip ?_
    refine g_qt ?_
    refine g_seq ?_
    refine g_block ?_
    refine g_seq ?_
    refine g_region ?_
    refine g_pure (p_indexAddr rfl rfl (by omega) (fun _ => r1)) rfl ?_
    refine g_pure (p_load (by rfl) rfl (Has.ro r2) hx) rfl ?_
    refine g_pure (p_assign rfl) rfl ?_
    refine g_nil ?_
    refine g_qt ?_
    refine g_seq ?_
    refine g_region ?_
    refine g_pure (p_move rfl) rfl ?_
    refine g_pure (p_lss rfl rfl) rfl ?_
    refine g_pure (p_move rfl) rfl ?_
    refine g_splitd rfl rfl (fun z => ?_) (fun z => ?_)
    · refine g_no rfl rfl rfl rfl ?_
      refine g_no rfl rfl rfl rfl ?_
      refine g_no rfl rfl rfl rfl ?_
      refine g_no rfl rfl rfl rfl ?_
      first | refine g_pure (p_pickt rfl rfl) rfl ?_ | refine g_pure (p_pickf rfl rfl) rfl ?_
      refine g_nil ?_
      refine g_qt ?_
      refine g_ift rfl ?_
      refine g_seq ?_
      refine g_region ?_
      refine g_pure (p_build (by rfl) rfl (by rfl)) rfl ?_
      first | refine g_eff0 (e_storeO rfl rfl (by rfl) (by rfl) (by rfl) (by repeat' (first | exact Take.here | apply Take.there)) (by rfl)) (fun _ _ => ?_) | refine g_eff0 (e_storeN rfl rfl (by rfl) (by rfl) (by rfl) (by repeat' (first | exact Take.here | apply Take.there)) (by simp)) (fun _ _ => ?_)
      rintro rfl
      refine g_pure (p_assign rfl) rfl ?_
      refine g_nil ?_
      refine g_qt ?_
      refine g_ret ?_
      refine g_qb_ret ?_
      refine g_qt_ret ?_
      refine g_qn_ret ?_
      refine g_qb_ret ?_
      refine g_qt_ret ?_
      exact g_post (Ho := []) (rs := [.cell 4 30, .tmp 5]) rfl (Res.cellN (by rfl) rfl (Has.own (by repeat' (first | exact Take.here | apply Take.there))) (by rfl) (.tmp rfl .nil)) ⟨rfl, rfl⟩ (by repeat' (first | exact Cover.nil | exact Take.here | apply Cover.cons | apply Take.there))
    · refine g_yes rfl rfl ?_
      refine g_pure (p_move rfl) rfl ?_
      refine g_yes rfl rfl ?_
      first | refine g_pure (p_quon rfl rfl (by omega) (by omega)) rfl ?_ | refine g_pure (p_quoi rfl rfl (by omega) (by omega)) rfl ?_ | refine g_pure (p_quo rfl rfl (by omega)) rfl ?_
      refine g_yes rfl rfl ?_
      refine g_pure (p_move rfl) rfl ?_
      refine g_yes rfl rfl ?_
      refine g_pure (p_geq rfl rfl) rfl ?_
      first | refine g_pure (p_pickt rfl rfl) rfl ?_ | refine g_pure (p_pickf rfl rfl) rfl ?_
      refine g_nil ?_
      refine g_qt ?_
      refine g_ifd rfl (fun z2 => ?_) (fun z2 => ?_)
      · refine g_seq ?_
        refine g_region ?_
        refine g_pure (p_build (by rfl) rfl (by rfl)) rfl ?_
        first | refine g_eff0 (e_storeO rfl rfl (by rfl) (by rfl) (by rfl) (by repeat' (first | exact Take.here | apply Take.there)) (by rfl)) (fun _ _ => ?_) | refine g_eff0 (e_storeN rfl rfl (by rfl) (by rfl) (by rfl) (by repeat' (first | exact Take.here | apply Take.there)) (by simp)) (fun _ _ => ?_)
        rintro rfl
        refine g_pure (p_assign rfl) rfl ?_
        refine g_nil ?_
        refine g_qt ?_
        refine g_ret ?_
        refine g_qb_ret ?_
        refine g_qt_ret ?_
        refine g_qn_ret ?_
        refine g_qb_ret ?_
        refine g_qt_ret ?_
        exact g_post (Ho := []) (rs := [.cell 4 30, .tmp 5]) rfl (Res.cellN (by rfl) rfl (Has.own (by repeat' (first | exact Take.here | apply Take.there))) (by rfl) (.tmp rfl .nil)) ⟨rfl, rfl⟩ (by repeat' (first | exact Cover.nil | exact Take.here | apply Cover.cons | apply Take.there))
      · refine g_skip ?_
        refine g_qb ?_
        refine g_qt ?_
        refine g_region ?_
        first | refine g_pure (p_addi rfl rfl (by omega)) rfl ?_ | refine g_pure (p_add rfl rfl) rfl ?_
        refine g_pure (p_move rfl) rfl ?_
        refine g_nil ?_
        refine g_qn ?_
        exact g_next (i + 1) (by (repeat (first | exact trivial | refine ⟨by rfl, ?_⟩)); done) (by repeat' (first | exact Cover.nil | exact Take.here | apply Cover.cons | apply Take.there)) ⟨by omega, hnx ⟨by omega, by omega⟩⟩ (by omega)
  · have hie : i = rs.length := by omega
    subst hie
    rw [List.take_length] at hall
    exact absurd hall hr

theorem dsame_ok {ρ : Nat → Obj → Prop} (n : Int) (ca cb : Option Addr) (cc cd : Nat) (F : Fm) (hA : FmR ρ ca F) (hB : FmR ρ cb F) :
    Con Tryz.prog ρ 14 #[.agg #[.int .i64 n, .slice ca F.length cc], .agg #[.int .i64 n, .slice cb F.length cd]] [] (fun v H => v = .bool true ∧ H = []) := by
  have hlen := hA.len
  refine con_intro Tryz.func14 Tryz.call14 rfl Tryz.ntmps14 rfl (L := [(0, _), (1, _)]) rfl fun w hh => ?_
  refine g_seq ?_
  refine g_region ?_
  refine g_eff (e_box rfl (by rfl)) rfl (fun _ _ => ?_)
  rintro ⟨b2, rfl, rfl⟩
  refine g_eff (e_box rfl (by rfl)) rfl (fun _ _ => ?_)
  rintro ⟨b3, rfl, rfl⟩
  refine g_pure (p_assign rfl) rfl ?_
  refine g_nil ?_
  refine g_qt ?_
  refine g_seq ?_
  refine g_seq ?_
  refine g_region ?_
  refine g_pure (p_fieldAddr rfl) rfl ?_
  refine g_pure (p_load (by rfl) rfl (by first | (apply Has.own; (repeat' (first | exact Take.here | apply Take.there)); done) | exact Has.ro (by assumption)) (by first | rfl | assumption)) rfl ?_
  refine g_pure (p_fieldAddr rfl) rfl ?_
  refine g_pure (p_load (by rfl) rfl (by first | (apply Has.own; (repeat' (first | exact Take.here | apply Take.there)); done) | exact Has.ro (by assumption)) (by first | rfl | assumption)) rfl ?_
  refine g_pure (p_neqF rfl rfl rfl) rfl ?_
  refine g_pure (p_move rfl) rfl ?_
  refine g_yes rfl rfl ?_
  refine g_pure (p_fieldAddr rfl) rfl ?_
  refine g_yes rfl rfl ?_
  refine g_pure (p_load (by rfl) rfl (by first | (apply Has.own; (repeat' (first | exact Take.here | apply Take.there)); done) | exact Has.ro (by assumption)) (by first | rfl | assumption)) rfl ?_
  refine g_yes rfl rfl ?_
  refine g_pure (p_len (by rfl) rfl) rfl ?_
  refine g_yes rfl rfl ?_
  refine g_pure (p_fieldAddr rfl) rfl ?_
  refine g_yes rfl rfl ?_
  refine g_pure (p_load (by rfl) rfl (by first | (apply Has.own; (repeat' (first | exact Take.here | apply Take.there)); done) | exact Has.ro (by assumption)) (by first | rfl | assumption)) rfl ?_
  refine g_yes rfl rfl ?_
  refine g_pure (p_len (by rfl) rfl) rfl ?_
  refine g_yes rfl rfl ?_
  refine g_pure (p_neqF rfl rfl rfl) rfl ?_
  first | refine g_pure (p_pickt rfl rfl) rfl ?_ | refine g_pure (p_pickf rfl rfl) rfl ?_
  refine g_nil ?_
  refine g_qt ?_
  refine g_iff rfl ?_
  refine g_skip ?_
  refine g_qt ?_
  refine g_seq ?_
  refine g_seq ?_
  refine g_region ?_
  refine g_pure (p_assign rfl) rfl ?_
  refine g_nil ?_
  refine g_qt ?_
  refine g_block ?_
  refine g_loop (fun i : Nat => [(2, .pointer (some ⟨b2, 0, none⟩)), (3, .pointer (some ⟨b3, 0, none⟩)), (5, .int .i64 i)])
    (fun _ => [Blk b2 (.cells [.int .i64 n, .slice ca F.length cc].toArray 30 (0, 0)), Blk b3 (.cells [.int .i64 n, .slice cb F.length cd].toArray 30 (0, 0))]) (fun i => i ≤ F.length) (fun i => F.length - i) 0 (Nat.zero_le _) (by (repeat (first | exact trivial | refine ⟨by rfl, ?_⟩)); done) (by repeat' (first | exact Cover.nil | exact Take.here | apply Cover.cons | apply Take.there)) ?_
  intro i hi
  refine g_seq ?_
  refine g_seq ?_
  refine g_region ?_
  refine g_pure (p_move rfl) rfl ?_
  refine g_pure (p_fieldAddr rfl) rfl ?_
  refine g_pure (p_load (by rfl) rfl (by first | (apply Has.own; (repeat' (first | exact Take.here | apply Take.there)); done) | exact Has.ro (by assumption)) (by first | rfl | assumption)) rfl ?_
  refine g_pure (p_len (by rfl) rfl) rfl ?_
  refine g_pure (p_lss rfl rfl) rfl ?_
  refine g_nil ?_
  refine g_qt ?_
  refine g_ifd rfl (fun q => ?_) (fun q => ?_)
  · have hil : i < F.length := by omega
    obtain ⟨b, off, cs, T1, fz, r1, r2, r3⟩ := hA.at (by omega)
    obtain ⟨ai, ci, x1', hrow⟩ := r3 i hil
    have x1 : cs[off + (i : Int).toNat * 1]? = some (.slice ai F[i].length ci) := x1'
    obtain ⟨b', off', cs', T1', fz', s1, s2, s3⟩ := hB.at (by omega)
    obtain ⟨bi, di, y1', hrow2⟩ := s3 i hil
    have y1 : cs'[off' + (i : Int).toNat * 1]? = some (.slice bi F[i].length di) := y1'
    have hcl := hA.lens _ (List.getElem_mem hil)
    refine g_skip ?_
    refine g_qt ?_
    refine g_seq ?_
    refine g_block ?_
    refine g_seq ?_
    refine g_seq ?_
    refine m_begin0 (.fl 0 0 (.fl 1 1 (.fl 2 0 (.fl 3 0 (.fl 4 1 (.fl 5 0 (.fl 6 0 (.fl 7 1 (.fl 8 0 (.fl 9 0 (.fl 10 1 (.fl 11 0 (.fl 12 0 .done))))))))))))) (by kernel_rfl) (by kernel_rfl) ?_
    refine m_float0 rfl (fun _ _ => p_fieldAddr rfl) rfl ?_
    refine m_float rfl (p_load (by rfl) rfl (by first | (apply Has.own; (repeat' (first | exact Take.here | apply Take.there)); done) | exact Has.ro (by assumption)) (by first | rfl | assumption)) rfl ?_
    refine m_float0 rfl (fun _ _ => p_move rfl) rfl ?_
    refine m_float0 rfl (fun _ _ => p_indexAddr rfl rfl (by omega) (fun _ => r1)) rfl ?_
    refine m_float rfl (p_load (by rfl) rfl (Has.ro r2) x1) rfl ?_
    refine m_float0 rfl (fun _ _ => p_len (by rfl) rfl) rfl ?_
    refine m_float0 rfl (fun _ _ => p_fieldAddr rfl) rfl ?_
    refine m_float rfl (p_load (by rfl) rfl (by first | (apply Has.own; (repeat' (first | exact Take.here | apply Take.there)); done) | exact Has.ro (by assumption)) (by first | rfl | assumption)) rfl ?_
    refine m_float0 rfl (fun _ _ => p_move rfl) rfl ?_
    refine m_float0 rfl (fun _ _ => p_indexAddr rfl rfl (by omega) (fun _ => s1)) rfl ?_
    refine m_float rfl (p_load (by rfl) rfl (Has.ro s2) y1) rfl ?_
    refine m_float0 rfl (fun _ _ => p_len (by rfl) rfl) rfl ?_
    refine m_float0 rfl (fun _ _ => p_neqF rfl rfl rfl) rfl ?_
    refine m_nil ?_
    refine g_qt ?_
    refine g_iff rfl ?_
    refine g_skip ?_
    refine g_qt ?_
    refine g_seq ?_
    refine g_region ?_
    refine g_pure (p_assign rfl) rfl ?_
    refine g_nil ?_
    refine g_qt ?_
    refine g_block ?_
    refine g_loop (fun j : Nat => [(2, .pointer (some ⟨b2, 0, none⟩)), (3, .pointer (some ⟨b3, 0, none⟩)), (5, .int .i64 i), (6, .int .i64 j)])
      (fun _ => [Blk b2 (.cells [.int .i64 n, .slice ca F.length cc].toArray 30 (0, 0)), Blk b3 (.cells [.int .i64 n, .slice cb F.length cd].toArray 30 (0, 0))]) (fun j => j ≤ F[i].length) (fun j => F[i].length - j) 0 (Nat.zero_le _) (by (repeat (first | exact trivial | refine ⟨by rfl, ?_⟩)); done) (by repeat' (first | exact Cover.nil | exact Take.here | apply Cover.cons | apply Take.there)) ?_
    intro j hj
    refine g_seq ?_
    refine g_seq ?_
    refine g_region ?_
    refine g_pure (p_move rfl) rfl ?_
    refine g_pure (p_fieldAddr rfl) rfl ?_
    refine g_pure (p_load (by rfl) rfl (by first | (apply Has.own; (repeat' (first | exact Take.here | apply Take.there)); done) | exact Has.ro (by assumption)) (by first | rfl | assumption)) rfl ?_
    refine g_pure (p_move rfl) rfl ?_
    refine g_pure (p_indexAddr rfl rfl (by omega) (fun _ => r1)) rfl ?_
    refine g_pure (p_load (by rfl) rfl (Has.ro r2) x1) rfl ?_
    refine g_pure (p_len (by rfl) rfl) rfl ?_
    refine g_pure (p_lss rfl rfl) rfl ?_
    refine g_nil ?_
    refine g_qt ?_
    refine g_ifd rfl (fun q2 => ?_) (fun q2 => ?_)
    · have hjl : j < F[i].length := by omega
      obtain ⟨_, c1, o1, k1, T3, f3, hk1⟩ := hrow
      obtain ⟨t1, t2, t3⟩ := hk1 (by omega)
      obtain ⟨_, c2, o2, k2, T4, f4, hk2⟩ := hrow2
      obtain ⟨u1, u2, u3⟩ := hk2 (by omega)
      have e1 : k1[o1 + (j : Int).toNat * 1]? = some (.int .i64 F[i][j]) := by simpa [encI, List.getElem?_eq_getElem hjl] using t3 j (.int .i64 F[i][j]) (by simp [List.getElem?_eq_getElem hjl, encI])
      have e2 : k2[o2 + (j : Int).toNat * 1]? = some (.int .i64 F[i][j]) := by simpa [encI, List.getElem?_eq_getElem hjl] using u3 j (.int .i64 F[i][j]) (by simp [List.getElem?_eq_getElem hjl, encI])
      refine g_skip ?_
      refine g_qt ?_
      refine g_seq ?_
      refine g_block ?_
      refine g_seq ?_
      refine m_begin0 (.fl 0 0 (.fl 1 1 (.fl 2 0 (.fl 3 0 (.fl 4 1 (.fl 5 0 (.fl 6 0 (.fl 7 1 (.fl 8 0 (.fl 9 1 (.fl 10 0 (.fl 11 0 (.fl 12 1 (.fl 13 0 (.fl 14 0 (.fl 15 1 (.fl 16 0 .done))))))))))))))))) (by kernel_rfl) (by kernel_rfl) ?_
      refine m_float0 rfl (fun _ _ => p_fieldAddr rfl) rfl ?_
      refine m_float rfl (p_load (by rfl) rfl (by first | (apply Has.own; (repeat' (first | exact Take.here | apply Take.there)); done) | exact Has.ro (by assumption)) (by first | rfl | assumption)) rfl ?_
      refine m_float0 rfl (fun _ _ => p_move rfl) rfl ?_
      refine m_float0 rfl (fun _ _ => p_indexAddr rfl rfl (by omega) (fun _ => r1)) rfl ?_
      refine m_float rfl (p_load (by rfl) rfl (Has.ro r2) x1) rfl ?_
      refine m_float0 rfl (fun _ _ => p_move rfl) rfl ?_
      refine m_float0 rfl (fun _ _ => p_indexAddr rfl rfl (by omega) (fun _ => t1)) rfl ?_
      refine m_float rfl (p_load (by rfl) rfl (Has.ro t2) e1) rfl ?_
      refine m_float0 rfl (fun _ _ => p_fieldAddr rfl) rfl ?_
      refine m_float rfl (p_load (by rfl) rfl (by first | (apply Has.own; (repeat' (first | exact Take.here | apply Take.there)); done) | exact Has.ro (by assumption)) (by first | rfl | assumption)) rfl ?_
      refine m_float0 rfl (fun _ _ => p_move rfl) rfl ?_
      refine m_float0 rfl (fun _ _ => p_indexAddr rfl rfl (by omega) (fun _ => s1)) rfl ?_
      refine m_float rfl (p_load (by rfl) rfl (Has.ro s2) y1) rfl ?_
      refine m_float0 rfl (fun _ _ => p_move rfl) rfl ?_
      refine m_float0 rfl (fun _ _ => p_indexAddr rfl rfl (by omega) (fun _ => u1)) rfl ?_
      refine m_float rfl (p_load (by rfl) rfl (Has.ro u2) e2) rfl ?_
      refine m_float0 rfl (fun _ _ => p_neqF rfl rfl rfl) rfl ?_
      refine m_nil ?_
      refine g_qt ?_
      refine g_iff rfl ?_
      refine g_skip ?_
      refine g_qb ?_
      refine g_qt ?_
      refine g_region ?_
      refine g_pure (p_move rfl) rfl ?_
      first | refine g_pure (p_addi rfl rfl (by omega)) rfl ?_ | refine g_pure (p_add rfl rfl) rfl ?_
      refine g_pure (p_assign rfl) rfl ?_
      refine g_nil ?_
      refine g_qn ?_
      exact g_next (j + 1) (by (repeat (first | exact trivial | refine ⟨by rfl, ?_⟩)); done) (by repeat' (first | exact Cover.nil | exact Take.here | apply Cover.cons | apply Take.there)) (by omega) (by omega)
    · refine g_exit ?_
      refine g_qt_exit ?_
      refine g_qn_exit ?_
      refine g_qb_exit ?_
      refine g_qb ?_
      refine g_qt ?_
      refine g_region ?_
      refine g_pure (p_move rfl) rfl ?_
      first | refine g_pure (p_addi rfl rfl (by omega)) rfl ?_ | refine g_pure (p_add rfl rfl) rfl ?_
      refine g_pure (p_assign rfl) rfl ?_
      refine g_nil ?_
      refine g_qn ?_
      exact g_next (i + 1) (by (repeat (first | exact trivial | refine ⟨by rfl, ?_⟩)); done) (by repeat' (first | exact Cover.nil | exact Take.here | apply Cover.cons | apply Take.there)) (by omega) (by omega)
  · refine g_exit ?_
    refine g_qt_exit ?_
    refine g_qn_exit ?_
    refine g_qb_exit ?_
    refine g_qt ?_
    refine g_seq ?_
    refine g_region ?_
    refine g_pure (p_assign rfl) rfl ?_
    refine g_nil ?_
    refine g_qt ?_
    refine g_ret ?_
    exact g_post (Ho := []) (rs := [.tmp 4]) rfl (.tmp rfl .nil) ⟨rfl, rfl⟩ (by repeat' (first | exact Cover.nil | exact Take.here | apply Cover.cons | apply Take.there))
end Go.Proofs.YtopgbgnmjogeeaaGreatDoor
/- Chapter 36: the law's literals, inputs, gates and values. Conditions: none. -/
namespace Go.Z.Tse
set_option maxRecDepth 8000
set_option linter.unusedVariables false
set_option linter.unusedSimpArgs false
set_option linter.unusedSectionVars false
open Go Go.Z Go.Z.Aig Go.Proofs.YtopgbgnmjogeeaaGreatDoor
def bitsF (inp : List Bool) (n : Nat) : List Bool := inp.take n ++ List.replicate (n - inp.length) false
theorem bitsF_len (inp : List Bool) (n : Nat) : (bitsF inp n).length = n := by simp [bitsF]; omega
def bitsW (inp : List Bool) (n i : Nat) : List Bool := inp.take i ++ List.replicate (n - i) false
theorem bitsW_zero (inp : List Bool) (n : Nat) : bitsW inp n 0 = List.replicate n false := by simp [bitsW]
theorem bitsW_len {inp : List Bool} {n i : Nat} (h1 : i ≤ inp.length) (h2 : i ≤ n) : (bitsW inp n i).length = n := by simp [bitsW]; omega
theorem bitsW_set {inp : List Bool} {n i : Nat} (h1 : i < inp.length) (h2 : i < n) : (bitsW inp n i).set i inp[i] = bitsW inp n (i + 1) := by
  unfold bitsW
  obtain ⟨k, hk⟩ : ∃ k, n - i = k + 1 := ⟨n - i - 1, by omega⟩
  have e : inp.take (i + 1) = inp.take i ++ [inp[i]] := by rw [List.take_add_one, List.getElem?_eq_getElem h1]; rfl
  have hl : (inp.take i).length = i := by rw [List.length_take]; omega
  rw [hk, show n - (i + 1) = k by omega, List.replicate_succ, e, List.append_assoc, List.set_append_right _ _ (by omega), hl, Nat.sub_self]
  rfl
theorem bitsW_end {inp : List Bool} {n i : Nat} (h1 : i ≤ inp.length) (h2 : i ≤ n) (h : i = inp.length ∨ i = n) : bitsW inp n i = bitsF inp n := by
  unfold bitsW bitsF
  rcases h with rfl | rfl
  · rw [List.take_of_length_le (Nat.le_refl _), List.take_of_length_le h2]
  · rw [Nat.sub_self, show i - inp.length = 0 by omega]
def varsL (k : Nat) : List Int := (List.range k).map fun j : Nat => 2 * ((j : Int) + 1)
theorem varsL_len (k : Nat) : (varsL k).length = k := by simp [varsL]
theorem varsL_succ (k : Nat) : varsL (k + 1) = varsL k ++ [2 * ((k : Int) + 1)] := by simp [varsL, List.range_succ]
theorem varsL_mem {k : Nat} {x : Int} (h : x ∈ varsL k) : 2 ≤ x ∧ x ≤ 2 * (k : Int) := by
  obtain ⟨j, hj, rfl⟩ := List.mem_map.1 h
  have := List.mem_range.1 hj
  omega
theorem vals_vars {S : St} (hw : WF S) (inp : List Bool) : (varsL (S.length - 1)).map (litv (vals S inp)) = (vals S inp).drop 1 := by
  have hl := vals_len hw inp
  apply List.ext_getElem
  · simp [varsL, hl]
  · intro i h1 h2
    simp only [varsL, List.map_map, List.getElem_map, List.getElem_range, Function.comp, List.getElem_drop]
    unfold litv
    rw [show ((2 * ((i : Int) + 1)) / 2).toNat = 1 + i by omega, decide_eq_false (by omega), List.getD_eq_getElem?_getD, List.getElem?_eq_getElem (by simp at h2; omega)]
    simp
theorem eval_vars {S : St} (hw : WF S) {inp : List Bool} (hi : inp.length = (ins 0 S).length) : eval1 S inp (varsL (S.length - 1)) = ((vals S inp).drop 1, 0) := by
  have hp := hw.pos
  unfold eval1
  rw [if_neg (by omega), if_pos, vals_vars hw]
  rw [List.all_eq_true]
  intro x hx
  have := varsL_mem hx
  exact hasB_iff.2 ⟨by omega, by omega⟩
def isV (S : St) (k : Nat) : List Bool := (List.range k).map fun v : Nat => (gate1 S (v : Int)).2.2
def aV (S : St) (k : Nat) : List Int := (List.range k).map fun v : Nat => (gate1 S (v : Int)).1
def bV (S : St) (k : Nat) : List Int := (List.range k).map fun v : Nat => (gate1 S (v : Int)).2.1
theorem isV_succ (S : St) (k : Nat) : isV S (k + 1) = isV S k ++ [(gate1 S (k : Int)).2.2] := by simp [isV, List.range_succ]
theorem aV_succ (S : St) (k : Nat) : aV S (k + 1) = aV S k ++ [(gate1 S (k : Int)).1] := by simp [aV, List.range_succ]
theorem bV_succ (S : St) (k : Nat) : bV S (k + 1) = bV S k ++ [(gate1 S (k : Int)).2.1] := by simp [bV, List.range_succ]
end Go.Z.Tse
namespace Go.Proofs.YtopgbgnmjogeeaaGreatDoor
set_option maxRecDepth 8000
set_option linter.unusedVariables false
set_option linter.unusedSimpArgs false
set_option linter.unusedSectionVars false
open Go Go.Z Go.Z.Aig Go.Z.Tse Go.Z.Sat

theorem lits36_ok {ρ : Nat → Obj → Prop} (al : Option Addr) (cl : Nat) (rs : List Int) (hl : RSl ρ 1 al rs.length (rs.map encI)) (hlen : rs.length ≤ 9223372036854775807) :
    Con Tryz.prog ρ 11 #[.slice al rs.length cl] [] (fun v H => ∃ a c, v = .slice a (rs.take 20).length c ∧ H = [OwnSl 59 1 a (rs.take 20).length c ((rs.take 20).map encI)]) := by
  obtain ⟨_, b, off, cs, T, fz, hr⟩ := hl
  refine con_intro Tryz.func11 Tryz.call11 rfl Tryz.ntmps11 rfl (L := [(0, _)]) rfl fun w hh => ?_
  refine g_seq ?_
  refine g_region ?_
  refine g_pure (p_assign rfl) rfl ?_
  refine g_nil ?_
  refine g_qt ?_
  refine g_seq ?_
  refine g_region ?_
  refine g_pure (p_assign rfl) rfl ?_
  refine g_nil ?_
  refine g_qt ?_
  refine g_seq ?_
  refine g_seq ?_
  refine g_region ?_
  refine g_pure (p_assign rfl) rfl ?_
  refine g_nil ?_
  refine g_qt ?_
  refine g_block ?_
  refine g_ownnil (e := 59) (size := 1) ?_
  refine g_loop (fun q : Nat × Option Addr × Nat => [(0, .slice al rs.length cl), (3, .slice q.2.1 (rs.take q.1).length q.2.2), (4, .int .i64 q.1)])
    (fun q => [OwnSl 59 1 q.2.1 (rs.take q.1).length q.2.2 ((rs.take q.1).map encI)]) (fun q => q.1 ≤ rs.length ∧ q.1 ≤ 20) (fun q => 20 - q.1) (0, none, 0) ⟨Nat.zero_le _, Nat.zero_le _⟩ (by (repeat (first | exact trivial | refine ⟨by rfl, ?_⟩)); done) (by repeat' (first | exact Cover.nil | exact Take.here | apply Cover.cons | apply Take.there)) ?_
  rintro ⟨i, a, c⟩ ⟨hi, h20⟩
  dsimp only at hi h20 ⊢
  have hti : (rs.take i).length = i := by rw [List.length_take]; omega
  have hend : i = rs.length ∨ i = 20 → rs.take i = rs.take 20 := fun h => by
    rcases h with rfl | rfl
    · rw [List.take_of_length_le (Nat.le_refl _), List.take_of_length_le h20]
    · rfl
  refine g_seq ?_
  refine g_seq ?_
  refine g_region ?_
  refine g_pure (p_move rfl) rfl ?_
  refine g_pure (p_move rfl) rfl ?_
  refine g_pure (p_len (by rfl) rfl) rfl ?_
  refine g_pure (p_lss rfl rfl) rfl ?_
  refine g_pure (p_move rfl) rfl ?_
  refine g_splitd rfl rfl (fun q => ?_) (fun q => ?_)
  · have hil : i < rs.length := by omega
    refine g_yes rfl rfl ?_
    refine g_pure (p_move rfl) rfl ?_
    refine g_yes rfl rfl ?_
    refine g_pure (p_lss rfl rfl) rfl ?_
    first | refine g_pure (p_pickt rfl rfl) rfl ?_ | refine g_pure (p_pickf rfl rfl) rfl ?_
    refine g_nil ?_
    refine g_qt ?_
    refine g_ifd rfl (fun q2 => ?_) (fun q2 => ?_)
    · obtain ⟨r1, r2, r3⟩ := hr (by omega)
      have hx : cs[off + (i : Int).toNat * 1]? = some (.int .i64 rs[i]) := by simpa [encI, List.getElem?_eq_getElem hil] using r3 i (.int .i64 rs[i]) (by simp [List.getElem?_eq_getElem hil, encI])
      have e3 : (rs.take i).map encI ++ [.int .i64 rs[i]] = (rs.take (i + 1)).map encI := by
        rw [List.take_add_one, List.getElem?_eq_getElem hil, List.map_append]; rfl
      have e4 : (rs.take i).length + 1 = (rs.take (i + 1)).length := by rw [hti, List.length_take]; omega
      refine g_skip ?_
      refine g_qt ?_
      refine g_seq ?_
      refine g_block ?_
      refine g_region ?_
      refine g_pure (p_move rfl) rfl ?_
      refine g_pure (p_move rfl) rfl ?_
      refine g_pure (p_move rfl) rfl ?_
      refine g_pure (p_indexAddr rfl rfl (by omega) (fun _ => r1)) rfl ?_
      refine g_pure (p_load (by rfl) rfl (Has.ro r2) hx) rfl ?_
      refine g_eff (e_bs (xs := [.tmp 19]) rfl rfl rfl (by rfl) (by rfl) rfl (by rfl)) rfl (fun _ _ => ?_)
      rintro ⟨b20, rfl, rfl⟩
      refine g_eff (e_appendO (by rfl) (by rfl) rfl rfl (by first | (apply Has.own; (repeat' (first | exact Take.here | apply Take.there)); done) | exact Has.ro (by assumption)) (by rfl) (by rfl) (by repeat' (first | exact Take.here | apply Take.there)) (by omega) (by first | omega | (dsimp only; omega) | (simp <;> omega)) (by omega)) rfl (fun _ _ => ?_)
      rintro ⟨a21, c21, rfl, rfl⟩
      refine g_pure (p_assign rfl) rfl ?_
      refine g_nil ?_
      refine g_qb ?_
      refine g_qt ?_
      refine g_region ?_
      refine g_pure (p_move rfl) rfl ?_
      first | refine g_pure (p_addi rfl rfl (by omega)) rfl ?_ | refine g_pure (p_add rfl rfl) rfl ?_
      refine g_pure (p_assign rfl) rfl ?_
      refine g_nil ?_
      refine g_qn ?_
      rw [e3, e4]
      exact g_next (i + 1, a21, c21) (by (repeat (first | exact trivial | refine ⟨by rfl, ?_⟩)); done) (by repeat' (first | exact Cover.nil | exact Take.here | apply Cover.cons | apply Take.there)) ⟨by dsimp only; omega, by dsimp only; omega⟩ (by dsimp only; omega)
    · rw [hend (.inr (by omega))]
      refine g_exit ?_
      refine g_qt_exit ?_
      refine g_qn_exit ?_
      refine g_qb_exit ?_
      refine g_qt ?_
      refine g_seq ?_
      refine g_region ?_
      refine g_pure (p_move rfl) rfl ?_
      refine g_pure (p_assign rfl) rfl ?_
      refine g_nil ?_
      refine g_qt ?_
      refine g_ret ?_
      exact g_post (Ho := [OwnSl 59 1 a (rs.take 20).length c ((rs.take 20).map encI)]) (rs := [.tmp 2]) rfl (.tmp rfl .nil) ⟨a, c, rfl, rfl⟩ (by repeat' (first | exact Cover.nil | exact Take.here | apply Cover.cons | apply Take.there))
  · rw [hend (.inl (by omega))]
    refine g_no rfl rfl rfl rfl ?_
    refine g_no rfl rfl rfl rfl ?_
    first | refine g_pure (p_pickt rfl rfl) rfl ?_ | refine g_pure (p_pickf rfl rfl) rfl ?_
    refine g_nil ?_
    refine g_qt ?_
    refine g_iff rfl ?_
    refine g_exit ?_
    refine g_qt_exit ?_
    refine g_qn_exit ?_
    refine g_qb_exit ?_
    refine g_qt ?_
    refine g_seq ?_
    refine g_region ?_
    refine g_pure (p_move rfl) rfl ?_
    refine g_pure (p_assign rfl) rfl ?_
    refine g_nil ?_
    refine g_qt ?_
    refine g_ret ?_
    exact g_post (Ho := [OwnSl 59 1 a (rs.take 20).length c ((rs.take 20).map encI)]) (rs := [.tmp 2]) rfl (.tmp rfl .nil) ⟨a, c, rfl, rfl⟩ (by repeat' (first | exact Cover.nil | exact Take.here | apply Cover.cons | apply Take.there))

theorem bits36_ok {ρ : Nat → Obj → Prop} (ia : Option Addr) (ic : Nat) (inp : List Bool) (hin : RSl ρ 1 ia inp.length (inp.map encB)) (hlen : inp.length ≤ 9223372036854775807) (n : Nat) (hn : n ≤ 1000000) :
    Con Tryz.prog ρ 24 #[.slice ia inp.length ic, .int .i64 n] [] (fun v H => ∃ a c, v = .slice a n c ∧ H = [OwnSl 4 1 a n c ((bitsF inp n).map encB)]) := by
  obtain ⟨_, b, off, cs, T, fz, hr⟩ := hin
  refine con_intro Tryz.func24 Tryz.call24 rfl Tryz.ntmps24 rfl (L := [(0, _), (1, _)]) rfl fun w hh => ?_
  refine g_seq ?_
  refine g_region ?_
  refine g_pure (p_assign rfl) rfl ?_
  refine g_nil ?_
  refine g_qt ?_
  refine g_seq ?_
  refine g_region ?_
  refine g_pure (p_move rfl) rfl ?_
  refine g_eff (e_make (by rfl) (by rfl) rfl rfl (by omega) (by first | omega | (dsimp only; omega)) (by omega)) rfl (fun _ _ => ?_)
  rintro ⟨b8, rfl, rfl⟩
  refine g_pure (p_assign rfl) rfl ?_
  refine g_nil ?_
  refine g_qt ?_
  refine g_seq ?_
  refine g_seq ?_
  refine g_region ?_
  refine g_pure (p_assign rfl) rfl ?_
  refine g_nil ?_
  refine g_qt ?_
  refine g_block ?_
  have hreps : List.replicate (n : Int).toNat (Value.bool false) = (bitsW inp n 0).map encB := by rw [bitsW_zero]; simp [encB]
  rw [hreps, Int.toNat_natCast]
  refine g_loop (fun i : Nat => [(0, .slice ia inp.length ic), (1, .int .i64 n), (5, .slice (some ⟨b8, 0, none⟩) n n), (6, .int .i64 i)])
    (fun i => [Blk b8 (.cells ((bitsW inp n i).map encB).toArray 4 (0, 0))]) (fun i => i ≤ inp.length ∧ i ≤ n) (fun i => n - i) 0 ⟨Nat.zero_le _, Nat.zero_le _⟩ (by (repeat (first | exact trivial | refine ⟨by rfl, ?_⟩)); done) (by repeat' (first | exact Cover.nil | exact Take.here | apply Cover.cons | apply Take.there)) ?_
  rintro i ⟨hi, hin2⟩
  have hwl := bitsW_len hi hin2
  have hfl := bitsF_len inp n
  refine g_seq ?_
  refine g_seq ?_
  refine g_region ?_
  refine g_pure (p_move rfl) rfl ?_
  refine g_pure (p_move rfl) rfl ?_
  refine g_pure (p_len (by rfl) rfl) rfl ?_
  refine g_pure (p_lss rfl rfl) rfl ?_
  refine g_pure (p_move rfl) rfl ?_
  refine g_splitd rfl rfl (fun q => ?_) (fun q => ?_)
  · have hil : i < inp.length := by omega
    refine g_yes rfl rfl ?_
    refine g_pure (p_move rfl) rfl ?_
    refine g_yes rfl rfl ?_
    refine g_pure (p_move rfl) rfl ?_
    refine g_yes rfl rfl ?_
    refine g_pure (p_lss rfl rfl) rfl ?_
    first | refine g_pure (p_pickt rfl rfl) rfl ?_ | refine g_pure (p_pickf rfl rfl) rfl ?_
    refine g_nil ?_
    refine g_qt ?_
    refine g_ifd rfl (fun q2 => ?_) (fun q2 => ?_)
    · have hinl : i < n := by omega
      obtain ⟨r1, r2, r3⟩ := hr (by omega)
      have hx : cs[off + (i : Int).toNat * 1]? = some (.bool inp[i]) := by simpa [encB, List.getElem?_eq_getElem hil] using r3 i (.bool inp[i]) (by simp [List.getElem?_eq_getElem hil, encB])
      refine g_skip ?_
      refine g_qt ?_
      refine g_seq ?_
      refine g_block ?_
      refine g_region ?_
      refine g_pure (p_move rfl) rfl ?_
      refine g_pure (p_move rfl) rfl ?_
      refine g_pure (p_move rfl) rfl ?_
      refine g_pure (p_move rfl) rfl ?_
      refine g_pure (p_indexAddr rfl rfl (by omega) (fun _ => r1)) rfl ?_
      refine g_pure (p_load (by rfl) rfl (Has.ro r2) hx) rfl ?_
      refine g_pure (p_indexAddr rfl rfl (by omega) (fun _ => rfl)) rfl ?_
      refine g_eff0 (e_store1 (by rfl) rfl rfl rfl (by repeat' (first | exact Take.here | apply Take.there)) (by show 0 + (i : Int).toNat * 1 < _; rw [List.length_map, hwl]; omega)) (fun _ _ => ?_)
      rintro rfl
      refine g_nil ?_
      refine g_qb ?_
      refine g_qt ?_
      refine g_region ?_
      refine g_pure (p_move rfl) rfl ?_
      first | refine g_pure (p_addi rfl rfl (by omega)) rfl ?_ | refine g_pure (p_add rfl rfl) rfl ?_
      refine g_pure (p_assign rfl) rfl ?_
      refine g_nil ?_
      refine g_qn ?_
      have e5 : ((bitsW inp n i).map encB).set (0 + (i : Int).toNat * 1) (Value.bool inp[i]) = (bitsW inp n (i + 1)).map encB := by
        rw [show 0 + (i : Int).toNat * 1 = i by omega, ← bitsW_set hil hinl, List.map_set]; rfl
      rw [e5]
      exact g_next (i + 1) (by (repeat (first | exact trivial | refine ⟨by rfl, ?_⟩)); done) (by repeat' (first | exact Cover.nil | exact Take.here | apply Cover.cons | apply Take.there)) ⟨by omega, by omega⟩ (by omega)
    · rw [bitsW_end hi hin2 (.inr (by omega))]
      refine g_exit ?_
      refine g_qt_exit ?_
      refine g_qn_exit ?_
      refine g_qb_exit ?_
      refine g_qt ?_
      refine g_seq ?_
      refine g_region ?_
      refine g_pure (p_move rfl) rfl ?_
      refine g_pure (p_assign rfl) rfl ?_
      refine g_nil ?_
      refine g_qt ?_
      refine g_ret ?_
      refine g_fold (k := n) (cap := n) (size := 1) (g := b8) (xs := (bitsF inp n).map encB) (by repeat' (first | exact Take.here | apply Take.there)) (Nat.le_refl _) (by have h : maxLen = 9223372036854775807 := rfl; omega) (by rw [List.length_map, hfl, Nat.mul_one]) (by rw [List.take_of_length_le (by rw [List.length_map, hfl]; omega)]) ?_
      exact g_post (Ho := [OwnSl 4 1 (some ⟨b8, 0, none⟩) n n ((bitsF inp n).map encB)]) (rs := [.tmp 4]) rfl (.tmp rfl .nil) ⟨_, _, rfl, rfl⟩ (by repeat' (first | exact Cover.nil | exact Take.here | apply Cover.cons | apply Take.there))
  · rw [bitsW_end hi hin2 (.inl (by omega))]
    refine g_no rfl rfl rfl rfl ?_
    refine g_no rfl rfl rfl rfl ?_
    refine g_no rfl rfl rfl rfl ?_
    first | refine g_pure (p_pickt rfl rfl) rfl ?_ | refine g_pure (p_pickf rfl rfl) rfl ?_
    refine g_nil ?_
    refine g_qt ?_
    refine g_iff rfl ?_
    refine g_exit ?_
    refine g_qt_exit ?_
    refine g_qn_exit ?_
    refine g_qb_exit ?_
    refine g_qt ?_
    refine g_seq ?_
    refine g_region ?_
    refine g_pure (p_move rfl) rfl ?_
    refine g_pure (p_assign rfl) rfl ?_
    refine g_nil ?_
    refine g_qt ?_
    refine g_ret ?_
    refine g_fold (k := n) (cap := n) (size := 1) (g := b8) (xs := (bitsF inp n).map encB) (by repeat' (first | exact Take.here | apply Take.there)) (Nat.le_refl _) (by have h : maxLen = 9223372036854775807 := rfl; omega) (by rw [List.length_map, hfl, Nat.mul_one]) (by rw [List.take_of_length_le (by rw [List.length_map, hfl]; omega)]) ?_
    exact g_post (Ho := [OwnSl 4 1 (some ⟨b8, 0, none⟩) n n ((bitsF inp n).map encB)]) (rs := [.tmp 4]) rfl (.tmp rfl .nil) ⟨_, _, rfl, rfl⟩ (by repeat' (first | exact Cover.nil | exact Take.here | apply Cover.cons | apply Take.there))

theorem all36_ok {ρ : Nat → Obj → Prop} (p : Nat) (S : St) (hw : WF S) (hg : Ro ρ (Gr p S)) (ia : Option Addr) (ic : Nat) (inp : List Bool) (hin : RSl ρ 1 ia inp.length (inp.map encB)) (hi : inp.length = (ins 0 S).length) :
    Con Tryz.prog ρ 23 #[.pointer (some ⟨p, 0, none⟩), .slice ia inp.length ic] [] (fun v H => ∃ a c, v = .tuple #[.slice a ((vals S inp).drop 1).length c, .bool true] ∧ H = [OwnSl 4 1 a ((vals S inp).drop 1).length c (((vals S inp).drop 1).map encB)]) := by
  have hlim := hw.lim
  have hp := hw.pos
  have hil := ins_le S 0
  have hvl : ((vals S inp).drop 1).length = S.length - 1 := by rw [List.length_drop, vals_len hw]
  refine con_intro Tryz.func23 Tryz.call23 rfl Tryz.ntmps23 rfl (L := [(0, _), (1, _)]) rfl fun w hh => ?_
  refine g_seq ?_
  refine g_region ?_
  refine g_pure (p_assign rfl) rfl ?_
  refine g_pure (p_assign rfl) rfl ?_
  refine g_nil ?_
  refine g_qt ?_
  refine g_seq ?_
  refine g_region ?_
  refine g_pure (p_assign rfl) rfl ?_
  refine g_nil ?_
  refine g_qt ?_
  refine g_seq ?_
  refine g_seq ?_
  refine g_region ?_
  refine g_pure (p_assign rfl) rfl ?_
  refine g_nil ?_
  refine g_qt ?_
  refine g_block ?_
  refine g_ownnil (e := 59) (size := 1) ?_
  refine g_loop (fun q : Nat × Option Addr × Nat => [(0, .pointer (some ⟨p, 0, none⟩)), (1, .slice ia inp.length ic), (6, .slice q.2.1 (varsL q.1).length q.2.2), (7, .int .i64 ((q.1 : Int) + 1))])
    (fun q => [OwnSl 59 1 q.2.1 (varsL q.1).length q.2.2 ((varsL q.1).map encI)]) (fun q => q.1 + 1 ≤ S.length) (fun q => S.length - q.1) (0, none, 0) (by dsimp only; omega) (by (repeat (first | exact trivial | refine ⟨by rfl, ?_⟩)); done) (by repeat' (first | exact Cover.nil | exact Take.here | apply Cover.cons | apply Take.there)) ?_
  rintro ⟨i, a, c⟩ hi2
  dsimp only at hi2 ⊢
  have hvi := varsL_len i
  refine g_seq ?_
  refine g_seq ?_
  refine g_region ?_
  refine g_pure (p_move rfl) rfl ?_
  refine g_pure (p_move rfl) rfl ?_
  refine g_call (Hin := []) (Hr := ?hr1) (R := ?rr1) rfl rfl rfl ?hin1 ?hc1 ?hk1
  case hin1 => repeat' (first | exact Cover.nil | exact Take.here | apply Cover.cons | apply Take.there)
  case hc1 => intro ρ' hρ hR; exact glen_ok p S (hg.mono hρ)
  rintro _ _ ⟨rfl, rfl⟩
  refine g_pure (p_lss rfl rfl) rfl ?_
  refine g_nil ?_
  refine g_qt ?_
  refine g_ifd rfl (fun q => ?_) (fun q => ?_)
  · have e3 : (varsL i).map encI ++ [.int .i64 (2 * ((i : Int) + 1))] = (varsL (i + 1)).map encI := by rw [varsL_succ, List.map_append]; rfl
    have e4 : (varsL i).length + 1 = (varsL (i + 1)).length := by rw [varsL_len, varsL_len]
    have e5 : (i : Int) + 1 + 1 = ((i + 1 : Nat) : Int) + 1 := by omega
    refine g_skip ?_
    refine g_qt ?_
    refine g_seq ?_
    refine g_block ?_
    refine g_region ?_
    refine g_pure (p_move rfl) rfl ?_
    refine g_pure (p_move rfl) rfl ?_
    first | refine g_pure (p_muli rfl rfl (by omega)) rfl ?_ | refine g_pure (p_mul rfl rfl) rfl ?_
    refine g_eff (e_bs (xs := [.tmp 18]) rfl rfl rfl (by rfl) (by rfl) rfl (by rfl)) rfl (fun _ _ => ?_)
    rintro ⟨b19, rfl, rfl⟩
    refine g_eff (e_appendO (by rfl) (by rfl) rfl rfl (by first | (apply Has.own; (repeat' (first | exact Take.here | apply Take.there)); done) | exact Has.ro (by assumption)) (by rfl) (by rfl) (by repeat' (first | exact Take.here | apply Take.there)) (by omega) (by first | omega | (dsimp only; omega) | (simp <;> omega)) (by omega)) rfl (fun _ _ => ?_)
    rintro ⟨a20, c20, rfl, rfl⟩
    refine g_pure (p_assign rfl) rfl ?_
    refine g_nil ?_
    refine g_qb ?_
    refine g_qt ?_
    refine g_region ?_
    refine g_pure (p_move rfl) rfl ?_
    first | refine g_pure (p_addi rfl rfl (by omega)) rfl ?_ | refine g_pure (p_add rfl rfl) rfl ?_
    refine g_pure (p_assign rfl) rfl ?_
    refine g_nil ?_
    refine g_qn ?_
    rw [e3, e4, e5]
    exact g_next (i + 1, a20, c20) (by (repeat (first | exact trivial | refine ⟨by rfl, ?_⟩)); done) (by repeat' (first | exact Cover.nil | exact Take.here | apply Cover.cons | apply Take.there)) (by dsimp only; omega) (by dsimp only; omega)
  · have hie : i = S.length - 1 := by omega
    rw [hie]
    have hvI := varsL_len (S.length - 1)
    refine g_exit ?_
    refine g_qt_exit ?_
    refine g_qn_exit ?_
    refine g_qb_exit ?_
    refine g_qt ?_
    refine g_seq ?_
    refine g_region ?_
    refine g_pure (p_move rfl) rfl ?_
    refine g_pure (p_move rfl) rfl ?_
    refine g_pure (p_move rfl) rfl ?_
    refine g_call (Hin := []) (Hr := ?hr2) (R := ?rr2) rfl rfl rfl ?hin2 ?hc2 ?hk2
    case hin2 => repeat' (first | exact Cover.nil | exact Take.here | apply Cover.cons | apply Take.there)
    case hc2 => intro ρ' hρ hR; exact eval_at (ls := varsL (S.length - 1)) (eval_vars hw hi) (hin.mono hρ) (RSl.of_own (Take.ro (A := OwnSl 59 1 a (varsL (S.length - 1)).length c ((varsL (S.length - 1)).map encI)) (by repeat' (first | exact Take.here | apply Take.there)) hR)) (by omega) (by omega) (fun l hl => by have := varsL_mem hl; omega) (hg.mono hρ)
    rintro _ _ ⟨av, cv, rfl, rfl⟩
    refine g_pure (p_move rfl) rfl ?_
    refine g_pure (p_extract rfl rfl) rfl ?_
    refine g_pure (p_extract rfl rfl) rfl ?_
    refine g_pure (p_assign rfl) rfl ?_
    refine g_pure (p_assign rfl) rfl ?_
    refine g_nil ?_
    refine g_qt ?_
    refine g_seq ?_
    refine g_region ?_
    refine g_pure (p_move rfl) rfl ?_
    refine g_pure (p_move rfl) rfl ?_
    refine g_pure (p_eqlT rfl rfl rfl) rfl ?_
    refine g_pure (p_move rfl) rfl ?_
    refine g_yes rfl rfl ?_
    refine g_pure (p_move rfl) rfl ?_
    refine g_yes rfl rfl ?_
    refine g_pure (p_len (by rfl) rfl) rfl ?_
    refine g_yes rfl rfl ?_
    refine g_pure (p_move rfl) rfl ?_
    refine g_yes rfl rfl ?_
    refine g_pure (p_len (by rfl) rfl) rfl ?_
    refine g_yes rfl rfl ?_
    refine g_pure (p_eqlT rfl rfl (by rw [hvl, hvI])) rfl ?_
    first | refine g_pure (p_pickt rfl rfl) rfl ?_ | refine g_pure (p_pickf rfl rfl) rfl ?_
    refine g_pure (p_assign rfl) rfl ?_
    refine g_pure (p_assign rfl) rfl ?_
    refine g_nil ?_
    refine g_qt ?_
    refine g_ret ?_
    exact g_post (Ho := [OwnSl 4 1 av ((vals S inp).drop 1).length cv (((vals S inp).drop 1).map encB)]) (rs := [.tmp 4, .tmp 5]) rfl (.tmp rfl (.tmp rfl .nil)) ⟨av, cv, rfl, rfl⟩ (by repeat' (first | exact Cover.nil | exact Take.here | apply Cover.cons | apply Take.there))

theorem gates36_ok {ρ : Nat → Obj → Prop} (p : Nat) (S : St) (hw : WF S) (hg : Ro ρ (Gr p S)) :
    Con Tryz.prog ρ 13 #[.pointer (some ⟨p, 0, none⟩)] [] (fun v H => ∃ a1 c1 a2 c2 a3 c3, v = .agg #[.slice a1 S.length c1, .slice a2 S.length c2, .slice a3 S.length c3] ∧
      H = [OwnSl 4 1 a1 S.length c1 ((isV S S.length).map encB), OwnSl 3 1 a2 S.length c2 ((aV S S.length).map encI), OwnSl 3 1 a3 S.length c3 ((bV S S.length).map encI)]) := by
  have hlim := hw.lim
  refine con_intro Tryz.func13 Tryz.call13 rfl Tryz.ntmps13 rfl (L := [(0, _)]) rfl fun w hh => ?_
  refine g_seq ?_
  refine g_region ?_
  refine g_eff (e_alloc (by rfl)) rfl (fun _ _ => ?_)
  rintro ⟨b2, rfl, rfl⟩
  refine g_nil ?_
  refine g_qt ?_
  refine g_seq ?_
  refine g_region ?_
  refine g_eff (e_alloc (by rfl)) rfl (fun _ _ => ?_)
  rintro ⟨b3, rfl, rfl⟩
  refine g_nil ?_
  refine g_qt ?_
  refine g_seq ?_
  refine g_seq ?_
  refine g_region ?_
  refine g_pure (p_assign rfl) rfl ?_
  refine g_nil ?_
  refine g_qt ?_
  refine g_block ?_
  refine g_ownnil (e := 4) (size := 1) ?_
  refine g_ownnil (e := 3) (size := 1) ?_
  refine g_ownnil (e := 3) (size := 1) ?_
  refine g_loop (fun q : Nat × (Option Addr × Nat) × (Option Addr × Nat) × (Option Addr × Nat) => [(0, .pointer (some ⟨p, 0, none⟩)), (2, .pointer (some ⟨b2, 0, none⟩)), (3, .pointer (some ⟨b3, 0, none⟩)), (4, .int .i64 q.1)])
    (fun q => [Blk b2 (.cells [.slice none 0 0, .slice none 0 0, .slice none 0 0].toArray 39 (0, 0)), Blk b3 (.cells [.slice q.2.1.1 q.1 q.2.1.2, .slice q.2.2.1.1 q.1 q.2.2.1.2, .slice q.2.2.2.1 q.1 q.2.2.2.2].toArray 39 (0, 0)),
      OwnSl 4 1 q.2.1.1 q.1 q.2.1.2 ((isV S q.1).map encB), OwnSl 3 1 q.2.2.1.1 q.1 q.2.2.1.2 ((aV S q.1).map encI), OwnSl 3 1 q.2.2.2.1 q.1 q.2.2.2.2 ((bV S q.1).map encI)])
    (fun q => q.1 ≤ S.length) (fun q => S.length - q.1) (0, (none, 0), (none, 0), (none, 0)) (Nat.zero_le _) (by (repeat (first | exact trivial | refine ⟨by rfl, ?_⟩)); done) (by repeat' (first | exact Cover.nil | exact Take.here | apply Cover.cons | apply Take.there)) ?_
  rintro ⟨v, ⟨a1, c1⟩, ⟨a2, c2⟩, ⟨a3, c3⟩⟩ hv
  dsimp only at hv ⊢
  refine g_seq ?_
  refine g_seq ?_
  refine g_region ?_
  refine g_pure (p_move rfl) rfl ?_
  refine g_pure (p_move rfl) rfl ?_
  refine g_call (Hin := []) (Hr := ?hr3) (R := ?rr3) rfl rfl rfl ?hin3 ?hc3 ?hk3
  case hin3 => repeat' (first | exact Cover.nil | exact Take.here | apply Cover.cons | apply Take.there)
  case hc3 => intro ρ' hρ hR; exact glen_ok p S (hg.mono hρ)
  rintro _ _ ⟨rfl, rfl⟩
  refine g_pure (p_lss rfl rfl) rfl ?_
  refine g_nil ?_
  refine g_qt ?_
  refine g_ifd rfl (fun q => ?_) (fun q => ?_)
  · obtain ⟨x, y, d, hgt⟩ : ∃ x y d, gate1 S (v : Int) = (x, y, d) := ⟨_, _, _, rfl⟩
    have e1 : (isV S v).map encB ++ [.bool d] = (isV S (v + 1)).map encB := by rw [isV_succ, hgt, List.map_append]; rfl
    have e2 : (aV S v).map encI ++ [.int .i64 x] = (aV S (v + 1)).map encI := by rw [aV_succ, hgt, List.map_append]; rfl
    have e3 : (bV S v).map encI ++ [.int .i64 y] = (bV S (v + 1)).map encI := by rw [bV_succ, hgt, List.map_append]; rfl
    refine g_skip ?_
    refine g_qt ?_
    refine g_seq ?_
    refine g_block ?_
    refine g_seq ?_
    refine g_region ?_
    refine g_pure (p_move rfl) rfl ?_
    refine g_pure (p_move rfl) rfl ?_
    refine g_call (Hin := []) (Hr := ?hr4) (R := ?rr4) rfl rfl rfl ?hin4 ?hc4 ?hk4
    case hin4 => repeat' (first | exact Cover.nil | exact Take.here | apply Cover.cons | apply Take.there)
    case hc4 => intro ρ' hρ hR; exact gate_r hgt (by unfold I64; omega) (hg.mono hρ)
    rintro _ _ ⟨rfl, rfl⟩
    refine g_pure (p_move rfl) rfl ?_
    refine g_pure (p_extract rfl rfl) rfl ?_
    refine g_pure (p_extract rfl rfl) rfl ?_
    refine g_pure (p_extract rfl rfl) rfl ?_
    refine g_pure (p_assign rfl) rfl ?_
    refine g_pure (p_assign rfl) rfl ?_
    refine g_pure (p_assign rfl) rfl ?_
    refine g_nil ?_
    refine g_qt ?_
    refine g_seq ?_
    refine g_region ?_
    refine g_pure (p_fieldAddr rfl) rfl ?_
    refine g_pure (p_load (by rfl) rfl (by first | (apply Has.own; (repeat' (first | exact Take.here | apply Take.there)); done) | exact Has.ro (by assumption)) (by first | rfl | assumption)) rfl ?_
    refine g_pure (p_move rfl) rfl ?_
    refine g_eff (e_bs (xs := [.tmp 23]) rfl rfl rfl (by rfl) (by rfl) rfl (by rfl)) rfl (fun _ _ => ?_)
    rintro ⟨b24, rfl, rfl⟩
    refine g_eff (e_appendO (by rfl) (by rfl) rfl rfl (by first | (apply Has.own; (repeat' (first | exact Take.here | apply Take.there)); done) | exact Has.ro (by assumption)) (by rfl) (by rfl) (by repeat' (first | exact Take.here | apply Take.there)) (by omega) (by first | omega | (dsimp only; omega) | (simp <;> omega)) (by omega)) rfl (fun _ _ => ?_)
    rintro ⟨a25, c25, rfl, rfl⟩
    refine g_pure (p_fieldAddr rfl) rfl ?_
    first | refine g_eff0 (e_storeO rfl rfl (by rfl) (by rfl) (by rfl) (by repeat' (first | exact Take.here | apply Take.there)) (by rfl)) (fun _ _ => ?_) | refine g_eff0 (e_store1 (by rfl) rfl rfl rfl (by repeat' (first | exact Take.here | apply Take.there)) (by first | decide | (simp <;> omega) | omega)) (fun _ _ => ?_)
    rintro rfl
    refine g_nil ?_
    refine g_qt ?_
    refine g_seq ?_
    refine g_region ?_
    refine g_pure (p_fieldAddr rfl) rfl ?_
    refine g_pure (p_load (by rfl) rfl (by first | (apply Has.own; (repeat' (first | exact Take.here | apply Take.there)); done) | exact Has.ro (by assumption)) (by first | rfl | assumption)) rfl ?_
    refine g_pure (p_move rfl) rfl ?_
    refine g_eff (e_bs (xs := [.tmp 29]) rfl rfl rfl (by rfl) (by rfl) rfl (by rfl)) rfl (fun _ _ => ?_)
    rintro ⟨b30, rfl, rfl⟩
    refine g_eff (e_appendO (by rfl) (by rfl) rfl rfl (by first | (apply Has.own; (repeat' (first | exact Take.here | apply Take.there)); done) | exact Has.ro (by assumption)) (by rfl) (by rfl) (by repeat' (first | exact Take.here | apply Take.there)) (by omega) (by first | omega | (dsimp only; omega) | (simp <;> omega)) (by omega)) rfl (fun _ _ => ?_)
    rintro ⟨a31, c31, rfl, rfl⟩
    refine g_pure (p_fieldAddr rfl) rfl ?_
    first | refine g_eff0 (e_storeO rfl rfl (by rfl) (by rfl) (by rfl) (by repeat' (first | exact Take.here | apply Take.there)) (by rfl)) (fun _ _ => ?_) | refine g_eff0 (e_store1 (by rfl) rfl rfl rfl (by repeat' (first | exact Take.here | apply Take.there)) (by first | decide | (simp <;> omega) | omega)) (fun _ _ => ?_)
    rintro rfl
    refine g_nil ?_
    refine g_qt ?_
    refine g_region ?_
    refine g_pure (p_fieldAddr rfl) rfl ?_
    refine g_pure (p_load (by rfl) rfl (by first | (apply Has.own; (repeat' (first | exact Take.here | apply Take.there)); done) | exact Has.ro (by assumption)) (by first | rfl | assumption)) rfl ?_
    refine g_pure (p_move rfl) rfl ?_
    refine g_eff (e_bs (xs := [.tmp 35]) rfl rfl rfl (by rfl) (by rfl) rfl (by rfl)) rfl (fun _ _ => ?_)
    rintro ⟨b36, rfl, rfl⟩
    refine g_eff (e_appendO (by rfl) (by rfl) rfl rfl (by first | (apply Has.own; (repeat' (first | exact Take.here | apply Take.there)); done) | exact Has.ro (by assumption)) (by rfl) (by rfl) (by repeat' (first | exact Take.here | apply Take.there)) (by omega) (by first | omega | (dsimp only; omega) | (simp <;> omega)) (by omega)) rfl (fun _ _ => ?_)
    rintro ⟨a37, c37, rfl, rfl⟩
    refine g_pure (p_fieldAddr rfl) rfl ?_
    first | refine g_eff0 (e_storeO rfl rfl (by rfl) (by rfl) (by rfl) (by repeat' (first | exact Take.here | apply Take.there)) (by rfl)) (fun _ _ => ?_) | refine g_eff0 (e_store1 (by rfl) rfl rfl rfl (by repeat' (first | exact Take.here | apply Take.there)) (by first | decide | (simp <;> omega) | omega)) (fun _ _ => ?_)
    rintro rfl
    refine g_nil ?_
    refine g_qb ?_
    refine g_qt ?_
    refine g_region ?_
    refine g_pure (p_move rfl) rfl ?_
    first | refine g_pure (p_addi rfl rfl (by omega)) rfl ?_ | refine g_pure (p_add rfl rfl) rfl ?_
    refine g_pure (p_assign rfl) rfl ?_
    refine g_nil ?_
    refine g_qn ?_
    rw [e1, e2, e3]
    exact g_next (v + 1, (a25, c25), (a31, c31), (a37, c37)) (by (repeat (first | exact trivial | refine ⟨by rfl, ?_⟩)); done) (by repeat' (first | exact Cover.nil | exact Take.here | apply Cover.cons | apply Take.there)) (by dsimp only; omega) (by dsimp only; omega)
  · have hve : v = S.length := by omega
    subst hve
    refine g_exit ?_
    refine g_qt_exit ?_
    refine g_qn_exit ?_
    refine g_qb_exit ?_
    refine g_qt ?_
    refine g_seq ?_
    refine g_region ?_
    first | refine g_pure (p_loadO (by rfl) rfl (by first | (apply Has.own; (repeat' (first | exact Take.here | apply Take.there)); done) | exact Has.ro (by assumption)) (by rfl)) rfl ?_ | refine g_pure (p_loadN (by rfl) rfl (by first | (apply Has.own; (repeat' (first | exact Take.here | apply Take.there)); done) | exact Has.ro (by assumption)) (by first | rfl | assumption)) rfl ?_
    first | refine g_eff0 (e_storeO rfl rfl (by rfl) (by rfl) (by rfl) (by repeat' (first | exact Take.here | apply Take.there)) (by rfl)) (fun _ _ => ?_) | refine g_eff0 (e_storeN rfl rfl (by rfl) (by rfl) (by rfl) (by repeat' (first | exact Take.here | apply Take.there)) (by simp)) (fun _ _ => ?_)
    rintro rfl
    refine g_nil ?_
    refine g_qt ?_
    refine g_ret ?_
    exact g_post (Ho := [OwnSl 4 1 a1 S.length c1 ((isV S S.length).map encB), OwnSl 3 1 a2 S.length c2 ((aV S S.length).map encI), OwnSl 3 1 a3 S.length c3 ((bV S S.length).map encI)]) (rs := [.cell 2 39]) rfl (Res.cellN (by rfl) rfl (Has.own (by repeat' (first | exact Take.here | apply Take.there))) (by rfl) .nil) ⟨a1, c1, a2, c2, a3, c3, rfl, rfl⟩ (by repeat' (first | exact Cover.nil | exact Take.here | apply Cover.cons | apply Take.there))
end Go.Proofs.YtopgbgnmjogeeaaGreatDoor
/- Chapter 36: the document's formula of a graph. Conditions: none. -/
namespace Go.Proofs.YtopgbgnmjogeeaaGreatDoor
set_option maxRecDepth 8000
set_option linter.unusedVariables false
set_option linter.unusedSimpArgs false
set_option linter.unusedSectionVars false
open Go Go.Z Go.Z.Aig Go.Z.Tse Go.Z.Sat

/-- a graph as the document has it -/
structure GaR (ρ : Nat → Obj → Prop) (a1 a2 a3 : Option Addr) (S : St) : Prop where
  is : RSl ρ 1 a1 S.length ((isV S S.length).map encB)
  a : RSl ρ 1 a2 S.length ((aV S S.length).map encI)
  b : RSl ρ 1 a3 S.length ((bV S S.length).map encI)
theorem GaR.mono {ρ ρ' : Nat → Obj → Prop} {a1 a2 a3 : Option Addr} {S : St} (h : GaR ρ a1 a2 a3 S) (s : ∀ b o, ρ b o → ρ' b o) : GaR ρ' a1 a2 a3 S := ⟨h.is.mono s, h.a.mono s, h.b.mono s⟩
theorem ga_at {ρ : Nat → Obj → Prop} {a : Option Addr} {n : Nat} {xs : List Value} (h : RSl ρ 1 a n xs) (h0 : 0 < n) : ∃ b off cs T fz, a = some ⟨b, off, none⟩ ∧ ρ b (.cells (cs : List Value).toArray T fz) ∧ ∀ (v : Nat) x, xs[v]? = some x → cs[off + (v : Int).toNat * 1]? = some x := by
  obtain ⟨_, b, off, cs, T, fz, hr⟩ := h
  obtain ⟨r1, r2, r3⟩ := hr (by omega)
  exact ⟨b, off, cs, T, fz, r1, r2, fun v x hx => by rw [Int.toNat_natCast, Nat.mul_one]; exact r3 v x hx⟩
theorem isV_at {S : St} {v : Nat} {x y : Int} {d : Bool} (hv : v < S.length) (h : gate1 S (v : Int) = (x, y, d)) : ((isV S S.length).map encB)[v]? = some (.bool d) ∧ ((aV S S.length).map encI)[v]? = some (.int .i64 x) ∧ ((bV S S.length).map encI)[v]? = some (.int .i64 y) := by
  unfold isV aV bV
  simp [List.getElem?_range hv, h, encB, encI]
def encV (v : Nat) : Value := .int .i64 (v : Int)
theorem encV_int {x : Int} (h : 0 ≤ x) : Value.int .i64 x = encV x.toNat := by unfold encV; rw [Int.toNat_of_nonneg h]

theorem dlit_ok {ρ : Nat → Obj → Prop} (l : Int) (h : 0 ≤ l ∧ l ≤ 1000000) : Con Tryz.prog ρ 41 #[.int .i64 l] [] (fun v H => v = .int .i64 (litF l) ∧ H = []) := by
  refine con_intro Tryz.func41 Tryz.call41 rfl Tryz.ntmps41 rfl (L := [(0, _)]) rfl fun w hh => ?_
  refine g_seq ?_
  refine g_region ?_
  refine g_pure (p_assign rfl) rfl ?_
  refine g_nil ?_
  refine g_qt ?_
  refine g_seq ?_
  refine g_seq ?_
  refine g_region ?_
  refine g_pure (p_move rfl) rfl ?_
  refine g_pure (p_remn rfl rfl (by decide) (by omega)) rfl ?_
  refine g_pure (p_eql rfl rfl) rfl ?_
  refine g_nil ?_
  refine g_qt ?_
  refine g_ifd rfl (fun c => ?_) (fun c => ?_)
  · refine g_seq ?_
    refine g_region ?_
    refine g_pure (p_move rfl) rfl ?_
    first | refine g_pure (p_quon rfl rfl (by omega) (by omega)) rfl ?_ | refine g_pure (p_quoi rfl rfl (by omega) (by omega)) rfl ?_ | refine g_pure (p_quo rfl rfl (by omega)) rfl ?_
    first | refine g_pure (p_negi rfl (by omega)) rfl ?_ | refine g_pure (p_neg rfl) rfl ?_
    refine g_pure (p_assign rfl) rfl ?_
    refine g_nil ?_
    refine g_qt ?_
    refine g_ret ?_
    refine g_qt_ret ?_
    exact g_post (Ho := []) (rs := [.tmp 2]) rfl (.tmp rfl .nil) ⟨by unfold litF; rw [if_pos c]; rfl, rfl⟩ .nil
  · refine g_skip ?_
    refine g_qt ?_
    refine g_seq ?_
    refine g_region ?_
    refine g_pure (p_move rfl) rfl ?_
    first | refine g_pure (p_quon rfl rfl (by omega) (by omega)) rfl ?_ | refine g_pure (p_quoi rfl rfl (by omega) (by omega)) rfl ?_ | refine g_pure (p_quo rfl rfl (by omega)) rfl ?_
    refine g_pure (p_assign rfl) rfl ?_
    refine g_nil ?_
    refine g_qt ?_
    refine g_ret ?_
    exact g_post (Ho := []) (rs := [.tmp 2]) rfl (.tmp rfl .nil) ⟨by unfold litF; rw [if_neg c]; rfl, rfl⟩ .nil

theorem dneeded36_ok {ρ : Nat → Obj → Prop} (S : St) (hw : WF S) (a1 a2 a3 : Option Addr) (c1 c2 c3 : Nat) (hG : GaR ρ a1 a2 a3 S) (al : Option Addr) (cl : Nat) (rs : List Int) (hl : RSl ρ 1 al rs.length (rs.map encI)) (hlen : rs.length ≤ 1000000) (hr : ∀ r ∈ rs, has S r) :
    Con Tryz.prog ρ 40 #[.agg #[.slice a1 S.length c1, .slice a2 S.length c2, .slice a3 S.length c3], .slice al rs.length cl] []
      (fun v H => ∃ (a : Option Addr) (c : Nat) (B : List Bool), v = .slice a S.length c ∧ B.length = S.length ∧ (∀ u, B.getD u false = true ↔ Nd S rs u) ∧ H = [OwnSl 4 1 a S.length c (B.map encB)]) := by
  have hlim := hw.lim
  have hp := hw.pos
  obtain ⟨_, b, off, cs, T, fz, hcs⟩ := hl
  obtain ⟨g1, o1, k1, T1, f1, i1, i2, i3⟩ := ga_at hG.is hp
  obtain ⟨g2, o2, k2, T2, f2, i4, i5, i6⟩ := ga_at hG.a hp
  obtain ⟨g3, o3, k3, T3, f3, i7, i8, i9⟩ := ga_at hG.b hp
  refine con_intro Tryz.func40 Tryz.call40 rfl Tryz.ntmps40 rfl (L := [(0, _), (1, _)]) rfl fun w hh => ?_
  refine g_seq ?_
  refine g_region ?_
  refine g_eff (e_box rfl (by rfl)) rfl (fun _ _ => ?_)
  rintro ⟨b2, rfl, rfl⟩
  refine g_pure (p_assign rfl) rfl ?_
  refine g_nil ?_
  refine g_qt ?_
  refine g_seq ?_
  refine g_region ?_
  refine g_pure (p_fieldAddr rfl) rfl ?_
  refine g_pure (p_load (by rfl) rfl (by first | (apply Has.own; (repeat' (first | exact Take.here | apply Take.there)); done) | exact Has.ro (by assumption)) (by first | rfl | assumption)) rfl ?_
  refine g_pure (p_len (by rfl) rfl) rfl ?_
  refine g_eff (e_make (by rfl) (by rfl) rfl rfl (by omega) (by first | omega | (dsimp only; omega)) (by omega)) rfl (fun _ _ => ?_)
  rintro ⟨b12, rfl, rfl⟩
  refine g_pure (p_assign rfl) rfl ?_
  refine g_nil ?_
  refine g_qt ?_
  refine g_seq ?_
  refine g_region ?_
  refine g_pure (p_assign rfl) rfl ?_
  refine g_nil ?_
  refine g_qt ?_
  refine g_seq ?_
  refine g_seq ?_
  refine g_region ?_
  refine g_pure (p_assign rfl) rfl ?_
  refine g_nil ?_
  refine g_qt ?_
  refine g_block ?_
  have hreps : List.replicate (S.length : Int).toNat (Value.bool false) = (List.replicate S.length false).map encB := by simp [encB]
  rw [hreps, Int.toNat_natCast]
  refine g_ownnil (e := 3) (size := 1) ?_
  refine g_loop (fun q : Nat × List Nat × Option Addr × Nat => [(1, .slice al rs.length cl), (2, .pointer (some ⟨b2, 0, none⟩)), (5, .slice (some ⟨b12, 0, none⟩) S.length S.length), (6, .slice q.2.2.1 q.2.1.length q.2.2.2), (7, .int .i64 q.1)])
    (fun q => [Blk b2 (.cells [.slice a1 S.length c1, .slice a2 S.length c2, .slice a3 S.length c3].toArray 39 (0, 0)), Blk b12 (.cells ((List.replicate S.length false).map encB).toArray 4 (0, 0)), OwnSl 3 1 q.2.2.1 q.2.1.length q.2.2.2 (q.2.1.map encV)])
    (fun q => q.1 ≤ rs.length ∧ q.2.1 = (rs.take q.1).map fun r => (r / 2).toNat) (fun q => rs.length - q.1) (0, [], none, 0) ⟨Nat.zero_le _, rfl⟩ (by (repeat (first | exact trivial | refine ⟨by rfl, ?_⟩)); done) (by repeat' (first | exact Cover.nil | exact Take.here | apply Cover.cons | apply Take.there)) ?_
  rintro ⟨i, Q, qa, qc⟩ ⟨hi, hQ⟩
  dsimp only at hi hQ ⊢
  have hQl : Q.length = i := by rw [hQ, List.length_map, List.length_take]; omega
  refine g_seq ?_
  refine g_seq ?_
  refine g_region ?_
  refine g_pure (p_move rfl) rfl ?_
  refine g_pure (p_move rfl) rfl ?_
  refine g_pure (p_len (by rfl) rfl) rfl ?_
  refine g_pure (p_lss rfl rfl) rfl ?_
  refine g_nil ?_
  refine g_qt ?_
  refine g_ifd rfl (fun q => ?_) (fun q => ?_)
  · have hil : i < rs.length := by omega
    obtain ⟨r1, r2, r3⟩ := hcs (by omega)
    have hri := hr rs[i] (List.getElem_mem hil)
    have h0 := hri.1
    have h1 := hri.2
    have hx : cs[off + (i : Int).toNat * 1]? = some (.int .i64 rs[i]) := by simpa [encI, List.getElem?_eq_getElem hil] using r3 i (.int .i64 rs[i]) (by simp [List.getElem?_eq_getElem hil, encI])
    have e3 : Q.map encV ++ [.int .i64 (rs[i] / 2)] = (Q ++ [(rs[i] / 2).toNat]).map encV := by rw [List.map_append, encV_int (by omega)]; rfl
    have e4 : Q.length + 1 = (Q ++ [(rs[i] / 2).toNat]).length := by simp
    refine g_skip ?_
    refine g_qt ?_
    refine g_seq ?_
    refine g_block ?_
    refine g_region ?_
    refine g_pure (p_move rfl) rfl ?_
    refine g_pure (p_move rfl) rfl ?_
    refine g_pure (p_move rfl) rfl ?_
    refine g_pure (p_indexAddr rfl rfl (by omega) (fun _ => r1)) rfl ?_
    refine g_pure (p_load (by rfl) rfl (Has.ro r2) hx) rfl ?_
    first | refine g_pure (p_quon rfl rfl (by omega) (by omega)) rfl ?_ | refine g_pure (p_quoi rfl rfl (by omega) (by omega)) rfl ?_ | refine g_pure (p_quo rfl rfl (by omega)) rfl ?_
    refine g_eff (e_bs (xs := [.tmp 24]) rfl rfl rfl (by rfl) (by rfl) rfl (by rfl)) rfl (fun _ _ => ?_)
    rintro ⟨b25, rfl, rfl⟩
    refine g_eff (e_appendO (by rfl) (by rfl) rfl rfl (by first | (apply Has.own; (repeat' (first | exact Take.here | apply Take.there)); done) | exact Has.ro (by assumption)) (by rfl) (by rfl) (by repeat' (first | exact Take.here | apply Take.there)) (by omega) (by first | omega | (dsimp only; omega) | (simp <;> omega)) (by omega)) rfl (fun _ _ => ?_)
    rintro ⟨a26, c26, rfl, rfl⟩
    refine g_pure (p_assign rfl) rfl ?_
    refine g_nil ?_
    refine g_qb ?_
    refine g_qt ?_
    refine g_region ?_
    refine g_pure (p_move rfl) rfl ?_
    first | refine g_pure (p_addi rfl rfl (by omega)) rfl ?_ | refine g_pure (p_add rfl rfl) rfl ?_
    refine g_pure (p_assign rfl) rfl ?_
    refine g_nil ?_
    refine g_qn ?_
    rw [e3, e4]
    exact g_next (i + 1, Q ++ [(rs[i] / 2).toNat], a26, c26) (by (repeat (first | exact trivial | refine ⟨by rfl, ?_⟩)); done) (by repeat' (first | exact Cover.nil | exact Take.here | apply Cover.cons | apply Take.there)) ⟨by dsimp only; omega, by dsimp only; rw [hQ, List.take_add_one, List.getElem?_eq_getElem hil, List.map_append]; rfl⟩ (by dsimp only; omega)
  · have hie : i = rs.length := by omega
    rw [hie, List.take_length] at hQ
    have hD : DI S rs (List.replicate S.length false) Q := by rw [hQ]; exact DI.start hr
    have hm0 := nof_rep S.length
    refine g_exit ?_
    refine g_qt_exit ?_
    refine g_qn_exit ?_
    refine g_qb_exit ?_
    refine g_qt ?_
    refine g_seq ?_
    refine g_block ?_
    refine g_loop (fun q : List Bool × List Nat × Option Addr × Nat => [(2, .pointer (some ⟨b2, 0, none⟩)), (5, .slice (some ⟨b12, 0, none⟩) S.length S.length), (6, .slice q.2.2.1 q.2.1.length q.2.2.2)])
      (fun q => [Blk b2 (.cells [.slice a1 S.length c1, .slice a2 S.length c2, .slice a3 S.length c3].toArray 39 (0, 0)), Blk b12 (.cells (q.1.map encB).toArray 4 (0, 0)), OwnSl 3 1 q.2.2.1 q.2.1.length q.2.2.2 (q.2.1.map encV)])
      (fun q => DI S rs q.1 q.2.1 ∧ 2 * nof q.1 + q.2.1.length ≤ 2 * S.length + rs.length) (fun q => 2 * nof q.1 + q.2.1.length) (List.replicate S.length false, Q, qa, qc) ⟨hD, by dsimp only; omega⟩ (by (repeat (first | exact trivial | refine ⟨by rfl, ?_⟩)); done) (by repeat' (first | exact Cover.nil | exact Take.here | apply Cover.cons | apply Take.there)) ?_
    clear hD hQ hQl hm0
    rintro ⟨B, O, oa, oc⟩ ⟨hD, hm⟩
    dsimp only at hD hm ⊢
    have hBl := hD.len
    refine g_seq ?_
    refine g_seq ?_
    refine g_region ?_
    refine g_pure (p_move rfl) rfl ?_
    refine g_pure (p_len (by rfl) rfl) rfl ?_
    refine g_pure (p_gtr rfl rfl) rfl ?_
    refine g_nil ?_
    refine g_qt ?_
    refine g_ifd rfl (fun z => ?_) (fun z => ?_)
    · obtain ⟨O1, v, rfl⟩ : ∃ O1 v, O = O1 ++ [v] := ⟨O.dropLast, O.getLast (by intro e; subst e; simp at z), (List.dropLast_concat_getLast _).symm⟩
      obtain ⟨hvS, hvN⟩ := hD.td v (by simp)
      have hvB : v < B.length := by omega
      refine g_own (e := 3) (by repeat' (first | exact Take.here | apply Take.there)) (fun _ h2 _ _ => by simp at h2) ?_
      rintro g cur rfl hc1 hc2 hc3 hc4 hc5
      have hlO : (O1 ++ [v]).length = O1.length + 1 := by simp
      have hj : (((O1.length + 1 : Nat) : Int) - 1).toNat = O1.length := by omega
      rw [hlO] at hc1 hc4 hc5 hm ⊢
      have hcv : cur[0 + (((O1.length + 1 : Nat) : Int) - 1).toNat * 1]? = some (.int .i64 (v : Int)) := by
        rw [hj]
        refine own_at (k := O1.length) hc4 rfl ?_
        rw [List.map_append, List.getElem?_append_right (by simp)]
        simp [encV]
      have hcO : cur.take (O1.length * 1) = O1.map encV := by
        have := congrArg (List.take O1.length) hc4
        rw [List.take_take, Nat.min_eq_left (by omega), List.map_append, List.take_left' (by simp)] at this
        rw [Nat.mul_one]; exact this
      have hBv : (B.map encB)[0 + (v : Int).toNat * 1]? = some (.bool (B.getD v false)) := by
        rw [show 0 + (v : Int).toNat * 1 = v by omega, List.getElem?_map, List.getElem?_eq_getElem hvB, List.getD_eq_getElem?_getD, List.getElem?_eq_getElem hvB]; rfl
      obtain ⟨x, y, d, hgt⟩ : ∃ x y d, gate1 S (v : Int) = (x, y, d) := ⟨_, _, _, rfl⟩
      obtain ⟨e1, e2, e3⟩ := isV_at hvS hgt
      have j1 := i3 v _ e1
      have j2 := i6 v _ e2
      have j3 := i9 v _ e3
      refine g_skip ?_
      refine g_qt ?_
      refine g_block ?_
      refine g_seq ?_
      refine g_region ?_
      refine g_pure (p_move rfl) rfl ?_
      refine g_pure (p_move rfl) rfl ?_
      refine g_pure (p_len (by rfl) rfl) rfl ?_
      first | refine g_pure (p_subi rfl rfl (by omega)) rfl ?_ | refine g_pure (p_sub rfl rfl) rfl ?_
      refine g_pure (p_indexAddr rfl rfl (by omega) (fun _ => rfl)) rfl ?_
      refine g_pure (p_load (by rfl) rfl (Has.own (by repeat' (first | exact Take.here | apply Take.there))) hcv) rfl ?_
      refine g_pure (p_assign rfl) rfl ?_
      refine g_nil ?_
      refine g_qt ?_
      refine g_seq ?_
      refine g_region ?_
      refine g_pure (p_move rfl) rfl ?_
      refine g_pure (p_move rfl) rfl ?_
      refine g_pure (p_len (by rfl) rfl) rfl ?_
      first | refine g_pure (p_subi rfl rfl (by omega)) rfl ?_ | refine g_pure (p_sub rfl rfl) rfl ?_
      refine g_pure (p_sliceh rfl rfl (by omega)) rfl ?_
      refine g_pure (p_assign rfl) rfl ?_
      refine g_nil ?_
      refine g_qt ?_
      refine g_seq ?_
      refine g_seq ?_
      rw [hj]
      refine g_fold (k := O1.length) (cap := oc) (size := 1) (g := g) (xs := O1.map encV) (by repeat' (first | exact Take.here | apply Take.there)) (by omega) hc2 hc3 hcO ?_
      refine g_region ?_
      refine g_pure (p_move rfl) rfl ?_
      refine g_pure (p_move rfl) rfl ?_
      refine g_pure (p_indexAddr rfl rfl (by omega) (fun _ => rfl)) rfl ?_
      refine g_pure (p_load (by rfl) rfl (Has.own (by repeat' (first | exact Take.here | apply Take.there))) hBv) rfl ?_
      refine g_nil ?_
      refine g_qt ?_
      refine g_if rfl (fun k => ?_) (fun k => ?_)
      · refine g_exit ?_
        refine g_qt_exit ?_
        refine g_qb_exit ?_
        refine g_qn ?_
        exact g_next (B, O1, some ⟨g, 0, none⟩, oc) (by (repeat (first | exact trivial | refine ⟨by rfl, ?_⟩)); done) (by repeat' (first | exact Cover.nil | exact Take.here | apply Cover.cons | apply Take.there)) ⟨hD.skip k, by dsimp only; omega⟩ (by dsimp only; omega)
      · have hns := nof_set hvB (show ¬ isM B v by unfold isM; rw [k]; decide)
        have e5 : (B.map encB).set (0 + (v : Int).toNat * 1) (Value.bool true) = (B.set v true).map encB := by
          rw [show 0 + (v : Int).toNat * 1 = v by omega, List.map_set]; rfl
        refine g_skip ?_
        refine g_qt ?_
        refine g_seq ?_
        refine g_region ?_
        refine g_pure (p_move rfl) rfl ?_
        refine g_pure (p_move rfl) rfl ?_
        refine g_pure (p_indexAddr rfl rfl (by omega) (fun _ => rfl)) rfl ?_
        refine g_eff0 (e_store1 (by rfl) rfl rfl rfl (by repeat' (first | exact Take.here | apply Take.there)) (by show 0 + (v : Int).toNat * 1 < _; rw [List.length_map]; omega)) (fun _ _ => ?_)
        rintro rfl
        refine g_nil ?_
        refine g_qt ?_
        refine g_seq ?_
        refine g_region ?_
        refine g_pure (p_fieldAddr rfl) rfl ?_
        refine g_pure (p_load (by rfl) rfl (by first | (apply Has.own; (repeat' (first | exact Take.here | apply Take.there)); done) | exact Has.ro (by assumption)) (by first | rfl | assumption)) rfl ?_
        refine g_pure (p_move rfl) rfl ?_
        refine g_pure (p_indexAddr rfl rfl (by omega) (fun _ => i1)) rfl ?_
        refine g_pure (p_load (by rfl) rfl (Has.ro i2) j1) rfl ?_
        refine g_nil ?_
        refine g_qt ?_
        rw [e5]
        refine g_if rfl (fun k2 => ?_) (fun k2 => ?_)
        · subst k2
          obtain ⟨m1, m2⟩ := gate1_yes hgt
          obtain ⟨m3, m4, m5⟩ := hw.gate v x y m1 m2
          have hmk := hD.mark (N := [(x / 2).toNat, (y / 2).toNat]) (fun u hu => by
            simp only [List.mem_cons, List.not_mem_nil, or_false] at hu
            rcases hu with rfl | rfl
            · exact ⟨by omega, .a hvN m1 m2⟩
            · exact ⟨by omega, .b hvN m1 m2⟩) (fun x' y' _ h3 => by rw [m2] at h3; cases h3; simp)
          have e6 : O1.map encV ++ [.int .i64 (x / 2), .int .i64 (y / 2)] = (O1 ++ [(x / 2).toNat, (y / 2).toNat]).map encV := by rw [List.map_append, encV_int (by omega), encV_int (x := y / 2) (by omega)]; rfl
          have e7 : O1.length + 2 = (O1 ++ [(x / 2).toNat, (y / 2).toNat]).length := by simp
          refine m_begin0 (.fl 0 0 (.fl 1 0 (.fl 2 1 (.fl 3 0 (.fl 4 0 (.fl 5 1 (.fl 6 0 (.fl 7 0 (.fl 8 1 (.fl 9 0 (.fl 10 0 (.fl 11 1 (.fl 12 0 (.ef 13 (.ef 14 (.fl 15 0 .done)))))))))))))))) (by kernel_rfl) (by kernel_rfl) ?_
          refine m_float0 rfl (fun _ _ => p_move rfl) rfl ?_
          refine m_float0 rfl (fun _ _ => p_fieldAddr rfl) rfl ?_
          refine m_float rfl (p_load (by rfl) rfl (by first | (apply Has.own; (repeat' (first | exact Take.here | apply Take.there)); done) | exact Has.ro (by assumption)) (by first | rfl | assumption)) rfl ?_
          refine m_float0 rfl (fun _ _ => p_move rfl) rfl ?_
          refine m_float0 rfl (fun _ _ => p_indexAddr rfl rfl (by omega) (fun _ => i4)) rfl ?_
          refine m_float rfl (p_load (by rfl) rfl (Has.ro i5) j2) rfl ?_
          first | refine m_float0 rfl (fun _ _ => p_quon rfl rfl (by omega) (by omega)) rfl ?_ | refine m_float0 rfl (fun _ _ => p_quoi rfl rfl (by omega) (by omega)) rfl ?_ | refine m_float0 rfl (fun _ _ => p_quo rfl rfl (by omega)) rfl ?_
          refine m_float0 rfl (fun _ _ => p_fieldAddr rfl) rfl ?_
          refine m_float rfl (p_load (by rfl) rfl (by first | (apply Has.own; (repeat' (first | exact Take.here | apply Take.there)); done) | exact Has.ro (by assumption)) (by first | rfl | assumption)) rfl ?_
          refine m_float0 rfl (fun _ _ => p_move rfl) rfl ?_
          refine m_float0 rfl (fun _ _ => p_indexAddr rfl rfl (by omega) (fun _ => i7)) rfl ?_
          refine m_float rfl (p_load (by rfl) rfl (Has.ro i8) j3) rfl ?_
          first | refine m_float0 rfl (fun _ _ => p_quon rfl rfl (by omega) (by omega)) rfl ?_ | refine m_float0 rfl (fun _ _ => p_quoi rfl rfl (by omega) (by omega)) rfl ?_ | refine m_float0 rfl (fun _ _ => p_quo rfl rfl (by omega)) rfl ?_
          refine m_eff rfl (e_bs (xs := [.tmp 59, .tmp 65]) rfl rfl rfl (by rfl) (by rfl) rfl (by rfl)) rfl (fun _ _ => ?_)
          rintro ⟨b66, rfl, rfl⟩
          refine ⟨.none (by kernel_rfl), ?_⟩
          refine m_eff rfl (e_appendO (by rfl) (by rfl) rfl rfl (by first | (apply Has.own; (repeat' (first | exact Take.here | apply Take.there)); done) | exact Has.ro (by assumption)) (by rfl) (by rfl) (by repeat' (first | exact Take.here | apply Take.there)) (by omega) (by first | omega | (dsimp only; omega) | (simp <;> omega)) (by omega)) rfl (fun _ _ => ?_)
          rintro ⟨a67, c67, rfl, rfl⟩
          refine ⟨.none (by kernel_rfl), ?_⟩
          refine m_float0 rfl (fun _ _ => p_assign rfl) rfl ?_
          refine m_nil ?_
          refine g_qb ?_
          refine g_qn ?_
          rw [e6, e7]
          exact g_next (B.set v true, O1 ++ [(x / 2).toNat, (y / 2).toNat], a67, c67) (by (repeat (first | exact trivial | refine ⟨by rfl, ?_⟩)); done) (by repeat' (first | exact Cover.nil | exact Take.here | apply Cover.cons | apply Take.there)) ⟨hmk, by dsimp only; omega⟩ (by dsimp only; omega)
        · subst k2
          have hmk := hD.mark (N := []) (fun u hu => absurd hu List.not_mem_nil) (fun x' y' h2 h3 => (gate1_no hgt h2 h3).elim)
          rw [List.append_nil] at hmk
          refine g_skip ?_
          refine g_qb ?_
          refine g_qn ?_
          exact g_next (B.set v true, O1, some ⟨g, 0, none⟩, oc) (by (repeat (first | exact trivial | refine ⟨by rfl, ?_⟩)); done) (by repeat' (first | exact Cover.nil | exact Take.here | apply Cover.cons | apply Take.there)) ⟨hmk, by dsimp only; omega⟩ (by dsimp only; omega)
    · have hO0 : O = [] := List.eq_nil_of_length_eq_zero (by omega)
      subst hO0
      refine g_exit ?_
      refine g_qt_exit ?_
      refine g_qn_exit ?_
      refine g_qb_exit ?_
      refine g_qt ?_
      refine g_seq ?_
      refine g_region ?_
      refine g_pure (p_move rfl) rfl ?_
      refine g_pure (p_assign rfl) rfl ?_
      refine g_nil ?_
      refine g_qt ?_
      refine g_ret ?_
      refine g_fold (k := S.length) (cap := S.length) (size := 1) (g := b12) (xs := B.map encB) (by repeat' (first | exact Take.here | apply Take.there)) (Nat.le_refl _) (by have h : maxLen = 9223372036854775807 := rfl; omega) (by rw [List.length_map, hBl, Nat.mul_one]) (by rw [List.take_of_length_le (by rw [List.length_map, hBl]; omega)]) ?_
      exact g_post (Ho := [OwnSl 4 1 (some ⟨b12, 0, none⟩) S.length S.length (B.map encB)]) (rs := [.tmp 4]) rfl (.tmp rfl .nil) ⟨_, _, B, rfl, hBl, hD.all, rfl⟩ (by repeat' (first | exact Cover.nil | exact Take.here | apply Cover.cons | apply Take.there))
end Go.Proofs.YtopgbgnmjogeeaaGreatDoor
/- Chapter 36: the document's formula of a graph. Conditions: none. -/
namespace Go.Proofs.YtopgbgnmjogeeaaGreatDoor
set_option maxRecDepth 8000
set_option linter.unusedVariables false
set_option linter.unusedSimpArgs false
set_option linter.unusedSectionVars false
open Go Go.Z Go.Z.Aig Go.Z.Tse Go.Z.Sat

theorem dof36_no {ρ : Nat → Obj → Prop} (S : St) (hw : WF S) (a1 a2 a3 : Option Addr) (c1 c2 c3 : Nat) (al : Option Addr) (cl : Nat) (rs : List Int) (hl : RSl ρ 1 al rs.length (rs.map encI)) (hlen : rs.length ≤ 1000000) (hI : ∀ r ∈ rs, I64 r) (hr : ¬ ∀ r ∈ rs, has S r) :
    Con Tryz.prog ρ 12 #[.agg #[.slice a1 S.length c1, .slice a2 S.length c2, .slice a3 S.length c3], .slice al rs.length cl] [] (fun v H => v = .tuple #[.agg #[.int .i64 0, .slice none 0 0], .int .i64 14] ∧ H = []) := by
  have hlim := hw.lim
  obtain ⟨_, b, off, cs, T, fz, hcs⟩ := hl
  refine con_intro Tryz.func12 Tryz.call12 rfl Tryz.ntmps12 rfl (L := [(0, _), (1, _)]) rfl fun w hh => ?_
  refine g_seq ?_
  refine g_region ?_
  refine g_eff (e_box rfl (by rfl)) rfl (fun _ _ => ?_)
  rintro ⟨b2, rfl, rfl⟩
  refine g_eff (e_alloc (by rfl)) rfl (fun _ _ => ?_)
  rintro ⟨b4, rfl, rfl⟩
  refine g_pure (p_assign rfl) rfl ?_
  refine g_nil ?_
  refine g_qt ?_
  refine g_seq ?_
  refine g_seq ?_
  refine g_region ?_
  refine g_pure (p_assign rfl) rfl ?_
  refine g_nil ?_
  refine g_qt ?_
  refine g_block ?_
  refine g_loop (fun i : Nat => [(1, .slice al rs.length cl), (2, .pointer (some ⟨b2, 0, none⟩)), (4, .pointer (some ⟨b4, 0, none⟩)), (6, .int .i64 i)])
    (fun _ => [Blk b2 (.cells [.slice a1 S.length c1, .slice a2 S.length c2, .slice a3 S.length c3].toArray 39 (0, 0)), Blk b4 (.cells [.int .i64 0, .slice none 0 0].toArray 30 (0, 0))]) (fun i => i ≤ rs.length ∧ ∀ r ∈ rs.take i, has S r) (fun i => rs.length - i) 0 ⟨Nat.zero_le _, by simp⟩ (by (repeat (first | exact trivial | refine ⟨by rfl, ?_⟩)); done) (by repeat' (first | exact Cover.nil | exact Take.here | apply Cover.cons | apply Take.there)) ?_
  rintro i ⟨hi, hall⟩
  refine g_seq ?_
  refine g_seq ?_
  refine g_region ?_
  refine g_pure (p_move rfl) rfl ?_
  refine g_pure (p_move rfl) rfl ?_
  refine g_pure (p_len (by rfl) rfl) rfl ?_
  refine g_pure (p_lss rfl rfl) rfl ?_
  refine g_nil ?_
  refine g_qt ?_
  refine g_ifd rfl (fun q => ?_) (fun q => ?_)
  · have hil : i < rs.length := by omega
    obtain ⟨r1, r2, r3⟩ := hcs (by omega)
    have hri := hI rs[i] (List.getElem_mem hil)
    have hri1 := hri.1
    have hri2 := hri.2
    have hx : cs[off + (i : Int).toNat * 1]? = some (.int .i64 rs[i]) := by simpa [encI, List.getElem?_eq_getElem hil] using r3 i (.int .i64 rs[i]) (by simp [List.getElem?_eq_getElem hil, encI])
    have hnx : has S rs[i] → ∀ r ∈ rs.take (i + 1), has S r := fun h r hrm => by
      rw [List.take_add_one, List.getElem?_eq_getElem hil] at hrm
      rcases List.mem_append.1 hrm with hrm | hrm
      · exact hall r hrm
      · simp at hrm; subst hrm; exact h
    generalize rs[i] = r at hri hri1 hri2 hx hnx
    refine g_skip ?_
    refine g_qt ?_
    refine g_seq ?_
    refine g_block ?_
    refine g_seq ?_
    refine m_begin0 (.fl 0 0 (.fl 1 0 (.fl 2 0 (.fl 3 1 (.fl 4 0 (.fl 5 0 (.fl 6 0 (.fl 7 0 (.fl 8 0 (.fl 9 1 (.fl 10 0 (.fl 11 0 (.fl 12 1 (.fl 13 0 (.fl 14 0 (.fl 15 0 .done)))))))))))))))) (by kernel_rfl) (by kernel_rfl) ?_
    refine m_float0 rfl (fun _ _ => p_move rfl) rfl ?_
    refine m_float0 rfl (fun _ _ => p_move rfl) rfl ?_
    refine m_float0 rfl (fun _ _ => p_indexAddr rfl rfl (by omega) (fun _ => r1)) rfl ?_
    refine m_float rfl (p_load (by rfl) rfl (Has.ro r2) hx) rfl ?_
    refine m_float0 rfl (fun _ _ => p_lss rfl rfl) rfl ?_
    refine m_float0 rfl (fun _ _ => p_move rfl) rfl ?_
    refine m_splitd 5 rfl rfl (fun z => ?_) (fun z => ?_)
    · refine m_no0 rfl rfl rfl rfl rfl ?_
      refine m_no0 rfl rfl rfl rfl rfl ?_
      refine m_no0 rfl rfl rfl rfl rfl ?_
      refine m_no rfl rfl rfl rfl rfl ?_
      refine m_no0 rfl rfl rfl rfl rfl ?_
      refine m_no0 rfl rfl rfl rfl rfl ?_
      refine m_no rfl rfl rfl rfl rfl ?_
      refine m_no0 rfl rfl rfl rfl rfl ?_
      refine m_no0 rfl rfl rfl rfl rfl ?_
      first | refine m_float0 rfl (fun _ _ => p_pickt rfl rfl) rfl ?_ | refine m_float0 rfl (fun _ _ => p_pickf rfl rfl) rfl ?_
      refine m_nil ?_
      refine g_qt ?_
      refine g_ift rfl ?_
      refine g_seq ?_
      refine g_region ?_
      refine g_pure (p_build (by rfl) rfl (by rfl)) rfl ?_
      first | refine g_eff0 (e_storeO rfl rfl (by rfl) (by rfl) (by rfl) (by repeat' (first | exact Take.here | apply Take.there)) (by rfl)) (fun _ _ => ?_) | refine g_eff0 (e_storeN rfl rfl (by rfl) (by rfl) (by rfl) (by repeat' (first | exact Take.here | apply Take.there)) (by simp)) (fun _ _ => ?_)
      rintro rfl
      refine g_pure (p_assign rfl) rfl ?_
      refine g_nil ?_
      refine g_qt ?_
      refine g_ret ?_
      refine g_qb_ret ?_
      refine g_qt_ret ?_
      refine g_qn_ret ?_
      refine g_qb_ret ?_
      refine g_qt_ret ?_
      exact g_post (Ho := []) (rs := [.cell 4 30, .tmp 5]) rfl (Res.cellN (by rfl) rfl (Has.own (by repeat' (first | exact Take.here | apply Take.there))) (by rfl) (.tmp rfl .nil)) ⟨rfl, rfl⟩ (by repeat' (first | exact Cover.nil | exact Take.here | apply Cover.cons | apply Take.there))
    · refine m_yes0 rfl rfl rfl (fun _ _ => p_move rfl) rfl ?_
      refine m_yes0 rfl rfl rfl (fun _ _ => p_move rfl) rfl ?_
      refine m_yes0 rfl rfl rfl (fun _ _ => p_indexAddr rfl rfl (by omega) (fun _ => r1)) rfl ?_
      refine m_yes rfl rfl rfl (p_load (by rfl) rfl (Has.ro r2) hx) rfl ?_
      first | refine m_yes0 rfl rfl rfl (fun _ _ => p_quon rfl rfl (by omega) (by omega)) rfl ?_ | refine m_yes0 rfl rfl rfl (fun _ _ => p_quoi rfl rfl (by omega) (by omega)) rfl ?_ | refine m_yes0 rfl rfl rfl (fun _ _ => p_quo rfl rfl (by omega)) rfl ?_
      refine m_yes0 rfl rfl rfl (fun _ _ => p_fieldAddr rfl) rfl ?_
      refine m_yes rfl rfl rfl (p_load (by rfl) rfl (by first | (apply Has.own; (repeat' (first | exact Take.here | apply Take.there)); done) | exact Has.ro (by assumption)) (by first | rfl | assumption)) rfl ?_
      refine m_yes0 rfl rfl rfl (fun _ _ => p_len (by rfl) rfl) rfl ?_
      refine m_yes0 rfl rfl rfl (fun _ _ => p_geq rfl rfl) rfl ?_
      first | refine m_float0 rfl (fun _ _ => p_pickt rfl rfl) rfl ?_ | refine m_float0 rfl (fun _ _ => p_pickf rfl rfl) rfl ?_
      refine m_nil ?_
      refine g_qt ?_
      refine g_ifd rfl (fun z2 => ?_) (fun z2 => ?_)
      · refine g_seq ?_
        refine g_region ?_
        refine g_pure (p_build (by rfl) rfl (by rfl)) rfl ?_
        first | refine g_eff0 (e_storeO rfl rfl (by rfl) (by rfl) (by rfl) (by repeat' (first | exact Take.here | apply Take.there)) (by rfl)) (fun _ _ => ?_) | refine g_eff0 (e_storeN rfl rfl (by rfl) (by rfl) (by rfl) (by repeat' (first | exact Take.here | apply Take.there)) (by simp)) (fun _ _ => ?_)
        rintro rfl
        refine g_pure (p_assign rfl) rfl ?_
        refine g_nil ?_
        refine g_qt ?_
        refine g_ret ?_
        refine g_qb_ret ?_
        refine g_qt_ret ?_
        refine g_qn_ret ?_
        refine g_qb_ret ?_
        refine g_qt_ret ?_
        exact g_post (Ho := []) (rs := [.cell 4 30, .tmp 5]) rfl (Res.cellN (by rfl) rfl (Has.own (by repeat' (first | exact Take.here | apply Take.there))) (by rfl) (.tmp rfl .nil)) ⟨rfl, rfl⟩ (by repeat' (first | exact Cover.nil | exact Take.here | apply Cover.cons | apply Take.there))
      · refine g_skip ?_
        refine g_qb ?_
        refine g_qt ?_
        refine g_region ?_
        refine g_pure (p_move rfl) rfl ?_
        first | refine g_pure (p_addi rfl rfl (by omega)) rfl ?_ | refine g_pure (p_add rfl rfl) rfl ?_
        refine g_pure (p_assign rfl) rfl ?_
        refine g_nil ?_
        refine g_qn ?_
        exact g_next (i + 1) (by (repeat (first | exact trivial | refine ⟨by rfl, ?_⟩)); done) (by repeat' (first | exact Cover.nil | exact Take.here | apply Cover.cons | apply Take.there)) ⟨by omega, hnx ⟨by omega, by omega⟩⟩ (by omega)
  · have hie : i = rs.length := by omega
    subst hie
    rw [List.take_length] at hall
    exact absurd hall hr

set_option maxHeartbeats 1600000 in
theorem dof36_ok {ρ : Nat → Obj → Prop} (S : St) (hw : WF S) (a1 a2 a3 : Option Addr) (c1 c2 c3 : Nat) (hG : GaR ρ a1 a2 a3 S) (al : Option Addr) (cl : Nat) (rs : List Int) (hl : RSl ρ 1 al rs.length (rs.map encI)) (hlen : rs.length ≤ 1000000) (hr : ∀ r ∈ rs, has S r) :
    Con Tryz.prog ρ 12 #[.agg #[.slice a1 S.length c1, .slice a2 S.length c2, .slice a3 S.length c3], .slice al rs.length cl] []
      (fun v H => ∃ ca cc nd, (∀ u, nd u = true ↔ Nd S rs u) ∧ v = .tuple #[.agg #[.int .i64 ((S.length : Int) - 1), .slice ca (cnfF S nd rs).length cc], .int .i64 0] ∧ H = [Own2 79 3 ca cc ((cnfF S nd rs).map encCl)]) := by
  have hlim := hw.lim
  have hpos := hw.pos
  have hl' := hl
  obtain ⟨_, b, off, cs, T, fz, hcs⟩ := hl
  obtain ⟨g1, o1, k1, T1, f1, i1, i2, i3⟩ := ga_at hG.is hpos
  obtain ⟨g2, o2, k2, T2, f2, i4, i5, i6⟩ := ga_at hG.a hpos
  obtain ⟨g3, o3, k3, T3, f3, i7, i8, i9⟩ := ga_at hG.b hpos
  have hroot : ∀ (i : Nat) (hil : i < rs.length), 0 ≤ rs[i] ∧ rs[i] < 2 * S.length ∧ cs[off + (i : Int).toNat * 1]? = some (.int .i64 rs[i]) := fun i hil => by
    have hri := hr rs[i] (List.getElem_mem hil)
    obtain ⟨r1, r2, r3⟩ := hcs (by omega)
    exact ⟨hri.1, hri.2, by simpa [encI, List.getElem?_eq_getElem hil] using r3 i (.int .i64 rs[i]) (by simp [List.getElem?_eq_getElem hil, encI])⟩
  refine con_intro Tryz.func12 Tryz.call12 rfl Tryz.ntmps12 rfl (L := [(0, _), (1, _)]) rfl fun w hh => ?_
  refine g_seq ?_
  refine g_region ?_
  refine g_eff (e_box rfl (by rfl)) rfl (fun _ _ => ?_)
  rintro ⟨b2, rfl, rfl⟩
  refine g_eff (e_alloc (by rfl)) rfl (fun _ _ => ?_)
  rintro ⟨b4, rfl, rfl⟩
  refine g_pure (p_assign rfl) rfl ?_
  refine g_nil ?_
  refine g_qt ?_
  refine g_seq ?_
  refine g_seq ?_
  refine g_region ?_
  refine g_pure (p_assign rfl) rfl ?_
  refine g_nil ?_
  refine g_qt ?_
  refine g_block ?_
  refine g_loop (fun i : Nat => [(1, .slice al rs.length cl), (2, .pointer (some ⟨b2, 0, none⟩)), (4, .pointer (some ⟨b4, 0, none⟩)), (6, .int .i64 i)])
    (fun _ => [Blk b2 (.cells [.slice a1 S.length c1, .slice a2 S.length c2, .slice a3 S.length c3].toArray 39 (0, 0)), Blk b4 (.cells [.int .i64 0, .slice none 0 0].toArray 30 (0, 0))]) (fun i => i ≤ rs.length) (fun i => rs.length - i) 0 (Nat.zero_le _) (by (repeat (first | exact trivial | refine ⟨by rfl, ?_⟩)); done) (by repeat' (first | exact Cover.nil | exact Take.here | apply Cover.cons | apply Take.there)) ?_
  intro i hi
  refine g_seq ?_
  refine g_seq ?_
  refine g_region ?_
  refine g_pure (p_move rfl) rfl ?_
  refine g_pure (p_move rfl) rfl ?_
  refine g_pure (p_len (by rfl) rfl) rfl ?_
  refine g_pure (p_lss rfl rfl) rfl ?_
  refine g_nil ?_
  refine g_qt ?_
  refine g_ifd rfl (fun q => ?_) (fun q => ?_)
  · have hil : i < rs.length := by omega
    obtain ⟨r1, r2, r3⟩ := hcs (by omega)
    obtain ⟨h0, h1, hx⟩ := hroot i hil
    refine g_skip ?_
    refine g_qt ?_
    refine g_seq ?_
    refine g_block ?_
    refine g_seq ?_
    refine m_begin0 (.fl 0 0 (.fl 1 0 (.fl 2 0 (.fl 3 1 (.fl 4 0 (.fl 5 0 (.fl 6 0 (.fl 7 0 (.fl 8 0 (.fl 9 1 (.fl 10 0 (.fl 11 0 (.fl 12 1 (.fl 13 0 (.fl 14 0 (.fl 15 0 .done)))))))))))))))) (by kernel_rfl) (by kernel_rfl) ?_
    refine m_float0 rfl (fun _ _ => p_move rfl) rfl ?_
    refine m_float0 rfl (fun _ _ => p_move rfl) rfl ?_
    refine m_float0 rfl (fun _ _ => p_indexAddr rfl rfl (by omega) (fun _ => r1)) rfl ?_
    refine m_float rfl (p_load (by rfl) rfl (Has.ro r2) hx) rfl ?_
    refine m_float0 rfl (fun _ _ => p_lss rfl rfl) rfl ?_
    refine m_float0 rfl (fun _ _ => p_move rfl) rfl ?_
    refine m_splitd 5 rfl rfl (fun z => ?_) (fun z => ?_)
    · exfalso; omega
    · refine m_yes0 rfl rfl rfl (fun _ _ => p_move rfl) rfl ?_
      refine m_yes0 rfl rfl rfl (fun _ _ => p_move rfl) rfl ?_
      refine m_yes0 rfl rfl rfl (fun _ _ => p_indexAddr rfl rfl (by omega) (fun _ => r1)) rfl ?_
      refine m_yes rfl rfl rfl (p_load (by rfl) rfl (Has.ro r2) hx) rfl ?_
      first | refine m_yes0 rfl rfl rfl (fun _ _ => p_quon rfl rfl (by omega) (by omega)) rfl ?_ | refine m_yes0 rfl rfl rfl (fun _ _ => p_quoi rfl rfl (by omega) (by omega)) rfl ?_ | refine m_yes0 rfl rfl rfl (fun _ _ => p_quo rfl rfl (by omega)) rfl ?_
      refine m_yes0 rfl rfl rfl (fun _ _ => p_fieldAddr rfl) rfl ?_
      refine m_yes rfl rfl rfl (p_load (by rfl) rfl (by first | (apply Has.own; (repeat' (first | exact Take.here | apply Take.there)); done) | exact Has.ro (by assumption)) (by first | rfl | assumption)) rfl ?_
      refine m_yes0 rfl rfl rfl (fun _ _ => p_len (by rfl) rfl) rfl ?_
      refine m_yes0 rfl rfl rfl (fun _ _ => p_geq rfl rfl) rfl ?_
      first | refine m_float0 rfl (fun _ _ => p_pickt rfl rfl) rfl ?_ | refine m_float0 rfl (fun _ _ => p_pickf rfl rfl) rfl ?_
      refine m_nil ?_
      refine g_qt ?_
      refine g_ifd rfl (fun z2 => ?_) (fun z2 => ?_)
      · exfalso; omega
      · refine g_skip ?_
        refine g_qb ?_
        refine g_qt ?_
        refine g_region ?_
        refine g_pure (p_move rfl) rfl ?_
        first | refine g_pure (p_addi rfl rfl (by omega)) rfl ?_ | refine g_pure (p_add rfl rfl) rfl ?_
        refine g_pure (p_assign rfl) rfl ?_
        refine g_nil ?_
        refine g_qn ?_
        exact g_next (i + 1) (by (repeat (first | exact trivial | refine ⟨by rfl, ?_⟩)); done) (by repeat' (first | exact Cover.nil | exact Take.here | apply Cover.cons | apply Take.there)) (by omega) (by omega)
  · refine g_exit ?_
    refine g_qt_exit ?_
    refine g_qn_exit ?_
    refine g_qb_exit ?_
    refine g_qt ?_
    refine g_seq ?_
    refine g_region ?_
    refine g_pure (p_fieldAddr rfl) rfl ?_
    refine g_pure (p_load (by rfl) rfl (by first | (apply Has.own; (repeat' (first | exact Take.here | apply Take.there)); done) | exact Has.ro (by assumption)) (by first | rfl | assumption)) rfl ?_
    refine g_pure (p_len (by rfl) rfl) rfl ?_
    first | refine g_pure (p_subi rfl rfl (by omega)) rfl ?_ | refine g_pure (p_sub rfl rfl) rfl ?_
    refine g_pure (p_build (by rfl) rfl (by rfl)) rfl ?_
    refine g_eff (e_alloc (by rfl)) rfl (fun _ _ => ?_)
    rintro ⟨b7, rfl, rfl⟩
    first | refine g_eff0 (e_storeO rfl rfl (by rfl) (by rfl) (by rfl) (by repeat' (first | exact Take.here | apply Take.there)) (by rfl)) (fun _ _ => ?_) | refine g_eff0 (e_storeN rfl rfl (by rfl) (by rfl) (by rfl) (by repeat' (first | exact Take.here | apply Take.there)) (by simp)) (fun _ _ => ?_)
    rintro rfl
    refine g_nil ?_
    refine g_qt ?_
    refine g_seq ?_
    refine g_seq ?_
    refine g_region ?_
    refine g_pure (p_fieldAddr rfl) rfl ?_
    refine g_pure (p_load (by rfl) rfl (by first | (apply Has.own; (repeat' (first | exact Take.here | apply Take.there)); done) | exact Has.ro (by assumption)) (by first | rfl | assumption)) rfl ?_
    refine g_pure (p_gtr rfl rfl) rfl ?_
    refine g_nil ?_
    refine g_qt ?_
    refine g_ifd rfl (fun z => ?_) (fun z => ?_)
    · exfalso; omega
    · refine g_skip ?_
      refine g_qt ?_
      refine g_seq ?_
      refine g_region ?_
      first | refine g_pure (p_loadO (by rfl) rfl (by first | (apply Has.own; (repeat' (first | exact Take.here | apply Take.there)); done) | exact Has.ro (by assumption)) (by rfl)) rfl ?_ | refine g_pure (p_loadN (by rfl) rfl (by first | (apply Has.own; (repeat' (first | exact Take.here | apply Take.there)); done) | exact Has.ro (by assumption)) (by first | rfl | assumption)) rfl ?_
      refine g_pure (p_move rfl) rfl ?_
      refine g_call (Hin := []) (Hr := ?hr1) (R := ?rr1) rfl rfl rfl ?hin1 ?hc1 ?hk1
      case hin1 => repeat' (first | exact Cover.nil | exact Take.here | apply Cover.cons | apply Take.there)
      case hc1 => intro ρ' hρ hR; exact dneeded36_ok S hw a1 a2 a3 c1 c2 c3 (hG.mono hρ) al cl rs (hl'.mono hρ) hlen hr
      rintro _ _ ⟨ba, bc, B, rfl, hBl, hnd, rfl⟩
      refine g_own (e := 4) (xs := B.map encB) (by repeat' (first | exact Take.here | apply Take.there)) (fun _ h _ _ => absurd h (by omega)) (fun gB curB r1 r2 r3 r4 r5 r6 => ?_)
      subst r1
      have hB : ∀ v : Nat, v < S.length → curB[0 + (v : Int).toNat * 1]? = some (.bool (B.getD v false)) := fun v hv => own_at (k := v) r5 (by simp) (by rw [List.getElem?_map, List.getElem?_eq_getElem (by omega), List.getD_eq_getElem?_getD, List.getElem?_eq_getElem (by omega)]; rfl)
      refine g_ownnil (e := 79) (size := 1) ?_
      refine g_nils (eo := 79) (ei := 3) (a := none) (k := 0) (cap := 0) .here ?_
      refine g_pure (p_assign rfl) rfl ?_
      refine g_nil ?_
      refine g_qt ?_
      refine g_seq ?_
      refine g_seq ?_
      refine g_region ?_
      refine g_pure (p_assign rfl) rfl ?_
      refine g_nil ?_
      refine g_qt ?_
      refine g_block ?_
      refine g_loop (fun q : Nat × Option Addr × Nat => [(1, .slice al rs.length cl), (2, .pointer (some ⟨b2, 0, none⟩)), (4, .pointer (some ⟨b4, 0, none⟩)), (7, .pointer (some ⟨b7, 0, none⟩)), (8, .slice (some ⟨gB, 0, none⟩) S.length bc), (9, .int .i64 q.1)])
        (fun q => [Blk b2 (.cells [.slice a1 S.length c1, .slice a2 S.length c2, .slice a3 S.length c3].toArray 39 (0, 0)), Blk b4 (.cells [.int .i64 0, .slice none 0 0].toArray 30 (0, 0)), Blk b7 (.cells [.int .i64 ((S.length : Int) - 1), .slice q.2.1 (gates S (fun u => B.getD u false) q.1).length q.2.2].toArray 30 (0, 0)), Blk gB (.cells curB.toArray 4 (0, 0)), Own2 79 3 q.2.1 q.2.2 ((gates S (fun u => B.getD u false) q.1).map encCl)])
        (fun q => q.1 ≤ S.length) (fun q => S.length - q.1) (0, none, 0) (Nat.zero_le _) (by (repeat (first | exact trivial | refine ⟨by rfl, ?_⟩)); done) (by repeat' (first | exact Cover.nil | exact Take.here | apply Cover.cons | apply Take.there)) ?_
      rintro ⟨v, ca, cc⟩ hv
      dsimp only at hv ⊢
      obtain ⟨F, hF⟩ : ∃ F, gates S (fun u => B.getD u false) v = F := ⟨_, rfl⟩
      have hFl : F.length ≤ 3 * v := by rw [← hF]; exact gates_len _ _ _
      have hnx := gates_succ S (fun u => B.getD u false) v
      rw [hF] at hnx ⊢
      refine g_seq ?_
      refine g_seq ?_
      refine g_region ?_
      refine g_pure (p_move rfl) rfl ?_
      refine g_pure (p_fieldAddr rfl) rfl ?_
      refine g_pure (p_load (by rfl) rfl (by first | (apply Has.own; (repeat' (first | exact Take.here | apply Take.there)); done) | exact Has.ro (by assumption)) (by first | rfl | assumption)) rfl ?_
      refine g_pure (p_len (by rfl) rfl) rfl ?_
      refine g_pure (p_lss rfl rfl) rfl ?_
      refine g_nil ?_
      refine g_qt ?_
      refine g_ifd rfl (fun w => ?_) (fun w => ?_)
      · have hvl : v < S.length := by omega
        obtain ⟨x, y, d, hgt⟩ : ∃ x y d, gate1 S (v : Int) = (x, y, d) := ⟨_, _, _, rfl⟩
        obtain ⟨e1, e2, e3⟩ := isV_at hvl hgt
        have j1 := i3 v _ e1
        have j2 := i6 v _ e2
        have j3 := i9 v _ e3
        have hBv := hB v hvl
        obtain ⟨nv, hnv⟩ : ∃ nv, B.getD v false = nv := ⟨_, rfl⟩
        rw [hnv] at hBv
        try dsimp only at hnx
        rw [hnv] at hnx
        cases nv with
        | false =>
          rw [if_neg (by decide), List.append_nil] at hnx
          refine g_skip ?_
          refine g_qt ?_
          refine g_seq ?_
          refine g_block ?_
          refine g_seq ?_
          refine g_region ?_
          refine g_pure (p_move rfl) rfl ?_
          refine g_pure (p_move rfl) rfl ?_
          refine g_pure (p_indexAddr rfl rfl (by omega) (fun _ => rfl)) rfl ?_
          refine g_pure (p_load (by rfl) rfl (Has.own (by repeat' (first | exact Take.here | apply Take.there))) hBv) rfl ?_
          refine g_pure (p_move rfl) rfl ?_
          refine g_no rfl rfl rfl rfl ?_
          refine g_no rfl rfl rfl rfl ?_
          refine g_no rfl rfl rfl rfl ?_
          refine g_no rfl rfl rfl rfl ?_
          refine g_no rfl rfl rfl rfl ?_
          first | refine g_pure (p_pickt rfl rfl) rfl ?_ | refine g_pure (p_pickf rfl rfl) rfl ?_
          refine g_nil ?_
          refine g_qt ?_
          refine g_iff rfl ?_
          refine g_skip ?_
          refine g_qb ?_
          refine g_qt ?_
          refine g_region ?_
          refine g_pure (p_move rfl) rfl ?_
          first | refine g_pure (p_addi rfl rfl (by omega)) rfl ?_ | refine g_pure (p_add rfl rfl) rfl ?_
          refine g_pure (p_assign rfl) rfl ?_
          refine g_nil ?_
          refine g_qn ?_
          exact g_next (v + 1, ca, cc) (by (repeat (first | exact trivial | refine ⟨by rfl, ?_⟩)); done) (by rw [hnx]; exact (by repeat' (first | exact Cover.nil | exact Take.here | apply Cover.cons | apply Take.there))) (by dsimp only; omega) (by dsimp only; omega)
        | true =>
          rw [if_pos rfl] at hnx
          cases d with
          | false =>
            have hg0 : gcls S v = [] := by
              by_cases h0 : v = 0
              · exact gcls_other (.inl h0)
              · obtain ⟨⟨x', y', z'⟩, hs⟩ : ∃ g, S[v]? = some g := ⟨_, List.getElem?_eq_getElem hvl⟩
                cases z' with
                | true => exact gcls_other (.inr ⟨x', y', hs⟩)
                | false => exact (gate1_no hgt (by omega) hs).elim
            rw [hg0, List.append_nil] at hnx
            refine g_skip ?_
            refine g_qt ?_
            refine g_seq ?_
            refine g_block ?_
            refine g_seq ?_
            refine g_region ?_
            refine g_pure (p_move rfl) rfl ?_
            refine g_pure (p_move rfl) rfl ?_
            refine g_pure (p_indexAddr rfl rfl (by omega) (fun _ => rfl)) rfl ?_
            refine g_pure (p_load (by rfl) rfl (Has.own (by repeat' (first | exact Take.here | apply Take.there))) hBv) rfl ?_
            refine g_pure (p_move rfl) rfl ?_
            refine g_yes rfl rfl ?_
            refine g_pure (p_fieldAddr rfl) rfl ?_
            refine g_yes rfl rfl ?_
            refine g_pure (p_load (by rfl) rfl (by first | (apply Has.own; (repeat' (first | exact Take.here | apply Take.there)); done) | exact Has.ro (by assumption)) (by first | rfl | assumption)) rfl ?_
            refine g_yes rfl rfl ?_
            refine g_pure (p_move rfl) rfl ?_
            refine g_yes rfl rfl ?_
            refine g_pure (p_indexAddr rfl rfl (by omega) (fun _ => i1)) rfl ?_
            refine g_yes rfl rfl ?_
            refine g_pure (p_load (by rfl) rfl (Has.ro i2) j1) rfl ?_
            first | refine g_pure (p_pickt rfl rfl) rfl ?_ | refine g_pure (p_pickf rfl rfl) rfl ?_
            refine g_nil ?_
            refine g_qt ?_
            refine g_iff rfl ?_
            refine g_skip ?_
            refine g_qb ?_
            refine g_qt ?_
            refine g_region ?_
            refine g_pure (p_move rfl) rfl ?_
            first | refine g_pure (p_addi rfl rfl (by omega)) rfl ?_ | refine g_pure (p_add rfl rfl) rfl ?_
            refine g_pure (p_assign rfl) rfl ?_
            refine g_nil ?_
            refine g_qn ?_
            exact g_next (v + 1, ca, cc) (by (repeat (first | exact trivial | refine ⟨by rfl, ?_⟩)); done) (by rw [hnx]; exact (by repeat' (first | exact Cover.nil | exact Take.here | apply Cover.cons | apply Take.there))) (by dsimp only; omega) (by dsimp only; omega)
          | true =>
            obtain ⟨m1, m2⟩ := gate1_yes hgt
            obtain ⟨m3, m4, m5⟩ := hw.gate v x y m1 m2
            rw [gcls_gate m1 m2] at hnx
            have hbx : -131072 ≤ litF x ∧ litF x ≤ 131072 := by unfold litF; split <;> omega
            have hby : -131072 ≤ litF y ∧ litF y ≤ 131072 := by unfold litF; split <;> omega
            refine g_skip ?_
            refine g_qt ?_
            refine g_seq ?_
            refine g_block ?_
            refine g_seq ?_
            refine g_region ?_
            refine g_pure (p_move rfl) rfl ?_
            refine g_pure (p_move rfl) rfl ?_
            refine g_pure (p_indexAddr rfl rfl (by omega) (fun _ => rfl)) rfl ?_
            refine g_pure (p_load (by rfl) rfl (Has.own (by repeat' (first | exact Take.here | apply Take.there))) hBv) rfl ?_
            refine g_pure (p_move rfl) rfl ?_
            refine g_yes rfl rfl ?_
            refine g_pure (p_fieldAddr rfl) rfl ?_
            refine g_yes rfl rfl ?_
            refine g_pure (p_load (by rfl) rfl (by first | (apply Has.own; (repeat' (first | exact Take.here | apply Take.there)); done) | exact Has.ro (by assumption)) (by first | rfl | assumption)) rfl ?_
            refine g_yes rfl rfl ?_
            refine g_pure (p_move rfl) rfl ?_
            refine g_yes rfl rfl ?_
            refine g_pure (p_indexAddr rfl rfl (by omega) (fun _ => i1)) rfl ?_
            refine g_yes rfl rfl ?_
            refine g_pure (p_load (by rfl) rfl (Has.ro i2) j1) rfl ?_
            first | refine g_pure (p_pickt rfl rfl) rfl ?_ | refine g_pure (p_pickf rfl rfl) rfl ?_
            refine g_nil ?_
            refine g_qt ?_
            refine g_ift rfl ?_
            refine g_seq ?_
            refine g_open2 (H' := _) (eo := 79) (ei := 3) (a := ca) (cap := cc) (rows := F.map encCl) (by repeat' (first | exact Take.here | apply Take.there)) ?_
            rintro hs hhs
            have hml : (F.map encCl).length = F.length := List.length_map _
            rw [hml] at hhs ⊢
            refine m_begin0 (.fl 0 0 (.fl 1 1 (.fl 2 0 (.fl 3 0 (.fl 4 1 (.fl 6 0 (.fl 7 1 (.fl 8 0 (.fl 9 0 (.fl 10 1 (.ef 5 (.ef 11 (.fl 12 0 (.fl 13 0 .done)))))))))))))) (by kernel_rfl) (by kernel_rfl) ?_
            refine m_float0 rfl (fun _ _ => p_fieldAddr rfl) rfl ?_
            refine m_float rfl (p_load (by rfl) rfl (by first | (apply Has.own; (repeat' (first | exact Take.here | apply Take.there)); done) | exact Has.ro (by assumption)) (by first | rfl | assumption)) rfl ?_
            refine m_float0 rfl (fun _ _ => p_move rfl) rfl ?_
            refine m_float0 rfl (fun _ _ => p_indexAddr rfl rfl (by omega) (fun _ => i4)) rfl ?_
            refine m_float rfl (p_load (by rfl) rfl (Has.ro i5) j2) rfl ?_
            refine m_float0 rfl (fun _ _ => p_fieldAddr rfl) rfl ?_
            refine m_float rfl (p_load (by rfl) rfl (by first | (apply Has.own; (repeat' (first | exact Take.here | apply Take.there)); done) | exact Has.ro (by assumption)) (by first | rfl | assumption)) rfl ?_
            refine m_float0 rfl (fun _ _ => p_move rfl) rfl ?_
            refine m_float0 rfl (fun _ _ => p_indexAddr rfl rfl (by omega) (fun _ => i7)) rfl ?_
            refine m_float rfl (p_load (by rfl) rfl (Has.ro i8) j3) rfl ?_
            refine m_call (Hin := []) (Hr := ?hr2) (R := ?rr2) rfl wantedN rfl rfl rfl ?hin2 ?hc2 ?hk2
            case hin2 => repeat' (first | exact Cover.nil | exact Take.here | apply Cover.cons | apply Take.there)
            case hc2 => intro ρ' hρ hR; exact dlit_ok x (by omega)
            rintro _ _ ⟨rfl, rfl⟩
            refine ⟨.some (by repeat' (first | exact Cover.nil | exact Take.here | apply Cover.cons | apply Take.there)), ?_⟩
            refine m_call (Hin := []) (Hr := ?hr3) (R := ?rr3) rfl wantedN rfl rfl rfl ?hin3 ?hc3 ?hk3
            case hin3 => repeat' (first | exact Cover.nil | exact Take.here | apply Cover.cons | apply Take.there)
            case hc3 => intro ρ' hρ hR; exact dlit_ok y (by omega)
            rintro _ _ ⟨rfl, rfl⟩
            refine ⟨.none (by kernel_rfl), ?_⟩
            refine m_float0 rfl (fun _ _ => p_assign rfl) rfl ?_
            refine m_float0 rfl (fun _ _ => p_assign rfl) rfl ?_
            refine m_nil ?_
            refine g_qt ?_
            refine g_region ?_
            refine g_pure (p_fieldAddr rfl) rfl ?_
            refine g_pure (p_load (by rfl) rfl (by first | (apply Has.own; (repeat' (first | exact Take.here | apply Take.there)); done) | exact Has.ro (by assumption)) (by first | rfl | assumption)) rfl ?_
            refine g_pure (p_move rfl) rfl ?_
            first | refine g_pure (p_negi rfl (by omega)) rfl ?_ | refine g_pure (p_neg rfl) rfl ?_
            refine g_pure (p_move rfl) rfl ?_
            refine g_eff (e_bs (xs := [.tmp 81, .tmp 82]) rfl rfl rfl (by rfl) (by rfl) rfl (by rfl)) rfl (fun _ _ => ?_)
            rintro ⟨b83, rfl, rfl⟩
            refine g_pure (p_move rfl) rfl ?_
            first | refine g_pure (p_negi rfl (by omega)) rfl ?_ | refine g_pure (p_neg rfl) rfl ?_
            refine g_pure (p_move rfl) rfl ?_
            refine g_eff (e_bs (xs := [.tmp 85, .tmp 86]) rfl rfl rfl (by rfl) (by rfl) rfl (by rfl)) rfl (fun _ _ => ?_)
            rintro ⟨b87, rfl, rfl⟩
            refine g_pure (p_move rfl) rfl ?_
            refine g_pure (p_move rfl) rfl ?_
            first | refine g_pure (p_negi rfl (by omega)) rfl ?_ | refine g_pure (p_neg rfl) rfl ?_
            refine g_pure (p_move rfl) rfl ?_
            first | refine g_pure (p_negi rfl (by omega)) rfl ?_ | refine g_pure (p_neg rfl) rfl ?_
            refine g_eff (e_bs (xs := [.tmp 88, .tmp 90, .tmp 92]) rfl rfl rfl (by rfl) (by rfl) rfl (by rfl)) rfl (fun _ _ => ?_)
            rintro ⟨b93, rfl, rfl⟩
            refine g_eff (e_bs (xs := [.tmp 83, .tmp 87, .tmp 93]) rfl rfl rfl (by rfl) (by rfl) rfl (by rfl)) rfl (fun _ _ => ?_)
            rintro ⟨b94, rfl, rfl⟩
            refine g_eff (e_appendO (by rfl) (by rfl) rfl rfl (by first | (apply Has.own; (repeat' (first | exact Take.here | apply Take.there)); done) | exact Has.ro (by assumption)) (by rfl) (by rfl) (by repeat' (first | exact Take.here | apply Take.there)) (by omega) (by first | omega | (dsimp only; omega) | (simp <;> omega)) (by omega)) rfl (fun _ _ => ?_)
            rintro ⟨a95, c95, rfl, rfl⟩
            refine g_pure (p_fieldAddr rfl) rfl ?_
            first | refine g_eff0 (e_storeO rfl rfl (by rfl) (by rfl) (by rfl) (by repeat' (first | exact Take.here | apply Take.there)) (by rfl)) (fun _ _ => ?_) | refine g_eff0 (e_store1 (by rfl) rfl rfl rfl (by repeat' (first | exact Take.here | apply Take.there)) (by first | decide | (simp <;> omega) | omega)) (fun _ _ => ?_)
            rintro rfl
            refine g_nil ?_
            refine g_qb ?_
            refine g_qt ?_
            refine g_region ?_
            refine g_pure (p_move rfl) rfl ?_
            first | refine g_pure (p_addi rfl rfl (by omega)) rfl ?_ | refine g_pure (p_add rfl rfl) rfl ?_
            refine g_pure (p_assign rfl) rfl ?_
            refine g_nil ?_
            refine g_qn ?_
            have hml1 : maxLen = 9223372036854775807 := rfl
            refine g_fold (k := 2) (cap := 2) (size := 1) (g := b83) (xs := encCl [-(v : Int), litF x]) (by repeat' (first | exact Take.here | apply Take.there)) (Nat.le_refl _) (by omega) rfl rfl ?_
            refine g_fold (k := 2) (cap := 2) (size := 1) (g := b87) (xs := encCl [-(v : Int), litF y]) (by repeat' (first | exact Take.here | apply Take.there)) (Nat.le_refl _) (by omega) rfl rfl ?_
            refine g_fold (k := 3) (cap := 3) (size := 1) (g := b93) (xs := encCl [(v : Int), -litF x, -litF y]) (by repeat' (first | exact Take.here | apply Take.there)) (Nat.le_refl _) (by omega) rfl rfl ?_
            refine g_push3 (rows := F.map encCl) (hs := hs) (ei := 3) (by rw [hml]; exact hhs) (g1 := (some ⟨b83, 0, none⟩, 2)) (g2 := (some ⟨b87, 0, none⟩, 2)) (g3 := (some ⟨b93, 0, none⟩, 3)) (r1 := encCl [-(v : Int), litF x]) (r2 := encCl [-(v : Int), litF y]) (r3 := encCl [(v : Int), -litF x, -litF y]) (by rw [hml]) rfl (by repeat' (first | exact Take.here | apply Take.there)) (by repeat' (first | exact Take.here | apply Take.there)) (by repeat' (first | exact Take.here | apply Take.there)) (by repeat' (first | exact Take.here | apply Take.there)) (by repeat' (first | exact Take.here | apply Take.there)) ?_
            have hrw : F.map encCl ++ [encCl [-(v : Int), litF x], encCl [-(v : Int), litF y], encCl [(v : Int), -litF x, -litF y]] = (gates S (fun u => B.getD u false) (v + 1)).map encCl := by
              rw [hnx, List.map_append]; rfl
            have hln : F.length + 3 = (gates S (fun u => B.getD u false) (v + 1)).length := by rw [hnx]; simp
            rw [hrw, hln]
            exact g_next (v + 1, a95, c95) (by (repeat (first | exact trivial | refine ⟨by rfl, ?_⟩)); done) (by repeat' (first | exact Cover.nil | exact Take.here | apply Cover.cons | apply Take.there)) (by dsimp only; omega) (by dsimp only; omega)
      · have hve : v = S.length := by omega
        subst hve
        refine g_exit ?_
        refine g_qt_exit ?_
        refine g_qn_exit ?_
        refine g_qb_exit ?_
        refine g_qt ?_
        refine g_seq ?_
        refine g_seq ?_
        refine g_region ?_
        refine g_pure (p_assign rfl) rfl ?_
        refine g_nil ?_
        refine g_qt ?_
        refine g_block ?_
        refine g_loop (fun q : Nat × Option Addr × Nat => [(1, .slice al rs.length cl), (4, .pointer (some ⟨b4, 0, none⟩)), (7, .pointer (some ⟨b7, 0, none⟩)), (12, .int .i64 q.1)])
          (fun q => [Blk b4 (.cells [.int .i64 0, .slice none 0 0].toArray 30 (0, 0)), Blk b7 (.cells [.int .i64 ((S.length : Int) - 1), .slice q.2.1 (F ++ (rs.take q.1).flatMap rcl).length q.2.2].toArray 30 (0, 0)), Own2 79 3 q.2.1 q.2.2 ((F ++ (rs.take q.1).flatMap rcl).map encCl)])
          (fun q => q.1 ≤ rs.length ∧ ((rs.take q.1).flatMap rcl).length ≤ q.1) (fun q => rs.length - q.1) (0, ca, cc) ⟨Nat.zero_le _, Nat.zero_le _⟩ (by (repeat (first | exact trivial | refine ⟨by rfl, ?_⟩)); done) (by simp only [List.take_zero, List.flatMap_nil, List.append_nil]; exact (by repeat' (first | exact Cover.nil | exact Take.here | apply Cover.cons | apply Take.there))) ?_
        rintro ⟨i, ca, cc⟩ ⟨hi, hle⟩
        dsimp only at hi hle ⊢
        have hnx : ∀ (hil : i < rs.length), (rs.take (i + 1)).flatMap rcl = (rs.take i).flatMap rcl ++ rcl rs[i] := fun hil => by rw [List.take_add_one, List.getElem?_eq_getElem hil, List.flatMap_append]; simp
        obtain ⟨E, hE⟩ : ∃ E, F ++ (rs.take i).flatMap rcl = E := ⟨_, rfl⟩
        have hEl : E.length = F.length + ((rs.take i).flatMap rcl).length := by rw [← hE, List.length_append]
        have hml : (E.map encCl).length = E.length := List.length_map _
        have hnE : ∀ (hil : i < rs.length), F ++ (rs.take (i + 1)).flatMap rcl = E ++ rcl rs[i] := fun hil => by rw [hnx hil, ← List.append_assoc, hE]
        have hml1 : maxLen = 9223372036854775807 := rfl
        rw [hE]
        refine g_seq ?_
        refine g_seq ?_
        refine g_region ?_
        refine g_pure (p_move rfl) rfl ?_
        refine g_pure (p_move rfl) rfl ?_
        refine g_pure (p_len (by rfl) rfl) rfl ?_
        refine g_pure (p_lss rfl rfl) rfl ?_
        refine g_nil ?_
        refine g_qt ?_
        refine g_ifd rfl (fun w2 => ?_) (fun w2 => ?_)
        · have hil : i < rs.length := by omega
          obtain ⟨r1, r2, r3⟩ := hcs (by omega)
          obtain ⟨h0, h1, hx⟩ := hroot i hil
          have hnE := hnE hil
          have hnx := hnx hil
          generalize rs[i] = r at h0 h1 hx hnE hnx
          refine g_skip ?_
          refine g_qt ?_
          refine g_seq ?_
          refine g_block ?_
          refine g_seq ?_
          refine g_region ?_
          refine g_pure (p_move rfl) rfl ?_
          refine g_pure (p_move rfl) rfl ?_
          refine g_pure (p_indexAddr rfl rfl (by omega) (fun _ => r1)) rfl ?_
          refine g_pure (p_load (by rfl) rfl (Has.ro r2) hx) rfl ?_
          refine g_nil ?_
          refine g_qt ?_
          refine g_block ?_
          refine g_seq ?_
          refine g_region ?_
          refine g_pure (p_eql rfl rfl) rfl ?_
          refine g_pure (p_assign rfl) rfl ?_
          refine g_nil ?_
          refine g_qt ?_
          refine g_ifd rfl (fun u => ?_) (fun u => ?_)
          · have hc : rcl r = [[]] := by rw [u]; rfl
            refine g_open2 (H' := _) (eo := 79) (ei := 3) (a := ca) (cap := cc) (rows := E.map encCl) (by repeat' (first | exact Take.here | apply Take.there)) ?_
            rintro hs hhs
            rw [hml] at hhs ⊢
            refine g_region ?_
            refine g_pure (p_fieldAddr rfl) rfl ?_
            refine g_pure (p_load (by rfl) rfl (by first | (apply Has.own; (repeat' (first | exact Take.here | apply Take.there)); done) | exact Has.ro (by assumption)) (by first | rfl | assumption)) rfl ?_
            refine g_eff (e_bs (xs := []) rfl rfl rfl (by rfl) (by rfl) rfl (by rfl)) rfl (fun _ _ => ?_)
            rintro ⟨b122, rfl, rfl⟩
            refine g_eff (e_bs (xs := [.tmp 122]) rfl rfl rfl (by rfl) (by rfl) rfl (by rfl)) rfl (fun _ _ => ?_)
            rintro ⟨b123, rfl, rfl⟩
            refine g_eff (e_appendO (by rfl) (by rfl) rfl rfl (by first | (apply Has.own; (repeat' (first | exact Take.here | apply Take.there)); done) | exact Has.ro (by assumption)) (by rfl) (by rfl) (by repeat' (first | exact Take.here | apply Take.there)) (by omega) (by first | omega | (dsimp only; omega) | (simp <;> omega)) (by omega)) rfl (fun _ _ => ?_)
            rintro ⟨a124, c124, rfl, rfl⟩
            refine g_pure (p_fieldAddr rfl) rfl ?_
            first | refine g_eff0 (e_storeO rfl rfl (by rfl) (by rfl) (by rfl) (by repeat' (first | exact Take.here | apply Take.there)) (by rfl)) (fun _ _ => ?_) | refine g_eff0 (e_store1 (by rfl) rfl rfl rfl (by repeat' (first | exact Take.here | apply Take.there)) (by first | decide | (simp <;> omega) | omega)) (fun _ _ => ?_)
            rintro rfl
            refine g_nil ?_
            refine g_qb ?_
            refine g_qb ?_
            refine g_qt ?_
            refine g_region ?_
            refine g_pure (p_move rfl) rfl ?_
            first | refine g_pure (p_addi rfl rfl (by omega)) rfl ?_ | refine g_pure (p_add rfl rfl) rfl ?_
            refine g_pure (p_assign rfl) rfl ?_
            refine g_nil ?_
            refine g_qn ?_
            refine g_fold (k := 0) (cap := 0) (size := 1) (g := b122) (xs := encCl []) (by repeat' (first | exact Take.here | apply Take.there)) (Nat.le_refl _) (by omega) rfl rfl ?_
            refine g_push1 (rows := E.map encCl) (hs := hs) (ei := 3) (by rw [hml]; exact hhs) (g := (some ⟨b122, 0, none⟩, 0)) (r := encCl []) (by rw [hml]) rfl (by repeat' (first | exact Take.here | apply Take.there)) (by repeat' (first | exact Take.here | apply Take.there)) (by repeat' (first | exact Take.here | apply Take.there)) ?_
            have hrw : E.map encCl ++ [encCl []] = (F ++ (rs.take (i + 1)).flatMap rcl).map encCl := by rw [hnE, hc, List.map_append]; rfl
            have hln : E.length + 1 = (F ++ (rs.take (i + 1)).flatMap rcl).length := by rw [hnE, hc]; simp
            rw [hrw, hln]
            exact g_next (i + 1, a124, c124) (by (repeat (first | exact trivial | refine ⟨by rfl, ?_⟩)); done) (by repeat' (first | exact Cover.nil | exact Take.here | apply Cover.cons | apply Take.there)) ⟨by dsimp only; omega, by dsimp only; rw [hnx, hc, List.length_append]; exact Nat.add_le_add_right hle 1⟩ (by dsimp only; omega)
          · refine g_seq ?_
            refine g_region ?_
            refine g_pure (p_eql rfl rfl) rfl ?_
            refine g_pure (p_assign rfl) rfl ?_
            refine g_nil ?_
            refine g_qt ?_
            refine g_ifd rfl (fun u2 => ?_) (fun u2 => ?_)
            · have hc : rcl r = [] := by rw [u2]; rfl
              have hrw : E = F ++ (rs.take (i + 1)).flatMap rcl := by rw [hnE, hc, List.append_nil]
              refine g_skip ?_
              refine g_qb ?_
              refine g_qb ?_
              refine g_qt ?_
              refine g_region ?_
              refine g_pure (p_move rfl) rfl ?_
              first | refine g_pure (p_addi rfl rfl (by omega)) rfl ?_ | refine g_pure (p_add rfl rfl) rfl ?_
              refine g_pure (p_assign rfl) rfl ?_
              refine g_nil ?_
              refine g_qn ?_
              rw [hrw]
              exact g_next (i + 1, ca, cc) (by (repeat (first | exact trivial | refine ⟨by rfl, ?_⟩)); done) (by repeat' (first | exact Cover.nil | exact Take.here | apply Cover.cons | apply Take.there)) ⟨by dsimp only; omega, by dsimp only; rw [hnx, hc, List.append_nil]; omega⟩ (by dsimp only; omega)
            · have hc : rcl r = [[litF r]] := by unfold rcl; rw [if_neg u, if_neg u2]
              refine g_open2 (H' := _) (eo := 79) (ei := 3) (a := ca) (cap := cc) (rows := E.map encCl) (by repeat' (first | exact Take.here | apply Take.there)) ?_
              rintro hs hhs
              rw [hml] at hhs ⊢
              refine m_begin0 (.fl 0 0 (.fl 1 1 (.fl 2 0 (.fl 3 0 (.fl 4 0 (.fl 5 1 (.ef 6 (.ef 7 (.ef 8 (.ef 9 (.fl 10 0 (.ef 11 .done)))))))))))) (by kernel_rfl) (by kernel_rfl) ?_
              refine m_float0 rfl (fun _ _ => p_fieldAddr rfl) rfl ?_
              refine m_float rfl (p_load (by rfl) rfl (by first | (apply Has.own; (repeat' (first | exact Take.here | apply Take.there)); done) | exact Has.ro (by assumption)) (by first | rfl | assumption)) rfl ?_
              refine m_float0 rfl (fun _ _ => p_move rfl) rfl ?_
              refine m_float0 rfl (fun _ _ => p_move rfl) rfl ?_
              refine m_float0 rfl (fun _ _ => p_indexAddr rfl rfl (by omega) (fun _ => r1)) rfl ?_
              refine m_float rfl (p_load (by rfl) rfl (Has.ro r2) hx) rfl ?_
              refine m_call (Hin := []) (Hr := ?hr4) (R := ?rr4) rfl wantedN rfl rfl rfl ?hin4 ?hc4 ?hk4
              case hin4 => repeat' (first | exact Cover.nil | exact Take.here | apply Cover.cons | apply Take.there)
              case hc4 => intro ρ' hρ hR; exact dlit_ok r (by omega)
              rintro _ _ ⟨rfl, rfl⟩
              refine ⟨.some (by repeat' (first | exact Cover.nil | exact Take.here | apply Cover.cons | apply Take.there)), ?_⟩
              refine m_eff rfl (e_bs (xs := [.tmp 113]) rfl rfl rfl (by rfl) (by rfl) rfl (by rfl)) rfl (fun _ _ => ?_)
              rintro ⟨b114, rfl, rfl⟩
              refine ⟨.some (by repeat' (first | exact Cover.nil | exact Take.here | apply Cover.cons | apply Take.there)), ?_⟩
              refine m_eff rfl (e_bs (xs := [.tmp 114]) rfl rfl rfl (by rfl) (by rfl) rfl (by rfl)) rfl (fun _ _ => ?_)
              rintro ⟨b115, rfl, rfl⟩
              refine ⟨.some (by repeat' (first | exact Cover.nil | exact Take.here | apply Cover.cons | apply Take.there)), ?_⟩
              refine m_eff rfl (e_appendO (by rfl) (by rfl) rfl rfl (by first | (apply Has.own; (repeat' (first | exact Take.here | apply Take.there)); done) | exact Has.ro (by assumption)) (by rfl) (by rfl) (by repeat' (first | exact Take.here | apply Take.there)) (by omega) (by first | omega | (dsimp only; omega) | (simp <;> omega)) (by omega)) rfl (fun _ _ => ?_)
              rintro ⟨a116, c116, rfl, rfl⟩
              refine ⟨.none (by kernel_rfl), ?_⟩
              refine m_float0 rfl (fun _ _ => p_fieldAddr rfl) rfl ?_
              first | refine m_eff0 rfl (e_storeO rfl rfl (by rfl) (by rfl) (by rfl) (by repeat' (first | exact Take.here | apply Take.there)) (by rfl)) (fun _ _ => ?_) | refine m_eff0 rfl (e_store1 (by rfl) rfl rfl rfl (by repeat' (first | exact Take.here | apply Take.there)) (by first | decide | (simp <;> omega) | omega)) (fun _ _ => ?_)
              rintro rfl
              refine ⟨.none (by kernel_rfl), ?_⟩
              refine m_nil ?_
              refine g_qb ?_
              refine g_qb ?_
              refine g_qt ?_
              refine g_region ?_
              refine g_pure (p_move rfl) rfl ?_
              first | refine g_pure (p_addi rfl rfl (by omega)) rfl ?_ | refine g_pure (p_add rfl rfl) rfl ?_
              refine g_pure (p_assign rfl) rfl ?_
              refine g_nil ?_
              refine g_qn ?_
              refine g_fold (k := 1) (cap := 1) (size := 1) (g := b114) (xs := encCl [litF r]) (by repeat' (first | exact Take.here | apply Take.there)) (Nat.le_refl _) (by omega) rfl rfl ?_
              refine g_push1 (rows := E.map encCl) (hs := hs) (ei := 3) (by rw [hml]; exact hhs) (g := (some ⟨b114, 0, none⟩, 1)) (r := encCl [litF r]) (by rw [hml]) rfl (by repeat' (first | exact Take.here | apply Take.there)) (by repeat' (first | exact Take.here | apply Take.there)) (by repeat' (first | exact Take.here | apply Take.there)) ?_
              have hrw : E.map encCl ++ [encCl [litF r]] = (F ++ (rs.take (i + 1)).flatMap rcl).map encCl := by rw [hnE, hc, List.map_append]; rfl
              have hln : E.length + 1 = (F ++ (rs.take (i + 1)).flatMap rcl).length := by rw [hnE, hc]; simp
              rw [hrw, hln]
              exact g_next (i + 1, a116, c116) (by (repeat (first | exact trivial | refine ⟨by rfl, ?_⟩)); done) (by repeat' (first | exact Cover.nil | exact Take.here | apply Cover.cons | apply Take.there)) ⟨by dsimp only; omega, by dsimp only; rw [hnx, hc, List.length_append]; exact Nat.add_le_add_right hle 1⟩ (by dsimp only; omega)
        · have hie : i = rs.length := by omega
          subst hie
          rw [List.take_length] at hE
          refine g_exit ?_
          refine g_qt_exit ?_
          refine g_qn_exit ?_
          refine g_qb_exit ?_
          refine g_qt ?_
          refine g_seq ?_
          refine g_region ?_
          first | refine g_pure (p_loadO (by rfl) rfl (by first | (apply Has.own; (repeat' (first | exact Take.here | apply Take.there)); done) | exact Has.ro (by assumption)) (by rfl)) rfl ?_ | refine g_pure (p_loadN (by rfl) rfl (by first | (apply Has.own; (repeat' (first | exact Take.here | apply Take.there)); done) | exact Has.ro (by assumption)) (by first | rfl | assumption)) rfl ?_
          first | refine g_eff0 (e_storeO rfl rfl (by rfl) (by rfl) (by rfl) (by repeat' (first | exact Take.here | apply Take.there)) (by rfl)) (fun _ _ => ?_) | refine g_eff0 (e_storeN rfl rfl (by rfl) (by rfl) (by rfl) (by repeat' (first | exact Take.here | apply Take.there)) (by simp)) (fun _ _ => ?_)
          rintro rfl
          refine g_pure (p_assign rfl) rfl ?_
          refine g_nil ?_
          refine g_qt ?_
          refine g_ret ?_
          subst hE hF
          exact g_post (Ho := [Own2 79 3 ca cc ((cnfF S (fun u => B.getD u false) rs).map encCl)]) (rs := [.cell 4 30, .tmp 5]) rfl (Res.cellN (by rfl) rfl (Has.own (by repeat' (first | exact Take.here | apply Take.there))) (by rfl) (.tmp rfl .nil)) ⟨ca, cc, fun u => B.getD u false, hnd, rfl, rfl⟩ (by repeat' (first | exact Cover.nil | exact Take.here | apply Cover.cons | apply Take.there))
end Go.Proofs.YtopgbgnmjogeeaaGreatDoor
/- Chapter 36, plain: what was read has this text; the document's reading by lines. No program in sight. Conditions: none. -/
namespace Go.Z.Txt
set_option maxRecDepth 8000
set_option linter.unusedVariables false
set_option linter.unusedSimpArgs false
set_option linter.unusedSectionVars false
open Go Go.Lib Go.Z.Val

theorem words_some : ∀ {ws : List (List UInt8)} {c : List Int}, wordsV ws = some c → ws = c.map itoa ++ [[48]] ∧ ∀ x ∈ c, x ≠ 0 ∧ -2147483648 ≤ x ∧ x ≤ 2147483648
  | [], c, h => by simp [wordsV] at h
  | [w], c, h => by
    rw [wordsV] at h
    cases hn : numV w with
    | none => rw [hn] at h; cases h
    | some n =>
      rw [hn] at h
      dsimp only at h
      split at h
      · rename_i h0
        subst h0
        injection h with h
        subst h
        have := (numV_some hn).1
        rw [itoa_zero] at this
        exact ⟨by rw [← this]; rfl, fun x hx => absurd hx List.not_mem_nil⟩
      · cases h
  | w :: y :: r, c, h => by
    rw [wordsV] at h
    · cases hn : numV w with
      | none => rw [hn] at h; cases h
      | some n =>
        rw [hn] at h
        dsimp only at h
        split at h
        · cases h
        · rename_i h0
          cases hr : wordsV (y :: r) with
          | none => rw [hr] at h; cases h
          | some d =>
            rw [hr] at h
            injection h with h
            subst h
            obtain ⟨e1, e2⟩ := words_some hr
            have := numV_some hn
            refine ⟨by rw [e1, List.map_cons, this.1]; rfl, fun x hx => ?_⟩
            rcases List.mem_cons.1 hx with rfl | hx
            · exact ⟨h0, this.2⟩
            · exact e2 x hx
    · simp
theorem words_text {s : List UInt8} {c : List Int} (h : wordsV (pieces 32 s) = some c) : s = lineT c := by
  rw [line_glue, ← (words_some h).1, glue_pieces]
theorem far_no {vars : Int} {c : List Int} (h : ¬ farV vars c = true) : ∀ x ∈ c, -vars ≤ x ∧ x ≤ vars := by
  intro x hx
  unfold farV at h
  have h1 : ¬ (decide (vars < x) || decide (x < -vars)) = true := fun e => h (List.any_eq_true.2 ⟨x, hx, e⟩)
  simp at h1; omega
theorem body_some {vars : Int} : ∀ (k : Nat) (rest : List UInt8) (line : Int) (F : List (List Int)), bodyV vars k rest line = .ok F →
    F.length = k ∧ rest = (F.map fun c => lineT c ++ [10]).flatten ∧ ∀ c ∈ F, ∀ x ∈ c, x ≠ 0 ∧ -vars ≤ x ∧ x ≤ vars
  | 0, rest, line, F, h => by
    rw [bodyV] at h
    split at h
    · rename_i e
      subst e
      injection h with h
      subst h
      exact ⟨rfl, rfl, fun c hc => absurd hc List.not_mem_nil⟩
    · cases h
  | k + 1, rest, line, F, h => by
    rw [bodyV] at h
    rcases cut_or 10 rest with hf | ⟨s, r, rfl, hf⟩
    · rw [cut_free hf] at h; cases h
    · rw [cut_hit r hf] at h
      dsimp only at h
      cases hW : wordsV (pieces 32 s) with
      | none => rw [hW] at h; cases h
      | some c =>
        rw [hW] at h
        dsimp only at h
        split at h
        · cases h
        · rename_i hfar
          cases hb : bodyV vars k r (line + 1) with
          | error e => rw [hb] at h; cases h
          | ok G =>
            rw [hb] at h
            simp only [Except.map] at h
            injection h with h
            subst h
            obtain ⟨h1, h2, h3⟩ := body_some k r (line + 1) G hb
            refine ⟨by simp [h1], ?_, fun d hd => ?_⟩
            · rw [List.map_cons, List.flatten_cons, ← h2, ← words_text hW]; simp
            · rcases List.mem_cons.1 hd with rfl | hd
              · exact fun x hx => ⟨((words_some hW).2 x hx).1, far_no hfar x hx⟩
              · exact h3 d hd
theorem head_some {s : List UInt8} {x y : Int} (h : headV s = .ok (x, y)) : s = headT x y.toNat := by
  have hb := headV_ok h
  unfold headV at h
  split at h
  · rename_i p q a b hp
    split at h
    · rename_i hpq
      obtain ⟨rfl, rfl⟩ := hpq
      split at h
      · rename_i x' y' hx hy
        split at h
        · cases h
        · split at h
          · cases h
          · injection h with h
            injection h with h2 h3
            subst h2
            subst h3
            rw [← glue_pieces 32 s, hp, ← (numV_some hx).1, ← (numV_some hy).1]
            have e : ((y'.toNat : Nat) : Int) = y' := by omega
            simp [headT, glue, e]
      · cases h
    · cases h
  · cases h
theorem parse_some {t : List UInt8} {n : Int} {F : List (List Int)} (h : parseV t = .ok (n, F)) : textV n F = t ∧ 0 ≤ n ∧ n ≤ 262144 ∧ F.length ≤ 2147483648 ∧ ∀ c ∈ F, ∀ x ∈ c, x ≠ 0 ∧ -n ≤ x ∧ x ≤ n := by
  unfold parseV at h
  rcases cut_or 10 t with hf | ⟨s, r, rfl, hf⟩
  · rw [cut_free hf] at h; cases h
  · rw [cut_hit r hf] at h
    dsimp only at h
    cases hH : headV s with
    | error e => rw [hH] at h; cases h
    | ok p =>
      obtain ⟨x, y⟩ := p
      rw [hH] at h
      dsimp only at h
      have hb := headV_ok hH
      cases hB : bodyV x y.toNat r 1 with
      | error e => rw [hB] at h; cases h
      | ok G =>
        rw [hB] at h
        simp only [Except.map] at h
        injection h with h
        injection h with h1 h2
        subst h1
        subst h2
        obtain ⟨e1, e2, e3⟩ := body_some _ _ _ _ hB
        refine ⟨?_, hb.1, hb.2.1, by omega, e3⟩
        unfold textV
        rw [e1, ← head_some hH, ← e2]; simp

/-- the body, by lines -/
def bodyL (vars : Int) : Nat → List (List UInt8) → Int → Except (Int × Int) (List (List Int))
  | 0, ls, line => if ls = [[]] then .ok [] else .error (line + 1, 5)
  | k + 1, ls, line =>
    match ls with
    | x :: y :: r =>
      match wordsV (pieces 32 x) with
      | none => .error (line + 1, 5)
      | some c => if farV vars c then .error (line + 1, 14) else (bodyL vars k (y :: r) (line + 1)).map (c :: ·)
    | _ => .error (line + 1, 4)
theorem bodyL_one (vars : Int) (k : Nat) (x : List UInt8) (line : Int) : bodyL vars (k + 1) [x] line = .error (line + 1, 4) := rfl
theorem bodyL_two (vars : Int) (k : Nat) (x y : List UInt8) (r : List (List UInt8)) (line : Int) : bodyL vars (k + 1) (x :: y :: r) line = (match wordsV (pieces 32 x) with
    | none => .error (line + 1, 5)
    | some c => if farV vars c then .error (line + 1, 14) else (bodyL vars k (y :: r) (line + 1)).map (c :: ·)) := rfl
theorem pieces_nil {c : UInt8} {l : List UInt8} : pieces c l = [[]] ↔ l = [] := by
  constructor
  · intro h
    have := glue_pieces c l
    rw [h] at this
    exact this.symm
  · rintro rfl; rfl
theorem body_lines (vars : Int) : ∀ (k : Nat) (rest : List UInt8) (line : Int), bodyV vars k rest line = bodyL vars k (pieces 10 rest) line
  | 0, rest, line => by
    rw [bodyV, bodyL]
    by_cases h : rest = []
    · rw [if_pos h, if_pos (pieces_nil.2 h)]
    · rw [if_neg h, if_neg (fun e => h (pieces_nil.1 e))]
  | k + 1, rest, line => by
    rw [bodyV]
    rcases cut_or 10 rest with hf | ⟨s, r, rfl, hf⟩
    · rw [cut_free hf, pieces_free hf, bodyL_one]
    · rw [cut_hit r hf, pieces_hit r hf]
      cases hp : pieces 10 r with
      | nil => exact absurd hp (pieces_ne _ _)
      | cons y l =>
        rw [bodyL_two]
        dsimp only
        rw [body_lines vars k r (line + 1), hp]
        cases wordsV (pieces 32 s) <;> rfl
def headD (s : List UInt8) : Option (Int × Int) :=
  match pieces 32 s with
  | [p, q, a, b] =>
    if p = [112] ∧ q = [99, 110, 102] then
      match numV a, numV b with
      | some x, some y => if x < 0 ∨ y < 0 then none else some (x, y)
      | _, _ => none
    else none
  | _ => none
theorem head_doc (s : List UInt8) : headV s = match headD s with
    | none => .error 5
    | some (x, y) => if 262144 < x then .error 3 else .ok (x, y) := by
  unfold headV headD
  match pieces 32 s with
  | [] => rfl
  | [_] => rfl
  | [_, _] => rfl
  | [_, _, _] => rfl
  | _ :: _ :: _ :: _ :: _ :: _ => rfl
  | [p, q, a, b] =>
    dsimp only
    by_cases h : p = [112] ∧ q = [99, 110, 102]
    · rw [if_pos h, if_pos h]
      cases numV a with
      | none => rfl
      | some x =>
        cases numV b with
        | none => rfl
        | some y =>
          dsimp only
          by_cases h2 : x < 0 ∨ y < 0
          · rw [if_pos h2, if_pos h2]
          · rw [if_neg h2, if_neg h2]
    · rw [if_neg h, if_neg h]
theorem headD_some {s : List UInt8} {x y : Int} (h : headD s = some (x, y)) : 0 ≤ x ∧ 0 ≤ y ∧ x ≤ 2147483648 ∧ y ≤ 2147483648 := by
  unfold headD at h
  split at h
  · split at h
    · split at h
      · rename_i x' y' hx hy
        have h1 := (numV_some hx).2
        have h2 := (numV_some hy).2
        split at h
        · cases h
        · injection h with h; injection h with h3 h4; subst h3; subst h4; omega
      · cases h
    · cases h
  · cases h
theorem parse_lines (t : List UInt8) : parseV t = match pieces 10 t with
    | x :: y :: r => (match headD x with
      | none => .error (1, 5)
      | some (n, k) => if 262144 < n then .error (1, 3) else (bodyL n k.toNat (y :: r) 1).map (n, ·))
    | _ => .error (1, 4) := by
  unfold parseV
  rcases cut_or 10 t with hf | ⟨s, r, rfl, hf⟩
  · rw [cut_free hf, pieces_free hf]
  · rw [cut_hit r hf, pieces_hit r hf]
    cases hp : pieces 10 r with
    | nil => exact absurd hp (pieces_ne _ _)
    | cons y l =>
      dsimp only
      rw [head_doc]
      cases headD s with
      | none => rfl
      | some p =>
        obtain ⟨n, k⟩ := p
        dsimp only
        by_cases h : 262144 < n
        · rw [if_pos h, if_pos h]
        · rw [if_neg h, if_neg h]
          dsimp only
          rw [body_lines, hp]

/-- the sign of a numeral -/
def sgn (l : List UInt8) : Nat := if l.head? = some 45 then 1 else 0
def digF (a : Int) (c : UInt8) : Int := 10 * a + (c.toNat : Int) - 48
def readN (l : List UInt8) : Int := if sgn l = 1 then -((l.drop 1).foldl digF 0) else l.foldl digF 0
theorem fold_dig (u : Nat) : (decDigits u).foldl digF 0 = u := fold_dec u
theorem sgn_le {l : List UInt8} : sgn l ≤ l.length := by
  unfold sgn; split
  · cases l with
    | nil => simp at *
    | cons a r => simp
  · exact Nat.zero_le _
theorem sgn_two (l : List UInt8) : sgn l = 0 ∨ sgn l = 1 := by unfold sgn; split <;> simp
theorem numV_shape {l : List UInt8} {n : Int} (h : numV l = some n) : l.length ≤ 11 ∧ sgn l ≠ l.length ∧ (∀ c ∈ l.drop (sgn l), 48 ≤ c.toNat ∧ c.toNat ≤ 57) ∧ readN l = n := by
  obtain ⟨rfl, h1, h2⟩ := numV_some h
  refine ⟨itoa_len ⟨h1, h2⟩, ?_⟩
  by_cases hn : n < 0
  · rw [itoa_neg hn]
    obtain ⟨d1, d2⟩ := dec_digits n.natAbs
    have hs : sgn (45 :: decDigits n.natAbs) = 1 := rfl
    have hl : 0 < (decDigits n.natAbs).length := List.length_pos_iff.2 d1
    refine ⟨by rw [hs, List.length_cons]; omega, by rw [hs]; exact d2, ?_⟩
    unfold readN
    rw [if_pos hs, List.drop_succ_cons, List.drop_zero, fold_dig]; omega
  · rw [itoa_pos hn]
    obtain ⟨d1, d2⟩ := dec_digits n.toNat
    have hl : 0 < (decDigits n.toNat).length := List.length_pos_iff.2 d1
    have hs : sgn (decDigits n.toNat) = 0 := by
      unfold sgn
      rw [if_neg]
      intro e
      have := d2 45 (List.mem_of_mem_head? e)
      revert this; decide
    refine ⟨by rw [hs]; omega, by rw [hs]; exact d2, ?_⟩
    unfold readN
    rw [if_neg (by rw [hs]; decide), fold_dig]; omega
theorem fold_lt : ∀ (k : Nat) (l : List UInt8) (a : Int), l.length = k → (∀ c ∈ l, 48 ≤ c.toNat ∧ c.toNat ≤ 57) → 0 ≤ a → 0 ≤ l.foldl digF a ∧ l.foldl digF a < (a + 1) * 10 ^ k
  | 0, l, a, h, _, ha => by
    have := List.eq_nil_of_length_eq_zero h
    subst this
    simp; omega
  | k + 1, [], a, h, _, _ => by cases h
  | k + 1, c :: l, a, h, hd, ha => by
    have hc := hd c (by simp)
    have e : digF a c = 10 * a + (c.toNat : Int) - 48 := rfl
    have ih := fold_lt k l (digF a c) (by simpa using h) (fun d hd' => hd d (by simp [hd'])) (by omega)
    rw [List.foldl_cons]
    refine ⟨ih.1, Int.lt_of_lt_of_le ih.2 ?_⟩
    rw [Int.pow_succ, Int.mul_comm (10 ^ k) 10, ← Int.mul_assoc]
    exact Int.mul_le_mul_of_nonneg_right (by omega) (Int.pow_nonneg (by decide))
theorem fold_le {l : List UInt8} (h : l.length ≤ 11) (hd : ∀ c ∈ l, 48 ≤ c.toNat ∧ c.toNat ≤ 57) : 0 ≤ l.foldl digF 0 ∧ l.foldl digF 0 < 100000000000 := by
  have h1 := fold_lt l.length l 0 rfl hd (by omega)
  refine ⟨h1.1, Int.lt_of_lt_of_le h1.2 ?_⟩
  rw [Int.zero_add, Int.one_mul]
  have h2 := Nat.pow_le_pow_right (n := 10) (by decide) h
  have : (10 : Int) ^ l.length ≤ 10 ^ 11 := by exact_mod_cast h2
  exact this
theorem num_none {l : List UInt8} (h : ¬ (l.length ≤ 11 ∧ sgn l ≠ l.length ∧ (∀ c ∈ l.drop (sgn l), 48 ≤ c.toNat ∧ c.toNat ≤ 57))) : numV l = none := by
  cases hn : numV l with
  | none => rfl
  | some n =>
    obtain ⟨h1, h2, h3, _⟩ := numV_shape hn
    exact absurd ⟨h1, h2, h3⟩ h
/-- what Read answers where the shape is right -/
theorem num_read (l : List UInt8) : numV l = if -2147483648 ≤ readN l ∧ readN l ≤ 2147483648 ∧ itoa (readN l) = l then some (readN l) else none := by
  split
  · rename_i h
    have := numV_itoa (n := readN l) ⟨h.1, h.2.1⟩
    rwa [h.2.2] at this
  · rename_i h
    cases hn : numV l with
    | none => rfl
    | some n =>
      have e := (numV_shape hn).2.2.2
      have := numV_some hn
      rw [e] at h
      exact absurd ⟨this.2.1, this.2.2, this.1⟩ h
end Go.Z.Txt
/- Chapter 36: the document's numerals; a text divided into lines, and a line into words. Conditions: none. -/
namespace Go.Z.Txt
set_option maxRecDepth 8000
set_option linter.unusedVariables false
set_option linter.unusedSimpArgs false
set_option linter.unusedSectionVars false
open Go Go.Lib Go.Z.Val
theorem digs : ∀ d : Nat, d < 10 → (([48, 49, 50, 51, 52, 53, 54, 55, 56, 57] : List UInt8).drop d).take 1 = [UInt8.ofNat (48 + d)] := by decide
def wordsD (s : List UInt8) : List (List UInt8) := if s = [] then [] else pieces 32 s
theorem words_doc (s : List UInt8) : wordsV (wordsD s) = wordsV (pieces 32 s) := by
  unfold wordsD
  split
  · rename_i h
    subst h
    have h0 : numV [] = none := by
      apply num_none
      intro h
      exact h.2.1 rfl
    show wordsV [] = wordsV [[]]
    simp [wordsV, h0]
  · rfl
theorem pieces_len (c : UInt8) : ∀ l : List UInt8, (pieces c l).length ≤ l.length + 1
  | [] => by simp [pieces]
  | b :: l => by
    have ih := pieces_len c l
    rw [pieces]
    split
    · simp; omega
    · split
      · simp
      · rename_i x r h; rw [h] at ih; simp at ih ⊢; omega
theorem wordsD_len (s : List UInt8) : (wordsD s).length ≤ s.length + 1 := by
  unfold wordsD; split
  · simp
  · exact pieces_len 32 s
theorem scan_hit {c : UInt8} {s : List UInt8} {f i : Nat} (hf : f ≤ i) (hi : i < s.length) (hc : s[i] = c) (hn : c ∉ (s.drop f).take (i - f)) : pieces c (s.drop f) = (s.drop f).take (i - f) :: pieces c (s.drop (i + 1)) := by
  have e : s.drop f = (s.drop f).take (i - f) ++ c :: s.drop (i + 1) := by
    have h1 : (s.drop f).drop (i - f) = s.drop i := by rw [List.drop_drop]; congr 1; omega
    rw [← hc, ← List.drop_eq_getElem_cons hi, ← h1, List.take_append_drop]
  conv => lhs; rw [e]
  exact pieces_hit _ hn
theorem scan_miss {c : UInt8} {s : List UInt8} {f i : Nat} (hf : f ≤ i) (hi : i < s.length) (hc : s[i] ≠ c) (hn : c ∉ (s.drop f).take (i - f)) : c ∉ (s.drop f).take (i + 1 - f) := by
  rw [show i + 1 - f = (i - f) + 1 by omega, List.take_add_one, List.getElem?_drop, show f + (i - f) = i by omega, List.getElem?_eq_getElem hi]
  simp only [Option.toList_some, List.mem_append, List.mem_singleton, not_or]
  exact ⟨hn, fun h => hc h.symm⟩
theorem scan_end {c : UInt8} {s : List UInt8} {f : Nat} (hn : c ∉ (s.drop f).take (s.length - f)) : pieces c (s.drop f) = [s.drop f] := by
  rw [List.take_of_length_le (by rw [List.length_drop]; omega)] at hn
  exact pieces_free hn
end Go.Z.Txt
namespace Go.Proofs.YtopgbgnmjogeeaaGreatDoor
set_option maxRecDepth 8000
set_option linter.unusedVariables false
set_option linter.unusedSimpArgs false
set_option linter.unusedSectionVars false
open Go Go.Z Go.Z.Txt Go.Z.Val

theorem strOf_app (l m : List UInt8) : strOf l ++ strOf m = strOf (l ++ m) := ByteArray.ext (Array.ext' (by rw [app_list]; rfl))
theorem eqlsF {P : Program} {M : Mx} {n : Nat} {L : Fr} {H : List Assn} {dd : Option Tmp} {ty t : TypeId} {ps : String} {af : Array Edge} {gd : Option (Nat × Bool)} {x y : Operand} {tz : TypeId} {yt : Ty} {i j : ByteArray} [ht : TyC P t yt] (hd : yt.d = .string) (h1 : ev L x = some (.string i)) (h2 : ev L y = some (.string j)) (h : i ≠ j) : Pur P M n L H ⟨dd, .binOp .eql t x y tz, ty, ps, af, gd⟩ (.bool false) := by
  have := p_eqls (P := P) (M := M) (n := n) (L := L) (H := H) (dd := dd) (t := t) (ty := ty) (ps := ps) (af := af) (gd := gd) (tz := tz) hd h1 h2
  rwa [decide_eq_false h] at this
def encS (l : List UInt8) : Value := .string (strOf l)
theorem dnum_pos : ∀ u : Nat, u ≤ 1000000000000 → ∀ {ρ : Nat → Obj → Prop}, Con Tryz.prog ρ 45 #[.int .i64 u] [] (fun v H => v = .string (strOf (Lib.decDigits u)) ∧ H = []) := by
  intro u
  induction u using Nat.strongRecOn with
  | ind u ih =>
    intro hu ρ
    have hdig := digs (u % 10) (Nat.mod_lt _ (by decide))
    refine con_intro Tryz.func45 Tryz.call45 rfl Tryz.ntmps45 rfl (L := [(0, _)]) rfl fun w hh => ?_
    refine g_seq ?_
    refine g_region ?_
    refine g_pure (p_assign rfl) rfl ?_
    refine g_nil ?_
    refine g_qt ?_
    refine g_seq ?_
    refine g_seq ?_
    refine g_region ?_
    refine g_pure (p_move rfl) rfl ?_
    refine g_pure (p_lss rfl rfl) rfl ?_
    refine g_nil ?_
    refine g_qt ?_
    refine g_ifd rfl (fun h0 => ?_) (fun h0 => ?_)
    · exfalso; omega
    · refine g_skip ?_
      refine g_qt ?_
      refine g_seq ?_
      refine g_region ?_
      refine g_pure (p_move rfl) rfl ?_
      refine g_pure (p_remn rfl rfl (by decide) (by omega)) rfl ?_
      refine g_pure (p_move rfl) rfl ?_
      refine g_pure (p_remn rfl rfl (by decide) (by omega)) rfl ?_
      first | refine g_pure (p_addi rfl rfl (by omega)) rfl ?_ | refine g_pure (p_add rfl rfl) rfl ?_
      refine g_pure (p_slices (by rfl) rfl rfl rfl (by omega) (by show (u : Int) % 10 + 1 ≤ ((10 : Nat) : Int); omega)) rfl ?_
      refine g_pure (p_assign rfl) rfl ?_
      refine g_nil ?_
      refine g_qt ?_
      refine g_seq ?_
      refine g_seq ?_
      refine g_region ?_
      refine g_pure (p_move rfl) rfl ?_
      refine g_pure (p_lss rfl rfl) rfl ?_
      refine g_nil ?_
      refine g_qt ?_
      rw [show ((u : Int) % 10 + 1).toNat - ((u : Int) % 10).toNat = 1 by omega, show ((u : Int) % 10).toNat = u % 10 by omega, hdig]
      refine g_ifd rfl (fun h1 => ?_) (fun h1 => ?_)
      · refine g_seq ?_
        refine g_region ?_
        refine g_pure (p_move rfl) rfl ?_
        refine g_pure (p_assign rfl) rfl ?_
        refine g_nil ?_
        refine g_qt ?_
        refine g_ret ?_
        refine g_qt_ret ?_
        exact g_post (Ho := []) (rs := [.tmp 2]) rfl (.tmp rfl .nil) ⟨by rw [dec_small (by omega), show u % 10 = u by omega]; rfl, rfl⟩ (by repeat' (first | exact Cover.nil | exact Take.here | apply Cover.cons | apply Take.there))
      · have hl := dec_len (k := 12) (u / 10) (by omega)
        refine g_skip ?_
        refine g_qt ?_
        refine g_seq ?_
        refine g_region ?_
        refine g_pure (p_move rfl) rfl ?_
        refine g_pure (p_quon rfl rfl (by decide) (by omega)) rfl ?_
        rw [show (u : Int) / 10 = ((u / 10 : Nat) : Int) by omega]
        refine g_call (Hin := []) (Hr := ?hr1) (R := ?rr1) rfl rfl rfl ?hin1 ?hc1 ?hk1
        case hin1 => repeat' (first | exact Cover.nil | exact Take.here | apply Cover.cons | apply Take.there)
        case hc1 => intro ρ' hρ hR; exact ih (u / 10) (by omega) (by omega)
        rintro _ _ ⟨rfl, rfl⟩
        refine g_pure (p_move rfl) rfl ?_
        refine g_pure (p_adds (by rfl) rfl rfl (by simp only [strOf_size, lit_size, List.size_toArray, List.length_cons, List.length_nil]; omega)) rfl ?_
        refine g_pure (p_assign rfl) rfl ?_
        refine g_nil ?_
        refine g_qt ?_
        refine g_ret ?_
        exact g_post (Ho := []) (rs := [.tmp 2]) rfl (.tmp rfl .nil) ⟨by rw [dec_big (u := u) (by omega)]; exact congrArg Value.string (strOf_app _ _), rfl⟩ (by repeat' (first | exact Cover.nil | exact Take.here | apply Cover.cons | apply Take.there))
theorem dnum_ok {ρ : Nat → Obj → Prop} (n : Int) (h : -1000000000000 ≤ n ∧ n ≤ 1000000000000) : Con Tryz.prog ρ 45 #[.int .i64 n] [] (fun v H => v = .string (strOf (Lib.itoa n)) ∧ H = []) := by
  by_cases hn : n < 0
  · have hl := dec_len (k := 12) n.natAbs (by omega)
    refine con_intro Tryz.func45 Tryz.call45 rfl Tryz.ntmps45 rfl (L := [(0, _)]) rfl fun w hh => ?_
    refine g_seq ?_
    refine g_region ?_
    refine g_pure (p_assign rfl) rfl ?_
    refine g_nil ?_
    refine g_qt ?_
    refine g_seq ?_
    refine g_seq ?_
    refine g_region ?_
    refine g_pure (p_move rfl) rfl ?_
    refine g_pure (p_lss rfl rfl) rfl ?_
    refine g_nil ?_
    refine g_qt ?_
    refine g_ifd rfl (fun h0 => ?_) (fun h0 => ?_)
    · refine g_seq ?_
      refine g_region ?_
      refine g_pure (p_move rfl) rfl ?_
      first | refine g_pure (p_negi rfl (by omega)) rfl ?_ | refine g_pure (p_neg rfl) rfl ?_
      rw [show -n = ((n.natAbs : Nat) : Int) by omega]
      refine g_call (Hin := []) (Hr := ?hr2) (R := ?rr2) rfl rfl rfl ?hin2 ?hc2 ?hk2
      case hin2 => repeat' (first | exact Cover.nil | exact Take.here | apply Cover.cons | apply Take.there)
      case hc2 => intro ρ' hρ hR; exact dnum_pos n.natAbs (by omega)
      rintro _ _ ⟨rfl, rfl⟩
      refine g_pure (p_adds (by rfl) rfl rfl (by simp only [strOf_size, lit_size, List.size_toArray, List.length_cons, List.length_nil]; omega)) rfl ?_
      refine g_pure (p_assign rfl) rfl ?_
      refine g_nil ?_
      refine g_qt ?_
      refine g_ret ?_
      refine g_qt_ret ?_
      exact g_post (Ho := []) (rs := [.tmp 2]) rfl (.tmp rfl .nil) ⟨by rw [itoa_neg hn]; exact congrArg Value.string (strOf_app [45] _), rfl⟩ (by repeat' (first | exact Cover.nil | exact Take.here | apply Cover.cons | apply Take.there))
    · exact absurd hn h0
  · have := dnum_pos n.toNat (by omega) (ρ := ρ)
    rw [show ((n.toNat : Nat) : Int) = n by omega] at this
    rw [itoa_pos hn]
    exact this

theorem lines_ok {ρ : Nat → Obj → Prop} (s : List UInt8) (hs : s.length ≤ 1000000) : Con Tryz.prog ρ 48 #[.string (strOf s)] [] (fun v H => ∃ a c, v = .slice a (pieces 10 s).length c ∧ H = [OwnSl 9 1 a (pieces 10 s).length c ((pieces 10 s).map encS)]) := by
  have hpl := pieces_len 10 s
  have hss : (strOf s).size = s.length := rfl
  refine con_intro Tryz.func48 Tryz.call48 rfl Tryz.ntmps48 rfl (L := [(0, _)]) rfl fun w hh => ?_
  refine g_seq ?_
  refine g_region ?_
  refine g_pure (p_assign rfl) rfl ?_
  refine g_nil ?_
  refine g_qt ?_
  refine g_seq ?_
  refine g_region ?_
  refine g_pure (p_assign rfl) rfl ?_
  refine g_nil ?_
  refine g_qt ?_
  refine g_seq ?_
  refine g_region ?_
  refine g_pure (p_assign rfl) rfl ?_
  refine g_nil ?_
  refine g_qt ?_
  refine g_seq ?_
  refine g_seq ?_
  refine g_region ?_
  refine g_pure (p_assign rfl) rfl ?_
  refine g_nil ?_
  refine g_qt ?_
  refine g_block ?_
  refine g_ownnil (e := 9) (size := 1) ?_
  refine g_loop (fun q : Nat × Nat × List (List UInt8) × Option Addr × Nat => [(0, .string (strOf s)), (3, .slice q.2.2.2.1 q.2.2.1.length q.2.2.2.2), (4, .int .i64 q.2.1), (5, .int .i64 q.1)])
    (fun q => [OwnSl 9 1 q.2.2.2.1 q.2.2.1.length q.2.2.2.2 (q.2.2.1.map encS)]) (fun q => q.2.1 ≤ q.1 ∧ q.1 ≤ s.length ∧ pieces 10 s = q.2.2.1 ++ pieces 10 (s.drop q.2.1) ∧ (10 : UInt8) ∉ (s.drop q.2.1).take (q.1 - q.2.1)) (fun q => s.length - q.1) (0, 0, [], none, 0) ⟨Nat.le_refl _, Nat.zero_le _, rfl, by simp⟩ (by (repeat (first | exact trivial | refine ⟨by rfl, ?_⟩)); done) (by repeat' (first | exact Cover.nil | exact Take.here | apply Cover.cons | apply Take.there)) ?_
  rintro ⟨i, f, out, a, c⟩ ⟨hf, hi, hP, hn⟩
  dsimp only at hf hi hP hn ⊢
  have hol : out.length ≤ s.length + 1 := by rw [hP, List.length_append] at hpl; omega
  refine g_seq ?_
  refine g_seq ?_
  refine g_region ?_
  refine g_pure (p_move rfl) rfl ?_
  refine g_pure (p_move rfl) rfl ?_
  refine g_pure (p_lens (by rfl) rfl) rfl ?_
  refine g_pure (p_lss rfl rfl) rfl ?_
  refine g_nil ?_
  refine g_qt ?_
  refine g_ifd rfl (fun q => ?_) (fun q => ?_)
  · rw [hss] at q
    have hil : i < s.length := by omega
    have hb : (strOf s).data.toList[(i : Int).toNat]? = some s[i] := by rw [strOf_list, Int.toNat_natCast, List.getElem?_eq_getElem hil]
    refine g_skip ?_
    refine g_qt ?_
    refine g_seq ?_
    refine g_block ?_
    refine g_seq ?_
    refine g_region ?_
    refine g_pure (p_move rfl) rfl ?_
    refine g_pure (p_move rfl) rfl ?_
    refine g_pure (p_indexs (by rfl) rfl rfl (by omega) hb) rfl ?_
    refine g_pure (p_eql rfl rfl) rfl ?_
    refine g_nil ?_
    refine g_qt ?_
    refine g_ifd rfl (fun h => ?_) (fun h => ?_)
    · have hc : s[i] = 10 := UInt8.toNat_inj.1 (by show s[i].toNat = 10; omega)
      have hP2 := hP
      rw [scan_hit hf hil hc hn] at hP2
      refine g_seq ?_
      refine g_region ?_
      refine g_pure (p_move rfl) rfl ?_
      refine g_pure (p_move rfl) rfl ?_
      refine g_pure (p_move rfl) rfl ?_
      refine g_pure (p_move rfl) rfl ?_
      refine g_pure (p_slices (by rfl) rfl rfl rfl (by omega) (by omega)) rfl ?_
      refine g_eff (e_bs (xs := [.tmp 20]) rfl rfl rfl (by rfl) (by rfl) rfl (by rfl)) rfl (fun _ _ => ?_)
      rintro ⟨b21, rfl, rfl⟩
      refine g_eff (e_appendO (by rfl) (by rfl) rfl rfl (by first | (apply Has.own; (repeat' (first | exact Take.here | apply Take.there)); done) | exact Has.ro (by assumption)) (by rfl) (by rfl) (by repeat' (first | exact Take.here | apply Take.there)) (by omega) (by first | omega | (dsimp only; omega) | (simp <;> omega)) (by omega)) rfl (fun _ _ => ?_)
      rintro ⟨a22, c22, rfl, rfl⟩
      refine g_pure (p_assign rfl) rfl ?_
      refine g_nil ?_
      refine g_qt ?_
      refine g_region ?_
      refine g_pure (p_move rfl) rfl ?_
      first | refine g_pure (p_addi rfl rfl (by omega)) rfl ?_ | refine g_pure (p_add rfl rfl) rfl ?_
      refine g_pure (p_assign rfl) rfl ?_
      refine g_nil ?_
      refine g_qb ?_
      refine g_qt ?_
      refine g_region ?_
      refine g_pure (p_move rfl) rfl ?_
      first | refine g_pure (p_addi rfl rfl (by omega)) rfl ?_ | refine g_pure (p_add rfl rfl) rfl ?_
      refine g_pure (p_assign rfl) rfl ?_
      refine g_nil ?_
      refine g_qn ?_
      rw [Int.toNat_natCast, Int.toNat_natCast]
      have e3 : out.map encS ++ [Value.string ⟨((s.drop f).take (i - f)).toArray⟩] = (out ++ [(s.drop f).take (i - f)]).map encS := by rw [List.map_append]; rfl
      have e4 : out.length + 1 = (out ++ [(s.drop f).take (i - f)]).length := by simp
      rw [e3, e4]
      exact g_next (i + 1, i + 1, out ++ [(s.drop f).take (i - f)], a22, c22) (by (repeat (first | exact trivial | refine ⟨by rfl, ?_⟩)); done) (by repeat' (first | exact Cover.nil | exact Take.here | apply Cover.cons | apply Take.there)) ⟨Nat.le_refl _, by dsimp only; omega, by dsimp only; rw [hP2]; simp, by simp⟩ (by dsimp only; omega)
    · have hc : s[i] ≠ 10 := fun e => h (by rw [e]; rfl)
      refine g_skip ?_
      refine g_qb ?_
      refine g_qt ?_
      refine g_region ?_
      refine g_pure (p_move rfl) rfl ?_
      first | refine g_pure (p_addi rfl rfl (by omega)) rfl ?_ | refine g_pure (p_add rfl rfl) rfl ?_
      refine g_pure (p_assign rfl) rfl ?_
      refine g_nil ?_
      refine g_qn ?_
      exact g_next (i + 1, f, out, a, c) (by (repeat (first | exact trivial | refine ⟨by rfl, ?_⟩)); done) (by repeat' (first | exact Cover.nil | exact Take.here | apply Cover.cons | apply Take.there)) ⟨by dsimp only; omega, by dsimp only; omega, hP, scan_miss hf hil hc hn⟩ (by dsimp only; omega)
  · rw [hss] at q
    have hie : i = s.length := by omega
    subst hie
    rw [scan_end hn] at hP
    refine g_exit ?_
    refine g_qt_exit ?_
    refine g_qn_exit ?_
    refine g_qb_exit ?_
    refine g_qt ?_
    refine g_seq ?_
    refine g_region ?_
    refine g_pure (p_move rfl) rfl ?_
    refine g_pure (p_move rfl) rfl ?_
    refine g_pure (p_move rfl) rfl ?_
    refine g_pure (p_slicesl (by rfl) rfl rfl (by omega)) rfl ?_
    refine g_eff (e_bs (xs := [.tmp 28]) rfl rfl rfl (by rfl) (by rfl) rfl (by rfl)) rfl (fun _ _ => ?_)
    rintro ⟨b29, rfl, rfl⟩
    refine g_eff (e_appendO (by rfl) (by rfl) rfl rfl (by first | (apply Has.own; (repeat' (first | exact Take.here | apply Take.there)); done) | exact Has.ro (by assumption)) (by rfl) (by rfl) (by repeat' (first | exact Take.here | apply Take.there)) (by omega) (by first | omega | (dsimp only; omega) | (simp <;> omega)) (by omega)) rfl (fun _ _ => ?_)
    rintro ⟨a30, c30, rfl, rfl⟩
    refine g_pure (p_assign rfl) rfl ?_
    refine g_nil ?_
    refine g_qt ?_
    refine g_ret ?_
    rw [Int.toNat_natCast]
    have e3 : out.map encS ++ [Value.string ⟨(s.drop f).toArray⟩] = (pieces 10 s).map encS := by rw [hP, List.map_append]; rfl
    have e4 : out.length + 1 = (pieces 10 s).length := by rw [hP]; simp
    rw [e3, e4]
    exact g_post (Ho := [OwnSl 9 1 a30 (pieces 10 s).length c30 ((pieces 10 s).map encS)]) (rs := [.tmp 2]) rfl (.tmp rfl .nil) ⟨a30, c30, rfl, rfl⟩ (by repeat' (first | exact Cover.nil | exact Take.here | apply Cover.cons | apply Take.there))
theorem words_ok {ρ : Nat → Obj → Prop} (s : List UInt8) (hs : s.length ≤ 1000000) : Con Tryz.prog ρ 70 #[.string (strOf s)] [] (fun v H => ∃ a c, v = .slice a (wordsD s).length c ∧ H = [OwnSl 9 1 a (wordsD s).length c ((wordsD s).map encS)]) := by
  have hpl := pieces_len 32 s
  have hss : (strOf s).size = s.length := rfl
  by_cases hs0 : s = []
  · subst hs0
    refine con_intro Tryz.func70 Tryz.call70 rfl Tryz.ntmps70 rfl (L := [(0, _)]) rfl fun w hh => ?_
    refine g_seq ?_
    refine g_region ?_
    refine g_pure (p_assign rfl) rfl ?_
    refine g_nil ?_
    refine g_qt ?_
    refine g_seq ?_
    refine g_seq ?_
    refine g_region ?_
    refine g_pure (p_move rfl) rfl ?_
    refine g_pure (p_eqlsT (by rfl) rfl rfl rfl) rfl ?_
    refine g_nil ?_
    refine g_qt ?_
    refine g_ift rfl ?_
    refine g_seq ?_
    refine g_region ?_
    refine g_pure (p_assign rfl) rfl ?_
    refine g_nil ?_
    refine g_qt ?_
    refine g_ret ?_
    refine g_qt_ret ?_
    refine g_ownnil (e := 9) (size := 1) ?_
    exact g_post (Ho := [OwnSl 9 1 none 0 0 []]) (rs := [.tmp 2]) rfl (.tmp rfl .nil) ⟨none, 0, rfl, rfl⟩ (by repeat' (first | exact Cover.nil | exact Take.here | apply Cover.cons | apply Take.there))
  · have hw : wordsD s = pieces 32 s := by unfold wordsD; rw [if_neg hs0]
    rw [hw]
    refine con_intro Tryz.func70 Tryz.call70 rfl Tryz.ntmps70 rfl (L := [(0, _)]) rfl fun w hh => ?_
    refine g_seq ?_
    refine g_region ?_
    refine g_pure (p_assign rfl) rfl ?_
    refine g_nil ?_
    refine g_qt ?_
    refine g_seq ?_
    refine g_seq ?_
    refine g_region ?_
    refine g_pure (p_move rfl) rfl ?_
    refine g_pure (eqlsF (by rfl) rfl rfl (fun e => hs0 (strOf_inj.1 e))) rfl ?_
    refine g_nil ?_
    refine g_qt ?_
    refine g_iff rfl ?_
    refine g_skip ?_
    refine g_qt ?_
    refine g_seq ?_
    refine g_region ?_
    refine g_pure (p_assign rfl) rfl ?_
    refine g_nil ?_
    refine g_qt ?_
    refine g_seq ?_
    refine g_region ?_
    refine g_pure (p_assign rfl) rfl ?_
    refine g_nil ?_
    refine g_qt ?_
    refine g_seq ?_
    refine g_seq ?_
    refine g_region ?_
    refine g_pure (p_assign rfl) rfl ?_
    refine g_nil ?_
    refine g_qt ?_
    refine g_block ?_
    refine g_ownnil (e := 9) (size := 1) ?_
    refine g_loop (fun q : Nat × Nat × List (List UInt8) × Option Addr × Nat => [(0, .string (strOf s)), (3, .slice q.2.2.2.1 q.2.2.1.length q.2.2.2.2), (4, .int .i64 q.2.1), (5, .int .i64 q.1)])
      (fun q => [OwnSl 9 1 q.2.2.2.1 q.2.2.1.length q.2.2.2.2 (q.2.2.1.map encS)]) (fun q => q.2.1 ≤ q.1 ∧ q.1 ≤ s.length ∧ pieces 32 s = q.2.2.1 ++ pieces 32 (s.drop q.2.1) ∧ (32 : UInt8) ∉ (s.drop q.2.1).take (q.1 - q.2.1)) (fun q => s.length - q.1) (0, 0, [], none, 0) ⟨Nat.le_refl _, Nat.zero_le _, rfl, by simp⟩ (by (repeat (first | exact trivial | refine ⟨by rfl, ?_⟩)); done) (by repeat' (first | exact Cover.nil | exact Take.here | apply Cover.cons | apply Take.there)) ?_
    rintro ⟨i, f, out, a, c⟩ ⟨hf, hi, hP, hn⟩
    dsimp only at hf hi hP hn ⊢
    have hol : out.length ≤ s.length + 1 := by rw [hP, List.length_append] at hpl; omega
    refine g_seq ?_
    refine g_seq ?_
    refine g_region ?_
    refine g_pure (p_move rfl) rfl ?_
    refine g_pure (p_move rfl) rfl ?_
    refine g_pure (p_lens (by rfl) rfl) rfl ?_
    refine g_pure (p_lss rfl rfl) rfl ?_
    refine g_nil ?_
    refine g_qt ?_
    refine g_ifd rfl (fun q => ?_) (fun q => ?_)
    · rw [hss] at q
      have hil : i < s.length := by omega
      have hb : (strOf s).data.toList[(i : Int).toNat]? = some s[i] := by rw [strOf_list, Int.toNat_natCast, List.getElem?_eq_getElem hil]
      refine g_skip ?_
      refine g_qt ?_
      refine g_seq ?_
      refine g_block ?_
      refine g_seq ?_
      refine g_region ?_
      refine g_pure (p_move rfl) rfl ?_
      refine g_pure (p_move rfl) rfl ?_
      refine g_pure (p_indexs (by rfl) rfl rfl (by omega) hb) rfl ?_
      refine g_pure (p_eql rfl rfl) rfl ?_
      refine g_nil ?_
      refine g_qt ?_
      refine g_ifd rfl (fun h => ?_) (fun h => ?_)
      · have hc : s[i] = 32 := UInt8.toNat_inj.1 (by show s[i].toNat = 32; omega)
        have hP2 := hP
        rw [scan_hit hf hil hc hn] at hP2
        refine g_seq ?_
        refine g_region ?_
        refine g_pure (p_move rfl) rfl ?_
        refine g_pure (p_move rfl) rfl ?_
        refine g_pure (p_move rfl) rfl ?_
        refine g_pure (p_move rfl) rfl ?_
        refine g_pure (p_slices (by rfl) rfl rfl rfl (by omega) (by omega)) rfl ?_
        refine g_eff (e_bs (xs := [.tmp 22]) rfl rfl rfl (by rfl) (by rfl) rfl (by rfl)) rfl (fun _ _ => ?_)
        rintro ⟨b23, rfl, rfl⟩
        refine g_eff (e_appendO (by rfl) (by rfl) rfl rfl (by first | (apply Has.own; (repeat' (first | exact Take.here | apply Take.there)); done) | exact Has.ro (by assumption)) (by rfl) (by rfl) (by repeat' (first | exact Take.here | apply Take.there)) (by omega) (by first | omega | (dsimp only; omega) | (simp <;> omega)) (by omega)) rfl (fun _ _ => ?_)
        rintro ⟨a24, c24, rfl, rfl⟩
        refine g_pure (p_assign rfl) rfl ?_
        refine g_nil ?_
        refine g_qt ?_
        refine g_region ?_
        refine g_pure (p_move rfl) rfl ?_
        first | refine g_pure (p_addi rfl rfl (by omega)) rfl ?_ | refine g_pure (p_add rfl rfl) rfl ?_
        refine g_pure (p_assign rfl) rfl ?_
        refine g_nil ?_
        refine g_qb ?_
        refine g_qt ?_
        refine g_region ?_
        refine g_pure (p_move rfl) rfl ?_
        first | refine g_pure (p_addi rfl rfl (by omega)) rfl ?_ | refine g_pure (p_add rfl rfl) rfl ?_
        refine g_pure (p_assign rfl) rfl ?_
        refine g_nil ?_
        refine g_qn ?_
        rw [Int.toNat_natCast, Int.toNat_natCast]
        have e3 : out.map encS ++ [Value.string ⟨((s.drop f).take (i - f)).toArray⟩] = (out ++ [(s.drop f).take (i - f)]).map encS := by rw [List.map_append]; rfl
        have e4 : out.length + 1 = (out ++ [(s.drop f).take (i - f)]).length := by simp
        rw [e3, e4]
        exact g_next (i + 1, i + 1, out ++ [(s.drop f).take (i - f)], a24, c24) (by (repeat (first | exact trivial | refine ⟨by rfl, ?_⟩)); done) (by repeat' (first | exact Cover.nil | exact Take.here | apply Cover.cons | apply Take.there)) ⟨Nat.le_refl _, by dsimp only; omega, by dsimp only; rw [hP2]; simp, by simp⟩ (by dsimp only; omega)
      · have hc : s[i] ≠ 32 := fun e => h (by rw [e]; rfl)
        refine g_skip ?_
        refine g_qb ?_
        refine g_qt ?_
        refine g_region ?_
        refine g_pure (p_move rfl) rfl ?_
        first | refine g_pure (p_addi rfl rfl (by omega)) rfl ?_ | refine g_pure (p_add rfl rfl) rfl ?_
        refine g_pure (p_assign rfl) rfl ?_
        refine g_nil ?_
        refine g_qn ?_
        exact g_next (i + 1, f, out, a, c) (by (repeat (first | exact trivial | refine ⟨by rfl, ?_⟩)); done) (by repeat' (first | exact Cover.nil | exact Take.here | apply Cover.cons | apply Take.there)) ⟨by dsimp only; omega, by dsimp only; omega, hP, scan_miss hf hil hc hn⟩ (by dsimp only; omega)
    · rw [hss] at q
      have hie : i = s.length := by omega
      subst hie
      rw [scan_end hn] at hP
      refine g_exit ?_
      refine g_qt_exit ?_
      refine g_qn_exit ?_
      refine g_qb_exit ?_
      refine g_qt ?_
      refine g_seq ?_
      refine g_region ?_
      refine g_pure (p_move rfl) rfl ?_
      refine g_pure (p_move rfl) rfl ?_
      refine g_pure (p_move rfl) rfl ?_
      refine g_pure (p_slicesl (by rfl) rfl rfl (by omega)) rfl ?_
      refine g_eff (e_bs (xs := [.tmp 30]) rfl rfl rfl (by rfl) (by rfl) rfl (by rfl)) rfl (fun _ _ => ?_)
      rintro ⟨b31, rfl, rfl⟩
      refine g_eff (e_appendO (by rfl) (by rfl) rfl rfl (by first | (apply Has.own; (repeat' (first | exact Take.here | apply Take.there)); done) | exact Has.ro (by assumption)) (by rfl) (by rfl) (by repeat' (first | exact Take.here | apply Take.there)) (by omega) (by first | omega | (dsimp only; omega) | (simp <;> omega)) (by omega)) rfl (fun _ _ => ?_)
      rintro ⟨a32, c32, rfl, rfl⟩
      refine g_pure (p_assign rfl) rfl ?_
      refine g_nil ?_
      refine g_qt ?_
      refine g_ret ?_
      rw [Int.toNat_natCast]
      have e3 : out.map encS ++ [Value.string ⟨(s.drop f).toArray⟩] = (pieces 32 s).map encS := by rw [hP, List.map_append]; rfl
      have e4 : out.length + 1 = (pieces 32 s).length := by rw [hP]; simp
      rw [e3, e4]
      exact g_post (Ho := [OwnSl 9 1 a32 (pieces 32 s).length c32 ((pieces 32 s).map encS)]) (rs := [.tmp 2]) rfl (.tmp rfl .nil) ⟨a32, c32, rfl, rfl⟩ (by repeat' (first | exact Cover.nil | exact Take.here | apply Cover.cons | apply Take.there))
end Go.Proofs.YtopgbgnmjogeeaaGreatDoor
/- Chapter 36: the document's text of a formula. Conditions: none. -/
namespace Go.Proofs.YtopgbgnmjogeeaaGreatDoor
set_option maxRecDepth 8000
set_option linter.unusedVariables false
set_option linter.unusedSimpArgs false
set_option linter.unusedSectionVars false
open Go Go.Z Go.Z.Txt Go.Z.Sat Go.Z.Val

theorem cells_of (l : List UInt8) : Lib.strCells (strOf l) = Lib.byteCells l := rfl
theorem cells_app (W l : List UInt8) : Lib.byteCells W ++ Lib.strCells (strOf l) = Lib.byteCells (W ++ l) := by simp [Lib.byteCells, Lib.strCells, strOf]
theorem size_app (W l : List UInt8) : W.length + (strOf l).size = (W ++ l).length := by rw [List.length_append]; rfl
theorem check_lits {n : Int} {F : Fm} (hc : check1 n F = 0) : n ≤ 262144 ∧ ∀ c ∈ F, ∀ x ∈ c, x ≠ 0 ∧ -n ≤ x ∧ x ≤ n := by
  have hnn := check1_nonneg hc
  have hv : n ≤ 262144 := by
    unfold check1 at hc
    split at hc
    · cases hc
    · omega
  have hall : allB n F = true := by
    unfold check1 at hc
    rw [if_neg (by omega), if_neg (by omega)] at hc
    split at hc
    · assumption
    · cases hc
  refine ⟨hv, fun c hcm x hx => ?_⟩
  have h1 := List.all_eq_true.1 hall c hcm
  have h2 := List.all_eq_true.1 h1 x hx
  have h3 := okB_okL (n := n.toNat) (l := x) (by rw [Int.toNat_of_nonneg hnn.1]; exact h2)
  unfold okL at h3
  omega
theorem dtext36_ok {ρ : Nat → Obj → Prop} (n : Int) (hn : I64 n) (ca : Option Addr) (cc : Nat) (F : Fm) (hF : FmR ρ ca F) (hFl : F.length ≤ 1000000) (hsz : (textV n F).length ≤ 4294967280) :
    Con Tryz.prog ρ 18 #[.agg #[.int .i64 n, .slice ca F.length cc]] []
      (fun v H => v = (if check1 n F = 0 then .tuple #[.string (strOf (textV n F)), .int .i64 0] else .tuple #[.string (strOf []), .int .i64 (check1 n F)]) ∧ H = []) := by
  have hlen := hF.len
  have hn' := itoa_len64 hn
  have hl' := itoa_len64 (n := (F.length : Int)) (by unfold I64; omega)
  refine con_intro Tryz.func18 Tryz.call18 rfl Tryz.ntmps18 rfl (L := [(0, _)]) rfl fun w hh => ?_
  refine g_seq ?_
  refine g_region ?_
  refine g_eff (e_box rfl (by rfl)) rfl (fun _ _ => ?_)
  rintro ⟨b1, rfl, rfl⟩
  refine g_pure (p_assign rfl) rfl ?_
  refine g_pure (p_assign rfl) rfl ?_
  refine g_nil ?_
  refine g_qt ?_
  refine g_seq ?_
  refine g_region ?_
  first | refine g_pure (p_loadO (by rfl) rfl (by first | (apply Has.own; (repeat' (first | exact Take.here | apply Take.there)); done) | exact Has.ro (by assumption)) (by rfl)) rfl ?_ | refine g_pure (p_loadN (by rfl) rfl (by first | (apply Has.own; (repeat' (first | exact Take.here | apply Take.there)); done) | exact Has.ro (by assumption)) (by first | rfl | assumption)) rfl ?_
  refine g_call (Hin := []) (Hr := ?hr1) (R := ?rr1) rfl rfl rfl ?hin1 ?hc1 ?hk1
  case hin1 => repeat' (first | exact Cover.nil | exact Take.here | apply Cover.cons | apply Take.there)
  case hc1 => intro ρ' hρ hR; exact rcheck_ok n hn ca cc F (hF.mono hρ)
  rintro _ _ ⟨rfl, rfl⟩
  refine g_pure (p_assign rfl) rfl ?_
  refine g_nil ?_
  refine g_qt ?_
  refine g_seq ?_
  refine g_seq ?_
  refine g_region ?_
  refine g_pure (p_move rfl) rfl ?_
  refine g_pure (p_neq rfl rfl) rfl ?_
  refine g_nil ?_
  refine g_qt ?_
  refine g_ifnd rfl (fun h1 => ?_) (fun h1 => ?_)
  · refine g_seq ?_
    refine g_region ?_
    refine g_pure (p_move rfl) rfl ?_
    refine g_pure (p_assign rfl) rfl ?_
    refine g_pure (p_assign rfl) rfl ?_
    refine g_nil ?_
    refine g_qt ?_
    refine g_ret ?_
    refine g_qt_ret ?_
    exact g_post (Ho := []) (rs := [.tmp 2, .tmp 3]) rfl (.tmp rfl (.tmp rfl .nil)) ⟨by rw [if_neg h1]; rfl, rfl⟩ (by repeat' (first | exact Cover.nil | exact Take.here | apply Cover.cons | apply Take.there))
  · have hc : check1 n F = 0 := by omega
    have hnn := check1_nonneg hc
    obtain ⟨hn2, hlits⟩ := check_lits hc
    have e0 : ⟨#[112, 32, 99, 110, 102, 32]⟩ ++ strOf (Lib.itoa n) ++ ⟨#[32]⟩ ++ strOf (Lib.itoa (F.length : Int)) ++ ⟨#[10]⟩ = strOf (outW n F 0) := by
      rw [outW_zero]
      apply ByteArray.ext
      apply Array.ext'
      simp only [app_list, strOf_list, headT]
    have ho0 := outW_le n F 0
    refine g_skip ?_
    refine g_qt ?_
    refine g_seq ?_
    refine m_begin (.fl 0 0 (.fl 1 1 (.fl 5 0 (.fl 6 1 (.fl 7 0 (.ef 2 (.fl 3 0 (.fl 4 0 (.ef 8 (.fl 9 0 (.fl 10 0 (.ef 11 (.fl 12 0 .done))))))))))))) [Blk b1 (.cells [.int .i64 n, .slice ca F.length cc].toArray 30 (0, 0))] (by kernel_rfl) (by kernel_rfl) (by repeat' (first | exact Cover.nil | exact Take.here | apply Cover.cons | apply Take.there)) ?_
    refine m_float0 rfl (fun _ _ => p_fieldAddr rfl) rfl ?_
    refine m_float rfl (p_load (by rfl) rfl (by first | (apply Has.own; (repeat' (first | exact Take.here | apply Take.there)); done) | exact Has.ro (by assumption)) (by first | rfl | assumption)) rfl ?_
    refine m_float0 rfl (fun _ _ => p_fieldAddr rfl) rfl ?_
    refine m_float rfl (p_load (by rfl) rfl (by first | (apply Has.own; (repeat' (first | exact Take.here | apply Take.there)); done) | exact Has.ro (by assumption)) (by first | rfl | assumption)) rfl ?_
    refine m_float0 rfl (fun _ _ => p_len (by rfl) rfl) rfl ?_
    refine m_call (Hin := []) (Hr := ?hr2) (R := ?rr2) rfl wantedN rfl rfl rfl ?hin2 ?hc2 ?hk2
    case hin2 => repeat' (first | exact Cover.nil | exact Take.here | apply Cover.cons | apply Take.there)
    case hc2 => intro ρ' hρ hR; exact dnum_ok n (by omega)
    rintro _ _ ⟨rfl, rfl⟩
    refine ⟨.some (by repeat' (first | exact Cover.nil | exact Take.here | apply Cover.cons | apply Take.there)), ?_⟩
    refine m_float0 rfl (fun _ _ => p_adds (by rfl) rfl rfl (by simp only [ByteArray.size_append, strOf_size, lit_size, List.size_toArray, List.length_cons, List.length_nil]; omega)) rfl ?_
    refine m_float0 rfl (fun _ _ => p_adds (by rfl) rfl rfl (by simp only [ByteArray.size_append, strOf_size, lit_size, List.size_toArray, List.length_cons, List.length_nil]; omega)) rfl ?_
    refine m_call (Hin := []) (Hr := ?hr3) (R := ?rr3) rfl wantedN rfl rfl rfl ?hin3 ?hc3 ?hk3
    case hin3 => repeat' (first | exact Cover.nil | exact Take.here | apply Cover.cons | apply Take.there)
    case hc3 => intro ρ' hρ hR; exact dnum_ok (F.length : Int) (by omega)
    rintro _ _ ⟨rfl, rfl⟩
    refine ⟨.none (by kernel_rfl), ?_⟩
    refine m_float0 rfl (fun _ _ => p_adds (by rfl) rfl rfl (by simp only [ByteArray.size_append, strOf_size, lit_size, List.size_toArray, List.length_cons, List.length_nil]; omega)) rfl ?_
    refine m_float0 rfl (fun _ _ => p_adds (by rfl) rfl rfl (by simp only [ByteArray.size_append, strOf_size, lit_size, List.size_toArray, List.length_cons, List.length_nil]; omega)) rfl ?_
    refine m_eff rfl (e_stb (P := Tryz.prog) (src := 9) (dst := 86) (e := 5) (s := ⟨#[112, 32, 99, 110, 102, 32]⟩ ++ strOf (Lib.itoa n) ++ ⟨#[32]⟩ ++ strOf (Lib.itoa (F.length : Int)) ++ ⟨#[10]⟩) (by rfl) (by rfl) rfl (by simp only [ByteArray.size_append, strOf_size, lit_size, List.size_toArray, List.length_cons, List.length_nil]; omega)) rfl (fun _ _ => ?_)
    rintro ⟨a24, c24, rfl, rfl⟩
    refine ⟨.none (by kernel_rfl), ?_⟩
    refine m_float0 rfl (fun _ _ => p_assign rfl) rfl ?_
    refine m_nil ?_
    refine g_qt ?_
    refine g_seq ?_
    refine g_seq ?_
    refine g_region ?_
    refine g_pure (p_assign rfl) rfl ?_
    refine g_nil ?_
    refine g_qt ?_
    refine g_block ?_
    rw [e0, strOf_size, cells_of]
    refine g_loop (fun x : Nat × Option Addr × Nat => [(1, .pointer (some ⟨b1, 0, none⟩)), (5, .slice x.2.1 (outW n F x.1).length x.2.2), (6, .int .i64 x.1)])
      (fun x => [Blk b1 (.cells [.int .i64 n, .slice ca F.length cc].toArray 30 (0, 0)), OwnB 5 x.2.1 (outW n F x.1).length x.2.2 (Lib.byteCells (outW n F x.1))]) (fun x => x.1 ≤ F.length) (fun x => F.length - x.1) (0, a24, c24) (Nat.zero_le _) (by (repeat (first | exact trivial | refine ⟨by rfl, ?_⟩)); done) (by repeat' (first | exact Cover.nil | exact Take.here | apply Cover.cons | apply Take.there)) ?_
    rintro ⟨i, a, cap⟩ hi
    dsimp only at hi ⊢
    refine g_seq ?_
    refine g_seq ?_
    refine g_region ?_
    refine g_pure (p_move rfl) rfl ?_
    refine g_pure (p_fieldAddr rfl) rfl ?_
    refine g_pure (p_load (by rfl) rfl (by first | (apply Has.own; (repeat' (first | exact Take.here | apply Take.there)); done) | exact Has.ro (by assumption)) (by first | rfl | assumption)) rfl ?_
    refine g_pure (p_len (by rfl) rfl) rfl ?_
    refine g_pure (p_lss rfl rfl) rfl ?_
    refine g_nil ?_
    refine g_qt ?_
    refine g_ifd rfl (fun q => ?_) (fun q => ?_)
    · have hil : i < F.length := by omega
      obtain ⟨bo, off, cs, T, fz, rfl, hro, hat⟩ := hF.at (by omega)
      obtain ⟨ai, ci, hci, hrow⟩ := hat i hil
      have hcl := hF.lens F[i] (List.getElem_mem hil)
      have hx1 : cs[off + (i : Int).toNat * 1]? = some (.slice ai F[i].length ci) := hci
      refine g_skip ?_
      refine g_qt ?_
      refine g_seq ?_
      refine g_block ?_
      refine g_seq ?_
      refine g_seq ?_
      refine g_region ?_
      refine g_pure (p_assign rfl) rfl ?_
      refine g_nil ?_
      refine g_qt ?_
      refine g_block ?_
      rw [← inW_zero (outW n F i) F[i]]
      refine g_loop (fun x : Nat × Option Addr × Nat => [(1, .pointer (some ⟨b1, 0, none⟩)), (5, .slice x.2.1 (inW (outW n F i) F[i] x.1).length x.2.2), (6, .int .i64 i), (7, .int .i64 x.1)])
        (fun x => [Blk b1 (.cells [.int .i64 n, .slice (some ⟨bo, off, none⟩) F.length cc].toArray 30 (0, 0)), OwnB 5 x.2.1 (inW (outW n F i) F[i] x.1).length x.2.2 (Lib.byteCells (inW (outW n F i) F[i] x.1))]) (fun x => x.1 ≤ F[i].length) (fun x => F[i].length - x.1) (0, a, cap) (Nat.zero_le _) (by (repeat (first | exact trivial | refine ⟨by rfl, ?_⟩)); done) (by repeat' (first | exact Cover.nil | exact Take.here | apply Cover.cons | apply Take.there)) ?_
      rintro ⟨j, a', cap'⟩ hj
      dsimp only at hj ⊢
      have hW := inW_le n F (i := i) (j := j) hil
      refine g_seq ?_
      refine g_seq ?_
      refine g_region ?_
      refine g_pure (p_move rfl) rfl ?_
      refine g_pure (p_fieldAddr rfl) rfl ?_
      refine g_pure (p_load (by rfl) rfl (by first | (apply Has.own; (repeat' (first | exact Take.here | apply Take.there)); done) | exact Has.ro (by assumption)) (by first | rfl | assumption)) rfl ?_
      refine g_pure (p_move rfl) rfl ?_
      refine g_pure (p_indexAddr rfl rfl (by omega) (fun _ => rfl)) rfl ?_
      refine g_pure (p_load (by rfl) rfl (Has.ro hro) hx1) rfl ?_
      refine g_pure (p_len (by rfl) rfl) rfl ?_
      refine g_pure (p_lss rfl rfl) rfl ?_
      refine g_nil ?_
      refine g_qt ?_
      refine g_ifd rfl (fun r => ?_) (fun r => ?_)
      · have hjl : j < F[i].length := by omega
        have hxl := hlits F[i] (List.getElem_mem hil) F[i][j] (List.getElem_mem hjl)
        have hil64 := itoa_len64 (n := F[i][j]) (by unfold I64; omega)
        obtain ⟨_, b3, off3, cs3, T3, fz3, hcs3⟩ := hrow
        obtain ⟨s1, s2, s3⟩ := hcs3 (by omega)
        have hx : cs3[off3 + (j : Int).toNat * 1]? = some (.int .i64 F[i][j]) := by simpa [encI, List.getElem?_eq_getElem hjl] using s3 j (.int .i64 F[i][j]) (by simp [List.getElem?_eq_getElem hjl, encI])
        have e2 : strOf (Lib.itoa F[i][j]) ++ ⟨#[32]⟩ = strOf (Lib.itoa F[i][j] ++ [32]) := strOf_app _ [32]
        refine g_skip ?_
        refine g_qt ?_
        refine g_seq ?_
        refine g_block ?_
        refine g_region ?_
        refine g_pure (p_move rfl) rfl ?_
        refine g_pure (p_fieldAddr rfl) rfl ?_
        refine g_pure (p_load (by rfl) rfl (by first | (apply Has.own; (repeat' (first | exact Take.here | apply Take.there)); done) | exact Has.ro (by assumption)) (by first | rfl | assumption)) rfl ?_
        refine g_pure (p_move rfl) rfl ?_
        refine g_pure (p_indexAddr rfl rfl (by omega) (fun _ => rfl)) rfl ?_
        refine g_pure (p_load (by rfl) rfl (Has.ro hro) hx1) rfl ?_
        refine g_pure (p_move rfl) rfl ?_
        refine g_pure (p_indexAddr rfl rfl (by omega) (fun _ => s1)) rfl ?_
        refine g_pure (p_load (by rfl) rfl (Has.ro s2) hx) rfl ?_
        refine g_call (Hin := []) (Hr := ?hr4) (R := ?rr4) rfl rfl rfl ?hin4 ?hc4 ?hk4
        case hin4 => repeat' (first | exact Cover.nil | exact Take.here | apply Cover.cons | apply Take.there)
        case hc4 => intro ρ' hρ hR; exact dnum_ok F[i][j] (by omega)
        rintro _ _ ⟨rfl, rfl⟩
        refine g_pure (p_adds (by rfl) rfl rfl (by simp only [ByteArray.size_append, strOf_size, lit_size, List.size_toArray, List.length_cons, List.length_nil]; omega)) rfl ?_
        refine g_eff (e_appStrB (by rfl) (by rfl) (by rfl) (by rfl) rfl rfl (by repeat' (first | exact Take.here | apply Take.there)) (by simp only [ByteArray.size_append, strOf_size, lit_size, List.size_toArray, List.length_cons, List.length_nil]; omega)) rfl (fun _ _ => ?_)
        rintro ⟨a53, c53, rfl, rfl⟩
        refine g_pure (p_assign rfl) rfl ?_
        refine g_nil ?_
        refine g_qb ?_
        refine g_qt ?_
        refine g_region ?_
        refine g_pure (p_move rfl) rfl ?_
        first | refine g_pure (p_addi rfl rfl (by omega)) rfl ?_ | refine g_pure (p_add rfl rfl) rfl ?_
        refine g_pure (p_assign rfl) rfl ?_
        refine g_nil ?_
        refine g_qn ?_
        rw [e2, cells_app, size_app, ← inW_succ _ _ hjl]
        exact g_next (j + 1, a53, c53) (by (repeat (first | exact trivial | refine ⟨by rfl, ?_⟩)); done) (by repeat' (first | exact Cover.nil | exact Take.here | apply Cover.cons | apply Take.there)) (by dsimp only; omega) (by dsimp only; omega)
      · have hje : j = F[i].length := by omega
        subst hje
        refine g_exit ?_
        refine g_qt_exit ?_
        refine g_qn_exit ?_
        refine g_qb_exit ?_
        refine g_qt ?_
        refine g_region ?_
        refine g_pure (p_move rfl) rfl ?_
        refine g_eff (e_appStrB (by rfl) (by rfl) (by rfl) (by rfl) rfl rfl (by repeat' (first | exact Take.here | apply Take.there)) (by simp only [lit_size, List.size_toArray, List.length_cons, List.length_nil]; omega)) rfl (fun _ _ => ?_)
        rintro ⟨a55, c55, rfl, rfl⟩
        refine g_pure (p_assign rfl) rfl ?_
        refine g_nil ?_
        refine g_qb ?_
        refine g_qt ?_
        refine g_region ?_
        refine g_pure (p_move rfl) rfl ?_
        first | refine g_pure (p_addi rfl rfl (by omega)) rfl ?_ | refine g_pure (p_add rfl rfl) rfl ?_
        refine g_pure (p_assign rfl) rfl ?_
        refine g_nil ?_
        refine g_qn ?_
        rw [show (⟨#[48, 10]⟩ : ByteArray) = strOf [48, 10] from rfl, cells_app, size_app, ← outW_succ n F hil]
        exact g_next (i + 1, a55, c55) (by (repeat (first | exact trivial | refine ⟨by rfl, ?_⟩)); done) (by repeat' (first | exact Cover.nil | exact Take.here | apply Cover.cons | apply Take.there)) (by dsimp only; omega) (by dsimp only; omega)
    · have hie : i = F.length := by omega
      subst hie
      rw [outW_all]
      refine g_exit ?_
      refine g_qt_exit ?_
      refine g_qn_exit ?_
      refine g_qb_exit ?_
      refine g_qt ?_
      refine g_seq ?_
      refine g_region ?_
      refine g_pure (p_move rfl) rfl ?_
      refine g_pure (p_btsB (by rfl) (by rfl) rfl (by repeat' (first | exact Take.here | apply Take.there))) rfl ?_
      refine g_pure (p_assign rfl) rfl ?_
      refine g_pure (p_assign rfl) rfl ?_
      refine g_nil ?_
      refine g_qt ?_
      refine g_ret ?_
      exact g_post (Ho := []) (rs := [.tmp 2, .tmp 3]) rfl (.tmp rfl (.tmp rfl .nil)) ⟨by rw [if_pos hc]; rfl, rfl⟩ (by repeat' (first | exact Cover.nil | exact Take.here | apply Cover.cons | apply Take.there))
end Go.Proofs.YtopgbgnmjogeeaaGreatDoor
/- Chapter 36: the document's numbers, clauses and first line. Conditions: none. -/
namespace Go.Z.Txt
set_option maxRecDepth 8000
set_option linter.unusedVariables false
set_option linter.unusedSimpArgs false
set_option linter.unusedSectionVars false
open Go Go.Lib Go.Z.Val
theorem fold_snoc {l : List UInt8} {k : Nat} (hk : k < l.length) : (l.take (k + 1)).foldl digF 0 = 10 * (l.take k).foldl digF 0 + (l[k].toNat : Int) - 48 := by
  rw [List.take_add_one, List.getElem?_eq_getElem hk, List.foldl_append]; rfl
/-- so far the document has the numbers out of the first i words -/
structure PD (W : List (List UInt8)) (i : Nat) (out : List Int) : Prop where
  le : i ≤ W.length
  len : out.length ≤ i
  mid : i < W.length → wordsV W = (wordsV (W.drop i)).map (out ++ ·)
  fin : i = W.length → W ≠ [] → wordsV W = some out
theorem PD.start (W : List (List UInt8)) : PD W 0 [] := ⟨Nat.zero_le _, Nat.zero_le _, fun _ => by rw [List.drop_zero]; cases wordsV W <;> rfl, fun h0 h => absurd (List.eq_nil_of_length_eq_zero h0.symm) h⟩
theorem PD.bad {W : List (List UInt8)} {i : Nat} {out : List Int} (h : PD W i out) (hi : i < W.length) (hn : numV W[i] = none) : wordsV W = none := by
  rw [h.mid hi, List.drop_eq_getElem_cons hi, words_bad hn]; rfl
theorem PD.odd {W : List (List UInt8)} {i : Nat} {out : List Int} (h : PD W i out) (hi : i < W.length) {n : Int} (hn : numV W[i] = some n) (hd : ¬ (n = 0 ↔ i + 1 = W.length)) : wordsV W = none := by
  rw [h.mid hi, List.drop_eq_getElem_cons hi]
  by_cases h1 : i + 1 = W.length
  · have h0 : n ≠ 0 := fun e => hd ⟨fun _ => h1, fun _ => e⟩
    rw [List.drop_of_length_le (by omega)]
    simp [wordsV, hn, h0]
  · have h0 : n = 0 := Classical.byContradiction fun e => hd ⟨fun e' => absurd e' e, fun e' => absurd e' h1⟩
    rw [List.drop_eq_getElem_cons (show i + 1 < W.length by omega)]
    simp [wordsV, hn, h0]
theorem PD.more {W : List (List UInt8)} {i : Nat} {out : List Int} (h : PD W i out) (hi : i < W.length) {n : Int} (hn : numV W[i] = some n) (h0 : n ≠ 0) (h1 : i + 1 ≠ W.length) : PD W (i + 1) (out ++ [n]) := by
  refine ⟨by omega, by have := h.len; simp; omega, fun h2 => ?_, fun h2 => absurd h2 h1⟩
  rw [h.mid hi, List.drop_eq_getElem_cons hi, List.drop_eq_getElem_cons h2]
  simp only [wordsV, hn, if_neg h0]
  rw [Option.map_map]
  congr 1
  funext c
  simp
theorem PD.last {W : List (List UInt8)} {i : Nat} {out : List Int} (h : PD W i out) (hi : i < W.length) (hn : numV W[i] = some 0) (h1 : i + 1 = W.length) : PD W (i + 1) out := by
  refine ⟨by omega, by have := h.len; omega, fun h2 => by omega, fun _ _ => ?_⟩
  rw [h.mid hi, List.drop_eq_getElem_cons hi, List.drop_of_length_le (by omega)]
  simp [wordsV, hn]
theorem headD_doc (s : List UInt8) : headD s = match wordsD s with
  | [p, q, a, b] =>
    if p = [112] ∧ q = [99, 110, 102] then
      match numV a, numV b with
      | some x, some y => if x < 0 ∨ y < 0 then none else some (x, y)
      | _, _ => none
    else none
  | _ => none := by
  unfold headD wordsD
  by_cases h : s = []
  · subst h; rfl
  · rw [if_neg h] <;> rfl
end Go.Z.Txt
namespace Go.Proofs.YtopgbgnmjogeeaaGreatDoor
set_option maxRecDepth 8000
set_option linter.unusedVariables false
set_option linter.unusedSimpArgs false
set_option linter.unusedSectionVars false
open Go Go.Z Go.Z.Txt Go.Z.Sat Go.Z.Val Go.Z.Aig Go.Z.Tse

theorem dread_ok {ρ : Nat → Obj → Prop} (wd : List UInt8) (hw : wd.length ≤ 1000000) : Con Tryz.prog ρ 71 #[.string (strOf wd)] [] (fun v H => ∃ n b, v = .tuple #[.int .i64 n, .bool b] ∧ (b = true → numV wd = some n) ∧ (b = false → numV wd = none) ∧ H = []) := by
  have hss : (strOf wd).size = wd.length := rfl
  have hsl := sgn_le (l := wd)
  have hs2 := sgn_two wd
  have hno : ∀ P : Prop, ¬ (wd.length ≤ 11 ∧ sgn wd ≠ wd.length ∧ (∀ c ∈ wd.drop (sgn wd), 48 ≤ c.toNat ∧ c.toNat ≤ 57)) → numV wd = none := fun _ h => num_none h
  refine con_intro Tryz.func71 Tryz.call71 rfl Tryz.ntmps71 rfl (L := [(0, _)]) rfl fun w hh => ?_
  refine g_seq ?_
  refine g_region ?_
  refine g_pure (p_assign rfl) rfl ?_
  refine g_pure (p_assign rfl) rfl ?_
  refine g_nil ?_
  refine g_qt ?_
  refine g_seq ?_
  refine g_region ?_
  refine g_pure (p_assign rfl) rfl ?_
  refine g_nil ?_
  refine g_qt ?_
  refine g_seq ?_
  refine g_region ?_
  refine g_pure (p_assign rfl) rfl ?_
  refine g_nil ?_
  refine g_qt ?_
  refine g_seq ?_
  refine g_seq ?_
  refine g_join (fun _ : Unit => [(0, .string (strOf wd)), (4, .int .i64 0), (5, .int .i64 0), (14, .bool (decide (sgn wd = 1)))]) (fun _ => []) (fun _ => True) ?_ ?_
  · refine g_region ?_
    refine g_pure (p_move rfl) rfl ?_
    refine g_pure (p_lens (by rfl) rfl) rfl ?_
    refine g_pure (p_gtr rfl rfl) rfl ?_
    refine g_pure (p_move rfl) rfl ?_
    refine g_splitd rfl rfl (fun h => ?_) (fun h => ?_)
    · rw [hss] at h
      have h0 : 0 < wd.length := by omega
      have hb : (strOf wd).data.toList[(0 : Int).toNat]? = some wd[0] := by rw [strOf_list]; exact List.getElem?_eq_getElem h0
      refine g_yes rfl rfl ?_
      refine g_pure (p_move rfl) rfl ?_
      refine g_yes rfl rfl ?_
      refine g_pure (p_indexs (by rfl) rfl rfl (Int.le_refl 0) hb) rfl ?_
      refine g_yes rfl rfl ?_
      refine g_pure (p_eql rfl rfl) rfl ?_
      first | refine g_pure (p_pickt rfl rfl) rfl ?_ | refine g_pure (p_pickf rfl rfl) rfl ?_
      refine g_nil ?_
      refine g_qn ?_
      have e : decide ((wd[0].toNat : Int) = 45) = decide (sgn wd = 1) := by
        rw [decide_eq_decide]
        unfold sgn
        rw [List.head?_eq_getElem?, List.getElem?_eq_getElem h0]
        constructor
        · intro e
          have : wd[0] = 45 := UInt8.toNat_inj.1 (by show wd[0].toNat = 45; omega)
          rw [this]; rfl
        · intro e
          split at e
          · rename_i e2; injection e2 with e2; rw [e2]; rfl
          · cases e
      rw [e]
      exact g_joined () (by (repeat (first | exact trivial | refine ⟨by rfl, ?_⟩)); done) (by repeat' (first | exact Cover.nil | exact Take.here | apply Cover.cons | apply Take.there)) trivial
    · rw [hss] at h
      have hw0 : wd = [] := List.eq_nil_of_length_eq_zero (by omega)
      have e : decide (sgn wd = 1) = false := by rw [hw0]; rfl
      refine g_no rfl rfl rfl rfl ?_
      refine g_no rfl rfl rfl rfl ?_
      refine g_no rfl rfl rfl rfl ?_
      first | refine g_pure (p_pickt rfl rfl) rfl ?_ | refine g_pure (p_pickf rfl rfl) rfl ?_
      refine g_nil ?_
      refine g_qn ?_
      rw [e]
      exact g_joined () (by (repeat (first | exact trivial | refine ⟨by rfl, ?_⟩)); done) (by repeat' (first | exact Cover.nil | exact Take.here | apply Cover.cons | apply Take.there)) trivial
  rintro _ _
  refine g_qt ?_
  refine g_join (fun _ : Unit => [(0, .string (strOf wd)), (4, .int .i64 0), (5, .int .i64 (sgn wd : Nat))]) (fun _ => []) (fun _ => True) ?_ ?_
  · refine g_ifd rfl (fun h => ?_) (fun h => ?_)
    · refine g_region ?_
      refine g_pure (p_assign rfl) rfl ?_
      refine g_nil ?_
      refine g_qn ?_
      rw [h]
      exact g_joined () (by (repeat (first | exact trivial | refine ⟨by rfl, ?_⟩)); done) (by repeat' (first | exact Cover.nil | exact Take.here | apply Cover.cons | apply Take.there)) trivial
    · have e : sgn wd = 0 := by omega
      refine g_skip ?_
      refine g_qn ?_
      rw [e]
      exact g_joined () (by (repeat (first | exact trivial | refine ⟨by rfl, ?_⟩)); done) (by repeat' (first | exact Cover.nil | exact Take.here | apply Cover.cons | apply Take.there)) trivial
  rintro _ _
  refine g_qt ?_
  refine g_seq ?_
  refine g_seq ?_
  refine g_region ?_
  refine g_pure (p_move rfl) rfl ?_
  refine g_pure (p_lens (by rfl) rfl) rfl ?_
  refine g_pure (p_gtr rfl rfl) rfl ?_
  refine g_pure (p_move rfl) rfl ?_
  refine g_splitd rfl rfl (fun h1 => ?_) (fun h1 => ?_)
  · rw [hss] at h1
    refine g_no rfl rfl rfl rfl ?_
    refine g_no rfl rfl rfl rfl ?_
    refine g_no rfl rfl rfl rfl ?_
    refine g_no rfl rfl rfl rfl ?_
    first | refine g_pure (p_pickt rfl rfl) rfl ?_ | refine g_pure (p_pickf rfl rfl) rfl ?_
    refine g_nil ?_
    refine g_qt ?_
    refine g_ift rfl ?_
    refine g_seq ?_
    refine g_region ?_
    refine g_pure (p_assign rfl) rfl ?_
    refine g_pure (p_assign rfl) rfl ?_
    refine g_nil ?_
    refine g_qt ?_
    refine g_ret ?_
    refine g_qt_ret ?_
    exact g_post (Ho := []) (rs := [.tmp 2, .tmp 3]) rfl (.tmp rfl (.tmp rfl .nil)) ⟨0, false, rfl, fun h => (by cases h), fun _ => num_none fun hh => by omega, rfl⟩ (by repeat' (first | exact Cover.nil | exact Take.here | apply Cover.cons | apply Take.there))
  · rw [hss] at h1
    refine g_yes rfl rfl ?_
    refine g_pure (p_move rfl) rfl ?_
    refine g_yes rfl rfl ?_
    refine g_pure (p_move rfl) rfl ?_
    refine g_yes rfl rfl ?_
    refine g_pure (p_lens (by rfl) rfl) rfl ?_
    refine g_yes rfl rfl ?_
    refine g_pure (p_eql rfl rfl) rfl ?_
    first | refine g_pure (p_pickt rfl rfl) rfl ?_ | refine g_pure (p_pickf rfl rfl) rfl ?_
    refine g_nil ?_
    refine g_qt ?_
    refine g_ifd rfl (fun h2 => ?_) (fun h2 => ?_)
    · rw [hss] at h2
      refine g_seq ?_
      refine g_region ?_
      refine g_pure (p_assign rfl) rfl ?_
      refine g_pure (p_assign rfl) rfl ?_
      refine g_nil ?_
      refine g_qt ?_
      refine g_ret ?_
      refine g_qt_ret ?_
      exact g_post (Ho := []) (rs := [.tmp 2, .tmp 3]) rfl (.tmp rfl (.tmp rfl .nil)) ⟨0, false, rfl, fun h => (by cases h), fun _ => num_none fun hh => by omega, rfl⟩ (by repeat' (first | exact Cover.nil | exact Take.here | apply Cover.cons | apply Take.there))
    · rw [hss] at h2
      obtain ⟨D, hD⟩ : ∃ D, wd.drop (sgn wd) = D := ⟨_, rfl⟩
      have hDl : D.length = wd.length - sgn wd := by rw [← hD, List.length_drop]
      refine g_skip ?_
      refine g_qt ?_
      refine g_seq ?_
      refine g_seq ?_
      refine g_region ?_
      refine g_pure (p_move rfl) rfl ?_
      refine g_pure (p_assign rfl) rfl ?_
      refine g_nil ?_
      refine g_qt ?_
      refine g_block ?_
      refine g_loop (fun k : Nat => [(0, .string (strOf wd)), (4, .int .i64 ((D.take k).foldl digF 0)), (5, .int .i64 (sgn wd : Nat)), (6, .int .i64 ((sgn wd + k : Nat) : Int))]) (fun _ => [])
        (fun k => k ≤ D.length ∧ ∀ c ∈ D.take k, 48 ≤ c.toNat ∧ c.toNat ≤ 57) (fun k => D.length - k) 0 ⟨Nat.zero_le _, by simp⟩ (by (repeat (first | exact trivial | refine ⟨by rfl, ?_⟩)); done) (by repeat' (first | exact Cover.nil | exact Take.here | apply Cover.cons | apply Take.there)) ?_
      rintro k ⟨hk, hall⟩
      have hfb := fold_le (l := D.take k) (by rw [List.length_take]; omega) hall
      refine g_seq ?_
      refine g_seq ?_
      refine g_region ?_
      refine g_pure (p_move rfl) rfl ?_
      refine g_pure (p_move rfl) rfl ?_
      refine g_pure (p_lens (by rfl) rfl) rfl ?_
      refine g_pure (p_lss rfl rfl) rfl ?_
      refine g_nil ?_
      refine g_qt ?_
      refine g_ifd rfl (fun q => ?_) (fun q => ?_)
      · rw [hss] at q
        have hkl : k < D.length := by omega
        have hwl : sgn wd + k < wd.length := by omega
        have hDk : D[k] = wd[sgn wd + k] := by subst hD; rw [List.getElem_drop]
        have hb : (strOf wd).data.toList[((sgn wd + k : Nat) : Int).toNat]? = some D[k] := by rw [strOf_list, Int.toNat_natCast, List.getElem?_eq_getElem hwl, hDk]
        have hbad : ¬ (48 ≤ D[k].toNat ∧ D[k].toNat ≤ 57) → numV wd = none := fun h => num_none fun hh => h (hh.2.2 D[k] (by rw [hD]; exact List.getElem_mem hkl))
        have hsn := fold_snoc hkl
        have hgood : (48 ≤ D[k].toNat ∧ D[k].toNat ≤ 57) → ∀ c ∈ D.take (k + 1), 48 ≤ c.toNat ∧ c.toNat ≤ 57 := fun h c hc => by
          rw [List.take_add_one, List.getElem?_eq_getElem hkl] at hc
          rcases List.mem_append.1 hc with hc | hc
          · exact hall c hc
          · simp at hc; subst hc; exact h
        refine g_skip ?_
        refine g_qt ?_
        refine g_seq ?_
        refine g_block ?_
        refine g_seq ?_
        refine g_seq ?_
        refine g_region ?_
        refine g_pure (p_move rfl) rfl ?_
        refine g_pure (p_move rfl) rfl ?_
        refine g_pure (p_indexs (by rfl) rfl rfl (by omega) hb) rfl ?_
        refine g_pure (p_lss rfl rfl) rfl ?_
        refine g_pure (p_move rfl) rfl ?_
        refine g_splitd rfl rfl (fun h3 => ?_) (fun h3 => ?_)
        · refine g_no rfl rfl rfl rfl ?_
          refine g_no rfl rfl rfl rfl ?_
          refine g_no rfl rfl rfl rfl ?_
          refine g_no rfl rfl rfl rfl ?_
          first | refine g_pure (p_pickt rfl rfl) rfl ?_ | refine g_pure (p_pickf rfl rfl) rfl ?_
          refine g_nil ?_
          refine g_qt ?_
          refine g_ift rfl ?_
          refine g_seq ?_
          refine g_region ?_
          refine g_pure (p_assign rfl) rfl ?_
          refine g_pure (p_assign rfl) rfl ?_
          refine g_nil ?_
          refine g_qt ?_
          refine g_ret ?_
          refine g_qt_ret ?_
          refine g_qb_ret ?_
          refine g_qt_ret ?_
          refine g_qn_ret ?_
          refine g_qb_ret ?_
          refine g_qt_ret ?_
          exact g_post (Ho := []) (rs := [.tmp 2, .tmp 3]) rfl (.tmp rfl (.tmp rfl .nil)) ⟨0, false, rfl, fun h => (by cases h), fun _ => hbad (by omega), rfl⟩ (by repeat' (first | exact Cover.nil | exact Take.here | apply Cover.cons | apply Take.there))
        · refine g_yes rfl rfl ?_
          refine g_pure (p_move rfl) rfl ?_
          refine g_yes rfl rfl ?_
          refine g_pure (p_move rfl) rfl ?_
          refine g_yes rfl rfl ?_
          refine g_pure (p_indexs (by rfl) rfl rfl (by omega) hb) rfl ?_
          refine g_yes rfl rfl ?_
          refine g_pure (p_gtr rfl rfl) rfl ?_
          first | refine g_pure (p_pickt rfl rfl) rfl ?_ | refine g_pure (p_pickf rfl rfl) rfl ?_
          refine g_nil ?_
          refine g_qt ?_
          refine g_ifd rfl (fun h4 => ?_) (fun h4 => ?_)
          · refine g_seq ?_
            refine g_region ?_
            refine g_pure (p_assign rfl) rfl ?_
            refine g_pure (p_assign rfl) rfl ?_
            refine g_nil ?_
            refine g_qt ?_
            refine g_ret ?_
            refine g_qt_ret ?_
            refine g_qb_ret ?_
            refine g_qt_ret ?_
            refine g_qn_ret ?_
            refine g_qb_ret ?_
            refine g_qt_ret ?_
            exact g_post (Ho := []) (rs := [.tmp 2, .tmp 3]) rfl (.tmp rfl (.tmp rfl .nil)) ⟨0, false, rfl, fun h => (by cases h), fun _ => hbad (by omega), rfl⟩ (by repeat' (first | exact Cover.nil | exact Take.here | apply Cover.cons | apply Take.there))
          · refine g_skip ?_
            refine g_qt ?_
            refine g_region ?_
            refine g_pure (p_move rfl) rfl ?_
            first | refine g_pure (p_muli rfl rfl (by omega)) rfl ?_ | refine g_pure (p_mul rfl rfl) rfl ?_
            refine g_pure (p_move rfl) rfl ?_
            refine g_pure (p_move rfl) rfl ?_
            refine g_pure (p_indexs (by rfl) rfl rfl (by omega) hb) rfl ?_
            refine g_pure (p_convi (by rfl) rfl (by omega)) rfl ?_
            first | refine g_pure (p_addi rfl rfl (by omega)) rfl ?_ | refine g_pure (p_add rfl rfl) rfl ?_
            first | refine g_pure (p_subi rfl rfl (by omega)) rfl ?_ | refine g_pure (p_sub rfl rfl) rfl ?_
            refine g_pure (p_assign rfl) rfl ?_
            refine g_nil ?_
            refine g_qb ?_
            refine g_qt ?_
            refine g_region ?_
            refine g_pure (p_move rfl) rfl ?_
            first | refine g_pure (p_addi rfl rfl (by omega)) rfl ?_ | refine g_pure (p_add rfl rfl) rfl ?_
            refine g_pure (p_assign rfl) rfl ?_
            refine g_nil ?_
            refine g_qn ?_
            rw [← hsn]
            exact g_next (k + 1) (by (repeat (first | exact trivial | refine ⟨by rfl, ?_⟩)); done) (by repeat' (first | exact Cover.nil | exact Take.here | apply Cover.cons | apply Take.there)) ⟨by omega, hgood (by omega)⟩ (by omega)
      · rw [hss] at q
        have hke : k = D.length := by omega
        subst hke
        rw [List.take_length] at hfb ⊢
        refine g_exit ?_
        refine g_qt_exit ?_
        refine g_qn_exit ?_
        refine g_qb_exit ?_
        refine g_qt ?_
        refine g_seq ?_
        refine g_seq ?_
        refine g_region ?_
        refine g_pure (p_move rfl) rfl ?_
        refine g_pure (p_eql rfl rfl) rfl ?_
        refine g_nil ?_
        refine g_qt ?_
        refine g_join (fun _ : Unit => [(0, .string (strOf wd)), (4, .int .i64 (readN wd))]) (fun _ => []) (fun _ => True) ?_ ?_
        · refine g_ifd rfl (fun h5 => ?_) (fun h5 => ?_)
          · have e : -(D.foldl digF 0) = readN wd := by
              have hs : sgn wd = 1 := by omega
              unfold readN; rw [if_pos hs, ← hD, hs]
            refine g_region ?_
            refine g_pure (p_move rfl) rfl ?_
            first | refine g_pure (p_negi rfl (by omega)) rfl ?_ | refine g_pure (p_neg rfl) rfl ?_
            refine g_pure (p_assign rfl) rfl ?_
            refine g_nil ?_
            refine g_qn ?_
            rw [e]
            exact g_joined () (by (repeat (first | exact trivial | refine ⟨by rfl, ?_⟩)); done) (by repeat' (first | exact Cover.nil | exact Take.here | apply Cover.cons | apply Take.there)) trivial
          · have e : D.foldl digF 0 = readN wd := by
              have hs : sgn wd = 0 := by omega
              unfold readN; rw [if_neg (by omega), ← hD, hs, List.drop_zero]
            refine g_skip ?_
            refine g_qn ?_
            rw [e]
            exact g_joined () (by (repeat (first | exact trivial | refine ⟨by rfl, ?_⟩)); done) (by repeat' (first | exact Cover.nil | exact Take.here | apply Cover.cons | apply Take.there)) trivial
        have hrb : -100000000000 < readN wd ∧ readN wd < 100000000000 := by
          rcases hs2 with hs | hs
          · have e : readN wd = D.foldl digF 0 := by unfold readN; rw [if_neg (by omega), ← hD, hs, List.drop_zero]
            omega
          · have e : readN wd = -(D.foldl digF 0) := by unfold readN; rw [if_pos hs, ← hD, hs]
            omega
        rintro _ _
        refine g_qt ?_
        obtain ⟨m, hm⟩ : ∃ m, readN wd = m := ⟨_, rfl⟩
        have hnr := num_read wd
        rw [hm] at hnr hrb ⊢
        refine g_seq ?_
        refine g_region ?_
        refine g_pure (p_move rfl) rfl ?_
        refine g_pure (p_move rfl) rfl ?_
        refine g_pure (p_geq rfl rfl) rfl ?_
        refine g_pure (p_move rfl) rfl ?_
        refine g_splitd rfl rfl (fun h1 => ?_) (fun h1 => ?_)
        · refine g_yes rfl rfl ?_
          refine g_pure (p_move rfl) rfl ?_
          refine g_yes rfl rfl ?_
          refine g_pure (p_leq rfl rfl) rfl ?_
          first | refine g_pure (p_pickt rfl rfl) rfl ?_ | refine g_pure (p_pickf rfl rfl) rfl ?_
          refine g_pure (p_move rfl) rfl ?_
          refine g_splitd rfl rfl (fun h2 => ?_) (fun h2 => ?_)
          · refine g_yes rfl rfl ?_
            refine g_pure (p_move rfl) rfl ?_
            refine g_yes rfl rfl ?_
            refine g_call (Hin := []) (Hr := ?hr1) (R := ?rr1) rfl rfl rfl ?hin1 ?hc1 ?hk1
            case hin1 => repeat' (first | exact Cover.nil | exact Take.here | apply Cover.cons | apply Take.there)
            case hc1 => intro ρ' hρ hR; exact dnum_ok m (by omega)
            rintro _ _ ⟨rfl, rfl⟩
            refine g_yes rfl rfl ?_
            refine g_pure (p_move rfl) rfl ?_
            refine g_yes rfl rfl ?_
            refine g_pure (p_eqls (by rfl) rfl rfl) rfl ?_
            first | refine g_pure (p_pickt rfl rfl) rfl ?_ | refine g_pure (p_pickf rfl rfl) rfl ?_
            refine g_pure (p_assign rfl) rfl ?_
            refine g_pure (p_assign rfl) rfl ?_
            refine g_nil ?_
            refine g_qt ?_
            refine g_ret ?_
            first | exact g_post (Ho := []) (rs := [.tmp 2, .tmp 3]) rfl (.tmp rfl (.tmp rfl .nil)) ⟨m, false, rfl, fun h => (by cases h), fun _ => (by rw [hnr, if_neg (fun hh => by have h1 := hh.1; have h2 := hh.2.1; omega)]; done), rfl⟩ (by repeat' (first | exact Cover.nil | exact Take.here | apply Cover.cons | apply Take.there)) | exact g_post (Ho := []) (rs := [.tmp 2, .tmp 3]) rfl (.tmp rfl (.tmp rfl .nil)) ⟨m, decide (strOf (Lib.itoa m) = strOf wd), rfl, fun h => (by rw [hnr, if_pos ⟨by omega, by omega, strOf_inj.1 (of_decide_eq_true h)⟩]; done), fun h => (by rw [hnr, if_neg (fun hh => absurd (strOf_inj.2 hh.2.2) (of_decide_eq_false h))]; done), rfl⟩ (by repeat' (first | exact Cover.nil | exact Take.here | apply Cover.cons | apply Take.there))
          · refine g_no rfl rfl rfl rfl ?_
            refine g_no rfl rfl rfl rfl ?_
            refine g_no rfl rfl rfl rfl ?_
            refine g_no rfl rfl rfl rfl ?_
            first | refine g_pure (p_pickt rfl rfl) rfl ?_ | refine g_pure (p_pickf rfl rfl) rfl ?_
            refine g_pure (p_assign rfl) rfl ?_
            refine g_pure (p_assign rfl) rfl ?_
            refine g_nil ?_
            refine g_qt ?_
            refine g_ret ?_
            first | exact g_post (Ho := []) (rs := [.tmp 2, .tmp 3]) rfl (.tmp rfl (.tmp rfl .nil)) ⟨m, false, rfl, fun h => (by cases h), fun _ => (by rw [hnr, if_neg (fun hh => by have h1 := hh.1; have h2 := hh.2.1; omega)]; done), rfl⟩ (by repeat' (first | exact Cover.nil | exact Take.here | apply Cover.cons | apply Take.there)) | exact g_post (Ho := []) (rs := [.tmp 2, .tmp 3]) rfl (.tmp rfl (.tmp rfl .nil)) ⟨m, decide (strOf (Lib.itoa m) = strOf wd), rfl, fun h => (by rw [hnr, if_pos ⟨by omega, by omega, strOf_inj.1 (of_decide_eq_true h)⟩]; done), fun h => (by rw [hnr, if_neg (fun hh => absurd (strOf_inj.2 hh.2.2) (of_decide_eq_false h))]; done), rfl⟩ (by repeat' (first | exact Cover.nil | exact Take.here | apply Cover.cons | apply Take.there))
        · refine g_no rfl rfl rfl rfl ?_
          refine g_no rfl rfl rfl rfl ?_
          first | refine g_pure (p_pickt rfl rfl) rfl ?_ | refine g_pure (p_pickf rfl rfl) rfl ?_
          refine g_pure (p_move rfl) rfl ?_
          refine g_no rfl rfl rfl rfl ?_
          refine g_no rfl rfl rfl rfl ?_
          refine g_no rfl rfl rfl rfl ?_
          refine g_no rfl rfl rfl rfl ?_
          first | refine g_pure (p_pickt rfl rfl) rfl ?_ | refine g_pure (p_pickf rfl rfl) rfl ?_
          refine g_pure (p_assign rfl) rfl ?_
          refine g_pure (p_assign rfl) rfl ?_
          refine g_nil ?_
          refine g_qt ?_
          refine g_ret ?_
          first | exact g_post (Ho := []) (rs := [.tmp 2, .tmp 3]) rfl (.tmp rfl (.tmp rfl .nil)) ⟨m, false, rfl, fun h => (by cases h), fun _ => (by rw [hnr, if_neg (fun hh => by have h1 := hh.1; have h2 := hh.2.1; omega)]; done), rfl⟩ (by repeat' (first | exact Cover.nil | exact Take.here | apply Cover.cons | apply Take.there)) | exact g_post (Ho := []) (rs := [.tmp 2, .tmp 3]) rfl (.tmp rfl (.tmp rfl .nil)) ⟨m, decide (strOf (Lib.itoa m) = strOf wd), rfl, fun h => (by rw [hnr, if_pos ⟨by omega, by omega, strOf_inj.1 (of_decide_eq_true h)⟩]; done), fun h => (by rw [hnr, if_neg (fun hh => absurd (strOf_inj.2 hh.2.2) (of_decide_eq_false h))]; done), rfl⟩ (by repeat' (first | exact Cover.nil | exact Take.here | apply Cover.cons | apply Take.there))
end Go.Proofs.YtopgbgnmjogeeaaGreatDoor
