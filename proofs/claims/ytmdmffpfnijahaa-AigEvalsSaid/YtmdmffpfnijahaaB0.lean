/- Chapter 35, the document's side: values. Conditions: none. -/
import Derived.Test.YtmdmffpfnijahaaA9
namespace Go.Proofs.Ytmdmffpfnijahaa
set_option linter.unusedVariables false
set_option linter.unusedSimpArgs false
set_option linter.unusedSectionVars false
open Go Go.Z Go.Z.Aig

def rv (L : List Bool) : List Bool := L.flatMap fun x => [x, !x]
theorem rv_len (L : List Bool) : (rv L).length = 2 * L.length := by
  unfold rv
  induction L with
  | nil => rfl
  | cons x L ih => simp only [List.flatMap_cons, List.length_append, ih, List.length_cons, List.length_nil]; omega
theorem rv_get : ∀ (L : List Bool) (a : Int), 0 ≤ a → a < 2 * L.length → (rv L)[a.toNat]? = some (litv L a)
  | [], a, h0, h1 => by simp at h1; omega
  | x :: L, a, h0, h1 => by
    have e : rv (x :: L) = x :: (!x) :: rv L := rfl
    rw [e]
    rcases Int.lt_or_le a 2 with h2 | h2
    · rcases Int.lt_or_le a 1 with h3 | h3
      · have : a = 0 := by omega
        subst this; simp [litv]
      · have : a = 1 := by omega
        subst this; simp [litv]
    · have ih := rv_get L (a - 2) (by omega) (by simp at h1; omega)
      have e1 : a.toNat = (a - 2).toNat + 2 := by omega
      rw [e1, List.getElem?_cons_succ, List.getElem?_cons_succ, ih]
      unfold litv
      have e2 : (a / 2).toNat = ((a - 2) / 2).toNat + 1 := by omega
      have e3 : (a - 2) % 2 = a % 2 := by omega
      rw [e2, e3]; rfl
theorem rv_snoc (L : List Bool) (x : Bool) : rv (L ++ [x]) = rv L ++ [x, !x] := by simp [rv]
theorem litv_take {V : List Bool} {k : Nat} {a : Int} (h0 : 0 ≤ a) (h : a < 2 * k) (hk : k ≤ V.length) : litv (V.take k) a = litv V a := by
  conv => rhs; rw [← List.take_append_drop k V]
  exact (litv_pre (by rw [List.length_take]; omega)).symm
theorem rank_succ {S : St} {k : Nat} (hk : k < S.length) : rank S (k + 1) = rank S k + if S[k].2.2 then 1 else 0 := by
  unfold rank; rw [ins_snoc hk, List.length_append]; split <;> rfl
theorem rank_lt {S : St} {k : Nat} {a b : Int} (h : S[k]? = some (a, b, true)) : rank S k < (ins 0 S).length :=
  (List.getElem?_eq_some_iff.1 (ins_at S 0 k a b h)).1
theorem flat2 {cs xs : List Value} {o i : Nat} {v : Value} (h : ∀ j v, xs[j]? = some v → cs[o + j]? = some v) (hv : xs[i]? = some v) {j : Nat} (hj : j = o + i * 1) : cs[j]? = some v := by
  subst hj; rw [Nat.mul_one]; exact h i v hv

theorem reval_ok {ρ : Nat → Obj → Prop} (m : Nat) (S : St) (hw : WF S) (ia : Option Addr) (ic : Nat) (inp : List Bool) (hin : RSl ρ 1 ia inp.length (inp.map encB)) (al : Option Addr) (cl : Nat) (ls : List Int) (hl : RSl ρ 1 al ls.length (ls.map encI)) (hlen : ls.length ≤ 10000000000) (hilen : inp.length ≤ 9223372036854775807)
    (hg : Ro ρ (Rf m S)) :
    Con Try.prog ρ 13 #[.pointer (some ⟨m, 0, none⟩), .slice ia inp.length ic, .slice al ls.length cl] []
      (fun v H => ∃ a c, v = .tuple #[.slice a (eval1 S inp ls).1.length c, .int .i64 (eval1 S inp ls).2] ∧ H = [OwnSl 4 1 a (eval1 S inp ls).1.length c ((eval1 S inp ls).1.map encB)]) := by
  obtain ⟨aa, ca, ab, cb, ai, ci, hp, hA, hB, hi, h0, hlim⟩ := rf_ro hg
  obtain ⟨_, ba, oa, ka, Ta, fa, hA'⟩ := hA
  obtain ⟨_, bb, ob, kb, Tb, fb, hB'⟩ := hB
  obtain ⟨_, bi, oi, ki, Ti, fi, hi'⟩ := hi
  obtain ⟨i1, i2, i3⟩ := hi' h0
  obtain ⟨j1, j2, j3⟩ := hA' h0
  obtain ⟨k1, k2, k3⟩ := hB' h0
  obtain ⟨_, bn, on, kn, Tn, fn, hin2⟩ := hin
  obtain ⟨_, bl, ol, kl, Tl, fl, hl2⟩ := hl
  have hil := ins_le S 0
  have hvl := vals_len hw inp
  refine con_intro Try.func13 Try.call13 rfl Try.ntmps13 rfl (L := [(0, _), (1, _), (2, _)]) rfl fun w hh => ?_
  refine g_seq ?_
  refine g_region ?_
  refine g_pure (p_assign rfl) rfl ?_
  refine g_pure (p_assign rfl) rfl ?_
  refine g_nil ?_
  refine g_qt ?_
  refine g_seq ?_
  refine g_seq ?_
  refine g_region ?_
  refine g_pure (p_move rfl) rfl ?_
  refine g_pure (p_len (by rfl) rfl) rfl ?_
  refine g_pure (p_move rfl) rfl ?_
  refine g_call (Hin := []) (Hr := ?hr1) (R := ?rr1) rfl rfl rfl ?hin1 ?hc1 ?hk1
  case hin1 => repeat' (first | exact Cover.nil | exact Take.here | apply Cover.cons | apply Take.there)
  case hc1 => intro ρ' hρ hR; exact rinputs_ok m S hw (hg.mono hρ)
  rintro _ _ ⟨a0, c0, rfl, rfl⟩
  refine g_pure (p_len (by rfl) rfl) rfl ?_
  refine g_pure (p_neq rfl rfl) rfl ?_
  refine g_nil ?_
  refine g_qt ?_
  refine g_ifnd rfl (fun h1 => ?_) (fun h1 => ?_)
  · refine g_seq ?_
    refine g_region ?_
    refine g_pure (p_assign rfl) rfl ?_
    refine g_pure (p_assign rfl) rfl ?_
    refine g_nil ?_
    refine g_qt ?_
    refine g_ret ?_
    refine g_qt_ret ?_
    have e : eval1 S inp ls = ([], 9) := by unfold eval1; rw [if_pos (by omega)]
    refine g_ownnil (e := 4) (size := 1) ?_
    exact g_post (rs := [.tmp 6, .tmp 7]) rfl (.tmp rfl (.tmp rfl .nil)) ⟨none, 0, by rw [e]; rfl, by rw [e]⟩ (by repeat' (first | exact Cover.nil | exact Take.here | apply Cover.cons | apply Take.there))
  · have hne : ¬ inp.length ≠ (ins 0 S).length := by omega
    have ee : eval1 S inp ls = if ls.all (hasB S) then (ls.map (litv (vals S inp)), 0) else ([], 14) := by unfold eval1; rw [if_neg hne]
    have hv1 : rv ((vals S inp).take 1) = [false, true] := by
      have := vals_zero hw inp
      cases hV : vals S inp with
      | nil => rw [hV] at this; simp at this
      | cons x V => rw [hV] at this; simp at this; subst this; rfl
    refine g_skip ?_
    refine g_qt ?_
    refine g_seq ?_
    refine g_region ?_
    refine g_eff (e_bs (xs := [.const (.bool false), .const (.bool true)]) rfl rfl rfl (by rfl) (by rfl) rfl (by rfl)) rfl (fun _ _ => ?_)
    rintro ⟨b20, rfl, rfl⟩
    refine g_fold (k := 2) (cap := 2) (size := 1) (xs := ([false, true] : List Bool).map encB) .here (by omega) (by omega) rfl rfl ?_
    refine g_pure (p_assign rfl) rfl ?_
    refine g_nil ?_
    refine g_qt ?_
    refine g_seq ?_
    refine g_region ?_
    refine g_pure (p_assign rfl) rfl ?_
    refine g_nil ?_
    refine g_qt ?_
    refine g_seq ?_
    refine g_seq ?_
    refine g_region ?_
    refine g_pure (p_assign rfl) rfl ?_
    refine g_nil ?_
    refine g_qt ?_
    refine g_block ?_
    refine g_loop (fun s : Nat × Option Addr × Nat × List Bool × Nat => [(0, .pointer (some ⟨m, 0, none⟩)), (1, .slice ia inp.length ic), (2, .slice al ls.length cl), (8, .slice s.2.1 s.2.2.2.1.length s.2.2.1), (9, .int .i64 s.2.2.2.2), (10, .int .i64 s.1)])
      (fun s => [OwnSl 4 1 s.2.1 s.2.2.2.1.length s.2.2.1 (s.2.2.2.1.map encB)]) (fun s => 0 < s.1 ∧ s.1 ≤ S.length ∧ s.2.2.2.1 = rv ((vals S inp).take s.1) ∧ s.2.2.2.2 = rank S s.1) (fun s => S.length - s.1) (1, some ⟨b20, 0, none⟩, 2, [false, true], 0) ⟨Nat.one_pos, h0, hv1.symm, by show 0 = (ins 0 (S.take 1)).length; rw [ins_one hw]; rfl⟩ (by repeat (first | exact trivial | refine ⟨by rfl, ?_⟩)) (by repeat' (first | exact Cover.nil | exact Take.here | apply Cover.cons | apply Take.there)) ?_
    rintro ⟨k, va, vc, L, n⟩ ⟨hk0, hk, hL, hn⟩
    dsimp only at hk0 hk hL hn ⊢
    have hLl : L.length = 2 * k := by rw [hL, rv_len, List.length_take]; omega
    refine g_seq ?_
    refine g_seq ?_
    refine g_region ?_
    refine g_pure (p_move rfl) rfl ?_
    refine g_pure (p_move rfl) rfl ?_
    refine g_pure (p_nilCheck rfl) rfl ?_
    refine g_pure (p_fieldAddr rfl) rfl ?_
    refine g_pure (p_load (by rfl) rfl (by first | (apply Has.own; (repeat' (first | exact Take.here | apply Take.there)); done) | exact Has.ro (by assumption)) (by first | rfl | assumption)) rfl ?_
    refine g_pure (p_len (by rfl) rfl) rfl ?_
    refine g_pure (p_lss rfl rfl) rfl ?_
    refine g_nil ?_
    refine g_qt ?_
    refine g_ifd rfl (fun h => ?_) (fun h => ?_)
    · have hkl : k < S.length := by omega
      obtain ⟨⟨x, y, z⟩, hq⟩ : ∃ q, S[k] = q := ⟨_, rfl⟩
      have hsk : S[k]? = some (x, y, z) := by rw [List.getElem?_eq_getElem hkl, hq]
      have hrs := rank_succ hkl
      rw [hq] at hrs
      have xa : ka[oa + (k : Int).toNat * 1]? = some (encI x) := j3 _ _ (by simp [hsk])
      have xb : kb[ob + (k : Int).toNat * 1]? = some (encI y) := k3 _ _ (by simp [hsk])
      have xi : ki[oi + (k : Int).toNat * 1]? = some (encB z) := i3 _ _ (by simp [hsk])
      have hstep : ∀ u, (vals S inp)[k]? = some u → L ++ [u, !u] = rv ((vals S inp).take (k + 1)) := fun u hu => by
        rw [List.take_add_one, hu, hL]; exact (rv_snoc _ _).symm
      have hrk : rank S k ≤ (ins 0 S).length := by
        unfold rank
        have := ins_append (S.take k) (S.drop k) 0
        rw [List.take_append_drop] at this
        rw [this, List.length_append]; exact Nat.le_add_right ..
      refine g_skip ?_
      refine g_qt ?_
      refine g_seq ?_
      refine g_block ?_
      refine g_seq ?_
      refine g_region ?_
      refine g_pure (p_assign rfl) rfl ?_
      refine g_nil ?_
      refine g_qt ?_
      refine g_seq ?_
      refine g_seq ?_
      refine g_region ?_
      refine g_pure (p_move rfl) rfl ?_
      refine g_pure (p_nilCheck rfl) rfl ?_
      refine g_pure (p_fieldAddr rfl) rfl ?_
      refine g_pure (p_load (by rfl) rfl (by first | (apply Has.own; (repeat' (first | exact Take.here | apply Take.there)); done) | exact Has.ro (by assumption)) (by first | rfl | assumption)) rfl ?_
      refine g_pure (p_move rfl) rfl ?_
      refine g_pure (p_indexAddr rfl rfl (by omega) (fun _ => i1)) rfl ?_
      refine g_pure (p_load (by rfl) rfl (Has.ro i2) xi) rfl ?_
      refine g_nil ?_
      refine g_qt ?_
      cases z with
      | true =>
        have hrl := rank_lt hsk
        have hu := vals_inp hw hk0 hsk inp
        rw [← hn] at hu hrl
        obtain ⟨n1, n2, n3⟩ := hin2 (by omega)
        have xn : kn[on + (n : Int).toNat * 1]? = some (encB (inp.getD n false)) := flat2 n3 (i := n) (by simp [List.getElem?_eq_getElem (show n < inp.length by omega)]) (by simp)
        refine g_ift rfl ?_
        refine g_seq ?_
        refine g_region ?_
        refine g_pure (p_move rfl) rfl ?_
        refine g_pure (p_move rfl) rfl ?_
        refine g_pure (p_indexAddr rfl rfl (by omega) (fun _ => n1)) rfl ?_
        refine g_pure (p_load (by rfl) rfl (Has.ro n2) xn) rfl ?_
        refine g_pure (p_assign rfl) rfl ?_
        refine g_nil ?_
        refine g_qt ?_
        refine g_region ?_
        refine g_pure (p_move rfl) rfl ?_
        first | refine g_pure (p_addi rfl rfl (by omega)) rfl ?_ | refine g_pure (p_add rfl rfl) rfl ?_
        refine g_pure (p_assign rfl) rfl ?_
        refine g_nil ?_
        refine g_qt ?_
        refine g_region ?_
        refine g_pure (p_move rfl) rfl ?_
        refine g_pure (p_move rfl) rfl ?_
        refine g_pure (p_move rfl) rfl ?_
        refine g_pure (p_not rfl) rfl ?_
        refine g_eff (e_bs (xs := [.tmp 66, .tmp 68]) rfl rfl rfl (by rfl) (by rfl) rfl (by rfl)) rfl (fun _ _ => ?_)
        rintro ⟨b69, rfl, rfl⟩
        refine g_eff (e_appendO (by rfl) (by rfl) rfl rfl (by first | (apply Has.own; (repeat' (first | exact Take.here | apply Take.there)); done) | exact Has.ro (by assumption)) (by rfl) (by rfl) (by repeat' (first | exact Take.here | apply Take.there)) (by omega) (by first | omega | (dsimp only; omega) | (simp <;> omega)) (by omega)) rfl (fun _ _ => ?_)
        rintro ⟨a70, c70, rfl, rfl⟩
        refine g_pure (p_assign rfl) rfl ?_
        refine g_nil ?_
        refine g_qb ?_
        refine g_qt ?_
        refine g_region ?_
        refine g_pure (p_move rfl) rfl ?_
        first | refine g_pure (p_addi rfl rfl (by omega)) rfl ?_ | refine g_pure (p_add rfl rfl) rfl ?_
        refine g_pure (p_assign rfl) rfl ?_
        refine g_nil ?_
        refine g_qn ?_
        have e1 : L.map encB ++ [encB (inp.getD n false), Value.bool (!(inp.getD n false))] = (L ++ [inp.getD n false, !(inp.getD n false)]).map encB := by simp [encB]
        have e2 : L.length + 2 = (L ++ [inp.getD n false, !(inp.getD n false)]).length := by simp
        rw [e1, e2]
        exact g_next (k + 1, _, _, L ++ [inp.getD n false, !(inp.getD n false)], n + 1) (by repeat (first | exact trivial | refine ⟨by rfl, ?_⟩)) (by repeat' (first | exact Cover.nil | exact Take.here | apply Cover.cons | apply Take.there)) ⟨by dsimp only; omega, by dsimp only; omega, hstep _ hu, by dsimp only; rw [hrs, hn]; rfl⟩ (by dsimp only; omega)
      | false =>
        obtain ⟨g1, g2, g3⟩ := hw.gate k x y hk0 hsk
        have hvg := vals_gate hw hk0 hsk inp
        have gx : (L.map encB)[x.toNat]? = some (encB (litv (vals S inp) x)) := by
          rw [List.getElem?_map, hL, rv_get _ _ (by omega) (by rw [List.length_take]; omega), litv_take (by omega) (by omega) (by omega)]; rfl
        have gy : (L.map encB)[y.toNat]? = some (encB (litv (vals S inp) y)) := by
          rw [List.getElem?_map, hL, rv_get _ _ (by omega) (by rw [List.length_take]; omega), litv_take (by omega) (by omega) (by omega)]; rfl
        refine g_own .here (fun _ h _ _ => absurd h (by omega)) ?_
        rintro gv cur rfl v1 v2 v3 v4 v5
        have cx : cur[0 + x.toNat * 1]? = some (encB (litv (vals S inp) x)) := own_at (k := x.toNat) v4 (by omega) gx
        have cy : cur[0 + y.toNat * 1]? = some (encB (litv (vals S inp) y)) := own_at (k := y.toNat) v4 (by omega) gy
        refine g_iff rfl ?_
        refine g_region ?_
        refine g_pure (p_move rfl) rfl ?_
        refine g_pure (p_move rfl) rfl ?_
        refine g_pure (p_nilCheck rfl) rfl ?_
        refine g_pure (p_fieldAddr rfl) rfl ?_
        refine g_pure (p_load (by rfl) rfl (by first | (apply Has.own; (repeat' (first | exact Take.here | apply Take.there)); done) | exact Has.ro (by assumption)) (by first | rfl | assumption)) rfl ?_
        refine g_pure (p_move rfl) rfl ?_
        refine g_pure (p_indexAddr rfl rfl (by omega) (fun _ => j1)) rfl ?_
        refine g_pure (p_load (by rfl) rfl (Has.ro j2) xa) rfl ?_
        refine g_pure (p_indexAddr rfl rfl (by omega) (fun _ => rfl)) rfl ?_
        refine g_pure (p_load (by rfl) rfl (Has.own (by repeat' (first | exact Take.here | apply Take.there))) cx) rfl ?_
        refine g_pure (p_move rfl) rfl ?_
        refine g_split rfl rfl (fun q => ?_) (fun q => ?_)
        · rw [q, Bool.true_and] at hvg
          refine g_yes rfl rfl ?_
          refine g_pure (p_move rfl) rfl ?_
          refine g_yes rfl rfl ?_
          refine g_pure (p_move rfl) rfl ?_
          refine g_yes rfl rfl ?_
          refine g_pure (p_nilCheck rfl) rfl ?_
          refine g_yes rfl rfl ?_
          refine g_pure (p_fieldAddr rfl) rfl ?_
          refine g_yes rfl rfl ?_
          refine g_pure (p_load (by rfl) rfl (by first | (apply Has.own; (repeat' (first | exact Take.here | apply Take.there)); done) | exact Has.ro (by assumption)) (by first | rfl | assumption)) rfl ?_
          refine g_yes rfl rfl ?_
          refine g_pure (p_move rfl) rfl ?_
          refine g_yes rfl rfl ?_
          refine g_pure (p_indexAddr rfl rfl (by omega) (fun _ => k1)) rfl ?_
          refine g_yes rfl rfl ?_
          refine g_pure (p_load (by rfl) rfl (Has.ro k2) xb) rfl ?_
          refine g_yes rfl rfl ?_
          refine g_pure (p_indexAddr rfl rfl (by omega) (fun _ => rfl)) rfl ?_
          refine g_yes rfl rfl ?_
          refine g_pure (p_load (by rfl) rfl (Has.own (by repeat' (first | exact Take.here | apply Take.there))) cy) rfl ?_
          first | refine g_pure (p_pickt rfl rfl) rfl ?_ | refine g_pure (p_pickf rfl rfl) rfl ?_
          refine g_fold (k := L.length) (cap := vc) (size := 1) .here v1 v2 v3 v4 ?_
          refine g_pure (p_assign rfl) rfl ?_
          refine g_nil ?_
          refine g_qt ?_
          refine g_region ?_
          refine g_pure (p_move rfl) rfl ?_
          refine g_pure (p_move rfl) rfl ?_
          refine g_pure (p_move rfl) rfl ?_
          refine g_pure (p_not rfl) rfl ?_
          refine g_eff (e_bs (xs := [.tmp 66, .tmp 68]) rfl rfl rfl (by rfl) (by rfl) rfl (by rfl)) rfl (fun _ _ => ?_)
          rintro ⟨b69, rfl, rfl⟩
          refine g_eff (e_appendO (by rfl) (by rfl) rfl rfl (by first | (apply Has.own; (repeat' (first | exact Take.here | apply Take.there)); done) | exact Has.ro (by assumption)) (by rfl) (by rfl) (by repeat' (first | exact Take.here | apply Take.there)) (by omega) (by first | omega | (dsimp only; omega) | (simp <;> omega)) (by omega)) rfl (fun _ _ => ?_)
          rintro ⟨a70, c70, rfl, rfl⟩
          refine g_pure (p_assign rfl) rfl ?_
          refine g_nil ?_
          refine g_qb ?_
          refine g_qt ?_
          refine g_region ?_
          refine g_pure (p_move rfl) rfl ?_
          first | refine g_pure (p_addi rfl rfl (by omega)) rfl ?_ | refine g_pure (p_add rfl rfl) rfl ?_
          refine g_pure (p_assign rfl) rfl ?_
          refine g_nil ?_
          refine g_qn ?_
          generalize litv (vals S inp) y = u at *
          have e1 : L.map encB ++ [encB u, Value.bool (!u)] = (L ++ [u, !u]).map encB := by simp [encB]
          have e2 : L.length + 2 = (L ++ [u, !u]).length := by simp
          rw [e1, e2]
          exact g_next (k + 1, _, _, L ++ [u, !u], n) (by repeat (first | exact trivial | refine ⟨by rfl, ?_⟩)) (by repeat' (first | exact Cover.nil | exact Take.here | apply Cover.cons | apply Take.there)) ⟨by dsimp only; omega, by dsimp only; omega, hstep _ hvg, by dsimp only; rw [hrs, hn]; rfl⟩ (by dsimp only; omega)
        · rw [q, Bool.false_and] at hvg
          refine g_no rfl rfl rfl rfl ?_
          refine g_no rfl rfl rfl rfl ?_
          refine g_no rfl rfl rfl rfl ?_
          refine g_no rfl rfl rfl rfl ?_
          refine g_no rfl rfl rfl rfl ?_
          refine g_no rfl rfl rfl rfl ?_
          refine g_no rfl rfl rfl rfl ?_
          refine g_no rfl rfl rfl rfl ?_
          refine g_no rfl rfl rfl rfl ?_
          refine g_no rfl rfl rfl rfl ?_
          first | refine g_pure (p_pickt rfl rfl) rfl ?_ | refine g_pure (p_pickf rfl rfl) rfl ?_
          refine g_fold (k := L.length) (cap := vc) (size := 1) .here v1 v2 v3 v4 ?_
          refine g_pure (p_assign rfl) rfl ?_
          refine g_nil ?_
          refine g_qt ?_
          refine g_region ?_
          refine g_pure (p_move rfl) rfl ?_
          refine g_pure (p_move rfl) rfl ?_
          refine g_pure (p_move rfl) rfl ?_
          refine g_pure (p_not rfl) rfl ?_
          refine g_eff (e_bs (xs := [.tmp 66, .tmp 68]) rfl rfl rfl (by rfl) (by rfl) rfl (by rfl)) rfl (fun _ _ => ?_)
          rintro ⟨b69, rfl, rfl⟩
          refine g_eff (e_appendO (by rfl) (by rfl) rfl rfl (by first | (apply Has.own; (repeat' (first | exact Take.here | apply Take.there)); done) | exact Has.ro (by assumption)) (by rfl) (by rfl) (by repeat' (first | exact Take.here | apply Take.there)) (by omega) (by first | omega | (dsimp only; omega) | (simp <;> omega)) (by omega)) rfl (fun _ _ => ?_)
          rintro ⟨a70, c70, rfl, rfl⟩
          refine g_pure (p_assign rfl) rfl ?_
          refine g_nil ?_
          refine g_qb ?_
          refine g_qt ?_
          refine g_region ?_
          refine g_pure (p_move rfl) rfl ?_
          first | refine g_pure (p_addi rfl rfl (by omega)) rfl ?_ | refine g_pure (p_add rfl rfl) rfl ?_
          refine g_pure (p_assign rfl) rfl ?_
          refine g_nil ?_
          refine g_qn ?_
          have e1 : L.map encB ++ [Value.bool false, Value.bool (!false)] = (L ++ [false, !false]).map encB := by simp [encB]
          have e2 : L.length + 2 = (L ++ [false, !false]).length := by simp
          rw [e1, e2]
          exact g_next (k + 1, _, _, L ++ [false, !false], n) (by repeat (first | exact trivial | refine ⟨by rfl, ?_⟩)) (by repeat' (first | exact Cover.nil | exact Take.here | apply Cover.cons | apply Take.there)) ⟨by dsimp only; omega, by dsimp only; omega, hstep _ hvg, by dsimp only; rw [hrs, hn]; rfl⟩ (by dsimp only; omega)
    · have hke : k = S.length := by omega
      have hLr : L = rv (vals S inp) := by rw [hL, hke, ← hvl, List.take_length]
      refine g_own .here (fun _ h _ _ => absurd h (by omega)) ?_
      rintro gv cur rfl v1 v2 v3 v4 v5
      refine g_exit ?_
      refine g_qt_exit ?_
      refine g_qn_exit ?_
      refine g_qb_exit ?_
      refine g_qt ?_
      refine g_seq ?_
      refine g_region ?_
      refine g_ownnil (e := 4) (size := 1) ?_
      refine g_pure (p_assign rfl) rfl ?_
      refine g_nil ?_
      refine g_qt ?_
      refine g_seq ?_
      refine g_seq ?_
      refine g_region ?_
      refine g_pure (p_assign rfl) rfl ?_
      refine g_nil ?_
      refine g_qt ?_
      refine g_block ?_
      refine g_loop (fun s : Nat × Option Addr × Nat => [(0, .pointer (some ⟨m, 0, none⟩)), (2, .slice al ls.length cl), (8, .slice (some ⟨gv, 0, none⟩) L.length vc), (12, .slice s.2.1 s.1 s.2.2), (13, .int .i64 s.1)])
        (fun s => [OwnSl 4 1 s.2.1 s.1 s.2.2 (((ls.take s.1).map (litv (vals S inp))).map encB), Blk gv (.cells cur.toArray 4 (0, 0))]) (fun s => s.1 ≤ ls.length ∧ (ls.take s.1).all (hasB S) = true) (fun s => ls.length - s.1) (0, none, 0) ⟨Nat.zero_le _, rfl⟩ (by repeat (first | exact trivial | refine ⟨by rfl, ?_⟩)) (by repeat' (first | exact Cover.nil | exact Take.here | apply Cover.cons | apply Take.there)) ?_
      rintro ⟨i, oa', oc'⟩ ⟨hi1, hi2⟩
      dsimp only at hi1 hi2 ⊢
      refine g_seq ?_
      refine g_seq ?_
      refine g_region ?_
      refine g_pure (p_move rfl) rfl ?_
      refine g_pure (p_move rfl) rfl ?_
      refine g_pure (p_len (by rfl) rfl) rfl ?_
      refine g_pure (p_lss rfl rfl) rfl ?_
      refine g_nil ?_
      refine g_qt ?_
      refine g_ifd rfl (fun q => ?_) (fun q => ?_)
      · have hil : i < ls.length := by omega
        obtain ⟨l1, l2, l3⟩ := hl2 (by omega)
        have xl : kl[ol + (i : Int).toNat * 1]? = some (encI ls[i]) := flat2 l3 (i := i) (by simp [List.getElem?_eq_getElem hil]) (by simp)
        refine g_skip ?_
        refine g_qt ?_
        refine g_seq ?_
        refine g_block ?_
        refine g_seq ?_
        refine g_seq ?_
        refine g_region ?_
        refine g_pure (p_move rfl) rfl ?_
        refine g_pure (p_move rfl) rfl ?_
        refine g_pure (p_move rfl) rfl ?_
        refine g_pure (p_indexAddr rfl rfl (by omega) (fun _ => l1)) rfl ?_
        refine g_pure (p_load (by rfl) rfl (Has.ro l2) xl) rfl ?_
        refine g_call (Hin := []) (Hr := ?hr2) (R := ?rr2) rfl rfl rfl ?hin2 ?hc2 ?hk2
        case hin2 => repeat' (first | exact Cover.nil | exact Take.here | apply Cover.cons | apply Take.there)
        case hc2 => intro ρ' hρ hR; exact rhas_ok m S ls[i] (hg.mono hρ)
        rintro _ _ ⟨rfl, rfl⟩
        refine g_pure (p_not rfl) rfl ?_
        refine g_nil ?_
        refine g_qt ?_
        cases hh1 : hasB S ls[i] with
        | false =>
          refine g_ift rfl ?_
          refine g_seq ?_
          refine g_region ?_
          refine g_pure (p_assign rfl) rfl ?_
          refine g_pure (p_assign rfl) rfl ?_
          refine g_nil ?_
          refine g_qt ?_
          refine g_ret ?_
          refine g_qt_ret ?_
          refine g_qb_ret ?_
          refine g_qt_ret ?_
          refine g_qn_ret ?_
          refine g_qb_ret ?_
          refine g_qt_ret ?_
          have e : eval1 S inp ls = ([], 14) := by
            rw [ee, if_neg]
            intro hall
            have := List.all_eq_true.1 hall ls[i] (List.getElem_mem hil)
            rw [hh1] at this; cases this
          refine g_ownnil (e := 4) (size := 1) ?_
          exact g_post (rs := [.tmp 6, .tmp 7]) rfl (.tmp rfl (.tmp rfl .nil)) ⟨none, 0, by rw [e]; rfl, by rw [e]⟩ (by repeat' (first | exact Cover.nil | exact Take.here | apply Cover.cons | apply Take.there))
        | true =>
          have hx := hasB_iff.1 hh1
          have hx0 := hx.1
          have hx1 := hx.2
          have gz : (L.map encB)[(ls[i]).toNat]? = some (encB (litv (vals S inp) ls[i])) := by
            rw [List.getElem?_map, hLr, rv_get _ _ (by omega) (by omega)]; rfl
          have cz : cur[0 + (ls[i]).toNat * 1]? = some (encB (litv (vals S inp) ls[i])) := own_at (k := (ls[i]).toNat) v4 (by omega) gz
          refine g_iff rfl ?_
          refine g_skip ?_
          refine g_qt ?_
          refine g_region ?_
          refine g_pure (p_move rfl) rfl ?_
          refine g_pure (p_move rfl) rfl ?_
          refine g_pure (p_move rfl) rfl ?_
          refine g_pure (p_move rfl) rfl ?_
          refine g_pure (p_indexAddr rfl rfl (by omega) (fun _ => l1)) rfl ?_
          refine g_pure (p_load (by rfl) rfl (Has.ro l2) xl) rfl ?_
          refine g_pure (p_indexAddr rfl rfl (by omega) (fun _ => rfl)) rfl ?_
          refine g_pure (p_load (by rfl) rfl (Has.own (by repeat' (first | exact Take.here | apply Take.there))) cz) rfl ?_
          refine g_eff (e_bs (xs := [.tmp 91]) rfl rfl rfl (by rfl) (by rfl) rfl (by rfl)) rfl (fun _ _ => ?_)
          rintro ⟨b92, rfl, rfl⟩
          refine g_eff (e_appendO (by rfl) (by rfl) rfl rfl (by first | (apply Has.own; (repeat' (first | exact Take.here | apply Take.there)); done) | exact Has.ro (by assumption)) (by rfl) (by rfl) (by repeat' (first | exact Take.here | apply Take.there)) (by omega) (by first | omega | (dsimp only; omega) | (simp <;> omega)) (by omega)) rfl (fun _ _ => ?_)
          rintro ⟨a93, c93, rfl, rfl⟩
          refine g_pure (p_assign rfl) rfl ?_
          refine g_nil ?_
          refine g_qb ?_
          refine g_qt ?_
          refine g_region ?_
          refine g_pure (p_move rfl) rfl ?_
          first | refine g_pure (p_addi rfl rfl (by omega)) rfl ?_ | refine g_pure (p_add rfl rfl) rfl ?_
          refine g_pure (p_assign rfl) rfl ?_
          refine g_nil ?_
          refine g_qn ?_
          have e6 : ((ls.take i).map (litv (vals S inp))).map encB ++ [encB (litv (vals S inp) ls[i])] = ((ls.take (i + 1)).map (litv (vals S inp))).map encB := by
            rw [List.take_add_one, List.getElem?_eq_getElem hil, Option.toList_some, List.map_append, List.map_append]; rfl
          rw [e6]
          exact g_next (i + 1, _, _) (by repeat (first | exact trivial | refine ⟨by rfl, ?_⟩)) (by repeat' (first | exact Cover.nil | exact Take.here | apply Cover.cons | apply Take.there)) ⟨by dsimp only; omega, by dsimp only; rw [List.take_add_one, List.getElem?_eq_getElem hil, Option.toList_some, List.all_append, hi2]; simp [hh1]⟩ (by dsimp only; omega)
      · have hie : i = ls.length := by omega
        subst hie
        rw [List.take_of_length_le (Nat.le_refl _)] at hi2
        have e : eval1 S inp ls = (ls.map (litv (vals S inp)), 0) := by rw [ee, if_pos hi2]
        refine g_exit ?_
        refine g_qt_exit ?_
        refine g_qn_exit ?_
        refine g_qb_exit ?_
        refine g_qt ?_
        refine g_seq ?_
        refine g_region ?_
        refine g_pure (p_move rfl) rfl ?_
        refine g_pure (p_assign rfl) rfl ?_
        refine g_pure (p_assign rfl) rfl ?_
        refine g_nil ?_
        refine g_qt ?_
        refine g_ret ?_
        rw [List.take_of_length_le (Nat.le_refl _)]
        exact g_post (rs := [.tmp 6, .tmp 7]) rfl (.tmp rfl (.tmp rfl .nil)) ⟨_, _, by rw [e, List.length_map]; rfl, by rw [e, List.length_map]⟩ (by repeat' (first | exact Cover.nil | exact Take.here | apply Cover.cons | apply Take.there))
end Go.Proofs.Ytmdmffpfnijahaa
