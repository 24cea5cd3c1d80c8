/- Chapter 38: the document's Apply; helpers of the statements. Conditions: none. -/
import Derived.Test.YtkebblmmgcgjkaaK2
namespace Go.Z.Bit
set_option maxRecDepth 8000
set_option linter.unusedVariables false
set_option linter.unusedSimpArgs false
set_option linter.unusedSectionVars false
open Go Go.Z Go.Z.Val Go.Z.Aig Go.Proofs.Ytkebblmmgcgjkaa
theorem tmod_in {a b : Int} (ha : -32768 ≤ a ∧ a ≤ 32767) : -32768 ≤ a.tmod b ∧ a.tmod b ≤ 32767 := by
  rw [tmod_abs]
  have h1 := Nat.mod_le a.natAbs b.natAbs
  by_cases h : a < 0
  · rw [decide_eq_true h, if_pos rfl]; omega
  · rw [decide_eq_false h, if_neg (by simp)]; omega
theorem opF_in (op a b : Int) : -32768 ≤ opF op a b ∧ opF op a b ≤ 32767 := by
  unfold opF
  split
  · unfold computeF
    have h1 := wr_in a
    (repeat' split) <;> first | exact wr_in _ | omega | exact tmod_in h1
  · unfold truth; split <;> omega
def dF (op : Int) (args : List (List Bool)) : List Bool × Int := if (formF op (args.map List.length)).2 = 0 then (bitsR (outF op) (opF op (sg (args.headD [])) (sg (args.getLastD []))), 0) else ([], (formF op (args.map List.length)).2)
theorem sg_bit {l : List Bool} (h : l.length = 1) : sg l = 0 ∨ sg l = 1 := by
  obtain ⟨x, rfl⟩ := one_bit h
  rw [sg_one]; cases x
  · exact .inl rfl
  · exact .inr rfl
/-- what the document's errors of operands tell -/
theorem form_ok0 {op : Int} {ws : List Nat} (h : (formF op ws).2 = 0) : (1 ≤ op ∧ op ≤ 16) ∧ ws.length = (if op = 1 ∨ op = 2 then 1 else 2) ∧ (formF op ws).1 = outF op ∧ ws.getD 0 0 = widthF op (ws.getD 0 0) ∧ (¬ (op = 1 ∨ op = 2) → ws.getD 1 0 = ws.getD 0 0) := by
  unfold formF at h ⊢
  by_cases h1 : op < 1 ∨ 16 < op
  · rw [if_pos h1] at h; cases h
  rw [if_neg h1] at h ⊢
  by_cases h2 : ws.length ≠ (if op = 1 ∨ op = 2 then 1 else 2)
  · rw [if_pos h2] at h; cases h
  rw [if_neg h2] at h ⊢
  by_cases h3 : op = 11 ∨ op = 12
  · rw [if_pos h3] at h ⊢
    by_cases h4 : ws.getD 0 0 ≠ ws.getD 1 0 ∨ ws.getD 0 0 < 1 ∨ 16 < ws.getD 0 0
    · rw [if_pos h4] at h; cases h
    rw [if_neg h4]
    refine ⟨by omega, by omega, ?_, ?_, fun _ => by omega⟩
    · unfold outF; rw [if_neg (by omega)]; rfl
    · unfold widthF; rw [if_neg (by omega), if_pos h3]; omega
  · rw [if_neg h3] at h ⊢
    by_cases h4 : ws.getD 0 0 ≠ (if op = 1 ∨ op = 3 ∨ op = 4 ∨ op = 5 then 1 else 16) ∨ (¬ (op = 1 ∨ op = 2) ∧ ws.getD 1 0 ≠ (if op = 1 ∨ op = 3 ∨ op = 4 ∨ op = 5 then 1 else 16))
    · rw [if_pos h4] at h; cases h
    rw [if_neg h4]
    have h5 : ws.getD 0 0 = widthF op (ws.getD 0 0) := by
      unfold widthF
      by_cases h6 : op = 1 ∨ op = 3 ∨ op = 4 ∨ op = 5
      · rw [if_pos h6] at h4 ⊢; omega
      · rw [if_neg h6] at h4 ⊢; rw [if_neg h3]; omega
    refine ⟨by omega, by omega, ?_, h5, fun h7 => ?_⟩
    · unfold outF; split <;> rfl
    · by_cases h8 : ws.getD 1 0 = (if op = 1 ∨ op = 3 ∨ op = 4 ∨ op = 5 then 1 else 16)
      · omega
      · exact absurd (.inr ⟨h7, h8⟩) h4
theorem args_split {op : Int} {args : List (List Bool)} (h : args.length = (if op = 1 ∨ op = 2 then 1 else 2)) : (∃ x, args = [x] ∧ (op = 1 ∨ op = 2)) ∨ (∃ x y, args = [x, y] ∧ ¬ (op = 1 ∨ op = 2)) := by
  by_cases h1 : op = 1 ∨ op = 2
  · rw [if_pos h1] at h
    match args, h with
    | [x], _ => exact .inl ⟨x, rfl, h1⟩
  · rw [if_neg h1] at h
    match args, h with
    | [x, y], _ => exact .inr ⟨x, y, rfl, h1⟩
theorem grp1 {op : Int} (h : op = 1 ∨ op = 3 ∨ op = 4 ∨ op = 5) : (groupF op).1 = 1 := by rcases h with rfl | rfl | rfl | rfl <;> rfl
theorem grp3 {op : Int} (h : op = 11 ∨ op = 12) : (groupF op).1 = 3 := by rcases h with rfl | rfl <;> rfl
theorem grp24 {op : Int} (h1 : 1 ≤ op ∧ op ≤ 16) (h : ¬ (op = 1 ∨ op = 3 ∨ op = 4 ∨ op = 5)) (h2 : ¬ (op = 11 ∨ op = 12)) : (groupF op).1 = 2 ∨ (groupF op).1 = 4 := by
  rcases (show op = 2 ∨ op = 6 ∨ op = 7 ∨ op = 8 ∨ op = 9 ∨ op = 10 ∨ op = 13 ∨ op = 14 ∨ op = 15 ∨ op = 16 by omega) with rfl | rfl | rfl | rfl | rfl | rfl | rfl | rfl | rfl | rfl <;> decide
theorem grp0 {op : Int} (h1 : 1 ≤ op ∧ op ≤ 16) : (groupF op).1 ≠ 0 ∧ (groupF op).2 = (if op = 1 ∨ op = 2 then 1 else 2) := by
  rcases (show op = 1 ∨ op = 2 ∨ op = 3 ∨ op = 4 ∨ op = 5 ∨ op = 6 ∨ op = 7 ∨ op = 8 ∨ op = 9 ∨ op = 10 ∨ op = 11 ∨ op = 12 ∨ op = 13 ∨ op = 14 ∨ op = 15 ∨ op = 16 by omega) with rfl | rfl | rfl | rfl | rfl | rfl | rfl | rfl | rfl | rfl | rfl | rfl | rfl | rfl | rfl | rfl <;> decide
theorem form_apply {op : Int} {args : List (List Bool)} (h : (formF op (args.map List.length)).2 = 0) : applyF op (args.map sg) = (opF op (sg (args.headD [])) (sg (args.getLastD [])), 0) := by
  obtain ⟨h1, h2, h3, h4, h5⟩ := form_ok0 h
  rw [List.length_map] at h2
  have key : ∀ x : List Bool, x.length = widthF op (args.map List.length |>.getD 0 0) → argB (groupF op).1 (sg x) = true := by
    intro x hx
    have hw : (op = 1 ∨ op = 3 ∨ op = 4 ∨ op = 5) → x.length = 1 := fun h => by rw [hx]; unfold widthF; rw [if_pos h]
    have hw2 : ¬ (op = 1 ∨ op = 3 ∨ op = 4 ∨ op = 5) → ¬ (op = 11 ∨ op = 12) → x.length = 16 := fun h h' => by rw [hx]; unfold widthF; rw [if_neg h, if_neg h']
    by_cases h6 : op = 1 ∨ op = 3 ∨ op = 4 ∨ op = 5
    · rw [grp1 h6]
      exact decide_eq_true (sg_bit (hw h6))
    · by_cases h7 : op = 11 ∨ op = 12
      · rw [grp3 h7]; rfl
      · have h16 := sg16 (hw2 h6 h7)
        have hd := decide_eq_true (show -32768 ≤ sg x ∧ sg x ≤ 32767 from ⟨h16.2.1, h16.2.2.1⟩)
        rcases grp24 h1 h6 h7 with e | e
        · rw [e]; exact hd
        · rw [e]; exact hd
  obtain ⟨hk0, hg0⟩ := grp0 h1
  rcases args_split h2 with ⟨x, rfl, hop⟩ | ⟨x, y, rfl, hop⟩
  · have hg2 : (groupF op).2 = 1 := by rw [hg0, if_pos hop]
    unfold applyF
    rw [if_neg hk0, if_neg (by rw [hg2]; simp), if_pos (by simp [key x (by simpa using h4)]), hg2]
    rfl
  · have hg2 : (groupF op).2 = 2 := by rw [hg0, if_neg hop]
    have h6 : y.length = x.length := by simpa using h5 hop
    unfold applyF
    rw [if_neg hk0, if_neg (by rw [hg2]; simp), if_pos (by simp [key x (by simpa using h4), key y (by rw [h6]; simpa using h4)]), hg2]
    rfl
/-- the circuit's bits are the document's -/
theorem circ_law {op : Int} {args : List (List Bool)} (h : (formF op (args.map List.length)).2 = 0) : operateF op (args.headD []) (args.getLastD []) = (dF op args).1 := by
  obtain ⟨h1, h2, h3, h4, h5⟩ := form_ok0 h
  rw [List.length_map] at h2
  unfold dF
  rw [if_pos h]
  rcases args_split h2 with ⟨x, rfl, hop⟩ | ⟨x, y, rfl, hop⟩
  · exact operate_law h1 (by simpa using h4) rfl (fun _ => rfl)
  · exact operate_law h1 (by simpa using h4) (by simpa using h5 hop) (fun h => absurd h (by omega))
theorem apply_form {op : Int} {lss : List (List Int)} : applyE op lss = (formF op (lss.map List.length)).2 := by
  unfold applyE formF
  by_cases h1 : op < 1 ∨ 16 < op
  · rw [if_pos h1, if_pos h1]
  rw [if_neg h1, if_neg h1, List.length_map]
  by_cases h2 : lss.length ≠ (if op = 1 ∨ op = 2 then 1 else 2)
  · rw [if_pos h2, if_pos h2]
  rw [if_neg h2, if_neg h2]
  have h2' : lss.length = (if op = 1 ∨ op = 2 then 1 else 2) := by omega
  by_cases h3 : op = 11 ∨ op = 12
  · rw [if_pos h3]
    rw [if_neg (by omega)] at h2'
    match lss, h2' with
    | [x, y], _ =>
      have e : wOk op [x, y] = decide (x.length = min (max x.length 1) 16 ∧ y.length = min (max x.length 1) 16) := by
        unfold wOk widthF
        rw [if_neg (by omega), if_pos h3]
        rw [Bool.eq_iff_iff]; simp
      rw [e]
      simp only [List.map_cons, List.map_nil, List.getD_cons_zero, List.getD_cons_succ]
      by_cases h4 : x.length ≠ y.length ∨ x.length < 1 ∨ 16 < x.length
      · rw [decide_eq_false (by omega), if_neg (by decide), if_pos h4]
      · rw [decide_eq_true (by omega), if_pos rfl, if_neg h4]
  · rw [if_neg h3]
    by_cases h5 : op = 1 ∨ op = 2
    · rw [if_pos h5] at h2'
      match lss, h2' with
      | [x], _ =>
        have e : wOk op [x] = decide (x.length = if op = 1 ∨ op = 3 ∨ op = 4 ∨ op = 5 then 1 else 16) := by
          unfold wOk widthF
          rw [if_neg h3, Bool.eq_iff_iff]; simp
        rw [e]
        simp only [List.map_cons, List.map_nil, List.getD_cons_zero]
        generalize (if op = 1 ∨ op = 3 ∨ op = 4 ∨ op = 5 then 1 else 16 : Nat) = W
        by_cases h6 : x.length = W
        · rw [decide_eq_true h6, if_pos rfl, if_neg (fun h => h.elim (fun h => h h6) (fun h => h.1 h5))]
        · rw [decide_eq_false h6, if_neg (by decide), if_pos (.inl h6)]
    · rw [if_neg h5] at h2'
      match lss, h2' with
      | [x, y], _ =>
        have e : wOk op [x, y] = decide (x.length = (if op = 1 ∨ op = 3 ∨ op = 4 ∨ op = 5 then 1 else 16) ∧ y.length = (if op = 1 ∨ op = 3 ∨ op = 4 ∨ op = 5 then 1 else 16)) := by
          unfold wOk widthF
          rw [if_neg h3, Bool.eq_iff_iff]; simp
        rw [e]
        simp only [List.map_cons, List.map_nil, List.getD_cons_zero, List.getD_cons_succ]
        generalize (if op = 1 ∨ op = 3 ∨ op = 4 ∨ op = 5 then 1 else 16 : Nat) = W
        by_cases h6 : x.length = W ∧ y.length = W
        · rw [decide_eq_true h6, if_pos rfl, if_neg (fun h => h.elim (fun h => h h6.1) (fun h => h.2 h6.2))]
        · rw [decide_eq_false h6, if_neg (by decide), if_pos (by
            by_cases h7 : x.length = W
            · exact .inr ⟨h5, fun h8 => h6 ⟨h7, h8⟩⟩
            · exact .inl h7)]

def S0 (m : Nat) : St := (0, 0, false) :: List.replicate m (0, 0, true)
theorem S0_len (m : Nat) : (S0 m).length = m + 1 := by simp [S0]
theorem S0_succ (m : Nat) : S0 m ++ [(0, 0, true)] = S0 (m + 1) := by unfold S0; rw [List.replicate_succ', List.cons_append]
theorem S0_wf : ∀ m : Nat, m ≤ 1000 → WF (S0 m)
  | 0, _ => WF.new
  | m + 1, h => by
    rw [← S0_succ]
    exact (S0_wf m (by omega)).input (by rw [S0_len]; omega)
theorem ins_rep : ∀ (k i : Nat), (ins i (List.replicate k ((0 : Int), (0 : Int), true))).length = k
  | 0, _ => rfl
  | k + 1, i => by
    rw [List.replicate_succ]
    show (_ :: ins (i + 1) (List.replicate k ((0 : Int), (0 : Int), true))).length = _
    rw [List.length_cons, ins_rep k]
theorem ins_no : ∀ (R : List Gt) (i : Nat), (∀ g ∈ R, g.2.2 = false) → ins i R = []
  | [], _, _ => rfl
  | g :: R, i, h => by
    have := h g (by simp)
    simp only [ins]
    rw [if_neg (by rw [this]; simp)]
    exact ins_no R _ fun x hx => h x (by simp [hx])
theorem ins_up {m : Nat} {T : St} {k : Nat} (h : Up (S0 m) T k) : (ins 0 T).length = m := by
  obtain ⟨R, rfl, hR⟩ := h.ext
  rw [ins_append, ins_no R _ hR, List.append_nil]
  show (ins 1 (List.replicate m ((0 : Int), (0 : Int), true))).length = m
  exact ins_rep m 1
theorem den_in {m k : Nat} (hm : m ≤ 1000) (hk : k < m) : Den (S0 m) (2 * ((k : Int) + 1)) (fun inp => inp.getD k false) := by
  have hw := S0_wf m hm
  have hl := S0_len m
  have hs : (S0 m)[k + 1]? = some (0, 0, true) := by
    unfold S0
    rw [List.getElem?_cons_succ, List.getElem?_replicate, if_pos hk]
  have hrk : rank (S0 m) (k + 1) = k := by
    unfold rank S0
    rw [List.take_succ_cons]
    show (ins 1 ((List.replicate m ((0 : Int), (0 : Int), true)).take k)).length = _
    rw [List.take_replicate, ins_rep]; omega
  refine ⟨⟨by omega, by omega⟩, fun inp => ?_⟩
  have h := litv_two (vals (S0 m) inp) (k + 1) (vals_inp hw (Nat.succ_pos k) hs inp)
  rw [hrk] at h
  rw [show (2 * ((k : Int) + 1)) = 2 * ((k + 1 : Nat) : Int) by omega]
  exact h
def inL (m : Nat) : List Int := (List.range m).map fun i : Nat => 2 * ((i : Int) + 1)
theorem inL_len (m : Nat) : (inL m).length = m := by simp [inL]
theorem den_ins {m : Nat} (hm : m ≤ 1000) : (∀ l ∈ inL m, has (S0 m) l) ∧ ∀ inp : List Bool, inp.length = m → (inL m).map (litv (vals (S0 m) inp)) = inp := by
  refine ⟨fun l hl => ?_, fun inp hi => ?_⟩
  · obtain ⟨k, hk, rfl⟩ := List.mem_map.1 hl
    exact (den_in hm (List.mem_range.1 hk)).1
  · unfold inL
    rw [List.map_map]
    apply List.ext_getElem
    · simp [hi]
    · intro k h1 h2
      have hk : k < m := by simpa using h1
      rw [List.getElem_map, List.getElem_range]
      show litv (vals (S0 m) inp) (2 * ((k : Int) + 1)) = _
      rw [(den_in hm hk).2 inp]
      show inp.getD k false = _
      rw [List.getD_eq_getElem?_getD, List.getElem?_eq_getElem h2]; rfl
theorem eval_up {m : Nat} {T : St} {k : Nat} (h : Up (S0 m) T k) {inp : List Bool} (hi : inp.length = m) {ls : List Int} {f : List Bool → List Bool} (d : DenL T ls f) : eval1 T inp ls = (f inp, 0) := by
  unfold eval1
  rw [if_neg (by rw [ins_up h]; omega), if_pos (List.all_eq_true.2 fun l hl => hasB_iff.2 (d.1 l hl)), d.2 inp]
end Go.Z.Bit
