/- Chapter 4, plain: what is reached. No program in sight. Conditions: none. -/
import Derived.Test.YtmefecnjliadaaaNa
namespace Go.Z.Gr
set_option maxRecDepth 8000
set_option linter.unusedVariables false
set_option linter.unusedSimpArgs false
set_option linter.unusedSectionVars false
/-- w is reached from s -/
inductive Rc (E : Ed) (s : Int) : Int → Prop
  | refl : Rc E s s
  | step {u w : Int} : Rc E s u → (u, w) ∈ E → Rc E s w
theorem Rc.trans {E : Ed} {a b c : Int} (h1 : Rc E a b) (h2 : Rc E b c) : Rc E a c := by
  induction h2 with
  | refl => exact h1
  | step _ e ih => exact .step ih e
theorem Rc.mono {E E' : Ed} (h : ∀ e, e ∈ E → e ∈ E') {a b : Int} (h1 : Rc E a b) : Rc E' a b := by
  induction h1 with
  | refl => exact .refl
  | step _ e ih => exact .step ih (h _ e)
theorem Rc.closed {E : Ed} {s : Int} {p : Int → Prop} (h0 : p s) (hs : ∀ u w, p u → (u, w) ∈ E → p w) {v : Int} (h : Rc E s v) : p v := by
  induction h with
  | refl => exact h0
  | step _ e ih => exact hs _ _ ih e
theorem Rc.range {E : Ed} {n : Nat} (ho : ∀ e ∈ E, (0 ≤ e.1 ∧ e.1 < n) ∧ 0 ≤ e.2 ∧ e.2 < n) {s : Int} (hs : 0 ≤ s ∧ s < n) {v : Int} (h : Rc E s v) : 0 ≤ v ∧ v < n := Rc.closed (p := fun v => 0 ≤ v ∧ v < (n : Int)) hs (fun _ _ _ e => (ho _ e).2) h
def getB (l : List Bool) (u : Int) : Bool := l.getD u.toNat false
theorem getB_nat {d : List Bool} {u : Nat} (h : u < d.length) : getB d (u : Int) = d[u] := by
  unfold getB
  rw [Int.toNat_natCast, List.getD_eq_getElem?_getD, List.getElem?_eq_getElem h]; rfl
theorem getB_set {d : List Bool} {a : Int} (ha : 0 ≤ a ∧ a < d.length) (x : Bool) {u : Int} (hu : 0 ≤ u ∧ u < d.length) : getB (d.set a.toNat x) u = if u = a then x else getB d u := by
  obtain ⟨m, rfl⟩ : ∃ m : Nat, u = m := ⟨u.toNat, by omega⟩
  rw [getB_nat (by rw [List.length_set]; omega), List.getElem_set]
  by_cases e : a.toNat = m
  · rw [if_pos e, if_pos (by omega)]
  · rw [if_neg e, if_neg (by omega), getB_nat (by omega)]
def RchOk (E : Ed) (n : Nat) (s : Int) (l : List Bool) : Prop := l.length = n ∧ ∀ u : Int, 0 ≤ u → u < n → (getB l u = true ↔ Rc E s u)
theorem RchOk.unique {E : Ed} {n : Nat} {s : Int} {l l' : List Bool} (h : RchOk E n s l) (h' : RchOk E n s l') : l = l' := by
  refine List.ext_getElem (by rw [h.1, h'.1]) fun i h1 h2 => ?_
  have a := h.2 i (by omega) (by have := h.1; omega)
  have b := h'.2 i (by omega) (by have := h.1; omega)
  rw [getB_nat h1] at a
  rw [getB_nat h2] at b
  rw [Bool.eq_iff_iff, a, b]
/-- the state of a search: what was seen, what is still to be worked off -/
structure WI (E : Ed) (n : Nat) (s : Int) (seen : List Bool) (todo : List Int) : Prop where
  len : seen.length = n
  sin : 0 ≤ s ∧ s < n
  edg : ∀ e ∈ E, (0 ≤ e.1 ∧ e.1 < n) ∧ 0 ≤ e.2 ∧ e.2 < n
  fst : getB seen s = true
  real : ∀ u : Int, 0 ≤ u → u < n → getB seen u = true → Rc E s u
  tin : ∀ u ∈ todo, (0 ≤ u ∧ u < n) ∧ getB seen u = true
  nd : todo.Nodup
  done : ∀ u : Int, 0 ≤ u → u < n → getB seen u = true → u ∉ todo → ∀ w, (u, w) ∈ E → getB seen w = true
theorem WI.start {E : Ed} {n : Nat} {s : Int} (hs : 0 ≤ s ∧ s < n) (he : ∀ e ∈ E, (0 ≤ e.1 ∧ e.1 < n) ∧ 0 ≤ e.2 ∧ e.2 < n) : WI E n s ((List.replicate n false).set s.toNat true) [s] := by
  have hl : ((List.replicate n false).set s.toNat true).length = n := by simp
  have hg : ∀ u : Int, 0 ≤ u → u < n → getB ((List.replicate n false).set s.toNat true) u = decide (u = s) := fun u h1 h2 => by
    rw [getB_set (by simp; omega) _ (by simp; omega)]
    by_cases e : u = s
    · rw [if_pos e, decide_eq_true e]
    · rw [if_neg e, decide_eq_false e]
      obtain ⟨m, rfl⟩ : ∃ m : Nat, u = m := ⟨u.toNat, by omega⟩
      rw [getB_nat (by simp; omega)]; simp
  refine ⟨hl, hs, he, by rw [hg s hs.1 hs.2]; simp, fun u h1 h2 h3 => ?_, fun u hu => ?_, List.pairwise_singleton .., fun u h1 h2 h3 h4 => ?_⟩
  · rw [hg u h1 h2, decide_eq_true_iff] at h3
    rw [h3]; exact .refl
  · rw [List.mem_singleton.1 hu]
    exact ⟨hs, by rw [hg s hs.1 hs.2]; simp⟩
  · rw [hg u h1 h2, decide_eq_true_iff] at h3
    exact absurd (List.mem_singleton.2 h3) h4
theorem WI.finish {E : Ed} {n : Nat} {s : Int} {seen : List Bool} (h : WI E n s seen []) : RchOk E n s seen := by
  refine ⟨h.len, fun u h1 h2 => ⟨h.real u h1 h2, fun hr => ?_⟩⟩
  have : (0 ≤ u ∧ u < n) ∧ getB seen u = true := Rc.closed (p := fun u => (0 ≤ u ∧ u < n) ∧ getB seen u = true) ⟨h.sin, h.fst⟩ (fun a b ⟨hab, hc⟩ e => ⟨(h.edg _ e).2, h.done a hab.1 hab.2 hc List.not_mem_nil b e⟩) hr
  exact this.2
/-- while v is worked off: l are the successors that were looked at -/
structure WM (E : Ed) (n : Nat) (s v : Int) (l : List Int) (seen : List Bool) (todo : List Int) : Prop where
  len : seen.length = n
  sin : 0 ≤ s ∧ s < n
  edg : ∀ e ∈ E, (0 ≤ e.1 ∧ e.1 < n) ∧ 0 ≤ e.2 ∧ e.2 < n
  fst : getB seen s = true
  real : ∀ u : Int, 0 ≤ u → u < n → getB seen u = true → Rc E s u
  vin : (0 ≤ v ∧ v < n) ∧ getB seen v = true ∧ v ∉ todo
  tin : ∀ u ∈ todo, (0 ≤ u ∧ u < n) ∧ getB seen u = true
  nd : todo.Nodup
  done : ∀ u : Int, 0 ≤ u → u < n → getB seen u = true → u ∉ todo → u ≠ v → ∀ w, (u, w) ∈ E → getB seen w = true
  part : ∀ w ∈ l, getB seen w = true
theorem WI.pop {E : Ed} {n : Nat} {s v : Int} {seen : List Bool} {todo r : List Int} (h : WI E n s seen todo) (hp : todo.Perm (v :: r)) : WM E n s v [] seen r := by
  have hn := hp.nodup_iff.1 h.nd
  rw [List.nodup_cons] at hn
  refine ⟨h.len, h.sin, h.edg, h.fst, h.real, ⟨(h.tin v (hp.mem_iff.2 List.mem_cons_self)).1, (h.tin v (hp.mem_iff.2 List.mem_cons_self)).2, hn.1⟩, fun u hu => h.tin u (hp.mem_iff.2 (List.mem_cons_of_mem _ hu)), hn.2, fun u h1 h2 h3 h4 h5 => h.done u h1 h2 h3 fun hm => ?_, fun w hw => absurd hw List.not_mem_nil⟩
  rcases List.mem_cons.1 (hp.mem_iff.1 hm) with e | e
  · exact h5 e
  · exact h4 e
theorem WM.skip {E : Ed} {n : Nat} {s v : Int} {l : List Int} {seen : List Bool} {todo : List Int} (h : WM E n s v l seen todo) {w : Int} (hw : getB seen w = true) : WM E n s v (l ++ [w]) seen todo :=
  ⟨h.len, h.sin, h.edg, h.fst, h.real, h.vin, h.tin, h.nd, h.done, fun x hx => by
    rcases List.mem_append.1 hx with e | e
    · exact h.part x e
    · rw [List.mem_singleton.1 e]; exact hw⟩
theorem WM.add {E : Ed} {n : Nat} {s v : Int} {l : List Int} {seen : List Bool} {todo : List Int} (h : WM E n s v l seen todo) {w : Int} (hw : getB seen w = false) (he : (v, w) ∈ E) : WM E n s v (l ++ [w]) (seen.set w.toNat true) (todo ++ [w]) := by
  obtain ⟨-, w1, w2⟩ := h.edg _ he
  dsimp only at w1 w2
  have hl := h.len
  have hg : ∀ u : Int, 0 ≤ u → u < n → getB (seen.set w.toNat true) u = if u = w then true else getB seen u := fun u h1 h2 => getB_set ⟨w1, by omega⟩ _ ⟨h1, by omega⟩
  have hmono : ∀ u : Int, getB seen u = true → getB (seen.set w.toNat true) u = true := fun u hu => by
    unfold getB at hu ⊢
    rw [List.getD_eq_getElem?_getD, List.getElem?_set]
    rw [List.getD_eq_getElem?_getD] at hu
    split
    · split
      · rfl
      · rename_i e1 e2
        rw [List.getElem?_eq_none (by omega)] at hu; cases hu
    · exact hu
  have hwv : v ≠ w := fun e => by rw [← e, h.vin.2.1] at hw; cases hw
  have hwt : w ∉ todo := fun hm => by have := (h.tin w hm).2; rw [hw] at this; cases this
  refine ⟨by rw [List.length_set, hl], h.sin, h.edg, hmono _ h.fst, fun u h1 h2 h3 => ?_, ⟨h.vin.1, hmono _ h.vin.2.1, ?_⟩, fun u hu => ?_, ?_, fun u h1 h2 h3 h4 h5 x hx => ?_, fun x hx => ?_⟩
  · rw [hg u h1 h2] at h3
    by_cases e : u = w
    · rw [e]; exact .step (h.real v h.vin.1.1 h.vin.1.2 h.vin.2.1) he
    · rw [if_neg e] at h3; exact h.real u h1 h2 h3
  · rw [List.mem_append, List.mem_singleton, not_or]
    exact ⟨h.vin.2.2, hwv⟩
  · rcases List.mem_append.1 hu with e | e
    · exact ⟨(h.tin u e).1, hmono _ (h.tin u e).2⟩
    · rw [List.mem_singleton.1 e]
      exact ⟨⟨w1, w2⟩, by rw [hg w w1 w2, if_pos rfl]⟩
  · refine List.nodup_append.2 ⟨h.nd, List.pairwise_singleton .., fun a ha b hb e => ?_⟩
    rw [List.mem_singleton.1 hb] at e
    rw [e] at ha; exact hwt ha
  · rw [List.mem_append, List.mem_singleton, not_or] at h4
    rw [hg u h1 h2, if_neg h4.2] at h3
    exact hmono _ (h.done u h1 h2 h3 h4.1 h5 x hx)
  · rcases List.mem_append.1 hx with e | e
    · exact hmono _ (h.part x e)
    · rw [List.mem_singleton.1 e, hg w w1 w2, if_pos rfl]
theorem WM.over {E : Ed} {n : Nat} {s v : Int} {l : List Int} {seen : List Bool} {todo : List Int} (h : WM E n s v l seen todo) (hl : ∀ w, (v, w) ∈ E → w ∈ l) : WI E n s seen todo :=
  ⟨h.len, h.sin, h.edg, h.fst, h.real, h.tin, h.nd, fun u h1 h2 h3 h4 w hw => by
    by_cases e : u = v
    · subst e; exact h.part w (hl w hw)
    · exact h.done u h1 h2 h3 h4 e w hw⟩
/-- what was visited -/
def OutI (n : Nat) (out seen : List Bool) (todo : List Int) : Prop := out.length = n ∧ ∀ u : Int, 0 ≤ u → u < n → (getB out u = true ↔ getB seen u = true ∧ u ∉ todo)
theorem OutI.start {n : Nat} {s : Int} (hs : 0 ≤ s ∧ s < n) : OutI n (List.replicate n false) ((List.replicate n false).set s.toNat true) [s] := by
  refine ⟨by simp, fun u h1 h2 => ?_⟩
  obtain ⟨m, rfl⟩ : ∃ m : Nat, u = m := ⟨u.toNat, by omega⟩
  have e : getB (List.replicate n false) (m : Int) = false := by rw [getB_nat (by simp; omega)]; simp
  rw [getB_set (by simp; omega) _ (by simp; omega), e]
  by_cases h : (m : Int) = s
  · simp [h]
  · rw [if_neg h]; simp
theorem OutI.pop {n : Nat} {out seen : List Bool} {todo r : List Int} {v : Int} (h : OutI n out seen todo) (hp : todo.Perm (v :: r)) (hn : todo.Nodup) (hv : 0 ≤ v ∧ v < n) (hs : getB seen v = true) : OutI n (out.set v.toNat true) seen r := by
  have hn' := hp.nodup_iff.1 hn
  rw [List.nodup_cons] at hn'
  refine ⟨by rw [List.length_set]; exact h.1, fun u h1 h2 => ?_⟩
  rw [getB_set ⟨hv.1, by rw [h.1]; exact hv.2⟩ _ ⟨h1, by rw [h.1]; exact h2⟩]
  by_cases e : u = v
  · rw [if_pos e, e]; exact ⟨fun _ => ⟨hs, hn'.1⟩, fun _ => rfl⟩
  · rw [if_neg e, h.2 u h1 h2, hp.mem_iff, List.mem_cons, not_or]
    exact ⟨fun h => ⟨h.1, h.2.2⟩, fun h => ⟨h.1, e, h.2⟩⟩
theorem OutI.add {n : Nat} {out seen : List Bool} {todo : List Int} {w : Int} (h : OutI n out seen todo) (hl : seen.length = n) (hw : 0 ≤ w ∧ w < n) (hs : getB seen w = false) : OutI n out (seen.set w.toNat true) (todo ++ [w]) := by
  refine ⟨h.1, fun u h1 h2 => ?_⟩
  rw [h.2 u h1 h2, getB_set ⟨hw.1, by rw [hl]; exact hw.2⟩ _ ⟨h1, by rw [hl]; exact h2⟩, List.mem_append, List.mem_singleton, not_or]
  by_cases e : u = w
  · rw [if_pos e, e, hs]; simp
  · rw [if_neg e]; exact ⟨fun h => ⟨h.1, h.2, e⟩, fun h => ⟨h.1, h.2.1⟩⟩
theorem OutI.finish {E : Ed} {n : Nat} {s : Int} {out seen : List Bool} (h : OutI n out seen []) (hw : WI E n s seen []) : RchOk E n s out :=
  ⟨h.1, fun u h1 h2 => by
    rw [h.2 u h1 h2, ← hw.finish.2 u h1 h2]
    exact ⟨fun h => h.1, fun h => ⟨h, List.not_mem_nil⟩⟩⟩
/-- what becomes less -/
def leftW (seen : List Bool) (todo : List Int) : Nat := 2 * seen.countP (fun x => !x) + todo.length
theorem leftW_add {seen : List Bool} {todo : List Int} {w : Int} (h1 : 0 ≤ w ∧ w < seen.length) (hw : getB seen w = false) : leftW (seen.set w.toNat true) (todo ++ [w]) + 1 = leftW seen todo := by
  have hm : w.toNat < seen.length := by omega
  have hg : getB seen w = seen[w.toNat] := by
    have := getB_nat hm
    rwa [show ((w.toNat : Nat) : Int) = w by omega] at this
  rw [hg] at hw
  have hc : (seen.set w.toNat true).countP (fun x => !x) + 1 = seen.countP (fun x => !x) := by
    rw [List.countP_set hm]
    have hp : 0 < seen.countP (fun x => !x) := List.countP_pos_iff.2 ⟨_, List.getElem_mem hm, by rw [hw]; rfl⟩
    rw [hw]
    simp; omega
  unfold leftW
  rw [List.length_append, List.length_singleton]
  omega
theorem leftW_start (n : Nat) (s : Int) : leftW ((List.replicate n false).set s.toNat true) [s] ≤ 2 * n + 1 := by
  have := List.countP_le_length (p := fun x : Bool => !x) (l := (List.replicate n false).set s.toNat true)
  rw [List.length_set, List.length_replicate] at this
  unfold leftW
  rw [List.length_singleton]
  omega
end Go.Z.Gr
