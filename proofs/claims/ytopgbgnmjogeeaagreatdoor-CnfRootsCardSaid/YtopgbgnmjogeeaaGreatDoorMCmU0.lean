/- Own texts, put together: U0 U1 U2 U3 U4. Conditions: as told at each. -/
import Derived.Test.YtopgbgnmjogeeaaGreatDoorMCmT0
/- Chapter 37, the document: values, clauses. Conditions: none. -/
namespace Go.Z.Sat
set_option maxRecDepth 8000
set_option linter.unusedVariables false
set_option linter.unusedSimpArgs false
set_option linter.unusedSectionVars false
open Go Go.Z Go.Proofs.YtopgbgnmjogeeaaGreatDoor
def dcode : Option Bool → Int
  | none => 0
  | some true => 1
  | some false => -1
def dcells (n : Nat) (a : As) : List Value := (List.range (n + 1)).map fun i => .int .i64 (dcode (a i))
theorem dcells_at {n : Nat} (a : As) {i : Nat} (h : i ≤ n) : (dcells n a)[i]? = some (.int .i64 (dcode (a i))) := by
  unfold dcells
  rw [List.getElem?_map, List.getElem?_range (by omega)]; rfl
theorem dcells_len (n : Nat) (a : As) : (dcells n a).length = n + 1 := by simp [dcells]
theorem dcells_put {n : Nat} {a : As} {l : Int} (hl : okL n l) : (dcells n a).set l.natAbs (.int .i64 (if 0 < l then 1 else -1)) = dcells n (put a l) := by
  refine List.ext_getElem? fun i => ?_
  rw [List.getElem?_set]
  by_cases h : l.natAbs = i
  · have hi : i ≤ n := by have := hl.2; omega
    rw [if_pos h, dcells_len, if_pos (by omega), dcells_at _ hi]
    unfold put
    rw [if_pos h.symm]
    by_cases h0 : 0 < l
    · rw [if_pos h0, decide_eq_true h0]; rfl
    · rw [if_neg h0, decide_eq_false h0]; rfl
  · rw [if_neg h]
    by_cases hi : i ≤ n
    · rw [dcells_at _ hi, dcells_at _ hi]
      unfold put
      rw [if_neg (fun e => h e.symm)]
    · rw [List.getElem?_eq_none (by rw [dcells_len]; omega), List.getElem?_eq_none (by rw [dcells_len]; omega)]
theorem dcells_none (n : Nat) : dcells n (fun _ => none) = List.replicate (n + 1) (.int .i64 0) := by
  refine List.ext_getElem (by simp [dcells]) fun k h1 h2 => ?_
  simp [dcells, dcode]
def Lk (A : As) (c : Cl) (done : Bool) (k last : Int) : Prop :=
  (done = true ∧ ∃ l ∈ c, lv A l = some true) ∨ (done = false ∧ (∀ l ∈ c, lv A l ≠ some true) ∧ ((k = 0 ∧ ∀ l ∈ c, lv A l = some false) ∨ (k ≠ 0 ∧ last ∈ c ∧ lv A last = none)))
theorem all_take {α : Type} {p : α → Prop} {l : List α} {k : Nat} (hk : k < l.length) (h : ∀ x ∈ l.take k, p x) (h2 : p l[k]) : ∀ x ∈ l.take (k + 1), p x := by
  rw [List.take_add_one, List.getElem?_eq_getElem hk, Option.toList_some]
  intro x hx
  rcases List.mem_append.1 hx with hx | hx
  · exact h x hx
  · rw [List.mem_singleton.1 hx]; exact h2
end Go.Z.Sat
namespace Go.Proofs.YtopgbgnmjogeeaaGreatDoor
set_option maxRecDepth 8000
set_option linter.unusedVariables false
set_option linter.unusedSimpArgs false
set_option linter.unusedSectionVars false
open Go Go.Z Go.Z.Sat

end Go.Proofs.YtopgbgnmjogeeaaGreatDoor
/- Chapter 37, the document: propagation, models. Conditions: none. -/
namespace Go.Proofs.YtopgbgnmjogeeaaGreatDoor
set_option maxRecDepth 8000
set_option linter.unusedVariables false
set_option linter.unusedSimpArgs false
set_option linter.unusedSectionVars false
open Go Go.Z Go.Z.Sat

end Go.Proofs.YtopgbgnmjogeeaaGreatDoor
/- Chapter 37, the document: Solve. Conditions: none. -/
namespace Go.Proofs.YtopgbgnmjogeeaaGreatDoor
set_option maxRecDepth 8000
set_option linter.unusedVariables false
set_option linter.unusedSimpArgs false
set_option linter.unusedSectionVars false
open Go Go.Z Go.Z.Sat

def lvrow (n : Nat) (h : Option Addr × Nat) (p : Nat × As) : List Value := [.int .i64 p.1, .slice h.1 (n + 1) h.2]
def lvcells (n : Nat) (hs : List (Option Addr × Nat)) (S : List (Nat × As)) : List Value := (List.zipWith (lvrow n) hs S).flatten
def lvinn (n : Nat) (hs : List (Option Addr × Nat)) (S : List (Nat × As)) : List Assn := List.zipWith (fun h p => OwnSl 3 1 h.1 (n + 1) h.2 (dcells n p.2)) hs S
theorem lvcells_snoc {n : Nat} {hs : List (Option Addr × Nat)} {S : List (Nat × As)} (hl : hs.length = S.length) (h : Option Addr × Nat) (p : Nat × As) : lvcells n (hs ++ [h]) (S ++ [p]) = lvcells n hs S ++ lvrow n h p := by
  unfold lvcells
  rw [List.zipWith_append hl]; simp
theorem lvinn_snoc {n : Nat} {hs : List (Option Addr × Nat)} {S : List (Nat × As)} (hl : hs.length = S.length) (h : Option Addr × Nat) (p : Nat × As) : lvinn n (hs ++ [h]) (S ++ [p]) = lvinn n hs S ++ [OwnSl 3 1 h.1 (n + 1) h.2 (dcells n p.2)] := by
  unfold lvinn
  rw [List.zipWith_append hl]; simp
theorem lvcells_len {n : Nat} : ∀ {hs : List (Option Addr × Nat)} {S : List (Nat × As)}, hs.length = S.length → (lvcells n hs S).length = S.length * 2
  | [], [], _ => rfl
  | h :: hs, p :: S, e => by
    have := lvcells_len (n := n) (hs := hs) (S := S) (by simpa using e)
    show (lvrow n h p ++ lvcells n hs S).length = _
    rw [List.length_append, this, List.length_cons]
    simp [lvrow]; omega
theorem sub_snoc (X Y : List Value) : sub (X ++ Y) X.length Y.length = some Y := by
  unfold sub
  rw [if_pos (by simp), List.drop_left', List.take_length]; rfl
theorem sub_pre {cur xs vs : List Value} {N o k : Nat} (h : cur.take N = xs) (hs : sub xs o k = some vs) : sub cur o k = some vs := sub_take (N := N) (by rw [h]; exact hs)
end Go.Proofs.YtopgbgnmjogeeaaGreatDoor
namespace Go.Z
set_option maxRecDepth 8000
set_option linter.unusedVariables false
set_option linter.unusedSimpArgs false
set_option linter.unusedSectionVars false
open Go
variable {P : Program} {M : Mx} {n : Nat} {L : Fr} {H H' : List Assn} {T : Act → World → Prop}
theorem g_alsnoc {l : List Assn} {X : Assn} (tk : Take H (Al (l ++ [X])) H') (k : G M n L (X :: Al l :: H') T) : G M n L H T :=
  g_sat (fun h s => by
    obtain ⟨h1, h2, s1, s2, d, e⟩ := tk.sat s
    subst e
    obtain ⟨k1, k2, t1, ⟨x, z, hx, hz, dz, ez⟩, d2, e⟩ := sat_split s1
    subst e
    have hz : z = fun _ => none := hz
    subst hz
    have : k2 = x := by rw [ez]; funext b; simp [join]
    subst this
    obtain ⟨d3, d4⟩ := Disj.join_right.1 d.symm
    exact ⟨k2, join k1 h2, hx, ⟨k1, h2, t1, s2, d3.symm, rfl⟩, Disj.join_right.2 ⟨d2.symm, d4.symm⟩, by rw [← join_assoc, join_comm d2]⟩) k
theorem g_alpush {l : List Assn} {X : Assn} {H1 H2 : List Assn} (t1 : Take H (Al l) H1) (t2 : Take H1 X H2) (k : G M n L (Al (l ++ [X]) :: H2) T) : G M n L H T :=
  g_weak2 t1 t2 (fun h s => by
    obtain ⟨k1, k2, ha, s2, d, rfl⟩ := s
    exact sat_append ha s2 d) k
end Go.Z
namespace Go.Z.Sat
set_option maxRecDepth 8000
set_option linter.unusedVariables false
set_option linter.unusedSimpArgs false
set_option linter.unusedSectionVars false
open Go Go.Z
structure DI (n : Nat) (F : Fm) (bud : Int) (A : As) (S : List (Nat × As)) (k : Int) : Prop where
  ok : okS n S.reverse
  dep : ∀ i (h : i < S.length), i + Sat.cnt n S[i].2 ≤ n
  len : S.length + Sat.cnt n A ≤ n
  kk : 0 ≤ k ∧ k ≤ bud
  res : ∀ r, Sat.Reach F n bud A S.reverse k r → Sat.Reach F n bud (fun _ => none) [] 0 r
theorem DI.nil {n : Nat} {F : Fm} {bud : Int} (h : 0 ≤ bud) : DI n F bud (fun _ => none) [] 0 := ⟨fun p hp => absurd hp (by simp), fun i h => absurd h (Nat.not_lt_zero i), by rw [cnt_none]; simp, ⟨Int.le_refl _, h⟩, fun r h => h⟩
theorem DI.back {n : Nat} {F : Fm} {bud : Int} {A B : As} {S : List (Nat × As)} {k : Int} {v : Nat} (h : DI n F bud A (S ++ [(v, B)]) k) (hp : PR F A none) : DI n F bud (put B (-(v : Int))) S k ∧ meas n (put B (-(v : Int))) S.reverse < meas n A (S ++ [(v, B)]).reverse := by
  have hok := h.ok
  rw [List.reverse_append, List.reverse_singleton, List.singleton_append] at hok
  obtain ⟨⟨h1, h2⟩, h3⟩ := hok (v, B) (by simp)
  dsimp only at h1 h2 h3
  have hc := cnt_put (a := B) (n := n) (l := -(v : Int)) ⟨by omega, by omega, by omega⟩ (by rw [lv_negv, h3]; rfl)
  refine ⟨⟨fun p hp => hok p (by simp at hp ⊢; exact .inr hp), fun i hi => ?_, ?_, h.kk, fun r hr => h.res r ?_⟩, ?_⟩
  · have := h.dep i (by simp; omega)
    rwa [List.getElem_append_left hi] at this
  · have := h.dep S.length (by simp)
    rw [List.getElem_append_right (Nat.le_refl _)] at this
    simp at this
    omega
  · rw [List.reverse_append, List.reverse_singleton, List.singleton_append]
    exact .back hp hr
  · rw [List.reverse_append, List.reverse_singleton, List.singleton_append]
    exact meas_back hok
theorem DI.dec {n : Nat} {F : Fm} {bud : Int} {A b : As} {S : List (Nat × As)} {k : Int} {v : Nat} (h : DI n F bud A S k) (hp : PR F A (some b)) (hs : ¬ satF F b) (hk : k ≠ bud) (hv : Least n b v) : DI n F bud (put b (v : Int)) (S ++ [(v, b)]) (k + 1) ∧ meas n (put b (v : Int)) (S ++ [(v, b)]).reverse < meas n A S.reverse := by
  have hvv := hv
  obtain ⟨⟨h1, h2⟩, h3, _⟩ := hv
  have hc := cnt_put (a := b) (n := n) (l := (v : Int)) ⟨by omega, by omega, by omega⟩ (by rw [lv_pos _ h1]; exact h3)
  have hle := cnt_le hp.1 n
  have hlen := h.len
  have hkk := h.kk
  rw [List.reverse_append, List.reverse_singleton, List.singleton_append]
  refine ⟨⟨?_, fun i hi => ?_, ?_, by omega, fun r hr => h.res r ?_⟩, meas_dec hp.1 hvv⟩
  · rw [List.reverse_append, List.reverse_singleton, List.singleton_append]
    intro p hp
    rcases List.mem_cons.1 hp with rfl | hp
    · exact ⟨⟨h1, h2⟩, h3⟩
    · exact h.ok p hp
  · by_cases e : i < S.length
    · rw [List.getElem_append_left e]; exact h.dep i e
    · have : i = S.length := by simp at hi; omega
      subst this
      rw [List.getElem_append_right (Nat.le_refl _)]
      simp; omega
  · simp; omega
  · rw [List.reverse_append, List.reverse_singleton, List.singleton_append] at hr
    exact .dec hp hs hk hvv hr
end Go.Z.Sat
/- Chapter 37, the document: Solve, the walk. Conditions: none. -/
namespace Go.Proofs.YtopgbgnmjogeeaaGreatDoor
set_option maxRecDepth 8000
set_option linter.unusedVariables false
set_option linter.unusedSimpArgs false
set_option linter.unusedSectionVars false
open Go Go.Z Go.Z.Sat

end Go.Proofs.YtopgbgnmjogeeaaGreatDoor
/- Chapter 37, the document: Unit. Conditions: none. -/
namespace Go.Z.Sat
set_option maxRecDepth 8000
set_option linter.unusedVariables false
set_option linter.unusedSimpArgs false
set_option linter.unusedSectionVars false
open Go Go.Z Go.Proofs.YtopgbgnmjogeeaaGreatDoor
theorem put_same {a : As} {l : Int} (h : lv a l = some true) : put a l = a := by
  funext v
  unfold put
  by_cases e : v = l.natAbs
  · rw [if_pos e, e]
    rw [lv_abs] at h
    split at h
    · rename_i h0; rw [h, decide_eq_true h0]
    · rename_i h0
      cases hv : a l.natAbs with
      | none => rw [hv] at h; cases h
      | some x => rw [hv] at h; cases x <;> simp at h; rw [decide_eq_false h0]
  · rw [if_neg e]
theorem dcode_cases (o : Option Bool) : (o = none ∧ dcode o = 0) ∨ (o = some true ∧ dcode o = 1) ∨ (o = some false ∧ dcode o = -1) := by
  cases o with
  | none => exact .inl ⟨rfl, rfl⟩
  | some x => cases x; exact .inr (.inr ⟨rfl, rfl⟩); exact .inr (.inl ⟨rfl, rfl⟩)
end Go.Z.Sat
namespace Go.Proofs.YtopgbgnmjogeeaaGreatDoor
set_option maxRecDepth 8000
set_option linter.unusedVariables false
set_option linter.unusedSimpArgs false
set_option linter.unusedSectionVars false
open Go Go.Z Go.Z.Sat

end Go.Proofs.YtopgbgnmjogeeaaGreatDoor
