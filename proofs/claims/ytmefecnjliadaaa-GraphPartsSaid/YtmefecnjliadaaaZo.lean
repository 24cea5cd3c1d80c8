/- Own layer: what is written no more becomes read-only; one row of a slice of slices. Conditions: none; generic in the program. -/
import Derived.Test.YtmefecnjliadaaaZl
namespace Go.Z
set_option maxRecDepth 8000
set_option linter.unusedVariables false
set_option linter.unusedSimpArgs false
set_option linter.unusedSectionVars false
open Go
section
variable {P : Program} {M : Mx} {n : Nat} {L : Fr} {H H' : List Assn} {T : Act → World → Prop}
/-- from here on A is only read -/
theorem g_freeze {A : Assn} (tk : Take H A H') (k : ∀ ρ', (∀ b o, M.ρ b o → ρ' b o) → Ro ρ' A → G ⟨ρ', M.w0, M.h0⟩ n L H' T) : G M n L H T := by
  intro a w ha hm
  obtain ⟨hh, s, su, d, r⟩ := hm.own
  obtain ⟨h1, h2, hA, s2, dd, e⟩ := tk.sat s
  subst e
  have hj : ∀ b o, h2 b = some o → join h1 h2 b = some o := fun b o h => by
    rcases dd b with e | e
    · simp [join, e, h]
    · rw [e] at h; cases h
  refine k (fun b o => M.ρ b o ∨ h1 b = some o) (fun b o h => .inl h) ⟨h1, hA, fun b o h => .inr h⟩ a w ha ⟨hm.os, hm.tape, hm.output, hm.size, hm.keep, fun b o h => ?_, h2, s2, fun b o h => su b o (hj b o h), fun b h => d b ?_, fun b o h => ?_⟩
  · rcases h with h | h
    · exact hm.ro b o h
    · exact su b o (by simp [join, h])
  · cases e : h2 b with
    | none => exact absurd e h
    | some o => rw [hj b o e]; simp
  · rcases h with h | h
    · exact (join_none.1 (r b o h)).2
    · rcases dd b with e | e
      · rw [e] at h; cases h
      · exact e
theorem g_thaw {ρ' : Nat → Obj → Prop} (hρ : ∀ b o, M.ρ b o → ρ' b o) (k : G M n L H T) : G ⟨ρ', M.w0, M.h0⟩ n L H T := fun a w ha hm =>
  k a w ha ⟨hm.os, hm.tape, hm.output, hm.size, hm.keep, fun b o h => hm.ro b o (hρ b o h), hm.own.elim fun hh ⟨s, su, d, r⟩ => ⟨hh, s, su, d, fun b o h => r b o (hρ b o h)⟩⟩
/-- what is left of a slice of slices when row j was taken out -/
def RowRK (ei : TypeId) (cur : List Value) (rows : List (List Value)) (j : Nat) : List Assn → Prop := fun H => ∃ hs : List (Option Addr × Nat), hs.length = rows.length ∧ cur.take (rows.length * 1) = hdrs hs rows ∧ H = [Al ((inns ei hs rows).eraseIdx j)]
def RowR (ei : TypeId) (cur : List Value) (rows : List (List Value)) (j : Nat) : Assn := Pk (RowRK ei cur rows j)
theorem own_at1 {cur xs : List Value} {N k i : Nat} {v : Value} (h : cur.take (N * 1) = xs) (hi : i = 0 + k * 1) (hv : xs[k]? = some v) : cur[i]? = some v := by
  subst hi
  rw [← h, List.getElem?_take] at hv
  split at hv
  · simpa using hv
  · cases hv
theorem g_rowO {eo ei : TypeId} {a : Option Addr} {cap : Nat} {rows : List (List Value)} {j : Nat} (tk : Take H (Own2 eo ei a cap rows) H') (hj : j < rows.length)
    (k : ∀ g cur ra rc, a = some ⟨g, 0, none⟩ → rows.length ≤ cap → cap ≤ 9223372036854775807 → cur.length = cap * 1 → cur[0 + j * 1]? = some (.slice ra rows[j].length rc) → G M n L (RowR ei cur rows j :: Blk g (.cells cur.toArray eo (0, 0)) :: OwnSl ei 1 ra rows[j].length rc rows[j] :: H') T) : G M n L H T := by
  refine g_open2 tk fun hs hhs => ?_
  refine g_rowA hhs hj (.there .here) ?_
  refine g_own (.there (.there .here)) (fun _ h _ _ => absurd h (by omega)) fun g cur e1 e2 e3 e4 e5 _ => ?_
  refine g_close (K := RowRK ei cur rows j) ⟨hs, hhs, e5, rfl⟩ (Cover.cons (.there (.there .here)) .nil) ?_
  exact k g cur _ _ e1 e2 e3 e4 (own_at1 e5 rfl (hdrs_at hhs hj))
theorem g_rowC {eo ei : TypeId} {g cap : Nat} {cur : List Value} {rows : List (List Value)} {j : Nat} {a' : Option Addr} {c' : Nat} {r : List Value} {H1 H2 H3 : List Assn} (hj : j < rows.length) (h1 : rows.length ≤ cap) (h2 : cap ≤ 9223372036854775807) (h3 : cur.length = cap * 1)
    (t1 : Take H (RowR ei cur rows j) H1) (t2 : Take H1 (Blk g (.cells (cur.set (0 + j * 1) (.slice a' r.length c')).toArray eo (0, 0))) H2) (t3 : Take H2 (OwnSl ei 1 a' r.length c' r) H3)
    (k : G M n L (Own2 eo ei (some ⟨g, 0, none⟩) cap (rows.set j r) :: H3) T) : G M n L H T := by
  refine g_open t1 ?_
  rintro _ ⟨hs, hhs, hcur, rfl⟩
  refine g_fold (k := (rows.set j r).length) (xs := hdrs (hs.set j (a', c')) (rows.set j r)) (.there t2) (by rw [List.length_set]; exact h1) h2 (by rw [List.length_set]; exact h3) ?_ ?_
  · rw [List.length_set, hdrs_set, List.take_set, hcur, Nat.zero_add, Nat.mul_one]; rfl
  · refine g_unrowA hhs hj (.there (.there t3)) (.there .here) ?_
    exact g_close2 (by rw [List.length_set, List.length_set]; exact hhs) (.there .here) .here k
theorem set_same {cur : List Value} {i : Nat} {v : Value} (h : cur[i]? = some v) : cur.set i v = cur := by
  refine List.ext_getElem? fun k => ?_
  rw [List.getElem?_set]
  split
  · rename_i e; subst e
    rw [h, if_pos (List.getElem?_eq_some_iff.1 h).1]
  · rfl
/-- as g_rowC, where the row's cell stayed as it was -/
theorem g_rowC0 {eo ei : TypeId} {g cap : Nat} {cur : List Value} {rows : List (List Value)} {j : Nat} {a' : Option Addr} {c' : Nat} {r : List Value} {H1 H2 H3 : List Assn} (hj : j < rows.length) (h1 : rows.length ≤ cap) (h2 : cap ≤ 9223372036854775807) (h3 : cur.length = cap * 1) (h4 : cur[0 + j * 1]? = some (.slice a' r.length c'))
    (t1 : Take H (RowR ei cur rows j) H1) (t2 : Take H1 (Blk g (.cells cur.toArray eo (0, 0))) H2) (t3 : Take H2 (OwnSl ei 1 a' r.length c' r) H3)
    (k : G M n L (Own2 eo ei (some ⟨g, 0, none⟩) cap (rows.set j r) :: H3) T) : G M n L H T :=
  g_rowC hj h1 h2 h3 t1 (by rw [set_same h4]; exact t2) t3 k
/-- one more row -/
theorem g_push2 {eo ei : TypeId} {a b : Option Addr} {c cr : Nat} {hs : List (Option Addr × Nat)} {rows : List (List Value)} {r : List Value} {H1 H2 H3 : List Assn} (h : hs.length = rows.length)
    (t1 : Take H (OwnSl eo 1 a (rows.length + 1) c (hdrs hs rows ++ [.slice b r.length cr])) H1) (t2 : Take H1 (Al (inns ei hs rows)) H2) (t3 : Take H2 (OwnSl ei 1 b r.length cr r) H3)
    (k : G M n L (Own2 eo ei a c (rows ++ [r]) :: H3) T) : G M n L H T := by
  have e1 : hdrs (hs ++ [(b, cr)]) (rows ++ [r]) = hdrs hs rows ++ [.slice b r.length cr] := by unfold hdrs; rw [List.zipWith_append h]; rfl
  have e2 : inns ei (hs ++ [(b, cr)]) (rows ++ [r]) = inns ei hs rows ++ [OwnSl ei 1 b r.length cr r] := by unfold inns; rw [List.zipWith_append h]; rfl
  refine g_weak t1 (fun _ h => h) ?_
  refine g_alpush (.there t2) (.there t3) ?_
  rw [← e1, ← e2, show rows.length + 1 = (rows ++ [r]).length by rw [List.length_append]; rfl]
  exact g_close2 (by rw [List.length_append, List.length_append, h]; rfl) (.there .here) .here k
end
end Go.Z
