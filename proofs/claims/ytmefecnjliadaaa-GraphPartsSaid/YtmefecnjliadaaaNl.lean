/- Chapter 4, plain: Tarjan's search: sizes, and what becomes less. No program in sight. Conditions: none. -/
import Derived.Test.YtmefecnjliadaaaNi
import Derived.Test.YtmefecnjliadaaaNa
namespace Go.Z.Gra
set_option maxRecDepth 8000
set_option linter.unusedVariables false
set_option linter.unusedSimpArgs false
set_option linter.unusedSectionVars false
open Go Go.Z Go.Z.Gr
def nbN (E : Ed) (v : Nat) : List Nat := (nbP E v).map Int.toNat
theorem nbN_len (E : Ed) (v : Nat) : (nbN E v).length = (nbP E v).length := by simp [nbN]
theorem nbN_at {E : Ed} {v i : Nat} (h : i < (nbP E v).length) : (nbN E v)[i]'(by rw [nbN_len]; exact h) = ((nbP E v)[i]).toNat := by simp [nbN]
def unv (n : Nat) (ix : Nat → Nat) : Nat := (List.range n).countP fun x => decide (ix x = 0)
theorem unv_le (n : Nat) (ix : Nat → Nat) : unv n ix ≤ n := by
  have := List.countP_le_length (p := fun x => decide (ix x = 0)) (l := List.range n)
  rw [List.length_range] at this
  exact this
theorem unv_upd {n : Nat} {ix : Nat → Nat} {w c : Nat} (hw : w < n) (h0 : ix w = 0) (hc : c ≠ 0) : unv n ix = unv n (Gra.upd ix w c) + 1 := by
  have hsplit : ∀ l : List Nat, l.Nodup → (l.countP fun x => decide (ix x = 0)) = (l.countP fun x => decide (Gra.upd ix w c x = 0)) + if w ∈ l then 1 else 0 := by
    intro l
    induction l with
    | nil => intro _; simp
    | cons a l ih =>
      intro hn
      rw [List.nodup_cons] at hn
      rw [List.countP_cons, List.countP_cons, ih hn.2]
      by_cases hav : a = w
      · subst hav
        rw [Gra.upd_same, decide_eq_true h0, decide_eq_false hc, if_neg hn.1]
        simp
      · rw [Gra.upd_ne _ _ hav]
        have e3 : (w ∈ a :: l) ↔ w ∈ l := by
          rw [List.mem_cons]
          exact ⟨fun h => h.resolve_left (fun e => hav e.symm), .inr⟩
        simp only [e3]
        omega
  unfold unv
  rw [hsplit _ List.nodup_range, if_pos (List.mem_range.2 hw)]
def remF (N : Nat → List Nat) (G : List Fr4) : Nat := (G.map fun g => (N g.1).length - g.2.1 + 1).sum
theorem remF_snoc (N : Nat → List Nat) (G : List Fr4) (g : Fr4) : remF N (G ++ [g]) = remF N G + ((N g.1).length - g.2.1 + 1) := by simp [remF]
def XI (n : Nat) (t : Tj) : Prop := t.ct + unv n t.ix = n ∧ t.pa + t.st.length ≤ t.ct
theorem XI.enter {n : Nat} {t : Tj} {w : Nat} (h : XI n t) (hw : w < n) (h0 : t.ix w = 0) : XI n (t.enter w) := by
  obtain ⟨h1, h2⟩ := h
  have hu := unv_upd (c := t.ct + 1) hw h0 (by omega)
  refine ⟨?_, ?_⟩
  · show t.ct + 1 + unv n (Gra.upd t.ix w (t.ct + 1)) = n
    omega
  · show t.pa + (t.st ++ [w]).length ≤ t.ct + 1
    rw [List.length_append, List.length_singleton]; omega
def msr (n D : Nat) (N : Nat → List Nat) (t : Tj) (G : List Fr4) : Nat := unv n t.ix * (D + 2) + remF N G
theorem msr_new {n D : Nat} {N : Nat → List Nat} {t : Tj} {G : List Fr4} {v i w : Nat} {r : List Nat} (hw : w < n) (h0 : t.ix w = 0) (hD : (N w).length ≤ D) (hi : i < (N v).length) :
    msr n D N (t.enter w) (G ++ [(v, i + 1, r), (w, 0, [])]) < msr n D N t (G ++ [(v, i, r)]) := by
  have hu := unv_upd (ix := t.ix) (c := t.ct + 1) hw h0 (by omega)
  unfold msr
  rw [show G ++ [(v, i + 1, r), (w, 0, [])] = (G ++ [(v, i + 1, r)]) ++ [(w, 0, [])] by simp, remF_snoc, remF_snoc, remF_snoc, hu, Nat.add_mul]
  show unv n (Gra.upd t.ix w (t.ct + 1)) * (D + 2) + _ < _
  dsimp only
  omega
theorem msr_edge {n D : Nat} {N : Nat → List Nat} {t : Tj} {lo : Nat → Nat} {G : List Fr4} {v i : Nat} {r : List Nat} (hi : i < (N v).length) :
    msr n D N { t with lo := lo } (G ++ [(v, i + 1, r)]) < msr n D N t (G ++ [(v, i, r)]) := by
  unfold msr
  rw [remF_snoc, remF_snoc]
  dsimp only
  omega
theorem nodup_len {n : Nat} {l : List Nat} (hn : l.Nodup) (h : ∀ x ∈ l, x < n) : l.length ≤ n := by
  have := List.Nodup.length_le_of_subset hn (l₂ := List.range n) fun x hx => List.mem_range.2 (h x hx)
  simpa using this
theorem TI.len {n : Nat} {N : Nat → List Nat} {t : Tj} {G : List Fr4} (h : TI n N t G) : t.st.length ≤ n := nodup_len h.nd fun x hx => h.lt x (Nat.ne_of_gt (h.pos x hx))
theorem fr_len (G : List Fr4) : G.length ≤ (G.flatMap segF).length := by
  induction G with
  | nil => exact Nat.zero_le _
  | cons g G ih => rw [List.flatMap_cons, List.length_append, List.length_cons, show (segF g).length = g.2.2.length + 1 from rfl]; omega
theorem TI.frs {n : Nat} {N : Nat → List Nat} {t : Tj} {G : List Fr4} (h : TI n N t G) : G.length ≤ n := by
  have := h.len
  rw [h.st] at this
  exact Nat.le_trans (fr_len G) this
end Go.Z.Gra
