/- Chapter 4, plain: Tarjan's search: a vertex is left. No program in sight. Conditions: none. -/
import Derived.Test.YtmefecnjliadaaaN0
namespace Go.Z.Gra
set_option maxRecDepth 8000
set_option linter.unusedVariables false
set_option linter.unusedSimpArgs false
set_option linter.unusedSectionVars false
open Go Go.Z
/-- a vertex is left that is not the first of its class -/
theorem TI.up {n : Nat} {N : Nat → List Nat} {t : Tj} {G : List Fr4} {p ip v : Nat} {rp r : List Nat} (h : TI n N t (G ++ [(p, ip, rp), (v, (N v).length, r)])) (hlo : t.lo v ≠ t.ix v) :
    TI n N { t with lo := upd t.lo p (min (t.lo p) (t.lo v)) } (G ++ [(p, ip, rp ++ v :: r)]) := by
  have hG : G ++ [(p, ip, rp), (v, (N v).length, r)] = (G ++ [(p, ip, rp)]) ++ [(v, (N v).length, r)] := by simp
  have h' := h
  rw [hG] at h'
  have T := h'.top
  have hfp := h.fr (p, ip, rp) (by simp)
  have hfv := h.fr (v, (N v).length, r) (by simp)
  obtain ⟨hpv, hch⟩ := chain_last h.ch
  have hst : t.st = G.flatMap segF ++ (p :: rp) ++ (v :: r) := by rw [T.st, flat_snoc]; rfl
  have hnd := h.nd
  rw [hst, List.append_assoc] at hnd
  obtain ⟨n1, n2, n3⟩ := List.nodup_append.1 hnd
  have n4 := List.nodup_cons.1 (show (p :: (rp ++ (v :: r))).Nodup from n2)
  have hpr : ∀ w, w ∈ rp ++ v :: r → w ≠ p := fun w hw e => n4.1 (by rw [← e]; exact hw)
  have hlt : t.lo v < t.ix v := by have := hfv.le; dsimp only at this; omega
  have ep : upd t.lo p (min (t.lo p) (t.lo v)) p = min (t.lo p) (t.lo v) := upd_same _ _ _
  have eo : ∀ {w}, w ≠ p → upd t.lo p (min (t.lo p) (t.lo v)) w = t.lo w := fun hw => upd_ne _ _ hw
  have m1 := Nat.min_le_left (t.lo p) (t.lo v)
  have m2 := Nat.min_le_right (t.lo p) (t.lo v)
  refine ⟨by rw [show t.st = _ from hst, flat_snoc, List.append_assoc]; rfl, h.nd, h.on, h.pos, h.cnt, h.inc, h.lt, fun g hg => ?_, chain_swap (g := (p, ip, rp)) rfl hch, h.cl, h.num, h.cls⟩
  rcases List.mem_append.1 hg with hg | hg
  · refine (h.fr g (List.mem_append_left _ hg)).lo_ne fun hp => ?_
    exact n3 p (mem_seg hg hp) p List.mem_cons_self rfl
  · rw [List.mem_singleton.1 hg]
    refine ⟨hfp.deg, fun w hw => ?_, fun w hw => ?_, ?_, ?_, fun w hw => ?_, fun w hw x hx => ?_, fun x hx => ?_⟩
    · rcases List.mem_cons.1 (show w ∈ p :: (rp ++ v :: r) from hw) with e | e
      · rw [e]; exact .refl _
      · rcases List.mem_append.1 e with e | e
        · exact hfp.rch w (List.mem_cons_of_mem _ e)
        · exact hpv.trans (hfv.rch w e)
    · show upd t.lo p _ p ≤ upd t.lo p _ w
      rw [ep]
      rcases List.mem_cons.1 (show w ∈ p :: (rp ++ v :: r) from hw) with e | e
      · rw [e, ep]; exact Nat.le_refl _
      · rw [eo (hpr w e)]
        rcases List.mem_append.1 e with e | e
        · exact Nat.le_trans m1 (hfp.low w (List.mem_cons_of_mem _ e))
        · exact Nat.le_trans m2 (hfv.low w e)
    · show upd t.lo p _ p ≤ t.ix p
      rw [ep]; exact Nat.le_trans m1 hfp.le
    · show ∃ x ∈ t.st, t.ix x = upd t.lo p _ p ∧ _
      rw [ep]
      rcases Nat.le_total (t.lo p) (t.lo v) with hc | hc
      · rw [Nat.min_eq_left hc]; exact hfp.wit
      · rw [Nat.min_eq_right hc]
        obtain ⟨x, h1, h2, h3⟩ := hfv.wit
        exact ⟨x, h1, h2, hpv.trans h3⟩
    · show upd t.lo p _ w < t.ix w ∧ ∃ x ∈ t.st, t.ix x = upd t.lo p _ w ∧ _
      have hw' : w ∈ rp ++ v :: r := hw
      rw [eo (hpr w hw')]
      rcases List.mem_append.1 hw' with e | e
      · exact hfp.fin w e
      · rcases List.mem_cons.1 e with e | e
        · rw [e]; exact ⟨hlt, hfv.wit⟩
        · exact hfv.fin w e
    · show _ ∧ (_ → upd t.lo p _ p ≤ _)
      rw [ep]
      have hw' : w ∈ rp ++ v :: r := hw
      rcases List.mem_append.1 hw' with e | e
      · have := hfp.out w e x hx
        exact ⟨this.1, fun hs => Nat.le_trans m1 (this.2 hs)⟩
      · rcases List.mem_cons.1 e with e | e
        · rw [e] at hx
          have := hfv.own x (by rw [List.take_of_length_le (Nat.le_refl _)]; exact hx)
          exact ⟨this.1, fun hs => Nat.le_trans m2 (this.2 hs)⟩
        · have := hfv.out w e x hx
          exact ⟨this.1, fun hs => Nat.le_trans m2 (this.2 hs)⟩
    · show _ ∧ (_ → upd t.lo p _ p ≤ _)
      rw [ep]
      have := hfp.own x hx
      exact ⟨this.1, fun hs => Nat.le_trans m1 (this.2 hs)⟩
/-- a vertex that is not the first of its class has one below it -/
theorem TI.below {n : Nat} {N : Nat → List Nat} {t : Tj} {v i : Nat} {r : List Nat} (h : TI n N t [(v, i, r)]) : t.lo v = t.ix v := by
  have T := TI.top (G := []) h
  have hf := h.fr (v, i, r) (by simp)
  obtain ⟨x, h1, h2, h3⟩ := hf.wit
  have hx : x ∈ segF (v, i, r) := by rw [T.st] at h1; simpa using h1
  have := T.ge x hx
  have := hf.le
  dsimp only at *
  omega
/-- the state behind a closed class -/
def Tj.close (t : Tj) (st : List Nat) (seg : List Nat) : Tj := { t with st := st, on := updL t.on seg false, nu := updL t.nu seg t.pa, pa := t.pa + 1 }
theorem TI.close {n : Nat} {N : Nat → List Nat} {t : Tj} {G : List Fr4} {v : Nat} {r : List Nat} (h : TI n N t (G ++ [(v, (N v).length, r)])) (hlo : t.lo v = t.ix v) :
    TI n N (t.close (G.flatMap segF) (v :: r)) G := by
  have T := h.top
  have hf := h.fr (v, (N v).length, r) (by simp)
  have hst : t.st = G.flatMap segF ++ (v :: r) := T.st
  have hmem : ∀ x, x ∈ t.st ↔ x ∈ G.flatMap segF ∨ x ∈ v :: r := fun x => by rw [hst, List.mem_append]
  have hin : ∀ x, x ∈ v :: r → updL t.on (v :: r) false x = false ∧ updL t.nu (v :: r) t.pa x = t.pa := fun x hx => ⟨if_pos hx, if_pos hx⟩
  have hout : ∀ x, x ∉ v :: r → updL t.on (v :: r) false x = t.on x ∧ updL t.nu (v :: r) t.pa x = t.nu x := fun x hx => ⟨if_neg hx, if_neg hx⟩
  have hnd := h.nd
  rw [hst] at hnd
  have hinc := h.inc
  rw [hst] at hinc
  obtain ⟨i1, -, -⟩ := List.pairwise_append.1 hinc
  have hold : ∀ x, x ∈ t.st → t.ix x < t.ix v → x ∈ G.flatMap segF := fun x hx hlt => by
    rcases (hmem x).1 hx with e | e
    · exact e
    · have := T.ge x e; dsimp only at this; omega
  have hblw : ∀ x ∈ G.flatMap segF, t.ix x < t.ix v := fun x hx => T.below x hx v List.mem_cons_self
  -- every vertex of the class reaches its first one
  have hback : ∀ k w, w ∈ v :: r → t.ix w ≤ k → Rch N w v := by
    intro k
    induction k with
    | zero => intro w hw hk; have := h.pos w ((hmem w).2 (.inr hw)); omega
    | succ k ih =>
      intro w hw hk
      rcases List.mem_cons.1 hw with e | e
      · rw [e]; exact .refl _
      · obtain ⟨h1, x, h2, h3, h4⟩ := hf.fin w e
        have hlw := hf.low w (List.mem_cons_of_mem _ e)
        dsimp only at hlw
        have hx : x ∈ v :: r := by
          rcases (hmem x).1 h2 with e | e
          · have := hblw x e; omega
          · exact e
        exact h4.trans (ih x hx (by omega))
  have hto : ∀ w, w ∈ v :: r → Rch N v w := hf.rch
  have hA : ∀ x, (t.ix x ≠ 0 ∧ x ∉ t.st) → ∀ y ∈ N x, t.ix y ≠ 0 ∧ y ∉ t.st := fun x hx y hy => h.cl x hx.1 hx.2 y hy
  have hcase : ∀ x, t.ix x ≠ 0 → x ∉ G.flatMap segF → (x ∈ v :: r) ∨ (x ∉ v :: r ∧ x ∉ t.st) := fun x _ hx => by
    by_cases e : x ∈ v :: r
    · exact .inl e
    · exact .inr ⟨e, fun hm => ((hmem x).1 hm).elim hx e⟩
  refine ⟨rfl, (List.nodup_append.1 hnd).1, fun x => ?_, fun x hx => h.pos x ((hmem x).2 (.inl hx)), h.cnt, i1, h.lt, fun g hg => ?_, chain_init h.ch, fun x hx hs y hy => ?_, fun x hx hs => ?_, fun x y hx hs hy hs' => ?_⟩
  · show updL t.on (v :: r) false x = true ↔ x ∈ G.flatMap segF
    by_cases e : x ∈ v :: r
    · rw [(hin x e).1]
      exact ⟨fun h => (by cases h), fun hm => absurd e (T.apart x hm)⟩
    · rw [(hout x e).1, h.on, hmem]
      exact ⟨fun h => h.resolve_right e, .inl⟩
  · have hfg := h.fr g (List.mem_append_left _ hg)
    have hsg : ∀ w ∈ segF g, w ∈ G.flatMap segF := fun w hw => mem_seg hg hw
    refine ⟨hfg.deg, hfg.rch, hfg.low, hfg.le, ?_, fun w hw => ?_, fun w hw x hx => ?_, fun x hx => ?_⟩
    · obtain ⟨x, h1, h2, h3⟩ := hfg.wit
      have := hblw g.1 (hsg g.1 List.mem_cons_self)
      have := hfg.le
      exact ⟨x, hold x h1 (by omega), h2, h3⟩
    · obtain ⟨h0, x, h1, h2, h3⟩ := hfg.fin w hw
      have := hblw w (hsg w (List.mem_cons_of_mem _ hw))
      exact ⟨h0, x, hold x h1 (by omega), h2, h3⟩
    · have := hfg.out w hw x hx
      exact ⟨this.1, fun hs => this.2 ((hmem x).2 (.inl hs))⟩
    · have := hfg.own x hx
      exact ⟨this.1, fun hs => this.2 ((hmem x).2 (.inl hs))⟩
  · have hx0 : t.ix x ≠ 0 := hx
    have hs0 : x ∉ G.flatMap segF := hs
    show t.ix y ≠ 0 ∧ y ∉ G.flatMap segF
    rcases hcase x hx0 hs0 with e | ⟨-, e⟩
    · have hxy : t.ix y ≠ 0 ∧ (y ∈ t.st → t.lo v ≤ t.ix y) := by
        rcases List.mem_cons.1 e with e | e
        · rw [e] at hy
          exact hf.own y (by rw [List.take_of_length_le (Nat.le_refl _)]; exact hy)
        · exact hf.out x e y hy
      refine ⟨hxy.1, fun hm => ?_⟩
      have h1 := hxy.2 ((hmem y).2 (.inl hm))
      have h2 := hblw y hm
      omega
    · obtain ⟨h1, h2⟩ := h.cl x hx0 e y hy
      exact ⟨h1, fun hm => h2 ((hmem y).2 (.inl hm))⟩
  · have hx0 : t.ix x ≠ 0 := hx
    show updL t.nu (v :: r) t.pa x < t.pa + 1
    rcases hcase x hx0 hs with e | ⟨e1, e2⟩
    · rw [(hin x e).2]; omega
    · rw [(hout x e1).2]; have := h.num x hx0 e2; omega
  · have hx0 : t.ix x ≠ 0 := hx
    have hy0 : t.ix y ≠ 0 := hy
    show updL t.nu (v :: r) t.pa x = updL t.nu (v :: r) t.pa y ↔ _
    rcases hcase x hx0 hs with e | ⟨e1, e2⟩
    · rcases hcase y hy0 hs' with f | ⟨f1, f2⟩
      · rw [(hin x e).2, (hin y f).2]
        exact ⟨fun _ => ⟨(hback _ x e (Nat.le_refl _)).trans (hto y f), (hback _ y f (Nat.le_refl _)).trans (hto x e)⟩, fun _ => rfl⟩
      · rw [(hin x e).2, (hout y f1).2]
        refine ⟨fun he => ?_, fun ⟨_, hr⟩ => ?_⟩
        · have := h.num y hy0 f2; omega
        · exact absurd ((hmem x).2 (.inr e)) (hr.closed hA ⟨hy0, f2⟩).2
    · rcases hcase y hy0 hs' with f | ⟨f1, f2⟩
      · rw [(hout x e1).2, (hin y f).2]
        refine ⟨fun he => ?_, fun ⟨hr, _⟩ => ?_⟩
        · have := h.num x hx0 e2; omega
        · exact absurd ((hmem y).2 (.inr f)) (hr.closed hA ⟨hx0, e2⟩).2
      · rw [(hout x e1).2, (hout y f1).2]
        exact h.cls x y hx0 e2 hy0 f2
/-- behind a closed class the frame below keeps its low -/
theorem TI.keep {n : Nat} {N : Nat → List Nat} {t : Tj} {G : List Fr4} {p ip v i : Nat} {rp r : List Nat} (h : TI n N t (G ++ [(p, ip, rp), (v, i, r)])) (hlo : t.lo v = t.ix v) : min (t.lo p) (t.lo v) = t.lo p := by
  have hG : G ++ [(p, ip, rp), (v, i, r)] = (G ++ [(p, ip, rp)]) ++ [(v, i, r)] := by simp
  have h' := h
  rw [hG] at h'
  have T := h'.top
  have hfp := h.fr (p, ip, rp) (by simp)
  have h1 := T.below p (by rw [flat_snoc]; exact List.mem_append_right _ List.mem_cons_self) v List.mem_cons_self
  have h2 := hfp.le
  dsimp only at h2
  exact Nat.min_eq_left (by omega)
end Go.Z.Gra
