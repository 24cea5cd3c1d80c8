/- Chapter 4, plain: the document's cycles. No program in sight. Conditions: none. -/
import Derived.Test.YtmefecnjliadaaaNu
import Derived.Test.YtmefecnjliadaaaGc
namespace Go.Z.Gr
set_option maxRecDepth 8000
set_option linter.unusedVariables false
set_option linter.unusedSimpArgs false
set_option linter.unusedSectionVars false
open Go Go.Z Go.Z.Gra
/-- the least distance that is there -/
def minS (d : List Int) (b w : Int) : Int := if 0 ≤ getI d w ∧ (b < 0 ∨ getI d w < b) then getI d w else b
def minD (d : List Int) (l : List Int) : Int := l.foldl (minS d) (-1)
theorem minD_char (d : List Int) : ∀ (l : List Int) (b : Int), -1 ≤ b → (l.foldl (minS d) b < 0 → l.foldl (minS d) b = -1 ∧ b = -1 ∧ ∀ w ∈ l, getI d w < 0) ∧ (0 ≤ l.foldl (minS d) b → ((0 ≤ b ∧ l.foldl (minS d) b = b) ∨ ∃ w ∈ l, getI d w = l.foldl (minS d) b) ∧ (0 ≤ b → l.foldl (minS d) b ≤ b) ∧ ∀ w ∈ l, 0 ≤ getI d w → l.foldl (minS d) b ≤ getI d w)
  | [], b, hb => ⟨fun h => ⟨by show b = -1; have : b < 0 := h; omega, by have : b < 0 := h; omega, fun w h => absurd h List.not_mem_nil⟩, fun h => ⟨.inl ⟨h, rfl⟩, fun _ => Int.le_refl _, fun w h => absurd h List.not_mem_nil⟩⟩
  | x :: l, b, hb => by
    have hb2 : -1 ≤ minS d b x := by unfold minS; split <;> omega
    obtain ⟨h1, h2⟩ := minD_char d l (minS d b x) hb2
    rw [List.foldl_cons]
    refine ⟨fun h => ?_, fun h => ?_⟩
    · obtain ⟨a1, a2, a3⟩ := h1 h
      have hx : getI d x < 0 ∧ b = -1 := by
        unfold minS at a2
        split at a2 <;> omega
      exact ⟨a1, hx.2, fun w hw => by
        rcases List.mem_cons.1 hw with e | e
        · rw [e]; exact hx.1
        · exact a3 w e⟩
    · obtain ⟨a1, a2, a3⟩ := h2 h
      have hs : (minS d b x = b ∧ (0 ≤ getI d x → 0 ≤ b ∧ b ≤ getI d x)) ∨ (minS d b x = getI d x ∧ 0 ≤ getI d x ∧ (0 ≤ b → getI d x ≤ b)) := by
        unfold minS
        split
        · exact .inr ⟨rfl, by omega, by omega⟩
        · exact .inl ⟨rfl, by omega⟩
      refine ⟨?_, fun h0 => ?_, fun w hw hw0 => ?_⟩
      · rcases a1 with ⟨c1, c2⟩ | ⟨w, c1, c2⟩
        · rcases hs with ⟨e1, e2⟩ | ⟨e1, e2, e3⟩
          · exact .inl ⟨by omega, by omega⟩
          · exact .inr ⟨x, List.mem_cons_self, by omega⟩
        · exact .inr ⟨w, List.mem_cons_of_mem _ c1, c2⟩
      · rcases hs with ⟨e1, e2⟩ | ⟨e1, e2, e3⟩
        · have := a2 (by omega); omega
        · have := a2 (by omega); have := e3 h0; omega
      · rcases List.mem_cons.1 hw with e | e
        · rw [e] at hw0 ⊢
          rcases hs with ⟨e1, e2⟩ | ⟨e1, e2, e3⟩
          · have := e2 hw0; have := a2 (by omega); omega
          · have := a2 (by omega); omega
        · exact a3 w e hw0
/-- the least vertex at a distance -/
def leaS (d : List Int) (k b w : Int) : Int := if getI d w = k ∧ (b < 0 ∨ w < b) then w else b
def leaD (d : List Int) (k : Int) (l : List Int) : Int := l.foldl (leaS d k) (-1)
theorem leaD_char (d : List Int) (k : Int) : ∀ (l : List Int) (b : Int), (∀ w ∈ l, 0 ≤ w) → (∃ w ∈ l, getI d w = k) ∨ 0 ≤ b → ((0 ≤ b ∧ l.foldl (leaS d k) b = b) ∨ (l.foldl (leaS d k) b ∈ l ∧ getI d (l.foldl (leaS d k) b) = k)) ∧ (0 ≤ b → l.foldl (leaS d k) b ≤ b) ∧ ∀ w ∈ l, getI d w = k → l.foldl (leaS d k) b ≤ w
  | [], b, _, h => ⟨.inl ⟨h.elim (fun ⟨w, a, _⟩ => absurd a List.not_mem_nil) id, rfl⟩, fun _ => Int.le_refl _, fun w h => absurd h List.not_mem_nil⟩
  | x :: l, b, hl, h => by
    have hx0 := hl x List.mem_cons_self
    have hs : (leaS d k b x = b ∧ (getI d x = k → 0 ≤ b ∧ b ≤ x)) ∨ (leaS d k b x = x ∧ getI d x = k ∧ (0 ≤ b → x ≤ b)) := by
      unfold leaS
      split
      · exact .inr ⟨rfl, by omega, by omega⟩
      · exact .inl ⟨rfl, by omega⟩
    have h' : (∃ w ∈ l, getI d w = k) ∨ 0 ≤ leaS d k b x := by
      rcases h with ⟨w, h1, h2⟩ | h
      · rcases List.mem_cons.1 h1 with e | e
        · rw [e] at h2
          right
          rcases hs with ⟨e1, e2⟩ | ⟨e1, e2, e3⟩
          · have := e2 h2; omega
          · omega
        · exact .inl ⟨w, e, h2⟩
      · right
        rcases hs with ⟨e1, e2⟩ | ⟨e1, e2, e3⟩ <;> omega
    obtain ⟨a1, a2, a3⟩ := leaD_char d k l (leaS d k b x) (fun w hw => hl w (List.mem_cons_of_mem _ hw)) h'
    rw [List.foldl_cons]
    refine ⟨?_, fun h0 => ?_, fun w hw hwk => ?_⟩
    · rcases a1 with ⟨c1, c2⟩ | ⟨c1, c2⟩
      · rcases hs with ⟨e1, e2⟩ | ⟨e1, e2, e3⟩
        · exact .inl ⟨by omega, by omega⟩
        · exact .inr ⟨by rw [c2, e1]; exact List.mem_cons_self, by rw [c2, e1]; exact e2⟩
      · exact .inr ⟨List.mem_cons_of_mem _ c1, c2⟩
    · rcases hs with ⟨e1, e2⟩ | ⟨e1, e2, e3⟩
      · have := a2 (by omega); omega
      · have := a2 (by omega); have := e3 h0; omega
    · rcases List.mem_cons.1 hw with e | e
      · rw [e] at hwk ⊢
        rcases hs with ⟨e1, e2⟩ | ⟨e1, e2, e3⟩
        · have := e2 hwk; have := a2 (by omega); omega
        · have := a2 (by omega); omega
      · exact a3 w e hwk
/-- the document's next vertex is the first of those in order -/
theorem leaD_next {E : Ed} {n : Nat} (ho : EdOk n E) {d : List Int} {v at_ : Int} {k : Nat} {i : Nat} (hv : ∀ w : Int, 0 ≤ w → w < n → getI d w = ((k + 1 : Nat) : Int) → v < w) (hi : (nbP E at_).findIdx? (fun w => decide (v < w ∧ getI d w = ((k + 1 : Nat) : Int))) = some i) (hil : i < (nbP E at_).length) : leaD d ((k + 1 : Nat) : Int) (tosP E at_) = (nbP E at_)[i] := by
  rw [List.findIdx?_eq_some_iff_getElem] at hi
  obtain ⟨_, h1, h2⟩ := hi
  have h1 := (of_decide_eq_true h1).2
  have hm : (nbP E at_)[i] ∈ tosP E at_ := tosP_mem.2 (nbP_mem.1 (List.getElem_mem hil))
  obtain ⟨a1, -, a3⟩ := leaD_char d ((k + 1 : Nat) : Int) (tosP E at_) (-1) (fun w hw => ((ho _ (tosP_mem.1 hw)).2).1) (.inl ⟨_, hm, h1⟩)
  have hle := a3 _ hm h1
  show (tosP E at_).foldl (leaS d ((k + 1 : Nat) : Int)) (-1) = _
  rcases a1 with ⟨c1, -⟩ | ⟨c1, c2⟩
  · exact absurd c1 (by decide)
  · generalize (tosP E at_).foldl (leaS d ((k + 1 : Nat) : Int)) (-1) = r at *
    have hr := nbP_mem.2 (tosP_mem.1 c1)
    have hrn := (ho _ (tosP_mem.1 c1)).2
    dsimp only at hrn
    obtain ⟨j, hj, e⟩ := List.getElem_of_mem hr
    rcases Nat.lt_trichotomy j i with g | g | g
    · have := h2 j g
      rw [e] at this
      exact absurd (decide_eq_true ⟨hv r hrn.1 hrn.2 c2, c2⟩) this
    · subst g; exact e.symm
    · have := (List.pairwise_iff_getElem.1 (nbP_sorted E at_)) i j hil hj g
      rw [e] at this; omega
/-- what is reached lies at v or behind -/
theorem dist_ge {E : Ed} {n : Nat} {v : Int} {d : List Int} (h : DistOk E n v d) {w : Int} (hw : 0 ≤ w ∧ w < n) (h0 : 0 ≤ getI d w) : v ≤ w ∧ (0 < getI d w → v < w) := by
  have hn := h.1
  obtain ⟨x, rfl⟩ : ∃ x : Nat, w = x := ⟨w.toNat, by omega⟩
  rw [getI_nat (by omega)] at h0 ⊢
  have hp := ((h.2 x (by omega)).1 h0).1
  generalize hk : (d[x]).toNat = k at hp
  cases k with
  | zero => have : (x : Int) = v := hp; exact ⟨by omega, fun h => by omega⟩
  | succ k => have := hp.1; exact ⟨by omega, fun _ => this⟩
theorem around_min {E : Ed} {n : Nat} (ho : EdOk n E) {v : Nat} (hv : v < n) : aroundM (nbP E) (distP E n v) v ((n : Int) + 1) = if minD (distP E n v) (tosP E v) < 0 then [] else (v : Int) :: pathP (nbP E) (distP E n v) v (minD (distP E n v) (tosP E v)).toNat v := by
  have hd := distP_ok ho (t := v) ⟨by omega, by omega⟩
  have hgl := distP_len E n v
  have hlt : ∀ w : Int, 0 ≤ w → w < n → getI (distP E n v) w < n := fun w h1 h2 => by
    obtain ⟨x, rfl⟩ : ∃ x : Nat, w = x := ⟨w.toNat, by omega⟩
    rw [getI_nat (by omega)]; exact distP_lt E n v _ (List.getElem_mem _)
  obtain ⟨h1, h2⟩ := minD_char (distP E n v) (tosP E v) (-1) (by decide)
  have hmin : minD (distP E n v) (tosP E v) = (tosP E v).foldl (minS (distP E n v)) (-1) := rfl
  rw [← hmin] at h1 h2
  have hle := bestP_le (distP E n v) v (nbP E v) ((n : Int) + 1)
  unfold aroundM
  by_cases hm : minD (distP E n v) (tosP E v) < 0
  · rw [if_pos hm]
    obtain ⟨-, -, h3⟩ := h1 hm
    by_cases hb : bestP (distP E n v) v (nbP E v) ((n : Int) + 1) = (n : Int) + 1
    · rw [if_pos hb]
    · obtain ⟨w, w1, w2, w3, w4⟩ := bestP_lt (d := distP E n v) (v := (v : Int)) (l := nbP E v) (b := (n : Int) + 1) (by omega)
      have := h3 w (tosP_mem.2 (nbP_mem.1 w1))
      omega
  · rw [if_neg hm]
    obtain ⟨h3, -, h4⟩ := h2 (by omega)
    rcases h3 with ⟨h3, -⟩ | ⟨w, h5, h6⟩
    · exact absurd h3 (by decide)
    · have hwn := (ho _ (tosP_mem.1 h5)).2
      dsimp only at hwn
      have hge := dist_ge hd hwn (by omega)
      have hb1 := bestP_min (d := distP E n v) (v := (v : Int)) (l := nbP E v) (b := (n : Int) + 1) w (nbP_mem.2 (tosP_mem.1 h5)) hge.1 (by omega)
      have := hlt w hwn.1 hwn.2
      obtain ⟨x, x1, x2, x3, x4⟩ := bestP_lt (d := distP E n v) (v := (v : Int)) (l := nbP E v) (b := (n : Int) + 1) (by omega)
      have h7 := h4 x (tosP_mem.2 (nbP_mem.1 x1)) x3
      rw [if_neg (by omega), show (bestP (distP E n v) v (nbP E v) ((n : Int) + 1) - 1).toNat = (minD (distP E n v) (tosP E v)).toNat by omega]
theorem bestP_mon (d : List Int) (v : Int) : ∀ (l : List Int) (a b : Int), a ≤ b → bestP d v l a = min a (bestP d v l b)
  | [], a, b, h => by show a = min a b; omega
  | w :: l, a, b, h => by
    have e1 : bestP d v (w :: l) a = bestP d v l (stepB d v a w) := rfl
    have e2 : bestP d v (w :: l) b = bestP d v l (stepB d v b w) := rfl
    have hs : stepB d v a w = min a (stepB d v b w) ∧ stepB d v a w ≤ stepB d v b w := by unfold stepB; split <;> omega
    rw [e1, e2, bestP_mon d v l (stepB d v a w) (stepB d v b w) hs.2]
    have := bestP_le d v l (stepB d v b w)
    omega
/-- the document's step is the program's -/
theorem stepR_eq {E : Ed} {n : Nat} (ho : EdOk n E) {v : Nat} (hv : v < n) {best : List Int} (hb : best.length ≤ n + 1) :
    stepC E n best v = if 0 < (aroundM (nbP E) (distP E n v) v ((n : Int) + 1)).length ∧ (best.length = 0 ∨ (aroundM (nbP E) (distP E n v) v ((n : Int) + 1)).length < best.length) then aroundM (nbP E) (distP E n v) v ((n : Int) + 1) else best := by
  unfold stepC
  dsimp only
  by_cases h0 : best = []
  · subst h0
    rw [if_pos rfl]
    by_cases hc : aroundM (nbP E) (distP E n v) v ((n : Int) + 1) = []
    · rw [if_pos hc, hc]; rfl
    · rw [if_neg hc, if_pos ⟨List.length_pos_iff.2 hc, .inl rfl⟩]
  · rw [if_neg h0]
    have hbl := List.length_pos_iff.2 h0
    have hm := bestP_mon (distP E n v) v (nbP E v) (best.length : Int) ((n : Int) + 1) (by omega)
    have hle := bestP_le (distP E n v) v (nbP E v) ((n : Int) + 1)
    by_cases hB : bestP (distP E n v) v (nbP E v) ((n : Int) + 1) < best.length
    · have e1 : bestP (distP E n v) v (nbP E v) (best.length : Int) = bestP (distP E n v) v (nbP E v) ((n : Int) + 1) := by omega
      have e2 : aroundM (nbP E) (distP E n v) v (best.length : Int) = aroundM (nbP E) (distP E n v) v ((n : Int) + 1) := by
        unfold aroundM
        rw [e1, if_neg (by omega), if_neg (by omega)]
      have hne : aroundM (nbP E) (distP E n v) v ((n : Int) + 1) ≠ [] := by unfold aroundM; rw [if_neg (by omega)]; exact List.cons_ne_nil _ _
      have hlen : ((aroundM (nbP E) (distP E n v) v ((n : Int) + 1)).length : Int) ≤ bestP (distP E n v) v (nbP E v) ((n : Int) + 1) := by
        have h1 := aroundM_len (nbP E) (distP E n v) v (most := (best.length : Int)) (by omega)
        have h2 := pathP_len (nbP E) (distP E n v) v ((bestP (distP E n v) v (nbP E v) ((n : Int) + 1)) - 1).toNat v
        have h3 : 1 ≤ bestP (distP E n v) v (nbP E v) ((n : Int) + 1) := by
          obtain ⟨w, -, -, w3, w4⟩ := bestP_lt (d := distP E n v) (v := (v : Int)) (l := nbP E v) (b := (n : Int) + 1) (by omega)
          omega
        unfold aroundM
        rw [if_neg (by omega), List.length_cons]
        omega
      rw [e2, if_neg hne, if_pos ⟨List.length_pos_iff.2 hne, .inr (by omega)⟩]
    · have e1 : bestP (distP E n v) v (nbP E v) (best.length : Int) = best.length := by omega
      have e2 : aroundM (nbP E) (distP E n v) v (best.length : Int) = [] := by
        unfold aroundM
        rw [if_pos e1]
      rw [e2, if_pos rfl]
      by_cases hc : aroundM (nbP E) (distP E n v) v ((n : Int) + 1) = []
      · rw [if_neg (fun h => by rw [hc] at h; exact absurd h.1 (by decide))]
      · rw [if_neg]
        rintro ⟨-, h | h⟩
        · omega
        · -- the cycle is as long as the best distance
          have hd := distP_ok ho (t := v) ⟨by omega, by omega⟩
          have hlt : bestP (distP E n v) v (nbP E v) ((n : Int) + 1) < (n : Int) + 1 := by
            by_cases g : bestP (distP E n v) v (nbP E v) ((n : Int) + 1) = (n : Int) + 1
            · exact absurd (by unfold aroundM; rw [if_pos g]) hc
            · omega
          obtain ⟨w, w1, w2, w3, w4⟩ := bestP_lt hlt
          obtain ⟨k, hk⟩ : ∃ k : Nat, bestP (distP E n v) v (nbP E v) ((n : Int) + 1) = ((k + 1 : Nat) : Int) := ⟨(getI (distP E n v) w).toNat, by omega⟩
          have hg := good_first hv hd hlt hk
          have hm := nbP_mem.1 w1
          obtain ⟨-, i2, -⟩ := path_cyc ho hv hd (nb := nbP E) (fun u x => nbP_mem) k v hg (fun h0 => by
            subst h0
            have hwn := (ho _ hm).2
            dsimp only at hwn
            obtain ⟨x, rfl⟩ : ∃ x : Nat, w = x := ⟨w.toNat, by omega⟩
            have hgl := distP_len E n v
            have h0 : getI (distP E n v) x = 0 := by omega
            rw [getI_nat (by omega)] at h0
            have := (hd.2 x (by omega)).1 (by omega)
            rw [h0] at this
            have hxv : (x : Int) = v := this.1
            rw [hxv] at hm; exact hm)
          unfold aroundM at h
          rw [if_neg (by omega), List.length_cons, show (bestP (distP E n v) v (nbP E v) ((n : Int) + 1) - 1).toNat = k by omega, i2] at h
          omega
end Go.Z.Gr
