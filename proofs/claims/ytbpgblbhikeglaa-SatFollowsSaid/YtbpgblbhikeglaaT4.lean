/- Chapter 37: the steps of the search, plain. Conditions: none. -/
import Derived.Test.YtbpgblbhikeglaaT3
namespace Go.Z.Sat
set_option linter.unusedVariables false
set_option linter.unusedSimpArgs false
set_option linter.unusedSectionVars false
open Go Go.Z

structure SS where
  b : Bool
  a : As
  V : As
  T : List Int
  d : Nat
  D : List De
  k : Int
  v : Nat
  la : Option Addr
  lc : Nat
def SS.L (x : SS) : List (Nat × As) := lvls x.T x.D
structure SI (n : Nat) (F : Fm) (bud : Int) (x : SS) : Prop where
  inv : Inv n F x.a x.V x.T
  stk : Stk n F x.T x.D
  no : x.b = false → PR F x.a none
  yes : x.b = true → x.d = x.T.length ∧ PR F x.a (some x.V) ∧ ∀ u, 1 ≤ u → u < x.v → x.V u ≠ none
  v1 : 1 ≤ x.v ∧ x.v ≤ n + 1
  kk : 0 ≤ x.k ∧ x.k ≤ bud
  res : ∀ r, Reach F n bud x.a x.L x.k r → Reach F n bud (fun _ => none) [] 0 r
def SS.mu (n : Nat) (x : SS) : Nat := meas n x.a x.L

theorem le_ne {a b : As} (h : le a b) {u : Nat} (e : a u ≠ none) : b u ≠ none := by
  cases ha : a u with
  | none => exact absurd ha e
  | some y => rw [h u y ha]; simp
theorem lvls_at {T : List Int} {D : List De} {j : Nat} {v b : Nat} (hj : j < D.length) (he : D[j] = (v, b, false)) (hr : ∀ i (hi : i < D.length), j + 1 ≤ i → D[i].2.2 = true) : lvls T D = (v, asg (T.take b)) :: lvls T (D.take j) := by
  rw [lvls_drop hr, List.take_add_one, List.getElem?_eq_getElem hj, Option.toList_some, he, lvls_snoc, if_neg (by simp)]
theorem SI.back {n : Nat} {F : Fm} {bud : Int} {x : SS} (h : SI n F bud x) (hb : x.b = false) {j v b : Nat} (hj : j < x.D.length) (he : x.D[j] = (v, b, false)) (hr : ∀ i (hi : i < x.D.length), j + 1 ≤ i → x.D[i].2.2 = true)
    {V' : As} {T' : List Int} {d' : Nat} {b' : Bool} {la : Option Addr} {lc : Nat} (hI : Inv n F (put (asg (x.T.take b)) (-(v : Int))) V' T') (hp : (x.T.take b ++ [-(v : Int)]) <+: T') (hn : b' = false → PR F (put (asg (x.T.take b)) (-(v : Int))) none) (hy : b' = true → d' = T'.length ∧ PR F (put (asg (x.T.take b)) (-(v : Int))) (some V')) :
    SI n F bud ⟨b', put (asg (x.T.take b)) (-(v : Int)), V', T', d', x.D.take j ++ [(v, b, true)], x.k, v, la, lc⟩ ∧ SS.mu n ⟨b', put (asg (x.T.take b)) (-(v : Int)), V', T', d', x.D.take j ++ [(v, b, true)], x.k, v, la, lc⟩ < x.mu n := by
  have hs : Stk n F x.T (x.D.take j ++ [(v, b, false)]) := by
    have e : x.D = (x.D.take j ++ [(v, b, false)]) ++ x.D.drop (j + 1) := by
      rw [List.append_assoc, List.singleton_append, ← he, ← List.drop_eq_getElem_cons hj, List.take_append_drop]
    have := h.stk
    rw [e] at this
    exact this.init
  obtain ⟨hc1, hc2⟩ := hs.cut (-(v : Int))
  obtain ⟨hg1, hg2⟩ := hc1.grow hp
  have hlv := lvls_at (T := x.T) hj he hr
  obtain ⟨_, hle, _⟩ := hs.each (v, b, false) (by simp)
  dsimp only at hle
  have hneg : lv (asg (x.T.take b)) (-(v : Int)) = none := by rw [lv_negv, hle.2.1]; rfl
  have hres : ∀ r, Reach F n bud (put (asg (x.T.take b)) (-(v : Int))) (lvls x.T (x.D.take j)) x.k r → Reach F n bud (fun _ => none) [] 0 r := fun r hr => h.res r (by unfold SS.L; rw [hlv]; exact .back (h.no hb) hr)
  refine ⟨⟨hI, hg1, hn, fun hb => ⟨(hy hb).1, (hy hb).2, fun u h1 h2 => le_ne (hI.snd.1) (le_ne (le_put hneg) (hle.2.2 u h1 h2))⟩, ⟨hle.1.1, by have := hle.1.2; dsimp only; omega⟩, h.kk, fun r hr => hres r ?_⟩, ?_⟩
  · unfold SS.L at hr
    dsimp only at hr
    rw [hg2, hc2] at hr
    exact hr
  · unfold SS.mu SS.L
    dsimp only
    rw [hg2, hc2, hlv]
    have := h.stk.okS
    rw [hlv] at this
    exact meas_back this
theorem SI.dec {n : Nat} {F : Fm} {bud : Int} {x : SS} (h : SI n F bud x) (hb : x.b = true) (hs : ¬ satF F x.V) (hk : x.k ≠ bud) {v : Nat} (hv : Least n x.V v)
    {V' : As} {T' : List Int} {d' : Nat} {b' : Bool} {la : Option Addr} {lc : Nat} (hI : Inv n F (put x.V (v : Int)) V' T') (hp : (x.T ++ [(v : Int)]) <+: T') (hn : b' = false → PR F (put x.V (v : Int)) none) (hy : b' = true → d' = T'.length ∧ PR F (put x.V (v : Int)) (some V')) :
    SI n F bud ⟨b', put x.V (v : Int), V', T', d', x.D ++ [(v, x.T.length, false)], x.k + 1, v, la, lc⟩ ∧ SS.mu n ⟨b', put x.V (v : Int), V', T', d', x.D ++ [(v, x.T.length, false)], x.k + 1, v, la, lc⟩ < x.mu n := by
  obtain ⟨hd, hpr, _⟩ := h.yes hb
  have hval := h.inv.val
  obtain ⟨hc1, hc2⟩ := h.stk.push (v := v) (by rw [← hval]; exact hv) (by rw [← hval]; exact hpr.2.2) (v : Int)
  obtain ⟨hg1, hg2⟩ := hc1.grow hp
  have hpos : lv x.V (v : Int) = none := by rw [lv_pos _ hv.1.1]; exact hv.2.1
  have hkk := h.kk
  refine ⟨⟨hI, hg1, hn, fun hb => ⟨(hy hb).1, (hy hb).2, fun u h1 h2 => le_ne (hI.snd.1) (le_ne (le_put hpos) (hv.2.2 u h1 h2))⟩, ⟨hv.1.1, by have := hv.1.2; dsimp only; omega⟩, ⟨by dsimp only; omega, by dsimp only; omega⟩, fun r hr => h.res r ?_⟩, ?_⟩
  · unfold SS.L at hr
    dsimp only at hr
    rw [hg2, hc2, ← hval] at hr
    exact .dec hpr hs hk hv hr
  · unfold SS.mu SS.L
    dsimp only
    rw [hg2, hc2, ← hval]
    exact meas_dec hpr.1 hv
end Go.Z.Sat
namespace Go.Proofs.Ytbpgblbhikeglaa
open Go Go.Z Go.Z.Sat
theorem prop_at {ρ : Nat → Obj → Prop} {s : Nat} {p : Sp} {F : Fm} (hO : Ok p.n F) (hm : p.m = F.length) (hU : RSl2 ρ p.ua (usesV p.n F)) (hF : FmR ρ p.ca F) {a V : As} {T : List Int} {d : Nat} (hI : Inv p.n F a V T) (hd : d ≤ T.length) (hP : ∀ c ∈ F, Pend V T d c) :
    Con Try.prog ρ 30 #[.pointer (some ⟨s, 0, none⟩)] [Sv s p V T (trues F V) d] (fun v H => ∃ b V' T' d', v = .bool b ∧ H = [Sv s p V' T' (trues F V') d'] ∧ Inv p.n F a V' T' ∧ T <+: T' ∧ (b = false → PR F a none) ∧ (b = true → d' = T'.length ∧ PR F a (some V'))) :=
  (propagate_ok hO hm hU hF hI hd hP).mono fun v H h => by
    obtain ⟨V', T', d', rfl, h1, h2, ⟨rfl, h3⟩ | ⟨rfl, h3, h4⟩⟩ := h
    · exact ⟨false, V', T', d', rfl, rfl, h1, h2, (fun _ => h3), fun h => by cases h⟩
    · exact ⟨true, V', T', d', rfl, rfl, h1, h2, (fun h => by cases h), fun _ => ⟨h3, h4⟩⟩
theorem start_at {ρ : Nat → Obj → Prop} {s : Nat} {p : Sp} {F : Fm} (hO : Ok p.n F) (hm : p.m = F.length) (hU : RSl2 ρ p.ua (usesV p.n F)) (hF : FmR ρ p.ca F) {a V : As} {T : List Int} {d : Nat} (hI : Inv p.n F a V T) (hd : d ≤ T.length) :
    Con Try.prog ρ 29 #[.pointer (some ⟨s, 0, none⟩)] [Sv s p V T (trues F V) d] (fun v H => ∃ b V' T', v = .bool b ∧ H = [Sv s p V' T' (trues F V') d] ∧ Inv p.n F a V' T' ∧ T <+: T' ∧ (b = false → PR F a none) ∧ (b = true → ∀ c ∈ F, Pend V' T' d c)) :=
  (start_ok hO hm hU hF hI hd).mono fun v H h => by
    obtain ⟨V', T', rfl, h1, h2, ⟨rfl, h3⟩ | ⟨rfl, h3⟩⟩ := h
    · exact ⟨false, V', T', rfl, rfl, h1, h2, (fun _ => h3), fun h => by cases h⟩
    · exact ⟨true, V', T', rfl, rfl, h1, h2, (fun h => by cases h), fun _ => h3⟩
end Go.Proofs.Ytbpgblbhikeglaa
