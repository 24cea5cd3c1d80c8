/- Own texts, put together: S0 S1 S2 S3 S4 S5 S6 S7 S8 S9. Conditions: as told at each. -/
import Derived.Test.YtopgbgnmjogeeaaGreatDoorZg
import Derived.Test.YtopgbgnmjogeeaaGreatDoorTy
import Derived.Test.YtopgbgnmjogeeaaGreatDoorZi
/- The plain machine of chapter 37: assignments, what follows by unit propagation, the search. No program in sight. Conditions: none. -/
namespace Go.Z.Sat
set_option maxRecDepth 8000
set_option linter.unusedVariables false
set_option linter.unusedSimpArgs false
set_option linter.unusedSectionVars false
open Go Go.Z

abbrev Cl := List Int
abbrev Fm := List Cl
abbrev As := Nat → Option Bool

def lv (a : As) (l : Int) : Option Bool := if 0 < l then a l.toNat else (a (-l).toNat).map (!·)
/-- the literals of a clause are of the variables 1 .. n -/
def okL (n : Nat) (l : Int) : Prop := l ≠ 0 ∧ -(n : Int) ≤ l ∧ l ≤ n
def okF (n : Nat) (F : Fm) : Prop := ∀ c ∈ F, ∀ l ∈ c, okL n l
def put (a : As) (l : Int) : As := fun v => if v = l.natAbs then some (decide (0 < l)) else a v
def le (a b : As) : Prop := ∀ v x, a v = some x → b v = some x

theorem lv_neg (a : As) {l : Int} (h : l ≠ 0) : lv a (-l) = (lv a l).map (!·) := by
  unfold lv
  by_cases h0 : 0 < l
  · rw [if_pos h0, if_neg (by omega), Int.neg_neg]
  · rw [if_neg h0, if_pos (by omega)]
    cases a (-l).toNat <;> simp
theorem lv_abs (a : As) (l : Int) : lv a l = if 0 < l then a l.natAbs else (a l.natAbs).map (!·) := by
  unfold lv
  split
  · rw [show l.toNat = l.natAbs by omega]
  · rw [show (-l).toNat = l.natAbs by omega]
theorem le.lv {a b : As} (h : le a b) {l : Int} {x : Bool} (e : lv a l = some x) : lv b l = some x := by
  rw [lv_abs] at *
  split at e
  · rw [if_pos (by assumption)]; exact h _ _ e
  · rw [if_neg (by assumption)]
    cases hv : a l.natAbs with
    | none => rw [hv] at e; cases e
    | some y => rw [hv] at e; rw [h _ _ hv]; exact e
theorem le.refl (a : As) : le a a := fun _ _ h => h
theorem le.trans {a b c : As} (h : le a b) (k : le b c) : le a c := fun v x e => k v x (h v x e)
theorem le_put {a : As} {l : Int} (h : lv a l = none) : le a (put a l) := fun v x e => by
  unfold put
  split
  · rename_i hv
    subst hv
    rw [lv_abs] at h
    split at h
    · rw [h] at e; cases e
    · rw [e] at h; cases h
  · exact e
theorem lv_put {a : As} {l : Int} (h : l ≠ 0) : lv (put a l) l = some true := by
  rw [lv_abs]; unfold put
  split <;> simp <;> omega
theorem lv_put_cases {a : As} {l m : Int} {x : Bool} (hl : l ≠ 0) (h : lv (put a l) m = some x) (hm : m ≠ 0) : lv a m = some x ∨ (m = l ∧ x = true) ∨ (m = -l ∧ x = false) := by
  rw [lv_abs] at h
  unfold put at h
  by_cases e : m.natAbs = l.natAbs
  · have : m = l ∨ m = -l := by omega
    rcases this with rfl | rfl
    · right; left; refine ⟨rfl, ?_⟩
      split at h <;> simp at h <;> rename_i h0 <;> simp [h0] at h <;> exact h
    · right; right; refine ⟨rfl, ?_⟩
      split at h
      · rename_i h0; simp at h; rw [← h]; simp; omega
      · rename_i h0
        have h1 : 0 < l := by omega
        simp [h1] at h
        exact h
  · left
    rw [lv_abs]
    simp only [e, if_false] at h
    exact h

/-- what follows from an assignment -/
inductive Der (F : Fm) (a : As) : Int → Prop
  | base {l : Int} : lv a l = some true → Der F a l
  | unit {c : Cl} {l : Int} : c ∈ F → l ∈ c → (∀ m ∈ c, m ≠ l → Der F a (-m)) → Der F a l

/-- nothing is left to follow, and no clause is violated -/
def Fix (F : Fm) (b : As) : Prop := ∀ c ∈ F, (∃ l ∈ c, lv b l = some true) ∨ ∃ l ∈ c, ∃ m ∈ c, l ≠ m ∧ lv b l = none ∧ lv b m = none

theorem Fix.der {n : Nat} {F : Fm} (hF : okF n F) {a b : As} (hf : Fix F b) (hab : le a b) {l : Int} (h : Der F a l) : lv b l = some true := by
  induction h with
  | base e => exact hab.lv e
  | @unit c l hc hl hm ih =>
    have hne : ∀ m ∈ c, m ≠ l → lv b m = some false := fun m h1 h2 => by
      have := ih m h1 h2
      rw [lv_neg _ (hF c hc m h1).1] at this
      cases e : lv b m with
      | none => rw [e] at this; cases this
      | some x => rw [e] at this; cases x <;> simp at this; rfl
    rcases hf c hc with ⟨l0, h1, h2⟩ | ⟨l1, h1, l2, h2, h3, h4, h5⟩
    · by_cases e : l0 = l
      · rw [← e]; exact h2
      · rw [hne l0 h1 e] at h2; cases h2
    · by_cases e : l1 = l
      · have : l2 ≠ l := fun e2 => h3 (e.trans e2.symm)
        rw [hne l2 h2 this] at h5; cases h5
      · rw [hne l1 h1 e] at h4; cases h4

/-- what propagation yields: an assignment, or a violated clause -/
def PR (F : Fm) (a : As) : Option As → Prop
  | some b => le a b ∧ (∀ v, a v = none → ∀ x, b v = some x → Der F a (if x then (v : Int) else -(v : Int)) ∧ v ≠ 0) ∧ Fix F b
  | none => ∃ c ∈ F, ∀ l ∈ c, Der F a (-l)

theorem lv_var (b : As) {v : Nat} (hv : v ≠ 0) (x : Bool) : lv b (if x then (v : Int) else -(v : Int)) = some true ↔ b v = some x := by
  rw [lv_abs]
  cases x
  · simp only [Bool.false_eq_true, if_false]
    rw [if_neg (by omega), show (-(v : Int)).natAbs = v by omega]
    cases b v with
    | none => simp
    | some y => cases y <;> simp
  · simp only [if_true]
    rw [if_pos (by omega), show ((v : Int)).natAbs = v by omega]

theorem PR.unique {n : Nat} {F : Fm} (hF : okF n F) {a : As} {r s : Option As} (h : PR F a r) (k : PR F a s) : r = s := by
  have key : ∀ b, PR F a (some b) → ¬ PR F a none := fun b ⟨h1, _, h3⟩ ⟨c, hc, hl⟩ => by
    have hne : ∀ l ∈ c, lv b l = some false := fun l hlc => by
      have := h3.der hF h1 (hl l hlc)
      rw [lv_neg _ (hF c hc l hlc).1] at this
      cases e : lv b l with
      | none => rw [e] at this; cases this
      | some x => rw [e] at this; cases x <;> simp at this; rfl
    rcases h3 c hc with ⟨l, h1, h2⟩ | ⟨l, h1, m, _, _, h2, _⟩
    · rw [hne l h1] at h2; cases h2
    · rw [hne l h1] at h2; cases h2
  have sub : ∀ b b', PR F a (some b) → PR F a (some b') → le b b' := fun b b' ⟨h1, h2, _⟩ ⟨k1, _, k3⟩ v x e => by
    cases ha : a v with
    | some y =>
      have := h1 v y ha
      rw [e] at this; cases this
      exact k1 v _ ha
    | none =>
      obtain ⟨d, hv⟩ := h2 v ha x e
      exact (lv_var b' hv x).1 (k3.der hF k1 d)
  cases r with
  | none =>
    cases s with
    | none => rfl
    | some b => exact absurd h (key b k)
  | some b =>
    cases s with
    | none => exact absurd k (key b h)
    | some b' =>
      congr 1
      funext v
      cases e : b v with
      | some x => exact (sub b b' h k v x e).symm
      | none =>
        cases e' : b' v with
        | none => rfl
        | some x => rw [sub b' b k h v x e'] at e; cases e

/-- b is reached from a by what follows -/
def Snd (F : Fm) (a b : As) : Prop := le a b ∧ ∀ v, a v = none → ∀ x, b v = some x → Der F a (if x then (v : Int) else -(v : Int)) ∧ v ≠ 0

theorem Snd.refl (F : Fm) (a : As) : Snd F a a := ⟨le.refl a, fun v h x e => by rw [h] at e; cases e⟩
theorem Snd.der {F : Fm} {a b : As} (h : Snd F a b) {l : Int} (hl : l ≠ 0) (e : lv b l = some true) : Der F a l := by
  cases ha : lv a l with
  | some x =>
    have := h.1.lv ha
    rw [e] at this; cases this
    exact .base ha
  | none =>
    rw [lv_abs] at ha e
    split at e
    · rename_i h0
      rw [if_pos h0] at ha
      have := (h.2 _ ha _ e).1
      simp only [if_true] at this
      rwa [show ((l.natAbs : Nat) : Int) = l by omega] at this
    · rename_i h0
      rw [if_neg h0] at ha
      cases hb : b l.natAbs with
      | none => rw [hb] at e; cases e
      | some x =>
        rw [hb] at e
        have hx : x = false := by cases x <;> simp at e; rfl
        subst hx
        have := (h.2 _ (by cases h2 : a l.natAbs with | none => rfl | some y => rw [h2] at ha; cases ha) _ hb).1
        simp only [Bool.false_eq_true, if_false] at this
        rwa [show -((l.natAbs : Nat) : Int) = l by omega] at this
theorem Snd.neg {F : Fm} {a b : As} (h : Snd F a b) {l : Int} (hl : l ≠ 0) (e : lv b l = some false) : Der F a (-l) :=
  h.der (by omega) (by rw [lv_neg _ hl, e]; rfl)
theorem Snd.unit {F : Fm} {a b : As} (h : Snd F a b) {n : Nat} (hF : okF n F) {c : Cl} (hc : c ∈ F) {l : Int} (hl : l ∈ c) (hn : lv b l = none) (ho : ∀ m ∈ c, m ≠ l → lv b m = some false) : Snd F a (put b l) := by
  have hl0 := (hF c hc l hl).1
  have hd : Der F a l := .unit hc hl fun m hm hne => h.neg (hF c hc m hm).1 (ho m hm hne)
  refine ⟨h.1.trans (le_put hn), fun v ha x e => ?_⟩
  unfold put at e
  split at e
  · rename_i hv
    subst hv
    cases e
    refine ⟨?_, by omega⟩
    by_cases h0 : 0 < l
    · simp only [h0, decide_true, if_true]; rwa [show ((l.natAbs : Nat) : Int) = l by omega]
    · simp only [h0, decide_false, Bool.false_eq_true, if_false]; rwa [show -((l.natAbs : Nat) : Int) = l by omega]
  · exact h.2 v ha x e
theorem Snd.fail {F : Fm} {a b : As} (h : Snd F a b) {n : Nat} (hF : okF n F) {c : Cl} (hc : c ∈ F) (hv : ∀ l ∈ c, lv b l = some false) : PR F a none := ⟨c, hc, fun l hl => h.neg (hF c hc l hl).1 (hv l hl)⟩
theorem Snd.done {F : Fm} {a b : As} (h : Snd F a b) (hf : Fix F b) : PR F a (some b) := ⟨h.1, h.2, hf⟩

/-- a clause that asks for nothing -/
def okc (b : As) (c : Cl) : Prop := (∃ l ∈ c, lv b l = some true) ∨ ∃ l ∈ c, ∃ m ∈ c, l ≠ m ∧ lv b l = none ∧ lv b m = none

theorem okc.put {b : As} {c : Cl} (h : okc b c) {l : Int} (hl : l ≠ 0) (hn : lv b l = none) (hc : ∀ m ∈ c, m ≠ 0) : okc (put b l) c ∨ -l ∈ c := by
  by_cases hx : -l ∈ c
  · exact .inr hx
  left
  have keep : ∀ m ∈ c, m ≠ l → lv b m = none → lv (Sat.put b l) m = none := fun m hm hne e => by
    cases e2 : lv (Sat.put b l) m with
    | none => rfl
    | some x =>
      rcases lv_put_cases hl e2 (hc m hm) with h1 | ⟨h1, _⟩ | ⟨h1, _⟩
      · rw [e] at h1; cases h1
      · exact absurd h1 hne
      · exact absurd (h1 ▸ hm) hx
  rcases h with ⟨m, h1, h2⟩ | ⟨m, h1, k, h2, h3, h4, h5⟩
  · exact .inl ⟨m, h1, (le_put hn).lv h2⟩
  · by_cases e1 : m = l
    · exact .inl ⟨m, h1, by rw [e1]; exact lv_put hl⟩
    · by_cases e2 : k = l
      · exact .inl ⟨k, h2, by rw [e2]; exact lv_put hl⟩
      · exact .inr ⟨m, h1, k, h2, h3, keep m h1 e1 h4, keep k h2 e2 h5⟩
theorem okc_put_self {b : As} {c : Cl} {l : Int} (hl : l ≠ 0) (h : l ∈ c) : okc (put b l) c := .inl ⟨l, h, lv_put hl⟩

/-- what a clause asks for: (0, true) nothing; (l, true) the literal l; (0, false): it is violated -/
def examF (b : As) : Cl → Int → Int × Bool
  | [], u => (u, decide (u ≠ 0))
  | l :: c, u => match lv b l with
    | some true => (0, true)
    | some false => examF b c u
    | none => if u ≠ 0 ∧ u ≠ l then (0, true) else examF b c l
def exam (b : As) (c : Cl) : Int × Bool := examF b c 0

theorem examF_spec (b : As) (c0 : Cl) (h0 : ∀ m ∈ c0, m ≠ 0) : ∀ (c p : Cl) (u : Int), c0 = p ++ c → ((u = 0 ∧ ∀ m ∈ p, lv b m = some false) ∨ (u ∈ p ∧ lv b u = none ∧ ∀ m ∈ p, m ≠ u → lv b m = some false)) →
    (examF b c u = (0, true) ∧ okc b c0) ∨ (∃ l ∈ c0, examF b c u = (l, true) ∧ lv b l = none ∧ ∀ m ∈ c0, m ≠ l → lv b m = some false) ∨ (examF b c u = (0, false) ∧ ∀ m ∈ c0, lv b m = some false)
  | [], p, u, e, h => by
    simp at e; subst e
    rcases h with ⟨rfl, h⟩ | ⟨h1, h2, h3⟩
    · exact .inr (.inr ⟨rfl, h⟩)
    · exact .inr (.inl ⟨u, h1, by simp [examF, h0 u h1], h2, h3⟩)
  | l :: c, p, u, e, h => by
    have hl : l ∈ c0 := by rw [e]; simp
    have e' : c0 = (p ++ [l]) ++ c := by rw [e]; simp
    unfold examF
    cases hv : lv b l with
    | some x =>
      cases x with
      | true => exact .inl ⟨rfl, .inl ⟨l, hl, hv⟩⟩
      | false =>
        refine examF_spec b c0 h0 c (p ++ [l]) u e' ?_
        rcases h with ⟨rfl, h⟩ | ⟨h1, h2, h3⟩
        · refine .inl ⟨rfl, fun m hm => ?_⟩
          rcases List.mem_append.1 hm with hm | hm
          · exact h m hm
          · rw [List.mem_singleton.1 hm]; exact hv
        · refine .inr ⟨by simp [h1], h2, fun m hm hne => ?_⟩
          rcases List.mem_append.1 hm with hm | hm
          · exact h3 m hm hne
          · rw [List.mem_singleton.1 hm]; exact hv
    | none =>
      dsimp only
      split
      · rename_i hu
        rcases h with ⟨rfl, h⟩ | ⟨h1, h2, h3⟩
        · exact absurd rfl hu.1
        · exact .inl ⟨rfl, .inr ⟨u, by rw [e]; simp [h1], l, hl, hu.2, h2, hv⟩⟩
      · rename_i hu
        refine examF_spec b c0 h0 c (p ++ [l]) l e' (.inr ⟨by simp, hv, fun m hm hne => ?_⟩)
        rcases h with ⟨rfl, h⟩ | ⟨h1, h2, h3⟩
        · rcases List.mem_append.1 hm with hm | hm
          · exact h m hm
          · exact absurd (List.mem_singleton.1 hm) hne
        · have hul : u = l := by
            by_cases e : u = l
            · exact e
            · exact absurd ⟨h0 u (by rw [‹c0 = p ++ l :: c›]; simp [h1]), e⟩ hu
          rcases List.mem_append.1 hm with hm | hm
          · exact h3 m hm (by rw [hul]; exact hne)
          · exact absurd (List.mem_singleton.1 hm) hne

theorem exam_spec (b : As) (c : Cl) (h0 : ∀ m ∈ c, m ≠ 0) :
    (exam b c = (0, true) ∧ okc b c) ∨ (∃ l ∈ c, exam b c = (l, true) ∧ lv b l = none ∧ ∀ m ∈ c, m ≠ l → lv b m = some false) ∨ (exam b c = (0, false) ∧ ∀ m ∈ c, lv b m = some false) :=
  examF_spec b c h0 c [] 0 rfl (.inl ⟨rfl, fun m hm => absurd hm List.not_mem_nil⟩)

/-! ### the search -/
inductive Out
  | unk
  | sat (b : As)
  | uns
def satF (F : Fm) (b : As) : Prop := ∀ c ∈ F, ∃ l ∈ c, lv b l = some true
def Least (n : Nat) (b : As) (v : Nat) : Prop := (1 ≤ v ∧ v ≤ n) ∧ b v = none ∧ ∀ u, 1 ≤ u → u < v → b u ≠ none
theorem Least.unique {n : Nat} {b : As} {v u : Nat} (h : Least n b v) (k : Least n b u) : v = u := by
  rcases Nat.lt_trichotomy v u with e | e | e
  · exact absurd h.2.1 (k.2.2 v h.1.1 e)
  · exact e
  · exact absurd k.2.1 (h.2.2 u k.1.1 e)

inductive Reach (F : Fm) (n : Nat) (bud : Int) : As → List (Nat × As) → Int → Out → Prop
  | uns {a : As} {k : Int} : PR F a none → Reach F n bud a [] k .uns
  | back {a A : As} {L : List (Nat × As)} {k : Int} {v : Nat} {r : Out} : PR F a none → Reach F n bud (put A (-(v : Int))) L k r → Reach F n bud a ((v, A) :: L) k r
  | sat {a b : As} {L : List (Nat × As)} {k : Int} : PR F a (some b) → satF F b → Reach F n bud a L k (.sat b)
  | unk {a b : As} {L : List (Nat × As)} {k : Int} : PR F a (some b) → ¬ satF F b → k = bud → Reach F n bud a L k .unk
  | dec {a b : As} {L : List (Nat × As)} {k : Int} {v : Nat} {r : Out} : PR F a (some b) → ¬ satF F b → k ≠ bud → Least n b v → Reach F n bud (put b (v : Int)) ((v, b) :: L) (k + 1) r → Reach F n bud a L k r

theorem Reach.unique {F : Fm} {n : Nat} (hF : okF n F) {bud : Int} {a : As} {L : List (Nat × As)} {k : Int} {r s : Out} (h : Reach F n bud a L k r) : Reach F n bud a L k s → r = s := by
  induction h with
  | uns h => intro g; cases g with
    | uns => rfl
    | sat k1 => exact absurd (PR.unique hF h k1) (by simp)
    | unk k1 => exact absurd (PR.unique hF h k1) (by simp)
    | dec k1 => exact absurd (PR.unique hF h k1) (by simp)
  | back h _ ih => intro g; cases g with
    | back _ g => exact ih g
    | sat k1 => exact absurd (PR.unique hF h k1) (by simp)
    | unk k1 => exact absurd (PR.unique hF h k1) (by simp)
    | dec k1 => exact absurd (PR.unique hF h k1) (by simp)
  | sat h h2 => intro g; cases g with
    | uns k1 => exact absurd (PR.unique hF h k1) (by simp)
    | back k1 => exact absurd (PR.unique hF h k1) (by simp)
    | sat k1 => cases PR.unique hF h k1; rfl
    | unk k1 k2 => cases PR.unique hF h k1; exact absurd h2 k2
    | dec k1 k2 => cases PR.unique hF h k1; exact absurd h2 k2
  | unk h h2 h3 => intro g; cases g with
    | uns k1 => exact absurd (PR.unique hF h k1) (by simp)
    | back k1 => exact absurd (PR.unique hF h k1) (by simp)
    | sat k1 k2 => cases PR.unique hF h k1; exact absurd k2 h2
    | unk => rfl
    | dec k1 k2 k3 => exact absurd h3 k3
  | dec h h2 h3 h4 _ ih => intro g; cases g with
    | uns k1 => exact absurd (PR.unique hF h k1) (by simp)
    | back k1 => exact absurd (PR.unique hF h k1) (by simp)
    | sat k1 k2 => cases PR.unique hF h k1; exact absurd k2 h2
    | unk k1 k2 k3 => exact absurd k3 h3
    | dec k1 k2 k3 k4 g => cases PR.unique hF h k1; cases h4.unique k4; exact ih g

/-- how many variables have no value -/
def cnt (n : Nat) (a : As) : Nat := ((List.range n).filter fun i => (a (i + 1)).isNone).length
theorem cnt_le {a b : As} (h : le a b) (n : Nat) : cnt n b ≤ cnt n a := by
  unfold cnt
  induction n with
  | zero => simp
  | succ n ih =>
    rw [List.range_succ, List.filter_append, List.filter_append, List.length_append, List.length_append]
    have : ([n].filter fun i => (b (i + 1)).isNone).length ≤ ([n].filter fun i => (a (i + 1)).isNone).length := by
      simp only [List.filter_cons, List.filter_nil]
      cases ha : a (n + 1) with
      | none => simp; split <;> simp
      | some x => rw [h _ _ ha]; simp
    omega
theorem cnt_put {a : As} {n : Nat} {l : Int} (hl : okL n l) (h : lv a l = none) : cnt n (put a l) + 1 = cnt n a := by
  have hv : a l.natAbs = none := by
    rw [lv_abs] at h
    split at h
    · exact h
    · cases e : a l.natAbs with
      | none => rfl
      | some x => rw [e] at h; cases h
  have key : ∀ m : Nat, cnt m (put a l) + (if 0 < l.natAbs ∧ l.natAbs ≤ m then 1 else 0) = cnt m a := by
    intro m
    unfold cnt
    induction m with
    | zero => simp
    | succ m ih =>
      rw [List.range_succ, List.filter_append, List.filter_append, List.length_append, List.length_append]
      by_cases e : m + 1 = l.natAbs
      · have e1 : ([m].filter fun i => ((put a l) (i + 1)).isNone).length = 0 := by simp [put, e]
        have e2 : ([m].filter fun i => (a (i + 1)).isNone).length = 1 := by simp [e, hv]
        rw [if_neg (by omega)] at ih
        rw [if_pos (by omega), e1, e2]; omega
      · have e1 : ([m].filter fun i => ((put a l) (i + 1)).isNone) = ([m].filter fun i => (a (i + 1)).isNone) := by simp [put, e, List.filter_cons]
        rw [e1]
        split at ih <;> split <;> omega
  have := key n
  rw [if_pos (by have := hl.1; have := hl.2; omega)] at this
  exact this

def meas (n : Nat) (a : As) (L : List (Nat × As)) : Nat := (2 ^ (cnt n a + 1) - 1) + (L.map fun p => 2 ^ (cnt n p.2) - 1).sum
def okS (n : Nat) (L : List (Nat × As)) : Prop := ∀ p ∈ L, (1 ≤ p.1 ∧ p.1 ≤ n) ∧ p.2 p.1 = none

theorem lv_pos (a : As) {v : Nat} (hv : 1 ≤ v) : lv a (v : Int) = a v := by unfold lv; rw [if_pos (by omega)]; rfl
theorem lv_negv (a : As) (v : Nat) : lv a (-(v : Int)) = (a v).map (!·) := by unfold lv; rw [if_neg (by omega), Int.neg_neg]; rfl
theorem meas_back {n : Nat} {a A : As} {v : Nat} {L : List (Nat × As)} (h : okS n ((v, A) :: L)) : meas n (put A (-(v : Int))) L < meas n a ((v, A) :: L) := by
  obtain ⟨⟨h1, h2⟩, h3⟩ := h (v, A) (by simp)
  dsimp only at h1 h2 h3
  have hc := cnt_put (a := A) (n := n) (l := -(v : Int)) ⟨by omega, by omega, by omega⟩ (by rw [lv_negv, h3]; rfl)
  unfold meas
  simp only [List.map_cons, List.sum_cons]
  rw [hc]
  have := Nat.one_le_two_pow (n := cnt n a)
  have e : 2 ^ (cnt n a + 1) = 2 ^ cnt n a + 2 ^ cnt n a := by rw [Nat.pow_succ]; omega
  omega
theorem meas_dec {n : Nat} {a b : As} {v : Nat} {L : List (Nat × As)} (hab : le a b) (h : Least n b v) : meas n (put b (v : Int)) ((v, b) :: L) < meas n a L := by
  obtain ⟨⟨h1, h2⟩, h3, _⟩ := h
  have hc := cnt_put (a := b) (n := n) (l := (v : Int)) ⟨by omega, by omega, by omega⟩ (by rw [lv_pos _ h1]; exact h3)
  have hle := cnt_le hab n
  unfold meas
  simp only [List.map_cons, List.sum_cons]
  rw [hc]
  have h4 : 2 ^ (cnt n b) ≤ 2 ^ (cnt n a) := Nat.pow_le_pow_right (by decide) hle
  have := Nat.one_le_two_pow (n := cnt n b)
  have e : 2 ^ (cnt n a + 1) = 2 ^ cnt n a + 2 ^ cnt n a := by rw [Nat.pow_succ]; omega
  omega
end Go.Z.Sat
/- Chapter 37: formulas, and their checks. Conditions: none. -/
namespace Go.Proofs.YtopgbgnmjogeeaaGreatDoor
set_option maxRecDepth 8000
set_option linter.unusedVariables false
set_option linter.unusedSimpArgs false
set_option linter.unusedSectionVars false
open Go Go.Z Go.Z.Sat


/-- the clauses of a formula, which nobody writes -/
structure FmR (ρ : Nat → Obj → Prop) (ca : Option Addr) (F : Fm) : Prop where
  rows : RSl2 ρ ca (F.map fun c => c.map encI)
  len : F.length ≤ 9223372036854775806
  lens : ∀ c ∈ F, c.length ≤ 9223372036854775807
  lits : ∀ c ∈ F, ∀ x ∈ c, I64 x
theorem FmR.mono {ρ ρ' : Nat → Obj → Prop} {ca : Option Addr} {F : Fm} (h : FmR ρ ca F) (s : ∀ b o, ρ b o → ρ' b o) : FmR ρ' ca F := ⟨h.rows.mono s, h.len, h.lens, h.lits⟩
theorem FmR.at {ρ : Nat → Obj → Prop} {ca : Option Addr} {F : Fm} (h : FmR ρ ca F) (h0 : 0 < F.length) :
    ∃ b off cs T fz, ca = some ⟨b, off, none⟩ ∧ ρ b (.cells (cs : List Value).toArray T fz) ∧ ∀ j (hj : j < F.length), ∃ ai ci, cs[off + j * 1]? = some (.slice ai F[j].length ci) ∧ RSl ρ 1 ai F[j].length (F[j].map encI) := by
  obtain ⟨b, off, cs, T, fz, r1, r2, r3⟩ := h.rows.at (by simpa using h0)
  refine ⟨b, off, cs, T, fz, r1, r2, fun j hj => ?_⟩
  obtain ⟨ai, ci, e1, e2⟩ := r3 j (by simpa using hj)
  rw [List.getElem_map, List.length_map] at e1 e2
  exact ⟨ai, ci, by rw [Nat.mul_one]; exact e1, e2⟩

theorem flat2 {cs xs : List Value} {o i : Nat} {v : Value} (h : ∀ j v, xs[j]? = some v → cs[o + j]? = some v) (hv : xs[i]? = some v) {j : Nat} (hj : j = o + i * 1) : cs[j]? = some v := by
  subst hj; rw [Nat.mul_one]; exact h i v hv
theorem own_at {cur xs : List Value} {N k i : Nat} {v : Value} (h : cur.take (N * 1) = xs) (hi : i = 0 + k * 1) (hv : xs[k]? = some v) : cur[i]? = some v := by
  subst hi
  rw [← h, List.getElem?_take] at hv
  split at hv
  · simpa using hv
  · cases hv
theorem mapI (c : List Int) {k : Nat} (hk : k < c.length) : (c.map encI)[k]? = some (encI c[k]) := by simp [List.getElem?_eq_getElem hk]

def okB (n x : Int) : Bool := !(decide (x = 0) || (decide (n < x) || decide (x < -n)))
def allB (n : Int) (F : Fm) : Bool := F.all fun c => c.all (okB n)
def check1 (n : Int) (F : Fm) : Int := if 262144 < n then 3 else if n < 0 then 14 else if allB n F then 0 else 14
theorem allB_no {n : Int} {F : Fm} {i j : Nat} (hi : i < F.length) (hj : j < F[i].length) (h : okB n F[i][j] = false) : allB n F = false := by
  unfold allB
  rw [← Bool.not_eq_true, List.all_eq_true]
  intro hh
  have := List.all_eq_true.1 (hh F[i] (List.getElem_mem hi)) F[i][j] (List.getElem_mem hj)
  rw [h] at this; cases this
theorem take_all {α : Type} (p : α → Bool) (l : List α) (k : Nat) (hk : k < l.length) (h : (l.take k).all p = true) (h2 : p l[k] = true) : (l.take (k + 1)).all p = true := by
  rw [List.take_add_one, List.getElem?_eq_getElem hk, Option.toList_some, List.all_append, h]; simp [h2]

theorem check_ok {ρ : Nat → Obj → Prop} (n : Int) (hn : I64 n) (ca : Option Addr) (cc : Nat) (F : Fm) (hF : FmR ρ ca F) : Con Tryz.prog ρ 19 #[.agg #[.int .i64 n, .slice ca F.length cc]] [] (fun v H => v = .int .i64 (check1 n F) ∧ H = []) := by
  have hlen := hF.len
  unfold I64 at hn
  refine con_intro Tryz.func19 Tryz.call19 rfl Tryz.ntmps19 rfl (L := [(0, _)]) rfl fun w hh => ?_
  refine g_seq ?_
  refine g_region ?_
  refine g_eff (e_box rfl (by rfl)) rfl (fun _ _ => ?_)
  rintro ⟨b1, rfl, rfl⟩
  refine g_pure (p_assign rfl) rfl ?_
  refine g_nil ?_
  refine g_qt ?_
  refine g_seq ?_
  refine g_seq ?_
  refine g_region ?_
  refine g_pure (p_fieldAddr rfl) rfl ?_
  refine g_pure (p_load (by rfl) rfl (by first | (apply Has.own; (repeat' (first | exact Take.here | apply Take.there)); done) | exact Has.ro (by assumption)) (by first | rfl | assumption)) rfl ?_
  refine g_pure (p_gtr rfl rfl) rfl ?_
  refine g_nil ?_
  refine g_qt ?_
  refine g_ifd rfl (fun h1 => ?_) (fun h1 => ?_)
  · refine g_seq ?_
    refine g_region ?_
    refine g_pure (p_assign rfl) rfl ?_
    refine g_nil ?_
    refine g_qt ?_
    refine g_ret ?_
    refine g_qt_ret ?_
    exact g_post (rs := [.tmp 2]) rfl (.tmp rfl .nil) ⟨by unfold check1; rw [if_pos h1]; rfl, rfl⟩ .nil
  · refine g_skip ?_
    refine g_qt ?_
    refine g_seq ?_
    refine g_seq ?_
    refine g_region ?_
    refine g_pure (p_fieldAddr rfl) rfl ?_
    refine g_pure (p_load (by rfl) rfl (by first | (apply Has.own; (repeat' (first | exact Take.here | apply Take.there)); done) | exact Has.ro (by assumption)) (by first | rfl | assumption)) rfl ?_
    refine g_pure (p_lss rfl rfl) rfl ?_
    refine g_nil ?_
    refine g_qt ?_
    refine g_ifd rfl (fun h2 => ?_) (fun h2 => ?_)
    · refine g_seq ?_
      refine g_region ?_
      refine g_pure (p_assign rfl) rfl ?_
      refine g_nil ?_
      refine g_qt ?_
      refine g_ret ?_
      refine g_qt_ret ?_
      exact g_post (rs := [.tmp 2]) rfl (.tmp rfl .nil) ⟨by unfold check1; rw [if_neg h1, if_pos h2]; rfl, rfl⟩ .nil
    · have e0 : check1 n F = if allB n F then 0 else 14 := by unfold check1; rw [if_neg h1, if_neg h2]
      refine g_skip ?_
      refine g_qt ?_
      refine g_seq ?_
      refine g_seq ?_
      refine g_region ?_
      refine g_pure (p_fieldAddr rfl) rfl ?_
      refine g_pure (p_load (by rfl) rfl (by first | (apply Has.own; (repeat' (first | exact Take.here | apply Take.there)); done) | exact Has.ro (by assumption)) (by first | rfl | assumption)) rfl ?_
      refine g_pure (p_len (by rfl) rfl) rfl ?_
      refine g_pure (p_move rfl) rfl ?_
      refine g_nil ?_
      refine g_qt ?_
      refine g_block ?_
      refine g_loop (fun i : Nat => [(1, .pointer (some ⟨b1, 0, none⟩)), (14, .slice ca F.length cc), (15, .int .i64 F.length), (16, .int .i64 i)])
        (fun _ => [Blk b1 (.cells [.int .i64 n, .slice ca F.length cc].toArray 30 (0, 0))]) (fun i => i ≤ F.length ∧ (F.take i).all (fun c => c.all (okB n)) = true) (fun i => F.length - i) 0 ⟨Nat.zero_le _, rfl⟩ (by (repeat (first | exact trivial | refine ⟨by rfl, ?_⟩)); done) (by repeat' (first | exact Cover.nil | exact Take.here | apply Cover.cons | apply Take.there)) ?_
      rintro i ⟨hi, hall⟩
      refine g_seq ?_
      refine g_region ?_
      refine g_pure (p_lss rfl rfl) rfl ?_
      refine g_nil ?_
      refine g_qt ?_
      refine g_seq ?_
      refine g_ifd rfl (fun q => ?_) (fun q => ?_)
      · have hil : i < F.length := by omega
        obtain ⟨b, off, cs, T, fz, r1, r2, r3⟩ := hF.at (by omega)
        obtain ⟨ai, ci, x1, _, bi, oi, ki, Ti, fi, r4⟩ := r3 i hil
        have hcl := hF.lens F[i] (List.getElem_mem hil)
        refine g_skip ?_
        refine g_qt ?_
        refine g_seq ?_
        refine g_block ?_
        refine g_seq ?_
        refine g_region ?_
        refine g_pure (p_indexAddr rfl rfl (by omega) (fun _ => r1)) rfl ?_
        refine g_pure (p_load (by rfl) rfl (Has.ro r2) x1) rfl ?_
        refine g_pure (p_assign rfl) rfl ?_
        refine g_nil ?_
        refine g_qt ?_
        refine g_seq ?_
        refine g_region ?_
        refine g_pure (p_move rfl) rfl ?_
        refine g_pure (p_len (by rfl) rfl) rfl ?_
        refine g_pure (p_move rfl) rfl ?_
        refine g_nil ?_
        refine g_qt ?_
        refine g_block ?_
        refine g_loop (fun j : Nat => [(1, .pointer (some ⟨b1, 0, none⟩)), (14, .slice ca F.length cc), (15, .int .i64 F.length), (16, .int .i64 i), (20, .slice ai F[i].length ci), (21, .int .i64 F[i].length), (22, .int .i64 j)])
          (fun _ => [Blk b1 (.cells [.int .i64 n, .slice ca F.length cc].toArray 30 (0, 0))]) (fun j => j ≤ F[i].length ∧ (F[i].take j).all (okB n) = true) (fun j => F[i].length - j) 0 ⟨Nat.zero_le _, rfl⟩ (by (repeat (first | exact trivial | refine ⟨by rfl, ?_⟩)); done) (by repeat' (first | exact Cover.nil | exact Take.here | apply Cover.cons | apply Take.there)) ?_
        rintro j ⟨hj, hall2⟩
        refine g_seq ?_
        refine g_region ?_
        refine g_pure (p_lss rfl rfl) rfl ?_
        refine g_nil ?_
        refine g_qt ?_
        refine g_seq ?_
        refine g_ifd rfl (fun s => ?_) (fun s => ?_)
        · have hjl : j < F[i].length := by omega
          obtain ⟨r5, r6, r7⟩ := r4 (by omega)
          have x2 : ki[oi + (j : Int).toNat * 1]? = some (encI F[i][j]) := flat2 r7 (i := j) (mapI _ hjl) (by simp)
          have hI := hF.lits F[i] (List.getElem_mem hil) F[i][j] (List.getElem_mem hjl)
          refine g_skip ?_
          refine g_qt ?_
          refine g_seq ?_
          refine g_block ?_
          refine g_seq ?_
          refine g_region ?_
          refine g_pure (p_indexAddr rfl rfl (by omega) (fun _ => r5)) rfl ?_
          refine g_pure (p_load (by rfl) rfl (Has.ro r6) x2) rfl ?_
          refine g_pure (p_assign rfl) rfl ?_
          refine g_nil ?_
          refine g_qt ?_
          refine g_seq ?_
          refine g_region ?_
          refine g_pure (p_move rfl) rfl ?_
          refine g_pure (p_eql rfl rfl) rfl ?_
          refine g_pure (p_move rfl) rfl ?_
          refine g_splitd rfl rfl (fun y1 => ?_) (fun y1 => ?_)
          · refine g_no rfl rfl rfl rfl ?_
            refine g_no rfl rfl rfl rfl ?_
            refine g_no rfl rfl rfl rfl ?_
            refine g_no rfl rfl rfl rfl ?_
            first | refine g_pure (p_pickt rfl rfl) rfl ?_ | refine g_pure (p_pickf rfl rfl) rfl ?_
            refine g_pure (p_move rfl) rfl ?_
            refine g_no rfl rfl rfl rfl ?_
            refine g_no rfl rfl rfl rfl ?_
            refine g_no rfl rfl rfl rfl ?_
            refine g_no rfl rfl rfl rfl ?_
            refine g_no rfl rfl rfl rfl ?_
            first | refine g_pure (p_pickt rfl rfl) rfl ?_ | refine g_pure (p_pickf rfl rfl) rfl ?_
            refine g_nil ?_
            refine g_qt ?_
            refine g_ift rfl ?_
            refine g_seq ?_
            refine g_region ?_
            refine g_pure (p_assign rfl) rfl ?_
            refine g_nil ?_
            refine g_qt ?_
            refine g_ret ?_
            refine g_qb_ret ?_
            refine g_qt_ret ?_
            refine g_qn_ret ?_
            refine g_qb_ret ?_
            refine g_qb_ret ?_
            refine g_qt_ret ?_
            refine g_qn_ret ?_
            refine g_qb_ret ?_
            refine g_qt_ret ?_
            have e : check1 n F = 14 := by rw [e0, allB_no hil hjl (by simp [okB, y1])]; rfl
            exact g_post (rs := [.tmp 2]) rfl (.tmp rfl .nil) ⟨by rw [e]; rfl, rfl⟩ .nil
          · refine g_yes rfl rfl ?_
            refine g_pure (p_move rfl) rfl ?_
            refine g_yes rfl rfl ?_
            refine g_pure (p_fieldAddr rfl) rfl ?_
            refine g_yes rfl rfl ?_
            refine g_pure (p_load (by rfl) rfl (by first | (apply Has.own; (repeat' (first | exact Take.here | apply Take.there)); done) | exact Has.ro (by assumption)) (by first | rfl | assumption)) rfl ?_
            refine g_yes rfl rfl ?_
            refine g_pure (p_gtr rfl rfl) rfl ?_
            first | refine g_pure (p_pickt rfl rfl) rfl ?_ | refine g_pure (p_pickf rfl rfl) rfl ?_
            refine g_pure (p_move rfl) rfl ?_
            refine g_splitd rfl rfl (fun y2 => ?_) (fun y2 => ?_)
            · refine g_no rfl rfl rfl rfl ?_
              refine g_no rfl rfl rfl rfl ?_
              refine g_no rfl rfl rfl rfl ?_
              refine g_no rfl rfl rfl rfl ?_
              refine g_no rfl rfl rfl rfl ?_
              first | refine g_pure (p_pickt rfl rfl) rfl ?_ | refine g_pure (p_pickf rfl rfl) rfl ?_
              refine g_nil ?_
              refine g_qt ?_
              refine g_ift rfl ?_
              refine g_seq ?_
              refine g_region ?_
              refine g_pure (p_assign rfl) rfl ?_
              refine g_nil ?_
              refine g_qt ?_
              refine g_ret ?_
              refine g_qb_ret ?_
              refine g_qt_ret ?_
              refine g_qn_ret ?_
              refine g_qb_ret ?_
              refine g_qb_ret ?_
              refine g_qt_ret ?_
              refine g_qn_ret ?_
              refine g_qb_ret ?_
              refine g_qt_ret ?_
              have e : check1 n F = 14 := by rw [e0, allB_no hil hjl (by simp [okB, y2])]; rfl
              exact g_post (rs := [.tmp 2]) rfl (.tmp rfl .nil) ⟨by rw [e]; rfl, rfl⟩ .nil
            · refine g_yes rfl rfl ?_
              refine g_pure (p_move rfl) rfl ?_
              refine g_yes rfl rfl ?_
              refine g_pure (p_fieldAddr rfl) rfl ?_
              refine g_yes rfl rfl ?_
              refine g_pure (p_load (by rfl) rfl (by first | (apply Has.own; (repeat' (first | exact Take.here | apply Take.there)); done) | exact Has.ro (by assumption)) (by first | rfl | assumption)) rfl ?_
              refine g_yes rfl rfl ?_
              first | refine g_pure (p_negi rfl (by omega)) rfl ?_ | refine g_pure (p_neg rfl) rfl ?_
              refine g_yes rfl rfl ?_
              refine g_pure (p_lss rfl rfl) rfl ?_
              first | refine g_pure (p_pickt rfl rfl) rfl ?_ | refine g_pure (p_pickf rfl rfl) rfl ?_
              refine g_nil ?_
              refine g_qt ?_
              refine g_ifd rfl (fun y3 => ?_) (fun y3 => ?_)
              · refine g_seq ?_
                refine g_region ?_
                refine g_pure (p_assign rfl) rfl ?_
                refine g_nil ?_
                refine g_qt ?_
                refine g_ret ?_
                refine g_qb_ret ?_
                refine g_qt_ret ?_
                refine g_qn_ret ?_
                refine g_qb_ret ?_
                refine g_qb_ret ?_
                refine g_qt_ret ?_
                refine g_qn_ret ?_
                refine g_qb_ret ?_
                refine g_qt_ret ?_
                have e : check1 n F = 14 := by rw [e0, allB_no hil hjl (by simp [okB, y3])]; rfl
                exact g_post (rs := [.tmp 2]) rfl (.tmp rfl .nil) ⟨by rw [e]; rfl, rfl⟩ .nil
              · refine g_skip ?_
                refine g_qb ?_
                refine g_qt ?_
                refine g_region ?_
                first | refine g_pure (p_addi rfl rfl (by omega)) rfl ?_ | refine g_pure (p_add rfl rfl) rfl ?_
                refine g_pure (p_move rfl) rfl ?_
                refine g_nil ?_
                refine g_qn ?_
                exact g_next (j + 1) (by (repeat (first | exact trivial | refine ⟨by rfl, ?_⟩)); done) (by repeat' (first | exact Cover.nil | exact Take.here | apply Cover.cons | apply Take.there)) ⟨by omega, take_all _ _ _ hjl hall2 (by simp [okB, y1, y2, y3])⟩ (by omega)
        · have hje : j = F[i].length := by omega
          rw [hje, List.take_length] at hall2
          refine g_exit ?_
          refine g_qt_exit ?_
          refine g_qn_exit ?_
          refine g_qb_exit ?_
          refine g_qb ?_
          refine g_qt ?_
          refine g_region ?_
          first | refine g_pure (p_addi rfl rfl (by omega)) rfl ?_ | refine g_pure (p_add rfl rfl) rfl ?_
          refine g_pure (p_move rfl) rfl ?_
          refine g_nil ?_
          refine g_qn ?_
          exact g_next (i + 1) (by (repeat (first | exact trivial | refine ⟨by rfl, ?_⟩)); done) (by repeat' (first | exact Cover.nil | exact Take.here | apply Cover.cons | apply Take.there)) ⟨by omega, take_all _ _ _ hil hall hall2⟩ (by omega)
      · have hie : i = F.length := by omega
        rw [hie, List.take_length] at hall
        have e : check1 n F = 0 := by rw [e0, show allB n F = true from hall]; rfl
        refine g_exit ?_
        refine g_qt_exit ?_
        refine g_qn_exit ?_
        refine g_qb_exit ?_
        refine g_qt ?_
        refine g_seq ?_
        refine g_region ?_
        refine g_pure (p_assign rfl) rfl ?_
        refine g_nil ?_
        refine g_qt ?_
        refine g_ret ?_
        exact g_post (rs := [.tmp 2]) rfl (.tmp rfl .nil) ⟨by rw [e]; rfl, rfl⟩ .nil
end Go.Proofs.YtopgbgnmjogeeaaGreatDoor
/- Chapter 37: the document's check of formulas. Conditions: none. -/
namespace Go.Proofs.YtopgbgnmjogeeaaGreatDoor
set_option maxRecDepth 8000
set_option linter.unusedVariables false
set_option linter.unusedSimpArgs false
set_option linter.unusedSectionVars false
open Go Go.Z Go.Z.Sat

theorem rcheck_ok {ρ : Nat → Obj → Prop} (n : Int) (hn : I64 n) (ca : Option Addr) (cc : Nat) (F : Fm) (hF : FmR ρ ca F) : Con Tryz.prog ρ 20 #[.agg #[.int .i64 n, .slice ca F.length cc]] [] (fun v H => v = .int .i64 (check1 n F) ∧ H = []) := by
  have hlen := hF.len
  unfold I64 at hn
  refine con_intro Tryz.func20 Tryz.call20 rfl Tryz.ntmps20 rfl (L := [(0, _)]) rfl fun w hh => ?_
  refine g_seq ?_
  refine g_region ?_
  refine g_eff (e_box rfl (by rfl)) rfl (fun _ _ => ?_)
  rintro ⟨b1, rfl, rfl⟩
  refine g_pure (p_assign rfl) rfl ?_
  refine g_nil ?_
  refine g_qt ?_
  refine g_seq ?_
  refine g_seq ?_
  refine g_region ?_
  refine g_pure (p_fieldAddr rfl) rfl ?_
  refine g_pure (p_load (by rfl) rfl (by first | (apply Has.own; (repeat' (first | exact Take.here | apply Take.there)); done) | exact Has.ro (by assumption)) (by first | rfl | assumption)) rfl ?_
  refine g_pure (p_gtr rfl rfl) rfl ?_
  refine g_nil ?_
  refine g_qt ?_
  refine g_ifd rfl (fun h1 => ?_) (fun h1 => ?_)
  · refine g_seq ?_
    refine g_region ?_
    refine g_pure (p_assign rfl) rfl ?_
    refine g_nil ?_
    refine g_qt ?_
    refine g_ret ?_
    refine g_qt_ret ?_
    exact g_post (rs := [.tmp 2]) rfl (.tmp rfl .nil) ⟨by unfold check1; rw [if_pos h1]; rfl, rfl⟩ .nil
  · refine g_skip ?_
    refine g_qt ?_
    refine g_seq ?_
    refine g_seq ?_
    refine g_region ?_
    refine g_pure (p_fieldAddr rfl) rfl ?_
    refine g_pure (p_load (by rfl) rfl (by first | (apply Has.own; (repeat' (first | exact Take.here | apply Take.there)); done) | exact Has.ro (by assumption)) (by first | rfl | assumption)) rfl ?_
    refine g_pure (p_lss rfl rfl) rfl ?_
    refine g_nil ?_
    refine g_qt ?_
    refine g_ifd rfl (fun h2 => ?_) (fun h2 => ?_)
    · refine g_seq ?_
      refine g_region ?_
      refine g_pure (p_assign rfl) rfl ?_
      refine g_nil ?_
      refine g_qt ?_
      refine g_ret ?_
      refine g_qt_ret ?_
      exact g_post (rs := [.tmp 2]) rfl (.tmp rfl .nil) ⟨by unfold check1; rw [if_neg h1, if_pos h2]; rfl, rfl⟩ .nil
    · have e0 : check1 n F = if allB n F then 0 else 14 := by unfold check1; rw [if_neg h1, if_neg h2]
      refine g_skip ?_
      refine g_qt ?_
      refine g_seq ?_
      refine g_seq ?_
      refine g_region ?_
      refine g_pure (p_assign rfl) rfl ?_
      refine g_nil ?_
      refine g_qt ?_
      refine g_block ?_
      refine g_loop (fun i : Nat => [(1, .pointer (some ⟨b1, 0, none⟩)), (3, .int .i64 i)])
        (fun _ => [Blk b1 (.cells [.int .i64 n, .slice ca F.length cc].toArray 30 (0, 0))]) (fun i => i ≤ F.length ∧ (F.take i).all (fun c => c.all (okB n)) = true) (fun i => F.length - i) 0 ⟨Nat.zero_le _, rfl⟩ (by (repeat (first | exact trivial | refine ⟨by rfl, ?_⟩)); done) (by repeat' (first | exact Cover.nil | exact Take.here | apply Cover.cons | apply Take.there)) ?_
      rintro i ⟨hi, hall⟩
      refine g_seq ?_
      refine g_seq ?_
      refine g_region ?_
      refine g_pure (p_move rfl) rfl ?_
      refine g_pure (p_fieldAddr rfl) rfl ?_
      refine g_pure (p_load (by rfl) rfl (by first | (apply Has.own; (repeat' (first | exact Take.here | apply Take.there)); done) | exact Has.ro (by assumption)) (by first | rfl | assumption)) rfl ?_
      refine g_pure (p_len (by rfl) rfl) rfl ?_
      refine g_pure (p_lss rfl rfl) rfl ?_
      refine g_nil ?_
      refine g_qt ?_
      refine g_ifd rfl (fun q => ?_) (fun q => ?_)
      · have hil : i < F.length := by omega
        obtain ⟨b, off, cs, T, fz, r1, r2, r3⟩ := hF.at (by omega)
        obtain ⟨ai, ci, x1', _, bi, oi, ki, Ti, fi, r4⟩ := r3 i hil
        have x1 : cs[off + (i : Int).toNat * 1]? = some (.slice ai F[i].length ci) := x1'
        have hcl := hF.lens F[i] (List.getElem_mem hil)
        refine g_skip ?_
        refine g_qt ?_
        refine g_seq ?_
        refine g_block ?_
        refine g_seq ?_
        refine g_region ?_
        refine g_pure (p_assign rfl) rfl ?_
        refine g_nil ?_
        refine g_qt ?_
        refine g_block ?_
        refine g_loop (fun j : Nat => [(1, .pointer (some ⟨b1, 0, none⟩)), (3, .int .i64 i), (4, .int .i64 j)])
          (fun _ => [Blk b1 (.cells [.int .i64 n, .slice ca F.length cc].toArray 30 (0, 0))]) (fun j => j ≤ F[i].length ∧ (F[i].take j).all (okB n) = true) (fun j => F[i].length - j) 0 ⟨Nat.zero_le _, rfl⟩ (by (repeat (first | exact trivial | refine ⟨by rfl, ?_⟩)); done) (by repeat' (first | exact Cover.nil | exact Take.here | apply Cover.cons | apply Take.there)) ?_
        rintro j ⟨hj, hall2⟩
        refine g_seq ?_
        refine g_seq ?_
        refine g_region ?_
        refine g_pure (p_move rfl) rfl ?_
        refine g_pure (p_fieldAddr rfl) rfl ?_
        refine g_pure (p_load (by rfl) rfl (by first | (apply Has.own; (repeat' (first | exact Take.here | apply Take.there)); done) | exact Has.ro (by assumption)) (by first | rfl | assumption)) rfl ?_
        refine g_pure (p_move rfl) rfl ?_
        refine g_pure (p_indexAddr rfl rfl (by omega) (fun _ => r1)) rfl ?_
        refine g_pure (p_load (by rfl) rfl (Has.ro r2) x1) rfl ?_
        refine g_pure (p_len (by rfl) rfl) rfl ?_
        refine g_pure (p_lss rfl rfl) rfl ?_
        refine g_nil ?_
        refine g_qt ?_
        refine g_ifd rfl (fun s => ?_) (fun s => ?_)
        · have hjl : j < F[i].length := by omega
          obtain ⟨r5, r6, r7⟩ := r4 (by omega)
          have x2 : ki[oi + (j : Int).toNat * 1]? = some (encI F[i][j]) := flat2 r7 (i := j) (mapI _ hjl) (by simp)
          have hI := hF.lits F[i] (List.getElem_mem hil) F[i][j] (List.getElem_mem hjl)
          refine g_skip ?_
          refine g_qt ?_
          refine g_seq ?_
          refine g_block ?_
          refine g_seq ?_
          refine g_region ?_
          refine g_pure (p_fieldAddr rfl) rfl ?_
          refine g_pure (p_load (by rfl) rfl (by first | (apply Has.own; (repeat' (first | exact Take.here | apply Take.there)); done) | exact Has.ro (by assumption)) (by first | rfl | assumption)) rfl ?_
          refine g_pure (p_move rfl) rfl ?_
          refine g_pure (p_indexAddr rfl rfl (by omega) (fun _ => r1)) rfl ?_
          refine g_pure (p_load (by rfl) rfl (Has.ro r2) x1) rfl ?_
          refine g_pure (p_move rfl) rfl ?_
          refine g_pure (p_indexAddr rfl rfl (by omega) (fun _ => r5)) rfl ?_
          refine g_pure (p_load (by rfl) rfl (Has.ro r6) x2) rfl ?_
          refine g_pure (p_assign rfl) rfl ?_
          refine g_nil ?_
          refine g_qt ?_
          refine g_seq ?_
          refine g_region ?_
          refine g_pure (p_move rfl) rfl ?_
          refine g_pure (p_eql rfl rfl) rfl ?_
          refine g_pure (p_move rfl) rfl ?_
          refine g_splitd rfl rfl (fun y1 => ?_) (fun y1 => ?_)
          · refine g_no rfl rfl rfl rfl ?_
            refine g_no rfl rfl rfl rfl ?_
            refine g_no rfl rfl rfl rfl ?_
            refine g_no rfl rfl rfl rfl ?_
            first | refine g_pure (p_pickt rfl rfl) rfl ?_ | refine g_pure (p_pickf rfl rfl) rfl ?_
            refine g_pure (p_move rfl) rfl ?_
            refine g_no rfl rfl rfl rfl ?_
            refine g_no rfl rfl rfl rfl ?_
            refine g_no rfl rfl rfl rfl ?_
            refine g_no rfl rfl rfl rfl ?_
            refine g_no rfl rfl rfl rfl ?_
            first | refine g_pure (p_pickt rfl rfl) rfl ?_ | refine g_pure (p_pickf rfl rfl) rfl ?_
            refine g_nil ?_
            refine g_qt ?_
            refine g_ift rfl ?_
            refine g_seq ?_
            refine g_region ?_
            refine g_pure (p_assign rfl) rfl ?_
            refine g_nil ?_
            refine g_qt ?_
            refine g_ret ?_
            refine g_qb_ret ?_
            refine g_qt_ret ?_
            refine g_qn_ret ?_
            refine g_qb_ret ?_
            refine g_qb_ret ?_
            refine g_qt_ret ?_
            refine g_qn_ret ?_
            refine g_qb_ret ?_
            refine g_qt_ret ?_
            have e : check1 n F = 14 := by rw [e0, allB_no hil hjl (by simp [okB, y1])]; rfl
            exact g_post (rs := [.tmp 2]) rfl (.tmp rfl .nil) ⟨by rw [e]; rfl, rfl⟩ .nil
          · refine g_yes rfl rfl ?_
            refine g_pure (p_move rfl) rfl ?_
            refine g_yes rfl rfl ?_
            refine g_pure (p_fieldAddr rfl) rfl ?_
            refine g_yes rfl rfl ?_
            refine g_pure (p_load (by rfl) rfl (by first | (apply Has.own; (repeat' (first | exact Take.here | apply Take.there)); done) | exact Has.ro (by assumption)) (by first | rfl | assumption)) rfl ?_
            refine g_yes rfl rfl ?_
            refine g_pure (p_gtr rfl rfl) rfl ?_
            first | refine g_pure (p_pickt rfl rfl) rfl ?_ | refine g_pure (p_pickf rfl rfl) rfl ?_
            refine g_pure (p_move rfl) rfl ?_
            refine g_splitd rfl rfl (fun y2 => ?_) (fun y2 => ?_)
            · refine g_no rfl rfl rfl rfl ?_
              refine g_no rfl rfl rfl rfl ?_
              refine g_no rfl rfl rfl rfl ?_
              refine g_no rfl rfl rfl rfl ?_
              refine g_no rfl rfl rfl rfl ?_
              first | refine g_pure (p_pickt rfl rfl) rfl ?_ | refine g_pure (p_pickf rfl rfl) rfl ?_
              refine g_nil ?_
              refine g_qt ?_
              refine g_ift rfl ?_
              refine g_seq ?_
              refine g_region ?_
              refine g_pure (p_assign rfl) rfl ?_
              refine g_nil ?_
              refine g_qt ?_
              refine g_ret ?_
              refine g_qb_ret ?_
              refine g_qt_ret ?_
              refine g_qn_ret ?_
              refine g_qb_ret ?_
              refine g_qb_ret ?_
              refine g_qt_ret ?_
              refine g_qn_ret ?_
              refine g_qb_ret ?_
              refine g_qt_ret ?_
              have e : check1 n F = 14 := by rw [e0, allB_no hil hjl (by simp [okB, y2])]; rfl
              exact g_post (rs := [.tmp 2]) rfl (.tmp rfl .nil) ⟨by rw [e]; rfl, rfl⟩ .nil
            · refine g_yes rfl rfl ?_
              refine g_pure (p_move rfl) rfl ?_
              refine g_yes rfl rfl ?_
              refine g_pure (p_fieldAddr rfl) rfl ?_
              refine g_yes rfl rfl ?_
              refine g_pure (p_load (by rfl) rfl (by first | (apply Has.own; (repeat' (first | exact Take.here | apply Take.there)); done) | exact Has.ro (by assumption)) (by first | rfl | assumption)) rfl ?_
              refine g_yes rfl rfl ?_
              first | refine g_pure (p_negi rfl (by omega)) rfl ?_ | refine g_pure (p_neg rfl) rfl ?_
              refine g_yes rfl rfl ?_
              refine g_pure (p_lss rfl rfl) rfl ?_
              first | refine g_pure (p_pickt rfl rfl) rfl ?_ | refine g_pure (p_pickf rfl rfl) rfl ?_
              refine g_nil ?_
              refine g_qt ?_
              refine g_ifd rfl (fun y3 => ?_) (fun y3 => ?_)
              · refine g_seq ?_
                refine g_region ?_
                refine g_pure (p_assign rfl) rfl ?_
                refine g_nil ?_
                refine g_qt ?_
                refine g_ret ?_
                refine g_qb_ret ?_
                refine g_qt_ret ?_
                refine g_qn_ret ?_
                refine g_qb_ret ?_
                refine g_qb_ret ?_
                refine g_qt_ret ?_
                refine g_qn_ret ?_
                refine g_qb_ret ?_
                refine g_qt_ret ?_
                have e : check1 n F = 14 := by rw [e0, allB_no hil hjl (by simp [okB, y3])]; rfl
                exact g_post (rs := [.tmp 2]) rfl (.tmp rfl .nil) ⟨by rw [e]; rfl, rfl⟩ .nil
              · refine g_skip ?_
                refine g_qb ?_
                refine g_qt ?_
                refine g_region ?_
                refine g_pure (p_move rfl) rfl ?_
                first | refine g_pure (p_addi rfl rfl (by omega)) rfl ?_ | refine g_pure (p_add rfl rfl) rfl ?_
                refine g_pure (p_assign rfl) rfl ?_
                refine g_nil ?_
                refine g_qn ?_
                exact g_next (j + 1) (by (repeat (first | exact trivial | refine ⟨by rfl, ?_⟩)); done) (by repeat' (first | exact Cover.nil | exact Take.here | apply Cover.cons | apply Take.there)) ⟨by omega, take_all _ _ _ hjl hall2 (by simp [okB, y1, y2, y3])⟩ (by omega)
        · have hje : j = F[i].length := by omega
          rw [hje, List.take_length] at hall2
          refine g_exit ?_
          refine g_qt_exit ?_
          refine g_qn_exit ?_
          refine g_qb_exit ?_
          refine g_qb ?_
          refine g_qt ?_
          refine g_region ?_
          refine g_pure (p_move rfl) rfl ?_
          first | refine g_pure (p_addi rfl rfl (by omega)) rfl ?_ | refine g_pure (p_add rfl rfl) rfl ?_
          refine g_pure (p_assign rfl) rfl ?_
          refine g_nil ?_
          refine g_qn ?_
          exact g_next (i + 1) (by (repeat (first | exact trivial | refine ⟨by rfl, ?_⟩)); done) (by repeat' (first | exact Cover.nil | exact Take.here | apply Cover.cons | apply Take.there)) ⟨by omega, take_all _ _ _ hil hall hall2⟩ (by omega)
      · have hie : i = F.length := by omega
        rw [hie, List.take_length] at hall
        have e : check1 n F = 0 := by rw [e0, show allB n F = true from hall]; rfl
        refine g_exit ?_
        refine g_qt_exit ?_
        refine g_qn_exit ?_
        refine g_qb_exit ?_
        refine g_qt ?_
        refine g_seq ?_
        refine g_region ?_
        refine g_pure (p_assign rfl) rfl ?_
        refine g_nil ?_
        refine g_qt ?_
        refine g_ret ?_
        exact g_post (rs := [.tmp 2]) rfl (.tmp rfl .nil) ⟨by rw [e]; rfl, rfl⟩ .nil
end Go.Proofs.YtopgbgnmjogeeaaGreatDoor
/- Chapter 37: the solver's memory; values and clauses. Conditions: none. -/
namespace Go.Z.Sat
set_option maxRecDepth 8000
set_option linter.unusedVariables false
set_option linter.unusedSimpArgs false
set_option linter.unusedSectionVars false
open Go Go.Z
def vcode : Option Bool → Int
  | none => 0
  | some true => 1
  | some false => 2
def vcells (n : Nat) (a : As) : List Value := (List.range (n + 1)).map fun i => .int .i64 (vcode (a i))
theorem vcells_at {n : Nat} (a : As) {i : Nat} (h : i ≤ n) : (vcells n a)[i]? = some (.int .i64 (vcode (a i))) := by
  unfold vcells
  rw [List.getElem?_map, List.getElem?_range (by omega)]; rfl
theorem vcells_len (n : Nat) (a : As) : (vcells n a).length = n + 1 := by simp [vcells]
def uix (l : Int) : Int := if 0 < l then 2 * l else -2 * l + 1
def asg (T : List Int) : As := T.foldl put (fun _ => none)
def useRow (F : Fm) (k : Int) : List Nat := F.zipIdx.flatMap fun p => (p.1.filter fun x => decide (uix x = k)).map fun _ => p.2
def uses (n : Nat) (F : Fm) : List (List Nat) := (List.range (2 * n + 2)).map fun (k : Nat) => useRow F (k : Int)
def trues (F : Fm) (a : As) : List Nat := F.map fun c => c.countP fun l => decide (lv a l = some true)
end Go.Z.Sat
namespace Go.Proofs.YtopgbgnmjogeeaaGreatDoor
set_option maxRecDepth 8000
set_option linter.unusedVariables false
set_option linter.unusedSimpArgs false
set_option linter.unusedSectionVars false
open Go Go.Z Go.Z.Sat

def encN (i : Nat) : Value := .int .i64 i
/-- where the solver's parts are that do not change -/
structure Sp where
  n : Nat
  ca : Option Addr
  cc : Nat
  m : Nat
  ua : Option Addr
  uc : Nat
end Go.Proofs.YtopgbgnmjogeeaaGreatDoor
/- Chapter 37: what a clause asks for. Conditions: none. -/
namespace Go.Proofs.YtopgbgnmjogeeaaGreatDoor
set_option maxRecDepth 8000
set_option linter.unusedVariables false
set_option linter.unusedSimpArgs false
set_option linter.unusedSectionVars false
open Go Go.Z Go.Z.Sat

theorem examF_at (V : As) (c : Cl) {j : Nat} (hj : j < c.length) (u : Int) : examF V (c.drop j) u = (match lv V c[j] with
    | some true => (0, true)
    | some false => examF V (c.drop (j + 1)) u
    | none => if u ≠ 0 ∧ u ≠ c[j] then (0, true) else examF V (c.drop (j + 1)) c[j]) := by
  rw [List.drop_eq_getElem_cons hj]; rfl

end Go.Proofs.YtopgbgnmjogeeaaGreatDoor
/- Chapter 37: counts of true literals, plain. Conditions: none. -/
namespace Go.Z.Sat
set_option maxRecDepth 8000
set_option linter.unusedVariables false
set_option linter.unusedSimpArgs false
set_option linter.unusedSectionVars false
open Go Go.Z

theorem uix_inj {x l : Int} (hx : x ≠ 0) (hl : l ≠ 0) : uix x = uix l ↔ x = l := by
  unfold uix
  constructor
  · intro h; split at h <;> split at h <;> omega
  · rintro rfl; rfl

def bump1 (X : List Nat) (i : Nat) : List Nat := X.set i (X.getD i 0 + 1)
def bump (X : List Nat) (us : List Nat) : List Nat := us.foldl bump1 X
theorem bump1_len (X : List Nat) (i : Nat) : (bump1 X i).length = X.length := by simp [bump1]
theorem bump_len : ∀ (us X : List Nat), (bump X us).length = X.length
  | [], X => rfl
  | i :: us, X => by show (bump (bump1 X i) us).length = _; rw [bump_len us, bump1_len]
theorem bump_snoc (X us : List Nat) (i : Nat) : bump X (us ++ [i]) = bump1 (bump X us) i := by simp [bump]
theorem bump1_get (X : List Nat) (i j : Nat) : (bump1 X i).getD j 0 = X.getD j 0 + if i = j ∧ j < X.length then 1 else 0 := by
  unfold bump1
  rw [List.getD_eq_getElem?_getD, List.getD_eq_getElem?_getD, List.getD_eq_getElem?_getD, List.getElem?_set]
  by_cases h : i = j
  · subst h
    by_cases h2 : i < X.length
    · simp [h2]
    · simp [h2, List.getElem?_eq_none (show X.length ≤ i by omega)]
  · simp [h]
theorem bump_get : ∀ (us X : List Nat) (j : Nat), j < X.length → (bump X us).getD j 0 = X.getD j 0 + us.count j
  | [], X, j, _ => by simp [bump]
  | i :: us, X, j, h => by
    show (bump (bump1 X i) us).getD j 0 = _
    rw [bump_get us _ j (by rw [bump1_len]; exact h), bump1_get, List.count_cons]
    by_cases e : i = j
    · simp [e, h]; omega
    · simp [e]

theorem row_count (k : Int) (i : Nat) : ∀ (F : Fm) (s : Nat), ((F.zipIdx s).flatMap fun p => (p.1.filter fun x => decide (uix x = k)).map fun _ => p.2).count i = if h : s ≤ i ∧ i - s < F.length then (F[i - s].filter fun x => decide (uix x = k)).length else 0
  | [], s => by simp
  | c :: F, s => by
    rw [List.zipIdx_cons, List.flatMap_cons, List.count_append, row_count k i F (s + 1)]
    have e1 : ((c.filter fun x => decide (uix x = k)).map fun _ => s).count i = if s = i then (c.filter fun x => decide (uix x = k)).length else 0 := by
      rw [List.map_const', List.count_replicate]; simp
    rw [e1]
    by_cases h : s = i
    · subst h
      rw [dif_neg (by omega), dif_pos ⟨Nat.le_refl _, by simp⟩]
      simp
    · simp only [h, if_false, Nat.zero_add]
      by_cases h1 : s + 1 ≤ i ∧ i - (s + 1) < F.length
      · rw [dif_pos h1, dif_pos ⟨by omega, by simp; omega⟩]
        have : i - s = (i - (s + 1)) + 1 := by omega
        simp only [this, List.getElem_cons_succ]
      · rw [dif_neg h1, dif_neg]
        rintro ⟨h2, h3⟩
        simp only [List.length_cons] at h3
        omega
theorem useRow_count (F : Fm) (k : Int) (i : Nat) (hi : i < F.length) : (useRow F k).count i = (F[i].filter fun x => decide (uix x = k)).length := by
  unfold useRow
  rw [row_count k i F 0, dif_pos ⟨Nat.zero_le _, by simpa using hi⟩]
  rfl
theorem useRow_lt {F : Fm} {k : Int} {i : Nat} (h : i ∈ useRow F k) : ∃ hi : i < F.length, ∃ x ∈ F[i], uix x = k := by
  unfold useRow at h
  obtain ⟨p, hp, h2⟩ := List.mem_flatMap.1 h
  obtain ⟨x, hx, rfl⟩ := List.mem_map.1 h2
  obtain ⟨h3, h4⟩ := List.mem_filter.1 hx
  obtain ⟨c, j⟩ := p
  have h5 := List.mem_zipIdx hp
  obtain ⟨_, h6, h7⟩ := h5
  have e : j - 0 = j := Nat.sub_zero j
  refine ⟨by simpa using h6, x, ?_, by simpa using h4⟩
  simp only [Nat.sub_zero] at h7
  rw [← h7]; exact h3
theorem useRow_mem {F : Fm} {k : Int} {i : Nat} (hi : i < F.length) {x : Int} (hx : x ∈ F[i]) (hk : uix x = k) : i ∈ useRow F k := by
  have := useRow_count F k i hi
  have h2 : 0 < (F[i].filter fun x => decide (uix x = k)).length := List.length_pos_of_mem (List.mem_filter.2 ⟨hx, by simpa using hk⟩)
  exact List.count_pos_iff.1 (by omega)

theorem trues_get (F : Fm) (a : As) (i : Nat) (hi : i < F.length) : (trues F a).getD i 0 = F[i].countP fun l => decide (lv a l = some true) := by
  unfold trues
  rw [List.getD_eq_getElem?_getD, List.getElem?_map, List.getElem?_eq_getElem hi]; rfl
theorem trues_le (F : Fm) (a : As) (i : Nat) (hi : i < F.length) : (trues F a).getD i 0 ≤ F[i].length := by
  rw [trues_get F a i hi]; exact List.countP_le_length

theorem countP_put {V : As} {l : Int} (hl : l ≠ 0) (hn : lv V l = none) : ∀ (c : Cl), (∀ x ∈ c, x ≠ 0) → (c.countP fun x => decide (lv (put V l) x = some true)) = (c.countP fun x => decide (lv V x = some true)) + (c.filter fun x => decide (uix x = uix l)).length
  | [], _ => rfl
  | x :: c, h => by
    have hx := h x (by simp)
    have ih := countP_put hl hn c fun y hy => h y (by simp [hy])
    rw [List.countP_cons, List.countP_cons, List.filter_cons, ih]
    by_cases e : x = l
    · subst e
      simp [lv_put hl, hn]; omega
    · have e2 : (uix x = uix l) = False := by simp [uix_inj hx hl, e]
      have e3 : (lv (put V l) x = some true) = (lv V x = some true) := by
        apply propext
        constructor
        · intro h1
          rcases lv_put_cases hl h1 hx with h2 | ⟨h2, _⟩ | ⟨_, h2⟩
          · exact h2
          · exact absurd h2 e
          · cases h2
        · exact fun h1 => (le_put hn).lv h1
      simp only [e2, e3, decide_false, Bool.false_eq_true, if_false]; omega

theorem bump1_count {X : List Nat} {i : Nat} (h : i < X.length) : (bump1 X i).count 0 + (if X.getD i 0 = 0 then 1 else 0) = X.count 0 := by
  have e : X.getD i 0 = X[i] := by rw [List.getD_eq_getElem?_getD, List.getElem?_eq_getElem h]; rfl
  unfold bump1
  rw [e, List.count_set h]
  have hpos : X[i] = 0 → 0 < X.count 0 := fun h0 => List.count_pos_iff.2 (by rw [← h0]; exact List.getElem_mem h)
  by_cases h0 : X[i] = 0
  · have := hpos h0; simp [h0]; omega
  · simp [h0]

theorem trues_len (F : Fm) (a : As) : (trues F a).length = F.length := by simp [trues]
theorem trues_put {F : Fm} {n : Nat} (hF : okF n F) {V : As} {l : Int} (hl : l ≠ 0) (hn : lv V l = none) : bump (trues F V) (useRow F (uix l)) = trues F (put V l) := by
  refine List.ext_getElem (by rw [bump_len, trues_len, trues_len]) fun i h1 h2 => ?_
  have hi : i < F.length := by rw [trues_len] at h2; exact h2
  have e1 : ∀ (X : List Nat) (h : i < X.length), X[i] = X.getD i 0 := fun X h => by rw [List.getD_eq_getElem?_getD, List.getElem?_eq_getElem h]; rfl
  rw [e1 _ h1, e1 _ h2, bump_get _ _ _ (by rw [trues_len]; exact hi), trues_get F _ i hi, trues_get F _ i hi, useRow_count F _ i hi, countP_put hl hn _ fun x hx => (hF F[i] (List.getElem_mem hi) x hx).1]

theorem vcells_put {n : Nat} {V : As} {l : Int} (hl : okL n l) : (vcells n V).set l.natAbs (.int .i64 (if 0 < l then 1 else 2)) = vcells n (put V l) := by
  refine List.ext_getElem? fun i => ?_
  rw [List.getElem?_set]
  by_cases h : l.natAbs = i
  · have hi : i ≤ n := by have := hl.2; omega
    rw [if_pos h, vcells_len, if_pos (by omega), vcells_at _ hi]
    unfold put
    rw [if_pos h.symm]
    by_cases h0 : 0 < l
    · rw [if_pos h0, decide_eq_true h0]; rfl
    · rw [if_neg h0, decide_eq_false h0]; rfl
  · rw [if_neg h]
    by_cases hi : i ≤ n
    · rw [vcells_at _ hi, vcells_at _ hi]
      unfold put
      rw [if_neg (fun e => h e.symm)]
    · rw [List.getElem?_eq_none (by rw [vcells_len]; omega), List.getElem?_eq_none (by rw [vcells_len]; omega)]
end Go.Z.Sat
/- Chapter 37: literals made true. Conditions: none. -/
namespace Go.Proofs.YtopgbgnmjogeeaaGreatDoor
set_option maxRecDepth 8000
set_option linter.unusedVariables false
set_option linter.unusedSimpArgs false
set_option linter.unusedSectionVars false
open Go Go.Z Go.Z.Sat

structure Ok (n : Nat) (F : Fm) : Prop where
  lits : okF n F
  vars : n ≤ 262144
  len : F.length ≤ 1000000
  lens : ∀ c ∈ F, c.length ≤ 1000000
  rows : ∀ k, (useRow F k).length ≤ 1000000000000

def setF (V : As) (T : List Int) : List Int → Bool × As × List Int
  | [] => (true, V, T)
  | l :: ls => match lv V l with
    | some false => (false, V, T)
    | some true => setF V T ls
    | none => setF (put V l) (T ++ [l]) ls

theorem setF_cons (V : As) (T : List Int) (l : Int) (ls : List Int) : setF V T (l :: ls) = (match lv V l with
    | some false => (false, V, T)
    | some true => setF V T ls
    | none => setF (put V l) (T ++ [l]) ls) := rfl

def usesV (n : Nat) (F : Fm) : List (List Value) := (uses n F).map fun r => r.map encN
theorem usesV_at {ρ : Nat → Obj → Prop} {a : Option Addr} {n : Nat} {F : Fm} (h : RSl2 ρ a (usesV n F)) : ∃ b off cs T fz, a = some ⟨b, off, none⟩ ∧ ρ b (.cells (cs : List Value).toArray T fz) ∧ ∀ l, okL n l → ∃ ai ci, cs[off + (uix l).toNat * 1]? = some (.slice ai (useRow F (uix l)).length ci) ∧ RSl ρ 1 ai (useRow F (uix l)).length ((useRow F (uix l)).map encN) := by
  have hlen : (usesV n F).length = 2 * n + 2 := by simp [usesV, uses]
  obtain ⟨b, off, cs, T, fz, r1, r2, r3⟩ := h.at (by omega)
  refine ⟨b, off, cs, T, fz, r1, r2, fun l hl => ?_⟩
  have hu : 0 ≤ uix l ∧ uix l < 2 * n + 2 := by unfold uix; have := hl.2; split <;> omega
  obtain ⟨ai, ci, e1, e2⟩ := r3 (uix l).toNat (by omega)
  have e : (usesV n F)[(uix l).toNat]'(by omega) = (useRow F (uix l)).map encN := by
    simp only [usesV, uses, List.getElem_map, List.getElem_range]
    rw [Int.toNat_of_nonneg hu.1]
  rw [e, List.length_map] at e1 e2
  exact ⟨ai, ci, by rw [Nat.mul_one]; exact e1, e2⟩

theorem set_take {cur xs ys : List Value} {N o : Nat} {v : Value} (h : cur.take N = xs) (e : xs.set o v = ys) : (cur.set o v).take N = ys := by
  rw [List.take_set, h, e]

end Go.Proofs.YtopgbgnmjogeeaaGreatDoor
/- Chapter 37: one clause examined; all of them. Conditions: none. -/
namespace Go.Proofs.YtopgbgnmjogeeaaGreatDoor
set_option maxRecDepth 8000
set_option linter.unusedVariables false
set_option linter.unusedSimpArgs false
set_option linter.unusedSectionVars false
open Go Go.Z Go.Z.Sat

def clF (V : As) (T : List Int) (c : Cl) : Bool × As × List Int :=
  if (exam V c).2 = false then (false, V, T) else if (exam V c).1 = 0 then (true, V, T) else (true, put V (exam V c).1, T ++ [(exam V c).1])

end Go.Proofs.YtopgbgnmjogeeaaGreatDoor
/- Chapter 37: what follows, plain steps; all clauses examined once. Conditions: none. -/
namespace Go.Z.Sat
set_option maxRecDepth 8000
set_option linter.unusedVariables false
set_option linter.unusedSimpArgs false
set_option linter.unusedSectionVars false
open Go Go.Z Go.Proofs.YtopgbgnmjogeeaaGreatDoor

/-- what is still to be looked at: the clauses with a literal that became false at position d or later -/
def Pend (V : As) (T : List Int) (d : Nat) (c : Cl) : Prop := okc V c ∨ ∃ t, d ≤ t ∧ ∃ h : t < T.length, -T[t] ∈ c
/-- the trail says what has a value beyond the first d0 literals -/
structure Inv (n : Nat) (F : Fm) (a V : As) (T : List Int) : Prop where
  snd : Snd F a V
  cnt : T.length + cnt n V = n
  lits : ∀ l ∈ T, okL n l
  val : V = asg T
  new : ∀ i (h : i < T.length), lv (asg (T.take i)) T[i] = none

theorem Pend.mono {V : As} {T : List Int} {d : Nat} {c : Cl} {l : Int} (h : Pend V T d c) (hc : ∀ m ∈ c, m ≠ 0) (hl : l ≠ 0) (hn : lv V l = none) (hd : d ≤ T.length) : Pend (put V l) (T ++ [l]) d c := by
  rcases h with h | ⟨t, h1, h2, h3⟩
  · rcases h.put hl hn hc with h | h
    · exact .inl h
    · exact .inr ⟨T.length, hd, by simp, by simpa using h⟩
  · exact .inr ⟨t, h1, by simp; omega, by rw [List.getElem_append_left h2]; exact h3⟩

/-- one clause looked at: violated, or nothing is asked any more -/
theorem cl_step {n : Nat} {F : Fm} (hF : okF n F) {a V : As} {T : List Int} (hI : Inv n F a V T) {c : Cl} (hc : c ∈ F) :
    (clF V T c = (false, V, T) ∧ PR F a none) ∨ (∃ V' T', clF V T c = (true, V', T') ∧ Inv n F a V' T' ∧ okc V' c ∧ T.length ≤ T'.length ∧ (∀ t (h : t < T.length), ∃ h' : t < T'.length, T'[t] = T[t]) ∧ ∀ (d : Nat), d ≤ T.length → ∀ c' ∈ F, Pend V T d c' → Pend V' T' d c') := by
  have h0 : ∀ m ∈ c, m ≠ 0 := fun m hm => (hF c hc m hm).1
  rcases exam_spec V c h0 with ⟨h1, h2⟩ | ⟨l, h1, h2, h3, h4⟩ | ⟨h1, h2⟩
  · exact .inr ⟨V, T, by unfold clF; rw [h1]; rfl, hI, h2, Nat.le_refl _, fun t h => ⟨h, rfl⟩, fun d _ c' _ h => h⟩
  · have hl := hF c hc l h1
    refine .inr ⟨put V l, T ++ [l], by unfold clF; rw [h2]; simp [hl.1], ⟨hI.snd.unit hF hc h1 h3 h4, ?_, ?_, ?_, ?_⟩, okc_put_self hl.1 h1, by simp, fun t h => ⟨by simp; omega, by rw [List.getElem_append_left h]⟩, fun d hd c' hc' h => h.mono (fun m hm => (hF c' hc' m hm).1) hl.1 h3 hd⟩
    · have := cnt_put hl h3
      have := hI.cnt
      simp; omega
    · intro x hx
      rcases List.mem_append.1 hx with hx | hx
      · exact hI.lits x hx
      · rw [List.mem_singleton.1 hx]; exact hl
    · rw [hI.val]; simp [asg]
    · intro i hi
      by_cases e : i < T.length
      · rw [List.getElem_append_left e, List.take_append_of_le_length (by omega)]; exact hI.new i e
      · have : i = T.length := by simp at hi; omega
        subst this
        rw [List.take_left', List.getElem_append_right (Nat.le_refl _)]
        · simp; rw [← hI.val]; exact h3
        · rfl
  · exact .inl ⟨by unfold clF; rw [h1]; rfl, hI.snd.fail hF hc h2⟩
theorem cl_pre {V V' : As} {T T' : List Int} {c : Cl} {b : Bool} (h : clF V T c = (b, V', T')) : T <+: T' := by
  unfold clF at h
  split at h
  · cases h; exact List.prefix_refl _
  · split at h
    · cases h; exact List.prefix_refl _
    · cases h; exact List.prefix_append _ _
end Go.Z.Sat
namespace Go.Proofs.YtopgbgnmjogeeaaGreatDoor
set_option maxRecDepth 8000
set_option linter.unusedVariables false
set_option linter.unusedSimpArgs false
set_option linter.unusedSectionVars false
open Go Go.Z Go.Z.Sat

end Go.Proofs.YtopgbgnmjogeeaaGreatDoor
/- Chapter 37: propagation. Conditions: none. -/
namespace Go.Proofs.YtopgbgnmjogeeaaGreatDoor
set_option maxRecDepth 8000
set_option linter.unusedVariables false
set_option linter.unusedSimpArgs false
set_option linter.unusedSectionVars false
open Go Go.Z Go.Z.Sat

theorem okL_neg {n : Nat} {l : Int} (h : okL n l) : okL n (-l) := ⟨by have := h.1; omega, by have := h.2; omega, by have := h.2; omega⟩

end Go.Proofs.YtopgbgnmjogeeaaGreatDoor
