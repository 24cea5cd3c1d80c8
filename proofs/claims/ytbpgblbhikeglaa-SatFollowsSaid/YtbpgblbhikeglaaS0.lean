/- The plain machine of chapter 37: assignments, what follows by unit propagation, the search. No program in sight. Conditions: none. -/
import Derived.Test.YtbpgblbhikeglaaZg
namespace Go.Z.Sat
set_option linter.unusedVariables false
set_option linter.unusedSimpArgs false
set_option linter.unusedSectionVars false
open Go Go.Z

abbrev Cl := List Int
abbrev Fm := List Cl
abbrev As := Nat → Option Bool

def lv (a : As) (l : Int) : Option Bool := if 0 < l then a l.toNat else (a (-l).toNat).map (!·)
/-- the literals of a clause are of the variables 1 .. n -/
def okL (n : Nat) (l : Int) : Prop := l ≠ 0 ∧ -(n : Int) ≤ l ∧ l ≤ n
def okF (n : Nat) (F : Fm) : Prop := ∀ c ∈ F, ∀ l ∈ c, okL n l
def put (a : As) (l : Int) : As := fun v => if v = l.natAbs then some (decide (0 < l)) else a v
def le (a b : As) : Prop := ∀ v x, a v = some x → b v = some x

theorem lv_neg (a : As) {l : Int} (h : l ≠ 0) : lv a (-l) = (lv a l).map (!·) := by
  unfold lv
  by_cases h0 : 0 < l
  · rw [if_pos h0, if_neg (by omega), Int.neg_neg]
  · rw [if_neg h0, if_pos (by omega)]
    cases a (-l).toNat <;> simp
theorem lv_abs (a : As) (l : Int) : lv a l = if 0 < l then a l.natAbs else (a l.natAbs).map (!·) := by
  unfold lv
  split
  · rw [show l.toNat = l.natAbs by omega]
  · rw [show (-l).toNat = l.natAbs by omega]
theorem le.lv {a b : As} (h : le a b) {l : Int} {x : Bool} (e : lv a l = some x) : lv b l = some x := by
  rw [lv_abs] at *
  split at e
  · rw [if_pos (by assumption)]; exact h _ _ e
  · rw [if_neg (by assumption)]
    cases hv : a l.natAbs with
    | none => rw [hv] at e; cases e
    | some y => rw [hv] at e; rw [h _ _ hv]; exact e
theorem le.refl (a : As) : le a a := fun _ _ h => h
theorem le.trans {a b c : As} (h : le a b) (k : le b c) : le a c := fun v x e => k v x (h v x e)
theorem le_put {a : As} {l : Int} (h : lv a l = none) : le a (put a l) := fun v x e => by
  unfold put
  split
  · rename_i hv
    subst hv
    rw [lv_abs] at h
    split at h
    · rw [h] at e; cases e
    · rw [e] at h; cases h
  · exact e
theorem lv_put {a : As} {l : Int} (h : l ≠ 0) : lv (put a l) l = some true := by
  rw [lv_abs]; unfold put
  split <;> simp <;> omega
theorem lv_put_cases {a : As} {l m : Int} {x : Bool} (hl : l ≠ 0) (h : lv (put a l) m = some x) (hm : m ≠ 0) : lv a m = some x ∨ (m = l ∧ x = true) ∨ (m = -l ∧ x = false) := by
  rw [lv_abs] at h
  unfold put at h
  by_cases e : m.natAbs = l.natAbs
  · have : m = l ∨ m = -l := by omega
    rcases this with rfl | rfl
    · right; left; refine ⟨rfl, ?_⟩
      split at h <;> simp at h <;> rename_i h0 <;> simp [h0] at h <;> exact h
    · right; right; refine ⟨rfl, ?_⟩
      split at h
      · rename_i h0; simp at h; rw [← h]; simp; omega
      · rename_i h0
        have h1 : 0 < l := by omega
        simp [h1] at h
        exact h
  · left
    rw [lv_abs]
    simp only [e, if_false] at h
    exact h

/-- what follows from an assignment -/
inductive Der (F : Fm) (a : As) : Int → Prop
  | base {l : Int} : lv a l = some true → Der F a l
  | unit {c : Cl} {l : Int} : c ∈ F → l ∈ c → (∀ m ∈ c, m ≠ l → Der F a (-m)) → Der F a l

/-- nothing is left to follow, and no clause is violated -/
def Fix (F : Fm) (b : As) : Prop := ∀ c ∈ F, (∃ l ∈ c, lv b l = some true) ∨ ∃ l ∈ c, ∃ m ∈ c, l ≠ m ∧ lv b l = none ∧ lv b m = none

theorem Fix.der {n : Nat} {F : Fm} (hF : okF n F) {a b : As} (hf : Fix F b) (hab : le a b) {l : Int} (h : Der F a l) : lv b l = some true := by
  induction h with
  | base e => exact hab.lv e
  | @unit c l hc hl hm ih =>
    have hne : ∀ m ∈ c, m ≠ l → lv b m = some false := fun m h1 h2 => by
      have := ih m h1 h2
      rw [lv_neg _ (hF c hc m h1).1] at this
      cases e : lv b m with
      | none => rw [e] at this; cases this
      | some x => rw [e] at this; cases x <;> simp at this; rfl
    rcases hf c hc with ⟨l0, h1, h2⟩ | ⟨l1, h1, l2, h2, h3, h4, h5⟩
    · by_cases e : l0 = l
      · rw [← e]; exact h2
      · rw [hne l0 h1 e] at h2; cases h2
    · by_cases e : l1 = l
      · have : l2 ≠ l := fun e2 => h3 (e.trans e2.symm)
        rw [hne l2 h2 this] at h5; cases h5
      · rw [hne l1 h1 e] at h4; cases h4

/-- what propagation yields: an assignment, or a violated clause -/
def PR (F : Fm) (a : As) : Option As → Prop
  | some b => le a b ∧ (∀ v, a v = none → ∀ x, b v = some x → Der F a (if x then (v : Int) else -(v : Int)) ∧ v ≠ 0) ∧ Fix F b
  | none => ∃ c ∈ F, ∀ l ∈ c, Der F a (-l)

theorem lv_var (b : As) {v : Nat} (hv : v ≠ 0) (x : Bool) : lv b (if x then (v : Int) else -(v : Int)) = some true ↔ b v = some x := by
  rw [lv_abs]
  cases x
  · simp only [Bool.false_eq_true, if_false]
    rw [if_neg (by omega), show (-(v : Int)).natAbs = v by omega]
    cases b v with
    | none => simp
    | some y => cases y <;> simp
  · simp only [if_true]
    rw [if_pos (by omega), show ((v : Int)).natAbs = v by omega]

theorem PR.unique {n : Nat} {F : Fm} (hF : okF n F) {a : As} {r s : Option As} (h : PR F a r) (k : PR F a s) : r = s := by
  have key : ∀ b, PR F a (some b) → ¬ PR F a none := fun b ⟨h1, _, h3⟩ ⟨c, hc, hl⟩ => by
    have hne : ∀ l ∈ c, lv b l = some false := fun l hlc => by
      have := h3.der hF h1 (hl l hlc)
      rw [lv_neg _ (hF c hc l hlc).1] at this
      cases e : lv b l with
      | none => rw [e] at this; cases this
      | some x => rw [e] at this; cases x <;> simp at this; rfl
    rcases h3 c hc with ⟨l, h1, h2⟩ | ⟨l, h1, m, _, _, h2, _⟩
    · rw [hne l h1] at h2; cases h2
    · rw [hne l h1] at h2; cases h2
  have sub : ∀ b b', PR F a (some b) → PR F a (some b') → le b b' := fun b b' ⟨h1, h2, _⟩ ⟨k1, _, k3⟩ v x e => by
    cases ha : a v with
    | some y =>
      have := h1 v y ha
      rw [e] at this; cases this
      exact k1 v _ ha
    | none =>
      obtain ⟨d, hv⟩ := h2 v ha x e
      exact (lv_var b' hv x).1 (k3.der hF k1 d)
  cases r with
  | none =>
    cases s with
    | none => rfl
    | some b => exact absurd h (key b k)
  | some b =>
    cases s with
    | none => exact absurd k (key b h)
    | some b' =>
      congr 1
      funext v
      cases e : b v with
      | some x => exact (sub b b' h k v x e).symm
      | none =>
        cases e' : b' v with
        | none => rfl
        | some x => rw [sub b' b k h v x e'] at e; cases e

/-- b is reached from a by what follows -/
def Snd (F : Fm) (a b : As) : Prop := le a b ∧ ∀ v, a v = none → ∀ x, b v = some x → Der F a (if x then (v : Int) else -(v : Int)) ∧ v ≠ 0

theorem Snd.refl (F : Fm) (a : As) : Snd F a a := ⟨le.refl a, fun v h x e => by rw [h] at e; cases e⟩
theorem Snd.der {F : Fm} {a b : As} (h : Snd F a b) {l : Int} (hl : l ≠ 0) (e : lv b l = some true) : Der F a l := by
  cases ha : lv a l with
  | some x =>
    have := h.1.lv ha
    rw [e] at this; cases this
    exact .base ha
  | none =>
    rw [lv_abs] at ha e
    split at e
    · rename_i h0
      rw [if_pos h0] at ha
      have := (h.2 _ ha _ e).1
      simp only [if_true] at this
      rwa [show ((l.natAbs : Nat) : Int) = l by omega] at this
    · rename_i h0
      rw [if_neg h0] at ha
      cases hb : b l.natAbs with
      | none => rw [hb] at e; cases e
      | some x =>
        rw [hb] at e
        have hx : x = false := by cases x <;> simp at e; rfl
        subst hx
        have := (h.2 _ (by cases h2 : a l.natAbs with | none => rfl | some y => rw [h2] at ha; cases ha) _ hb).1
        simp only [Bool.false_eq_true, if_false] at this
        rwa [show -((l.natAbs : Nat) : Int) = l by omega] at this
theorem Snd.neg {F : Fm} {a b : As} (h : Snd F a b) {l : Int} (hl : l ≠ 0) (e : lv b l = some false) : Der F a (-l) :=
  h.der (by omega) (by rw [lv_neg _ hl, e]; rfl)
theorem Snd.unit {F : Fm} {a b : As} (h : Snd F a b) {n : Nat} (hF : okF n F) {c : Cl} (hc : c ∈ F) {l : Int} (hl : l ∈ c) (hn : lv b l = none) (ho : ∀ m ∈ c, m ≠ l → lv b m = some false) : Snd F a (put b l) := by
  have hl0 := (hF c hc l hl).1
  have hd : Der F a l := .unit hc hl fun m hm hne => h.neg (hF c hc m hm).1 (ho m hm hne)
  refine ⟨h.1.trans (le_put hn), fun v ha x e => ?_⟩
  unfold put at e
  split at e
  · rename_i hv
    subst hv
    cases e
    refine ⟨?_, by omega⟩
    by_cases h0 : 0 < l
    · simp only [h0, decide_true, if_true]; rwa [show ((l.natAbs : Nat) : Int) = l by omega]
    · simp only [h0, decide_false, Bool.false_eq_true, if_false]; rwa [show -((l.natAbs : Nat) : Int) = l by omega]
  · exact h.2 v ha x e
theorem Snd.fail {F : Fm} {a b : As} (h : Snd F a b) {n : Nat} (hF : okF n F) {c : Cl} (hc : c ∈ F) (hv : ∀ l ∈ c, lv b l = some false) : PR F a none := ⟨c, hc, fun l hl => h.neg (hF c hc l hl).1 (hv l hl)⟩
theorem Snd.done {F : Fm} {a b : As} (h : Snd F a b) (hf : Fix F b) : PR F a (some b) := ⟨h.1, h.2, hf⟩

/-- a clause that asks for nothing -/
def okc (b : As) (c : Cl) : Prop := (∃ l ∈ c, lv b l = some true) ∨ ∃ l ∈ c, ∃ m ∈ c, l ≠ m ∧ lv b l = none ∧ lv b m = none

theorem okc.put {b : As} {c : Cl} (h : okc b c) {l : Int} (hl : l ≠ 0) (hn : lv b l = none) (hc : ∀ m ∈ c, m ≠ 0) : okc (put b l) c ∨ -l ∈ c := by
  by_cases hx : -l ∈ c
  · exact .inr hx
  left
  have keep : ∀ m ∈ c, m ≠ l → lv b m = none → lv (Sat.put b l) m = none := fun m hm hne e => by
    cases e2 : lv (Sat.put b l) m with
    | none => rfl
    | some x =>
      rcases lv_put_cases hl e2 (hc m hm) with h1 | ⟨h1, _⟩ | ⟨h1, _⟩
      · rw [e] at h1; cases h1
      · exact absurd h1 hne
      · exact absurd (h1 ▸ hm) hx
  rcases h with ⟨m, h1, h2⟩ | ⟨m, h1, k, h2, h3, h4, h5⟩
  · exact .inl ⟨m, h1, (le_put hn).lv h2⟩
  · by_cases e1 : m = l
    · exact .inl ⟨m, h1, by rw [e1]; exact lv_put hl⟩
    · by_cases e2 : k = l
      · exact .inl ⟨k, h2, by rw [e2]; exact lv_put hl⟩
      · exact .inr ⟨m, h1, k, h2, h3, keep m h1 e1 h4, keep k h2 e2 h5⟩
theorem okc_put_self {b : As} {c : Cl} {l : Int} (hl : l ≠ 0) (h : l ∈ c) : okc (put b l) c := .inl ⟨l, h, lv_put hl⟩

/-- what a clause asks for: (0, true) nothing; (l, true) the literal l; (0, false): it is violated -/
def examF (b : As) : Cl → Int → Int × Bool
  | [], u => (u, decide (u ≠ 0))
  | l :: c, u => match lv b l with
    | some true => (0, true)
    | some false => examF b c u
    | none => if u ≠ 0 ∧ u ≠ l then (0, true) else examF b c l
def exam (b : As) (c : Cl) : Int × Bool := examF b c 0

theorem examF_spec (b : As) (c0 : Cl) (h0 : ∀ m ∈ c0, m ≠ 0) : ∀ (c p : Cl) (u : Int), c0 = p ++ c → ((u = 0 ∧ ∀ m ∈ p, lv b m = some false) ∨ (u ∈ p ∧ lv b u = none ∧ ∀ m ∈ p, m ≠ u → lv b m = some false)) →
    (examF b c u = (0, true) ∧ okc b c0) ∨ (∃ l ∈ c0, examF b c u = (l, true) ∧ lv b l = none ∧ ∀ m ∈ c0, m ≠ l → lv b m = some false) ∨ (examF b c u = (0, false) ∧ ∀ m ∈ c0, lv b m = some false)
  | [], p, u, e, h => by
    simp at e; subst e
    rcases h with ⟨rfl, h⟩ | ⟨h1, h2, h3⟩
    · exact .inr (.inr ⟨rfl, h⟩)
    · exact .inr (.inl ⟨u, h1, by simp [examF, h0 u h1], h2, h3⟩)
  | l :: c, p, u, e, h => by
    have hl : l ∈ c0 := by rw [e]; simp
    have e' : c0 = (p ++ [l]) ++ c := by rw [e]; simp
    unfold examF
    cases hv : lv b l with
    | some x =>
      cases x with
      | true => exact .inl ⟨rfl, .inl ⟨l, hl, hv⟩⟩
      | false =>
        refine examF_spec b c0 h0 c (p ++ [l]) u e' ?_
        rcases h with ⟨rfl, h⟩ | ⟨h1, h2, h3⟩
        · refine .inl ⟨rfl, fun m hm => ?_⟩
          rcases List.mem_append.1 hm with hm | hm
          · exact h m hm
          · rw [List.mem_singleton.1 hm]; exact hv
        · refine .inr ⟨by simp [h1], h2, fun m hm hne => ?_⟩
          rcases List.mem_append.1 hm with hm | hm
          · exact h3 m hm hne
          · rw [List.mem_singleton.1 hm]; exact hv
    | none =>
      dsimp only
      split
      · rename_i hu
        rcases h with ⟨rfl, h⟩ | ⟨h1, h2, h3⟩
        · exact absurd rfl hu.1
        · exact .inl ⟨rfl, .inr ⟨u, by rw [e]; simp [h1], l, hl, hu.2, h2, hv⟩⟩
      · rename_i hu
        refine examF_spec b c0 h0 c (p ++ [l]) l e' (.inr ⟨by simp, hv, fun m hm hne => ?_⟩)
        rcases h with ⟨rfl, h⟩ | ⟨h1, h2, h3⟩
        · rcases List.mem_append.1 hm with hm | hm
          · exact h m hm
          · exact absurd (List.mem_singleton.1 hm) hne
        · have hul : u = l := by
            by_cases e : u = l
            · exact e
            · exact absurd ⟨h0 u (by rw [‹c0 = p ++ l :: c›]; simp [h1]), e⟩ hu
          rcases List.mem_append.1 hm with hm | hm
          · exact h3 m hm (by rw [hul]; exact hne)
          · exact absurd (List.mem_singleton.1 hm) hne

theorem exam_spec (b : As) (c : Cl) (h0 : ∀ m ∈ c, m ≠ 0) :
    (exam b c = (0, true) ∧ okc b c) ∨ (∃ l ∈ c, exam b c = (l, true) ∧ lv b l = none ∧ ∀ m ∈ c, m ≠ l → lv b m = some false) ∨ (exam b c = (0, false) ∧ ∀ m ∈ c, lv b m = some false) :=
  examF_spec b c h0 c [] 0 rfl (.inl ⟨rfl, fun m hm => absurd hm List.not_mem_nil⟩)

/-! ### the search -/
inductive Out
  | unk
  | sat (b : As)
  | uns
def satF (F : Fm) (b : As) : Prop := ∀ c ∈ F, ∃ l ∈ c, lv b l = some true
def Least (n : Nat) (b : As) (v : Nat) : Prop := (1 ≤ v ∧ v ≤ n) ∧ b v = none ∧ ∀ u, 1 ≤ u → u < v → b u ≠ none
theorem Least.unique {n : Nat} {b : As} {v u : Nat} (h : Least n b v) (k : Least n b u) : v = u := by
  rcases Nat.lt_trichotomy v u with e | e | e
  · exact absurd h.2.1 (k.2.2 v h.1.1 e)
  · exact e
  · exact absurd k.2.1 (h.2.2 u k.1.1 e)

inductive Reach (F : Fm) (n : Nat) (bud : Int) : As → List (Nat × As) → Int → Out → Prop
  | uns {a : As} {k : Int} : PR F a none → Reach F n bud a [] k .uns
  | back {a A : As} {L : List (Nat × As)} {k : Int} {v : Nat} {r : Out} : PR F a none → Reach F n bud (put A (-(v : Int))) L k r → Reach F n bud a ((v, A) :: L) k r
  | sat {a b : As} {L : List (Nat × As)} {k : Int} : PR F a (some b) → satF F b → Reach F n bud a L k (.sat b)
  | unk {a b : As} {L : List (Nat × As)} {k : Int} : PR F a (some b) → ¬ satF F b → k = bud → Reach F n bud a L k .unk
  | dec {a b : As} {L : List (Nat × As)} {k : Int} {v : Nat} {r : Out} : PR F a (some b) → ¬ satF F b → k ≠ bud → Least n b v → Reach F n bud (put b (v : Int)) ((v, b) :: L) (k + 1) r → Reach F n bud a L k r

theorem Reach.unique {F : Fm} {n : Nat} (hF : okF n F) {bud : Int} {a : As} {L : List (Nat × As)} {k : Int} {r s : Out} (h : Reach F n bud a L k r) : Reach F n bud a L k s → r = s := by
  induction h with
  | uns h => intro g; cases g with
    | uns => rfl
    | sat k1 => exact absurd (PR.unique hF h k1) (by simp)
    | unk k1 => exact absurd (PR.unique hF h k1) (by simp)
    | dec k1 => exact absurd (PR.unique hF h k1) (by simp)
  | back h _ ih => intro g; cases g with
    | back _ g => exact ih g
    | sat k1 => exact absurd (PR.unique hF h k1) (by simp)
    | unk k1 => exact absurd (PR.unique hF h k1) (by simp)
    | dec k1 => exact absurd (PR.unique hF h k1) (by simp)
  | sat h h2 => intro g; cases g with
    | uns k1 => exact absurd (PR.unique hF h k1) (by simp)
    | back k1 => exact absurd (PR.unique hF h k1) (by simp)
    | sat k1 => cases PR.unique hF h k1; rfl
    | unk k1 k2 => cases PR.unique hF h k1; exact absurd h2 k2
    | dec k1 k2 => cases PR.unique hF h k1; exact absurd h2 k2
  | unk h h2 h3 => intro g; cases g with
    | uns k1 => exact absurd (PR.unique hF h k1) (by simp)
    | back k1 => exact absurd (PR.unique hF h k1) (by simp)
    | sat k1 k2 => cases PR.unique hF h k1; exact absurd k2 h2
    | unk => rfl
    | dec k1 k2 k3 => exact absurd h3 k3
  | dec h h2 h3 h4 _ ih => intro g; cases g with
    | uns k1 => exact absurd (PR.unique hF h k1) (by simp)
    | back k1 => exact absurd (PR.unique hF h k1) (by simp)
    | sat k1 k2 => cases PR.unique hF h k1; exact absurd k2 h2
    | unk k1 k2 k3 => exact absurd k3 h3
    | dec k1 k2 k3 k4 g => cases PR.unique hF h k1; cases h4.unique k4; exact ih g

/-- how many variables have no value -/
def cnt (n : Nat) (a : As) : Nat := ((List.range n).filter fun i => (a (i + 1)).isNone).length
theorem cnt_le {a b : As} (h : le a b) (n : Nat) : cnt n b ≤ cnt n a := by
  unfold cnt
  induction n with
  | zero => simp
  | succ n ih =>
    rw [List.range_succ, List.filter_append, List.filter_append, List.length_append, List.length_append]
    have : ([n].filter fun i => (b (i + 1)).isNone).length ≤ ([n].filter fun i => (a (i + 1)).isNone).length := by
      simp only [List.filter_cons, List.filter_nil]
      cases ha : a (n + 1) with
      | none => simp; split <;> simp
      | some x => rw [h _ _ ha]; simp
    omega
theorem cnt_put {a : As} {n : Nat} {l : Int} (hl : okL n l) (h : lv a l = none) : cnt n (put a l) + 1 = cnt n a := by
  have hv : a l.natAbs = none := by
    rw [lv_abs] at h
    split at h
    · exact h
    · cases e : a l.natAbs with
      | none => rfl
      | some x => rw [e] at h; cases h
  have key : ∀ m : Nat, cnt m (put a l) + (if 0 < l.natAbs ∧ l.natAbs ≤ m then 1 else 0) = cnt m a := by
    intro m
    unfold cnt
    induction m with
    | zero => simp
    | succ m ih =>
      rw [List.range_succ, List.filter_append, List.filter_append, List.length_append, List.length_append]
      by_cases e : m + 1 = l.natAbs
      · have e1 : ([m].filter fun i => ((put a l) (i + 1)).isNone).length = 0 := by simp [put, e]
        have e2 : ([m].filter fun i => (a (i + 1)).isNone).length = 1 := by simp [e, hv]
        rw [if_neg (by omega)] at ih
        rw [if_pos (by omega), e1, e2]; omega
      · have e1 : ([m].filter fun i => ((put a l) (i + 1)).isNone) = ([m].filter fun i => (a (i + 1)).isNone) := by simp [put, e, List.filter_cons]
        rw [e1]
        split at ih <;> split <;> omega
  have := key n
  rw [if_pos (by have := hl.1; have := hl.2; omega)] at this
  exact this

def meas (n : Nat) (a : As) (L : List (Nat × As)) : Nat := (2 ^ (cnt n a + 1) - 1) + (L.map fun p => 2 ^ (cnt n p.2) - 1).sum
def okS (n : Nat) (L : List (Nat × As)) : Prop := ∀ p ∈ L, (1 ≤ p.1 ∧ p.1 ≤ n) ∧ p.2 p.1 = none

theorem lv_pos (a : As) {v : Nat} (hv : 1 ≤ v) : lv a (v : Int) = a v := by unfold lv; rw [if_pos (by omega)]; rfl
theorem lv_negv (a : As) (v : Nat) : lv a (-(v : Int)) = (a v).map (!·) := by unfold lv; rw [if_neg (by omega), Int.neg_neg]; rfl
theorem meas_back {n : Nat} {a A : As} {v : Nat} {L : List (Nat × As)} (h : okS n ((v, A) :: L)) : meas n (put A (-(v : Int))) L < meas n a ((v, A) :: L) := by
  obtain ⟨⟨h1, h2⟩, h3⟩ := h (v, A) (by simp)
  dsimp only at h1 h2 h3
  have hc := cnt_put (a := A) (n := n) (l := -(v : Int)) ⟨by omega, by omega, by omega⟩ (by rw [lv_negv, h3]; rfl)
  unfold meas
  simp only [List.map_cons, List.sum_cons]
  rw [hc]
  have := Nat.one_le_two_pow (n := cnt n a)
  have e : 2 ^ (cnt n a + 1) = 2 ^ cnt n a + 2 ^ cnt n a := by rw [Nat.pow_succ]; omega
  omega
theorem meas_dec {n : Nat} {a b : As} {v : Nat} {L : List (Nat × As)} (hab : le a b) (h : Least n b v) : meas n (put b (v : Int)) ((v, b) :: L) < meas n a L := by
  obtain ⟨⟨h1, h2⟩, h3, _⟩ := h
  have hc := cnt_put (a := b) (n := n) (l := (v : Int)) ⟨by omega, by omega, by omega⟩ (by rw [lv_pos _ h1]; exact h3)
  have hle := cnt_le hab n
  unfold meas
  simp only [List.map_cons, List.sum_cons]
  rw [hc]
  have h4 : 2 ^ (cnt n b) ≤ 2 ^ (cnt n a) := Nat.pow_le_pow_right (by decide) hle
  have := Nat.one_le_two_pow (n := cnt n b)
  have e : 2 ^ (cnt n a + 1) = 2 ^ cnt n a + 2 ^ cnt n a := by rw [Nat.pow_succ]; omega
  omega
end Go.Z.Sat
