/- Own texts, put together: A0 A1 A2 A3 A4 A5 A6 A7 A8 A9. Conditions: as told at each. -/
import Derived.Test.YtopgbgnmjogeeaaGreatDoorZg
import Derived.Test.YtopgbgnmjogeeaaGreatDoorTy
import Derived.Test.YtopgbgnmjogeeaaGreatDoorZh
/- The plain machine of chapter 35: variables with operands, shared conjunctions. No program in sight. Conditions: none. -/
namespace Go.Z.Aig
set_option maxRecDepth 8000
set_option linter.unusedVariables false
set_option linter.unusedSimpArgs false
set_option linter.unusedSectionVars false
open Go Go.Z

abbrev Gt := Int × Int × Bool
abbrev St := List Gt

def nt (a : Int) : Int := if a % 2 = 0 then a + 1 else a - 1
def has (S : St) (a : Int) : Prop := 0 ≤ a ∧ a < 2 * S.length
instance (S : St) (a : Int) : Decidable (has S a) := by unfold has; exact inferInstance
def hasB (S : St) (a : Int) : Bool := decide (0 ≤ a) && decide (a < 2 * S.length)
def add (S : St) (g : Gt) : Int × Int × St := if 131072 ≤ S.length then (0, 3, S) else (2 * S.length, 0, S ++ [g])
def find : List Gt → Nat → Int → Int → Option Nat
  | [], _, _, _ => none
  | g :: l, i, x, y => if g = (x, y, false) then some i else find l (i + 1) x y
def and0 (S : St) (a b : Int) : Int × Int × St :=
  if min a b = 0 ∨ min a b = nt (max a b) then (0, 0, S)
  else if min a b = 1 ∨ min a b = max a b then (max a b, 0, S)
  else match find (S.drop 1) 1 (min a b) (max a b) with
    | some v => (2 * v, 0, S)
    | none => add S (min a b, max a b, false)
def and1 (S : St) (a b : Int) : Int × Int × St := if hasB S a && hasB S b then and0 S a b else (0, 14, S)
def or1 (S : St) (a b : Int) : Int × Int × St :=
  if hasB S a && hasB S b then (let r := and0 S (nt a) (nt b); if r.2.1 = 0 then (nt r.1, 0, r.2.2) else (0, r.2.1, r.2.2)) else (0, 14, S)
def two (S : St) (a b c d : Int) : Int × Int × St :=
  let r := and0 S a b
  if r.2.1 ≠ 0 then (0, r.2.1, r.2.2) else
  let q := and0 r.2.2 c d
  if q.2.1 ≠ 0 then (0, q.2.1, S) else
  let z := and0 q.2.2 (nt r.1) (nt q.1)
  if z.2.1 ≠ 0 then (0, z.2.1, S) else (nt z.1, 0, z.2.2)
def xor1 (S : St) (a b : Int) : Int × Int × St := if hasB S a && hasB S b then two S a (nt b) (nt a) b else (0, 14, S)
def mux1 (S : St) (c a b : Int) : Int × Int × St := if hasB S c && (hasB S a && hasB S b) then two S c a (nt c) b else (0, 14, S)
def input1 (S : St) : Int × Int × St := add S (0, 0, true)
def ins : Nat → List Gt → List Int
  | _, [] => []
  | i, g :: l => if g.2.2 then (2 * i : Int) :: ins (i + 1) l else ins (i + 1) l

structure WF (S : St) : Prop where
  hd : S.head? = some (0, 0, false)
  inp : ∀ (v : Nat) a b, S[v]? = some (a, b, true) → a = 0 ∧ b = 0
  gate : ∀ (v : Nat) a b, 0 < v → S[v]? = some (a, b, false) → 2 ≤ a ∧ a < b ∧ b < 2 * v
  one : ∀ (v u : Nat) a b, 0 < v → 0 < u → S[v]? = some (a, b, false) → S[u]? = some (a, b, false) → v = u
  lim : S.length ≤ 131072

theorem WF.pos {S : St} (h : WF S) : 0 < S.length := by
  have := h.hd
  cases S with
  | nil => simp at this
  | cons => simp

def encG (g : Gt) : List Value := [.int .i64 g.1, .int .i64 g.2.1]
def encK (p : Int × Int) : Value := .agg #[.int .i64 p.1, .int .i64 p.2]

theorem encG_len (g : Gt) : (encG g).length = 2 := rfl

structure KN (S : St) (kn : List ((Int × Int) × Value)) : Prop where
  nd : (kn.map (·.1)).Nodup
  look : ∀ x y, (idx kn (x, y) 0).map (·.2) = (find (S.drop 1) 1 x y).map fun v => Value.int .i64 (2 * (v : Int))

theorem find_append : ∀ (l m : List Gt) (i : Nat) (x y : Int), find (l ++ m) i x y = (find l i x y).or (find m (i + l.length) x y)
  | [], m, i, x, y => by simp [find]
  | g :: l, m, i, x, y => by
    simp only [List.cons_append, find]
    split
    · rfl
    · rw [find_append l m (i + 1) x y, List.length_cons, show i + 1 + l.length = i + (l.length + 1) from by omega]

theorem find_some : ∀ (l : List Gt) (i v : Nat) (x y : Int), find l i x y = some v → i ≤ v ∧ l[v - i]? = some (x, y, false)
  | [], i, v, x, y, h => by simp [find] at h
  | g :: l, i, v, x, y, h => by
    simp only [find] at h
    split at h
    · rename_i hg; simp at h; subst h; simp [hg]
    · obtain ⟨h1, h2⟩ := find_some l (i + 1) v x y h
      refine ⟨by omega, ?_⟩
      rw [show v - i = (v - (i + 1)) + 1 from by omega]
      simpa using h2

theorem find_none : ∀ (l : List Gt) (i : Nat) (x y : Int), find l i x y = none → ∀ j : Nat, l[j]? ≠ some (x, y, false)
  | [], i, x, y, h, j => by simp
  | g :: l, i, x, y, h, j => by
    simp only [find] at h
    split at h
    · cases h
    · rename_i hg
      cases j with
      | zero => simpa using hg
      | succ j => simpa using find_none l (i + 1) x y h j

theorem ins_append : ∀ (l m : List Gt) (i : Nat), ins i (l ++ m) = ins i l ++ ins (i + l.length) m
  | [], m, i => by simp [ins]
  | g :: l, m, i => by
    simp only [List.cons_append, ins, ins_append l m (i + 1), List.length_cons]
    rw [show i + 1 + l.length = i + (l.length + 1) from by omega]
    split <;> simp

theorem idx_append {α : Type} [DecidableEq α] : ∀ (l m : List (α × Value)) (k : α) (i : Nat), idx (l ++ m) k i = (idx l k i).or (idx m k (i + l.length))
  | [], m, k, i => by simp [idx]
  | (k', v) :: l, m, k, i => by
    simp only [List.cons_append, idx]
    split
    · rfl
    · rw [idx_append l m k (i + 1), List.length_cons, show i + 1 + l.length = i + (l.length + 1) from by omega]

theorem idx_none_iff {α : Type} [DecidableEq α] : ∀ (l : List (α × Value)) (k : α) (i : Nat), idx l k i = none ↔ k ∉ l.map (·.1)
  | [], k, i => by simp [idx]
  | (k', v) :: l, k, i => by
    simp only [idx, List.map_cons, List.mem_cons, not_or]
    split
    · rename_i h; subst h; simp
    · rename_i h; rw [idx_none_iff l k (i + 1)]; simp [h]

theorem idx_shift {α : Type} [DecidableEq α] : ∀ (l : List (α × Value)) (k : α) (i j : Nat), (idx l k i).map (·.2) = (idx l k j).map (·.2)
  | [], k, i, j => by simp [idx]
  | (k', v) :: l, k, i, j => by
    simp only [idx]
    split
    · rfl
    · exact idx_shift l k (i + 1) (j + 1)

theorem idx_drop {α : Type} [DecidableEq α] : ∀ (l : List (α × Value)) (k q : α), (l.map (·.1)).Nodup → (idx (dropKey l k) q 0).map (·.2) = if q = k then none else (idx l q 0).map (·.2)
  | [], k, q, h => by simp [dropKey, idx]
  | (k', v) :: l, k, q, h => by
    simp only [List.map_cons, List.nodup_cons] at h
    by_cases e : k' = k
    · subst e
      have ed : dropKey ((k', v) :: l) k' = l := by simp [dropKey]
      rw [ed]
      by_cases hq : q = k'
      · subst hq
        rw [if_pos rfl, (idx_none_iff l q 0).2 h.1]; rfl
      · rw [if_neg hq]
        simp only [idx, if_neg hq]
        exact idx_shift l q 0 1
    · have ed : dropKey ((k', v) :: l) k = (k', v) :: dropKey l k := by simp [dropKey, e]
      rw [ed]
      simp only [idx]
      have ih := idx_drop l k q h.2
      by_cases hq : q = k'
      · subst hq
        simp [e]
      · simp only [if_neg hq]
        rw [idx_shift _ q (0 + 1) 0, ih]
        split
        · rfl
        · exact (idx_shift l q (0 + 1) 0).symm

theorem dropKey_nodup {α : Type} [DecidableEq α] (l : List (α × Value)) (k : α) (h : (l.map (·.1)).Nodup) : ((dropKey l k).map (·.1)).Nodup := by
  have : (dropKey l k).Sublist l := List.eraseP_sublist
  exact h.sublist (this.map _)

theorem WF.new : WF [(0, 0, false)] := by
  refine ⟨rfl, fun v a b h => ?_, fun v a b hv h => ?_, fun v u a b hv hu h => ?_, by simp⟩
  · cases v <;> simp at h
  · cases v <;> simp at h hv
  · cases v <;> simp at h hv

theorem KN.new : KN [(0, 0, false)] [] := ⟨by simp, fun x y => by simp [idx, find]⟩

theorem get_snoc {S : St} {g q : Gt} {v : Nat} (h : (S ++ [g])[v]? = some q) : S[v]? = some q ∨ (v = S.length ∧ q = g) := by
  rw [List.getElem?_append] at h
  split at h
  · exact .inl h
  · rename_i hv
    right
    cases hk : v - S.length with
    | zero => rw [hk] at h; simp at h; exact ⟨by omega, h.symm⟩
    | succ k => rw [hk] at h; simp at h

theorem WF.input {S : St} (h : WF S) (hl : S.length < 131072) : WF (S ++ [(0, 0, true)]) := by
  refine ⟨?_, fun v a b hv => ?_, fun v a b h0 hv => ?_, fun v u a b h0 h1 hv hu => ?_, by simp; omega⟩
  · have := h.hd; cases S with
    | nil => simp at this
    | cons => simpa using this
  · rcases get_snoc hv with e | ⟨_, e⟩
    · exact h.inp v a b e
    · simp at e; exact e
  · rcases get_snoc hv with e | ⟨_, e⟩
    · exact h.gate v a b h0 e
    · simp at e
  · rcases get_snoc hv with e | ⟨_, e⟩
    · rcases get_snoc hu with f | ⟨_, f⟩
      · exact h.one v u a b h0 h1 e f
      · simp at f
    · simp at e

theorem WF.gate' {S : St} (h : WF S) (hl : S.length < 131072) {x y : Int} (hx : 2 ≤ x) (hxy : x < y) (hy : y < 2 * S.length) (hn : find (S.drop 1) 1 x y = none) : WF (S ++ [(x, y, false)]) := by
  have hno : ∀ v, 0 < v → S[v]? ≠ some (x, y, false) := fun v hv he => by
    refine find_none _ _ _ _ hn (v - 1) ?_
    rw [List.getElem?_drop, show 1 + (v - 1) = v from by omega]; exact he
  refine ⟨?_, fun v a b hv => ?_, fun v a b h0 hv => ?_, fun v u a b h0 h1 hv hu => ?_, by simp; omega⟩
  · have := h.hd; cases S with
    | nil => simp at this
    | cons => simpa using this
  · rcases get_snoc hv with e | ⟨_, e⟩
    · exact h.inp v a b e
    · simp at e
  · rcases get_snoc hv with e | ⟨e1, e⟩
    · exact h.gate v a b h0 e
    · simp at e; obtain ⟨rfl, rfl⟩ := e; subst e1; exact ⟨hx, hxy, hy⟩
  · rcases get_snoc hv with e | ⟨e1, e⟩
    · rcases get_snoc hu with f | ⟨f1, f⟩
      · exact h.one v u a b h0 h1 e f
      · simp at f; obtain ⟨rfl, rfl⟩ := f; exact absurd e (hno v h0)
    · rcases get_snoc hu with f | ⟨f1, f⟩
      · simp at e; obtain ⟨rfl, rfl⟩ := e; exact absurd f (hno u h1)
      · omega

theorem drop_snoc {S : St} (h : 0 < S.length) (g : Gt) : (S ++ [g]).drop 1 = S.drop 1 ++ [g] := by
  rw [List.drop_append_of_le_length (by omega)]

theorem KN.input {S : St} {kn : List ((Int × Int) × Value)} (h : KN S kn) (hs : 0 < S.length) : KN (S ++ [(0, 0, true)]) kn := by
  refine ⟨h.nd, fun x y => ?_⟩
  rw [h.look, drop_snoc hs, find_append]
  simp [find]

theorem KN.gate {S : St} {kn : List ((Int × Int) × Value)} (h : KN S kn) (hs : 0 < S.length) {x y : Int} (hn : find (S.drop 1) 1 x y = none) :
    idx kn (x, y) 0 = none ∧ KN (S ++ [(x, y, false)]) (kn ++ [((x, y), .int .i64 (2 * (S.length : Int)))]) := by
  have h0 : idx kn (x, y) 0 = none := by
    have := h.look x y
    rw [hn] at this
    simpa using this
  refine ⟨h0, ?_, fun u w => ?_⟩
  · rw [List.map_append, List.nodup_append]
    refine ⟨h.nd, by simp, fun a ha b hb e => ?_⟩
    simp at hb
    subst hb; subst e
    exact (idx_none_iff kn _ 0).1 h0 ha
  · rw [idx_append, drop_snoc hs, find_append]
    have hl := h.look u w
    cases hf : find (S.drop 1) 1 u w with
    | some v =>
      rw [hf] at hl
      cases hi : idx kn (u, w) 0 with
      | none => rw [hi] at hl; simp at hl
      | some p => rw [hi] at hl; simpa using hl
    | none =>
      rw [hf] at hl
      have hi : idx kn (u, w) 0 = none := by simpa using hl
      rw [hi]
      simp only [Option.none_or, idx, find]
      have e1 : (1 + (S.drop 1).length) = S.length := by simp; omega
      rw [e1]
      by_cases e : (u, w) = (x, y)
      · simp at e; obtain ⟨rfl, rfl⟩ := e; simp
      · have e2 : ¬ ((x, y, false) : Gt) = (u, w, false) := fun e3 => e (by simp at e3 ⊢; exact ⟨e3.1.symm, e3.2.symm⟩)
        rw [if_neg e, if_neg e2]; rfl

/-- what 'undo' leaves -/
def undoK (kn : List ((Int × Int) × Value)) (R : List Gt) : List ((Int × Int) × Value) := R.foldl (fun kn g => dropKey kn (g.1, g.2.1)) kn

theorem undoK_look : ∀ (R : List Gt) (kn : List ((Int × Int) × Value)) (q : Int × Int), (kn.map (·.1)).Nodup →
    ((undoK kn R).map (·.1)).Nodup ∧ (idx (undoK kn R) q 0).map (·.2) = if q ∈ R.map (fun g => (g.1, g.2.1)) then none else (idx kn q 0).map (·.2)
  | [], kn, q, h => ⟨h, by simp [undoK]⟩
  | g :: R, kn, q, h => by
    obtain ⟨h1, h2⟩ := undoK_look R (dropKey kn (g.1, g.2.1)) q (dropKey_nodup kn _ h)
    refine ⟨h1, ?_⟩
    show (idx (undoK (dropKey kn (g.1, g.2.1)) R) q 0).map (·.2) = _
    rw [h2, idx_drop kn _ q h]
    simp only [List.map_cons, List.mem_cons]
    by_cases e1 : q = (g.1, g.2.1)
    · simp [e1]
    · by_cases e2 : q ∈ R.map (fun g => (g.1, g.2.1)) <;> simp [e1, e2]

theorem WF.cut {S : St} (h : WF S) {m : Nat} (hm : 0 < m) : WF (S.take m) := by
  have hsub : ∀ (v : Nat) q, (S.take m)[v]? = some q → S[v]? = some q := fun v q hv => by
    rw [List.getElem?_take] at hv
    split at hv
    · exact hv
    · cases hv
  refine ⟨?_, fun v a b hv => h.inp v a b (hsub v _ hv), fun v a b h0 hv => h.gate v a b h0 (hsub v _ hv), fun v u a b h0 h1 hv hu => h.one v u a b h0 h1 (hsub v _ hv) (hsub u _ hu), ?_⟩
  · have := h.hd; cases S with
    | nil => simp at this
    | cons => cases m with
      | zero => omega
      | succ m => simpa using this
  · have := h.lim; rw [List.length_take]; omega

theorem KN.cut {S : St} {kn : List ((Int × Int) × Value)} (h : KN S kn) (hw : WF S) {m : Nat} (hm : 0 < m) : KN (S.take m) (undoK kn (S.drop m)) := by
  refine ⟨(undoK_look _ kn (0, 0) h.nd).1, fun x y => ?_⟩
  rw [(undoK_look _ kn (x, y) h.nd).2, h.look]
  have hsplit : S.drop 1 = (S.take m).drop 1 ++ S.drop m := by
    rw [List.drop_take]
    have := List.take_append_drop (m - 1) (S.drop 1)
    rw [List.drop_drop, show 1 + (m - 1) = m from by omega] at this
    exact this.symm
  rw [hsplit, find_append]
  cases hf : find ((S.take m).drop 1) 1 x y with
  | some v =>
    obtain ⟨h1, h2⟩ := find_some _ _ _ _ _ hf
    rw [List.getElem?_drop, show 1 + (v - 1) = v from by omega, List.getElem?_take] at h2
    split at h2
    · rename_i hvm
      have hne : ¬ (x, y) ∈ (S.drop m).map (fun g => (g.1, g.2.1)) := fun hmem => by
        simp only [List.mem_map] at hmem
        obtain ⟨⟨a, b, i⟩, hin, hab⟩ := hmem
        simp at hab
        obtain ⟨rfl, rfl⟩ := hab
        obtain ⟨j, hj⟩ := List.getElem?_of_mem hin
        rw [List.getElem?_drop] at hj
        cases i with
        | false => have := hw.one v (m + j) a b (by omega) (by omega) h2 hj; omega
        | true => have h3 := hw.inp _ _ _ hj; have h4 := hw.gate v a b (by omega) h2; omega
      rw [if_neg hne]; simp
    · cases h2
  | none =>
    simp only [Option.none_or]
    split
    · rfl
    · rename_i hne
      cases hg : find (S.drop m) (1 + ((S.take m).drop 1).length) x y with
      | none => rfl
      | some v =>
        obtain ⟨h1, h2⟩ := find_some _ _ _ _ _ hg
        exact absurd (List.mem_map.2 ⟨(x, y, false), List.mem_of_getElem? h2, rfl⟩) hne

theorem nt_has {S : St} {a : Int} (h : has S a) : has S (nt a) := by
  unfold has nt at *
  split <;> omega

theorem and0_spec {S : St} {a b : Int} (ha : has S a) (hb : has S b) :
    ((and0 S a b).2.1 = 0 ∧ ((and0 S a b).2.2 = S ∨ ∃ x y, (and0 S a b).2.2 = S ++ [(x, y, false)]) ∧ has (and0 S a b).2.2 (and0 S a b).1) ∨ ((and0 S a b).2.1 = 3 ∧ (and0 S a b).2.2 = S ∧ (and0 S a b).1 = 0) := by
  have hp : 0 ≤ a ∧ 0 ≤ b ∧ a < 2 * S.length ∧ b < 2 * S.length := ⟨ha.1, hb.1, ha.2, hb.2⟩
  unfold and0
  split
  · exact .inl ⟨rfl, .inl rfl, by unfold has; simp; omega⟩
  · split
    · exact .inl ⟨rfl, .inl rfl, by unfold has; simp; omega⟩
    · split
      · rename_i v hf
        obtain ⟨h1, h2⟩ := find_some _ _ _ _ _ hf
        have := (List.getElem?_eq_some_iff.1 h2).1
        rw [List.length_drop] at this
        exact .inl ⟨rfl, .inl rfl, by unfold has; simp; omega⟩
      · unfold add
        split
        · exact .inr ⟨rfl, rfl, rfl⟩
        · exact .inl ⟨rfl, .inr ⟨_, _, rfl⟩, by unfold has; simp; omega⟩

theorem has_snoc {S : St} {g : Gt} {a : Int} (h : has S a) : has (S ++ [g]) a := by unfold has at *; simp; omega

/-- 'T' is 'S' with some gates more -/
def Ext (S T : St) : Prop := ∃ R : List Gt, T = S ++ R ∧ ∀ g ∈ R, g.2.2 = false
theorem Ext.refl (S : St) : Ext S S := ⟨[], by simp, by simp⟩
theorem Ext.and0 {S T : St} {a b : Int} (h : Ext S T) (ha : has T a) (hb : has T b) : Ext S (Aig.and0 T a b).2.2 := by
  obtain ⟨R, rfl, hR⟩ := h
  rcases and0_spec ha hb with ⟨_, h1 | ⟨x, y, h1⟩, _⟩ | ⟨_, h1, _⟩
  · exact ⟨R, h1, hR⟩
  · refine ⟨R ++ [(x, y, false)], by rw [h1, List.append_assoc], fun g hg => ?_⟩
    rcases List.mem_append.1 hg with h | h
    · exact hR g h
    · rw [List.mem_singleton.1 h]
  · exact ⟨R, h1, hR⟩
theorem Ext.has {S T : St} {a : Int} (h : Ext S T) (ha : Aig.has S a) : Aig.has T a := by
  obtain ⟨R, rfl, _⟩ := h
  unfold Aig.has at *; simp; omega
theorem ins_gates : ∀ (R : List Gt) (i : Nat), (∀ g ∈ R, g.2.2 = false) → ins i R = []
  | [], _, _ => rfl
  | g :: R, i, h => by
    have h1 : g.2.2 = false := h g (by simp)
    simp only [ins, h1]
    exact ins_gates R (i + 1) fun g hg => h g (by simp [hg])
theorem Ext.cut {S T : St} (h : Ext S T) : T.take S.length = S ∧ ins 0 T = ins 0 S ∧ S.length ≤ T.length := by
  obtain ⟨R, rfl, hR⟩ := h
  refine ⟨by simp, ?_, by simp⟩
  rw [ins_append, ins_gates R _ hR]; simp
end Go.Z.Aig
/- Chapter 35: what the functions of package aig do to memory. Conditions: none. -/
namespace Go.Proofs.YtopgbgnmjogeeaaGreatDoor
set_option maxRecDepth 8000
set_option linter.unusedVariables false
set_option linter.unusedSimpArgs false
set_option linter.unusedSectionVars false
open Go Go.Z Go.Z.Aig

theorem eqGate (d : Nat) (a b c e : Int) (w : World) : (Op.equalIn (d + 2) 111 (.agg #[.int .i64 a, .int .i64 b]) (.agg #[.int .i64 c, .int .i64 e])).run Tryz.prog w = .ok (decide (a = c) && decide (b = e)) w := by
  have hf : Tryz.prog.fieldsOf 111 = match Tryz.t110.desc with | .struct fs => fs | _ => #[] := by kernel_rfl
  have hg : ∀ w, (isAgg 59).run Tryz.prog w = .ok false w := fun w => TyC.run_agg (ty59) w
  rw [run_equalIn_agg w (d + 1) _ _ _ (by kernel_rfl) (by kernel_rfl), hf]
  have e1 : ∀ i j : Int, (i == j) = decide (i = j) := fun i j => rfl
  have hu : Tryz.prog.underlying 59 = some (.int .i64) := Tryz.underlying59
  simp only [Tryz.t110, Op.eqFields, part, Sem.run_bind, hg, Result.andThen_ok]
  by_cases h1 : a = c <;> by_cases h2 : b = e <;> simp [run_equalIn_int, hu, hg, h1, h2]
theorem keyGate : KeyOk Tryz.prog 111 encK where
  check := fun w em a => by
    have hu : Tryz.prog.underlying 111 = some Tryz.t110.desc := Tryz.underlying111
    have hi : Tryz.prog.underlying 59 = some (.int .i64) := Tryz.underlying59
    have hg : ∀ w, (isAgg 59).run Tryz.prog w = .ok false w := fun w => TyC.run_agg (ty59) w
    have hl : ∀ n w, (Instr.checkKey em (n + 1) 59 (.int .i64 n)).run Tryz.prog w = .ok () w := fun n w => by
      simp [Instr.checkKey, underlying, hi]
    have hl2 : ∀ (m : Nat) (i : Int) w, (Instr.checkKey em (m + 1) 59 (.int .i64 i)).run Tryz.prog w = .ok () w := fun m i w => by
      simp [Instr.checkKey, underlying, hi]
    show (Instr.checkKey em (9998 + 1 + 1) 111 (encK a)).run Tryz.prog w = .ok () w
    unfold Instr.checkKey
    simp [underlying, hu, Tryz.t110, encK, part, hg, hl2]
  eq := fun w a b => by
    show (Op.equalIn (9998 + 2) _ _ _).run _ _ = _
    unfold encK
    rw [eqGate]
    congr 1
    by_cases h1 : a.1 = b.1 <;> by_cases h2 : a.2 = b.2 <;> simp [h1, h2, Prod.ext_iff]
  now := ⟨_, Tryz.underlying111, fun a b => rfl⟩

theorem not_ok {ρ : Nat → Obj → Prop} (a : Int) : Con Tryz.prog ρ 60 #[.int .i64 a] [] (fun v H => v = .int .i64 (bitV .xor .i64 a 1) ∧ H = []) := by
  refine con_intro Tryz.func60 Tryz.call60 rfl Tryz.ntmps60 rfl (L := [(0, _)]) rfl fun w hh => ?_
  refine g_seq ?_
  refine g_region ?_
  refine g_pure (p_assign rfl) rfl ?_
  refine g_nil ?_
  refine g_qt ?_
  refine g_seq ?_
  refine g_region ?_
  refine g_pure (p_move rfl) rfl ?_
  refine g_pure (p_xor rfl rfl) rfl ?_
  refine g_pure (p_assign rfl) rfl ?_
  refine g_nil ?_
  refine g_qt ?_
  refine g_ret ?_
  exact g_post (rs := [.tmp 2]) rfl (.tmp rfl .nil) ⟨rfl, rfl⟩ .nil

/-- the values of a graph in memory -/
def GrK (p : Nat) (S : St) : List Assn → Prop := fun H => ∃ av cv ai ci mb kn, H = [Blk p (.cells [.slice av S.length cv, .slice ai (ins 0 S).length ci, .map (some mb)].toArray 72 (0, 0)), OwnSl 111 2 av S.length cv (S.flatMap encG), OwnSl 59 1 ai (ins 0 S).length ci ((ins 0 S).map encI), MapB encK mb kn] ∧ WF S ∧ KN S kn
def Gr (p : Nat) (S : St) : Assn := Pk (GrK p S)

theorem idxf_ok {ρ : Nat → Obj → Prop} (al : Option Addr) (cl : Nat) (ls : List Int) (hl : RSl ρ 1 al ls.length (ls.map encI)) (hlen : ls.length ≤ 9223372036854775807) (F : Nat) (cap : Array Value) (pred : Int → Bool) (hF : ∀ l ∈ ls, ∀ ρ', (∀ b o, ρ b o → ρ' b o) → Con Tryz.prog ρ' F (#[.int .i64 l] ++ cap) [] (fun v H => v = .bool (pred l) ∧ H = [])) :
    Con Tryz.prog ρ 82 #[.slice al ls.length cl, .func (.func F) #[] cap] [] (fun v H => v = .int .i64 (match ls.findIdx? pred with | some i => (i : Int) | none => -1) ∧ H = []) := by
  obtain ⟨_, b, off, cs, T, fz, hr⟩ := hl
  refine con_intro Tryz.func82 Tryz.call82 rfl Tryz.ntmps82 rfl (L := [(0, _), (1, _)]) rfl fun w hh => ?_
  refine g_seq ?_
  refine g_region ?_
  refine g_pure (p_assign rfl) rfl ?_
  refine g_nil ?_
  refine g_qt ?_
  refine g_seq ?_
  refine g_seq ?_
  refine g_region ?_
  refine g_pure (p_move rfl) rfl ?_
  refine g_pure (p_len (by rfl) rfl) rfl ?_
  refine g_pure (p_move rfl) rfl ?_
  refine g_nil ?_
  refine g_qt ?_
  refine g_block ?_
  refine g_loop (fun k : Nat => [(0, .slice al ls.length cl), (1, .func (.func F) #[] cap), (7, .int .i64 ls.length), (8, .int .i64 k)]) (fun _ => []) (fun k => k ≤ ls.length ∧ ∀ l ∈ ls.take k, pred l = false) (fun k => ls.length - k) 0 ⟨Nat.zero_le _, by simp⟩ (by (repeat (first | exact trivial | refine ⟨by rfl, ?_⟩)); done) .nil fun k ⟨hk, hno⟩ => ?_
  refine g_seq ?_
  refine g_region ?_
  refine g_pure (p_lss rfl rfl) rfl ?_
  refine g_nil ?_
  refine g_qt ?_
  refine g_seq ?_
  refine g_ifd rfl (fun h1 => ?_) (fun h1 => ?_)
  · have hk' : k < ls.length := by omega
    have hx : (ls.map encI)[k]? = some (.int .i64 ls[k]) := by simp [encI, List.getElem?_eq_getElem hk']
    refine g_skip ?_
    refine g_qt ?_
    refine g_seq ?_
    refine g_block ?_
    refine g_seq ?_
    refine g_region ?_
    refine g_pure (p_move rfl) rfl ?_
    refine g_pure (p_assign rfl) rfl ?_
    refine g_nil ?_
    refine g_qt ?_
    refine g_seq ?_
    refine g_region ?_
    refine g_pure (p_move rfl) rfl ?_
    refine g_pure (p_move rfl) rfl ?_
    refine g_pure (p_move rfl) rfl ?_
    refine g_pure (p_indexAddr rfl rfl (by omega) (fun _ => (hr (by omega)).1)) rfl ?_
    refine g_pure (p_load (v := .int .i64 ls[k]) (by rfl) rfl (Has.ro (hr (by omega)).2.1) (by simpa using (hr (by omega)).2.2 k _ hx)) rfl ?_
    refine g_call (Hin := []) (Hr := ?hr1) (R := ?rr1) rfl rfl rfl ?hin1 ?hc1 ?hk1
    case hin1 => repeat' (first | exact Cover.nil | exact Take.here | apply Cover.cons | apply Take.there)
    case hc1 => intro ρ' hρ hR; exact hF _ (List.getElem_mem hk') ρ' hρ
    rintro _ _ ⟨rfl, rfl⟩
    refine g_nil ?_
    refine g_qt ?_
    refine g_if rfl (fun h2 => ?_) (fun h2 => ?_)
    · refine g_seq ?_
      refine g_region ?_
      refine g_pure (p_move rfl) rfl ?_
      refine g_pure (p_assign rfl) rfl ?_
      refine g_nil ?_
      refine g_qt ?_
      refine g_ret ?_
      refine g_qb_ret ?_
      refine g_qt_ret ?_
      refine g_qn_ret ?_
      refine g_qb_ret ?_
      refine g_qt_ret ?_
      refine g_post (rs := [.tmp 4]) rfl (.tmp rfl .nil) ⟨?_, rfl⟩ .nil
      have e : ls.findIdx? pred = some k := by
        rw [List.findIdx?_eq_some_iff_getElem]
        refine ⟨hk', h2, fun j hj => ?_⟩
        have := hno ls[j] (by rw [List.mem_take_iff_getElem]; exact ⟨j, by omega, rfl⟩)
        simp [this]
      rw [e]; rfl
    · refine g_skip ?_
      refine g_qb ?_
      refine g_qt ?_
      refine g_region ?_
      first | refine g_pure (p_addi rfl rfl (by omega)) rfl ?_ | refine g_pure (p_add rfl rfl) rfl ?_
      refine g_pure (p_move rfl) rfl ?_
      refine g_nil ?_
      refine g_qn ?_
      refine g_next (k + 1) (by (repeat (first | exact trivial | refine ⟨by rfl, ?_⟩)); done) .nil ⟨by omega, fun l hl => ?_⟩ (by omega)
      have h3 : l ∈ ls.take k ++ [ls[k]] := by rw [List.take_append_getElem]; exact hl
      rcases List.mem_append.1 h3 with h4 | h4
      · exact hno l h4
      · rw [List.mem_singleton.1 h4]; exact h2
  · refine g_exit ?_
    refine g_qt_exit ?_
    refine g_qn_exit ?_
    refine g_qb_exit ?_
    refine g_qt ?_
    refine g_seq ?_
    refine g_region ?_
    refine g_pure (p_assign rfl) rfl ?_
    refine g_nil ?_
    refine g_qt ?_
    refine g_ret ?_
    refine g_post (rs := [.tmp 4]) rfl (.tmp rfl .nil) ⟨?_, rfl⟩ .nil
    have e : ls.findIdx? pred = none := by
      rw [List.findIdx?_eq_none_iff]
      intro l hl
      exact hno l (by rw [List.take_of_length_le (by omega)]; exact hl)
    rw [e]; rfl

theorem contains_ok {ρ : Nat → Obj → Prop} (al : Option Addr) (cl : Nat) (ls : List Int) (hl : RSl ρ 1 al ls.length (ls.map encI)) (hlen : ls.length ≤ 9223372036854775807) (F : Nat) (cap : Array Value) (pred : Int → Bool) (hF : ∀ l ∈ ls, ∀ ρ', (∀ b o, ρ b o → ρ' b o) → Con Tryz.prog ρ' F (#[.int .i64 l] ++ cap) [] (fun v H => v = .bool (pred l) ∧ H = [])) :
    Con Tryz.prog ρ 72 #[.slice al ls.length cl, .func (.func F) #[] cap] [] (fun v H => v = .bool (ls.any pred) ∧ H = []) := by
  refine con_intro Tryz.func72 Tryz.call72 rfl Tryz.ntmps72 rfl (L := [(0, _), (1, _)]) rfl fun w hh => ?_
  refine g_seq ?_
  refine g_region ?_
  refine g_pure (p_assign rfl) rfl ?_
  refine g_nil ?_
  refine g_qt ?_
  refine g_seq ?_
  refine g_region ?_
  refine g_pure (p_move rfl) rfl ?_
  refine g_pure (p_move rfl) rfl ?_
  refine g_call (Hin := []) (Hr := ?hr2) (R := ?rr2) rfl rfl rfl ?hin2 ?hc2 ?hk2
  case hin2 => repeat' (first | exact Cover.nil | exact Take.here | apply Cover.cons | apply Take.there)
  case hc2 => intro ρ' hρ hR; exact idxf_ok al cl ls (hl.mono hρ) hlen F cap pred (fun l h1 ρ2 h2 => hF l h1 ρ2 (fun b o h3 => h2 b o (hρ b o h3)))
  rintro _ _ ⟨rfl, rfl⟩
  refine g_pure (p_geq rfl rfl) rfl ?_
  refine g_pure (p_assign rfl) rfl ?_
  refine g_nil ?_
  refine g_qt ?_
  refine g_ret ?_
  refine g_post (rs := [.tmp 4]) rfl (.tmp rfl .nil) ⟨?_, rfl⟩ .nil
  show Value.bool _ = Value.bool _
  congr 1
  cases h : ls.findIdx? pred with
  | none =>
    rw [List.findIdx?_eq_none_iff] at h
    have : ls.any pred = false := by rw [List.any_eq_false]; intro x hx; simp [h x hx]
    rw [this]; rfl
  | some i =>
    rw [List.findIdx?_eq_some_iff_getElem] at h
    obtain ⟨h1, h2, _⟩ := h
    have : ls.any pred = true := List.any_eq_true.2 ⟨_, List.getElem_mem h1, h2⟩
    rw [this]; simp

theorem gr_ro {ρ : Nat → Obj → Prop} {p : Nat} {S : St} (h : Ro ρ (Gr p S)) : ∃ av cv ai ci mb kn, ρ p (.cells [.slice av S.length cv, .slice ai (ins 0 S).length ci, .map (some mb)].toArray 72 (0, 0)) ∧ RSl ρ 2 av S.length (S.flatMap encG) ∧ RSl ρ 1 ai (ins 0 S).length ((ins 0 S).map encI) ∧ Ro ρ (MapB encK mb kn) ∧ WF S ∧ KN S kn := by
  obtain ⟨H1, ⟨av, cv, ai, ci, mb, kn, rfl, hw, hk⟩, r⟩ := h.unpack
  obtain ⟨r1, r2, r3, r4, _⟩ := r
  exact ⟨av, cv, ai, ci, mb, kn, r1.blk, .of_own r2, .of_own r3, r4, hw, hk⟩

theorem ask1_ok {ρ : Nat → Obj → Prop} (p b2 : Nat) (S : St) (a : Int) (ha : -9223372036854775808 ≤ a ∧ a ≤ 9223372036854775807) (hg : Ro ρ (Gr p S)) (hb : ρ b2 (.cells [.pointer (some ⟨p, 0, none⟩)].toArray 24 (0, 0))) :
    Con Tryz.prog ρ 73 #[.int .i64 a, .pointer (some ⟨b2, 0, none⟩)] [] (fun v H => v = .bool (!hasB S a) ∧ H = []) := by
  obtain ⟨av, cv, ai, ci, mb, kn, hp, hv, hi, hm, hw, hk⟩ := gr_ro hg
  have hlim := hw.lim
  refine con_intro Tryz.func73 Tryz.call73 rfl Tryz.ntmps73 rfl (L := [(0, _), (1, _)]) rfl fun w hh => ?_
  refine g_seq ?_
  refine g_region ?_
  refine g_pure (p_assign rfl) rfl ?_
  refine g_nil ?_
  refine g_qt ?_
  refine g_seq ?_
  refine g_region ?_
  refine g_pure (p_move rfl) rfl ?_
  refine g_pure (p_lss rfl rfl) rfl ?_
  refine g_pure (p_move rfl) rfl ?_
  refine g_splitd rfl rfl (fun h1 => ?_) (fun h1 => ?_)
  · refine g_no rfl rfl rfl rfl ?_
    refine g_no rfl rfl rfl rfl ?_
    refine g_no rfl rfl rfl rfl ?_
    refine g_no rfl rfl rfl rfl ?_
    refine g_no rfl rfl rfl rfl ?_
    refine g_no rfl rfl rfl rfl ?_
    refine g_no rfl rfl rfl rfl ?_
    refine g_no rfl rfl rfl rfl ?_
    first | refine g_pure (p_pickt rfl rfl) rfl ?_ | refine g_pure (p_pickf rfl rfl) rfl ?_
    refine g_pure (p_assign rfl) rfl ?_
    refine g_nil ?_
    refine g_qt ?_
    refine g_ret ?_
    refine g_post (rs := [.tmp 3]) rfl (.tmp rfl .nil) ⟨?_, rfl⟩ .nil
    show Value.bool _ = Value.bool _
    congr 1
    unfold hasB; simp; omega
  · refine g_yes rfl rfl ?_
    refine g_pure (p_move rfl) rfl ?_
    refine g_yes rfl rfl ?_
    first | refine g_pure (p_quon rfl rfl (by omega) (by omega)) rfl ?_ | refine g_pure (p_quoi rfl rfl (by omega) (by omega)) rfl ?_ | refine g_pure (p_quo rfl rfl (by omega)) rfl ?_
    refine g_yes rfl rfl ?_
    refine g_pure (p_load (by rfl) rfl (by first | (apply Has.own; (repeat' (first | exact Take.here | apply Take.there)); done) | exact Has.ro (by assumption)) (by first | rfl | assumption)) rfl ?_
    refine g_yes rfl rfl ?_
    refine g_pure (p_nilCheck rfl) rfl ?_
    refine g_yes rfl rfl ?_
    refine g_pure (p_fieldAddr rfl) rfl ?_
    refine g_yes rfl rfl ?_
    refine g_pure (p_load (by rfl) rfl (by first | (apply Has.own; (repeat' (first | exact Take.here | apply Take.there)); done) | exact Has.ro (by assumption)) (by first | rfl | assumption)) rfl ?_
    refine g_yes rfl rfl ?_
    refine g_pure (p_len (by rfl) rfl) rfl ?_
    refine g_yes rfl rfl ?_
    refine g_pure (p_geq rfl rfl) rfl ?_
    first | refine g_pure (p_pickt rfl rfl) rfl ?_ | refine g_pure (p_pickf rfl rfl) rfl ?_
    refine g_pure (p_assign rfl) rfl ?_
    refine g_nil ?_
    refine g_qt ?_
    refine g_ret ?_
    refine g_post (rs := [.tmp 3]) rfl (.tmp rfl .nil) ⟨?_, rfl⟩ .nil
    show Value.bool _ = Value.bool _
    congr 1
    unfold hasB
    by_cases h2 : (S.length : Int) ≤ a / 2 <;> simp [h2] <;> omega

theorem ask_ok {ρ : Nat → Obj → Prop} (p : Nat) (S : St) (al : Option Addr) (cl : Nat) (ls : List Int) (hl : RSl ρ 1 al ls.length (ls.map encI)) (hlen : ls.length ≤ 9223372036854775807) (hr : ∀ l ∈ ls, -9223372036854775808 ≤ l ∧ l ≤ 9223372036854775807) (hg : Ro ρ (Gr p S)) :
    Con Tryz.prog ρ 51 #[.pointer (some ⟨p, 0, none⟩), .slice al ls.length cl] [] (fun v H => v = .int .i64 (if ls.all (hasB S) then 0 else 14) ∧ H = []) := by
  refine con_intro Tryz.func51 Tryz.call51 rfl Tryz.ntmps51 rfl (L := [(0, _), (1, _)]) rfl fun w hh => ?_
  refine g_seq ?_
  refine g_region ?_
  refine g_eff (e_box rfl (by rfl)) rfl (fun _ _ => ?_)
  rintro ⟨b2, rfl, rfl⟩
  refine g_pure (p_assign rfl) rfl ?_
  refine g_nil ?_
  refine g_qt ?_
  refine g_seq ?_
  refine g_seq ?_
  refine g_region ?_
  refine g_pure (p_load (by rfl) rfl (by first | (apply Has.own; (repeat' (first | exact Take.here | apply Take.there)); done) | exact Has.ro (by assumption)) (by first | rfl | assumption)) rfl ?_
  refine g_pure (p_eqnil (by rfl) rfl rfl) rfl ?_
  refine g_nil ?_
  refine g_qt ?_
  refine g_iff rfl ?_
  refine g_skip ?_
  refine g_qt ?_
  refine g_seq ?_
  refine g_seq ?_
  refine g_region ?_
  refine g_pure (p_move rfl) rfl ?_
  refine g_pure (p_makeFunc rfl rfl) rfl ?_
  refine g_call (Hin := []) (Hr := ?hr3) (R := ?rr3) rfl rfl rfl ?hin3 ?hc3 ?hk3
  case hin3 => repeat' (first | exact Cover.nil | exact Take.here | apply Cover.cons | apply Take.there)
  case hc3 => intro ρ' hρ hR; exact contains_ok al cl ls (hl.mono hρ) hlen 73 #[.pointer (some ⟨b2, 0, none⟩)] (fun a => !hasB S a) (fun l h1 ρ2 h2 => ask1_ok p b2 S l (hr l h1) (hg.mono fun b o h => h2 _ _ (hρ _ _ h)) (h2 _ _ hR.1.blk))
  rintro _ _ ⟨rfl, rfl⟩
  refine g_nil ?_
  refine g_qt ?_
  refine g_if rfl (fun h1 => ?_) (fun h1 => ?_)
  · refine g_seq ?_
    refine g_region ?_
    refine g_pure (p_assign rfl) rfl ?_
    refine g_nil ?_
    refine g_qt ?_
    refine g_ret ?_
    refine g_qt_ret ?_
    refine g_post (rs := [.tmp 4]) rfl (.tmp rfl .nil) ⟨?_, rfl⟩ .nil
    have : ls.all (hasB S) = false := by
      rw [List.any_eq_true] at h1
      rw [List.all_eq_false]
      obtain ⟨x, hx, h2⟩ := h1
      exact ⟨x, hx, by simpa using h2⟩
    rw [this]; rfl
  · refine g_skip ?_
    refine g_qt ?_
    refine g_seq ?_
    refine g_region ?_
    refine g_pure (p_assign rfl) rfl ?_
    refine g_nil ?_
    refine g_qt ?_
    refine g_ret ?_
    refine g_post (rs := [.tmp 4]) rfl (.tmp rfl .nil) ⟨?_, rfl⟩ .nil
    have : ls.all (hasB S) = true := by
      rw [List.any_eq_false] at h1
      rw [List.all_eq_true]
      intro x hx
      simpa using h1 x hx
    rw [this]; rfl

theorem ask_yes {ρ : Nat → Obj → Prop} (p : Nat) (S : St) (al : Option Addr) (cl : Nat) (ls : List Int) (hl : RSl ρ 1 al ls.length (ls.map encI)) (hlen : ls.length ≤ 9223372036854775807) (hr : ∀ l ∈ ls, -9223372036854775808 ≤ l ∧ l ≤ 9223372036854775807) (hg : Ro ρ (Gr p S)) (hy : ls.all (hasB S) = true) :
    Con Tryz.prog ρ 51 #[.pointer (some ⟨p, 0, none⟩), .slice al ls.length cl] [] (fun v H => v = .int .i64 0 ∧ H = []) :=
  (ask_ok p S al cl ls hl hlen hr hg).mono fun v H h => by rw [hy] at h; exact h
theorem ask_no {ρ : Nat → Obj → Prop} (p : Nat) (S : St) (al : Option Addr) (cl : Nat) (ls : List Int) (hl : RSl ρ 1 al ls.length (ls.map encI)) (hlen : ls.length ≤ 9223372036854775807) (hr : ∀ l ∈ ls, -9223372036854775808 ≤ l ∧ l ≤ 9223372036854775807) (hg : Ro ρ (Gr p S)) (hy : ls.all (hasB S) = false) :
    Con Tryz.prog ρ 51 #[.pointer (some ⟨p, 0, none⟩), .slice al ls.length cl] [] (fun v H => v = .int .i64 14 ∧ H = []) :=
  (ask_ok p S al cl ls hl hlen hr hg).mono fun v H h => by rw [hy] at h; exact h

theorem add_ok {ρ : Nat → Obj → Prop} (p : Nat) (av : Option Addr) (m cv : Nat) (X Y : Value) (rows : List Value) (a b : Int) (hm : m ≤ 131072) :
    Con Tryz.prog ρ 58 #[.pointer (some ⟨p, 0, none⟩), .agg #[.int .i64 a, .int .i64 b]] [Blk p (.cells [.slice av m cv, X, Y].toArray 72 (0, 0)), OwnSl 111 2 av m cv rows]
      (fun v H => (131072 ≤ m ∧ v = .tuple #[.int .i64 0, .int .i64 3] ∧ H = [Blk p (.cells [.slice av m cv, X, Y].toArray 72 (0, 0)), OwnSl 111 2 av m cv rows]) ∨
        (m < 131072 ∧ ∃ av' cv', v = .tuple #[.int .i64 (2 * (m : Int)), .int .i64 0] ∧ H = [Blk p (.cells [.slice av' (m + 1) cv', X, Y].toArray 72 (0, 0)), OwnSl 111 2 av' (m + 1) cv' (rows ++ [.int .i64 a, .int .i64 b])])) := by
  refine con_intro Tryz.func58 Tryz.call58 rfl Tryz.ntmps58 rfl (L := [(0, _), (1, _)]) rfl fun w hh => ?_
  refine g_seq ?_
  refine g_region ?_
  refine g_eff (e_box rfl (by rfl)) rfl (fun _ _ => ?_)
  rintro ⟨b3, rfl, rfl⟩
  refine g_pure (p_assign rfl) rfl ?_
  refine g_pure (p_assign rfl) rfl ?_
  refine g_nil ?_
  refine g_qt ?_
  refine g_seq ?_
  refine g_seq ?_
  refine g_region ?_
  refine g_pure (p_move rfl) rfl ?_
  refine g_pure (p_nilCheck rfl) rfl ?_
  refine g_pure (p_fieldAddr rfl) rfl ?_
  refine g_pure (p_load (by rfl) rfl (by first | (apply Has.own; (repeat' (first | exact Take.here | apply Take.there)); done) | exact Has.ro (by assumption)) (by first | rfl | assumption)) rfl ?_
  refine g_pure (p_len (by rfl) rfl) rfl ?_
  refine g_pure (p_geq rfl rfl) rfl ?_
  refine g_nil ?_
  refine g_qt ?_
  refine g_ifd rfl (fun h1 => ?_) (fun h1 => ?_)
  · refine g_seq ?_
    refine g_region ?_
    refine g_pure (p_assign rfl) rfl ?_
    refine g_pure (p_assign rfl) rfl ?_
    refine g_nil ?_
    refine g_qt ?_
    refine g_ret ?_
    refine g_qt_ret ?_
    exact g_post (rs := [.tmp 4, .tmp 5]) rfl (.tmp rfl (.tmp rfl .nil)) (.inl ⟨by omega, rfl, rfl⟩) (by repeat' (first | exact Cover.nil | exact Take.here | apply Cover.cons | apply Take.there))
  · refine g_skip ?_
    refine g_qt ?_
    refine g_seq ?_
    refine m_begin0 (.fl 0 0 (.fl 1 0 (.fl 2 0 (.fl 3 0 (.fl 4 1 (.fl 5 1 (.ef 6 (.ef 7 (.fl 8 0 (.fl 9 0 (.ef 10 .done))))))))))) (by kernel_rfl) (by kernel_rfl) ?_
    refine m_float0 rfl (fun _ _ => p_move rfl) rfl ?_
    refine m_float0 rfl (fun _ _ => p_move rfl) rfl ?_
    refine m_float0 rfl (fun _ _ => p_nilCheck rfl) rfl ?_
    refine m_float0 rfl (fun _ _ => p_fieldAddr rfl) rfl ?_
    refine m_float rfl (p_load (by rfl) rfl (by first | (apply Has.own; (repeat' (first | exact Take.here | apply Take.there)); done) | exact Has.ro (by assumption)) (by first | rfl | assumption)) rfl ?_
    first | refine m_float rfl (p_loadO (by rfl) rfl (by first | (apply Has.own; (repeat' (first | exact Take.here | apply Take.there)); done) | exact Has.ro (by assumption)) (by rfl)) rfl ?_ | refine m_float rfl (p_loadN (by rfl) rfl (by first | (apply Has.own; (repeat' (first | exact Take.here | apply Take.there)); done) | exact Has.ro (by assumption)) (by first | rfl | assumption)) rfl ?_
    refine m_eff rfl (e_bs (xs := [.tmp 17]) rfl rfl rfl (by rfl) (by rfl) rfl (by rfl)) rfl (fun _ _ => ?_)
    rintro ⟨b18, rfl, rfl⟩
    refine ⟨.some (by repeat' (first | exact Cover.nil | exact Take.here | apply Cover.cons | apply Take.there)), ?_⟩
    refine m_eff rfl (e_appendO (by rfl) (by rfl) rfl rfl (by first | (apply Has.own; (repeat' (first | exact Take.here | apply Take.there)); done) | exact Has.ro (by assumption)) (by rfl) (by rfl) (by repeat' (first | exact Take.here | apply Take.there)) (by omega) (by first | omega | (dsimp only; omega) | (simp <;> omega)) (by omega)) rfl (fun _ _ => ?_)
    rintro ⟨a19, c19, rfl, rfl⟩
    refine ⟨.none (by kernel_rfl), ?_⟩
    refine m_float0 rfl (fun _ _ => p_nilCheck rfl) rfl ?_
    refine m_float0 rfl (fun _ _ => p_fieldAddr rfl) rfl ?_
    first | refine m_eff0 rfl (e_storeO rfl rfl (by rfl) (by rfl) (by rfl) (by repeat' (first | exact Take.here | apply Take.there)) (by rfl)) (fun _ _ => ?_) | refine m_eff0 rfl (e_store1 (by rfl) rfl rfl rfl (by repeat' (first | exact Take.here | apply Take.there)) (by first | decide | (simp <;> omega) | omega)) (fun _ _ => ?_)
    rintro rfl
    refine ⟨.none (by kernel_rfl), ?_⟩
    refine m_nil ?_
    refine g_qt ?_
    refine g_seq ?_
    refine g_region ?_
    refine g_pure (p_move rfl) rfl ?_
    refine g_pure (p_nilCheck rfl) rfl ?_
    refine g_pure (p_fieldAddr rfl) rfl ?_
    refine g_pure (p_load (by rfl) rfl (by first | (apply Has.own; (repeat' (first | exact Take.here | apply Take.there)); done) | exact Has.ro (by assumption)) (by first | rfl | assumption)) rfl ?_
    refine g_pure (p_len (by rfl) rfl) rfl ?_
    first | refine g_pure (p_subi rfl rfl (by omega)) rfl ?_ | refine g_pure (p_sub rfl rfl) rfl ?_
    first | refine g_pure (p_muli rfl rfl (by omega)) rfl ?_ | refine g_pure (p_mul rfl rfl) rfl ?_
    refine g_pure (p_assign rfl) rfl ?_
    refine g_pure (p_assign rfl) rfl ?_
    refine g_nil ?_
    refine g_qt ?_
    refine g_ret ?_
    exact g_post (rs := [.tmp 4, .tmp 5]) rfl (.tmp rfl (.tmp rfl .nil)) (.inr ⟨by omega, a19, c19, by simp [tupled], rfl⟩) (by repeat' (first | exact Cover.nil | exact Take.here | apply Cover.cons | apply Take.there))

theorem nt_xor (a : Int) (h : -9223372036854775808 ≤ a ∧ a ≤ 9223372036854775807) : bitV .xor .i64 a 1 = nt a := xor1_i64 a h

theorem rtup (a b : Int) : Value.tuple #[Value.int .i64 a, Value.int .i64 b] = tupled [Value.int .i64 a, Value.int .i64 b] := rfl

theorem gr_close {M : Mx} {n : Nat} {L : Fr} {H Hr : List Assn} {T : Act → World → Prop} {p : Nat} {S : St} {av ai : Option Addr} {cv ci mb k1 k2 : Nat} {kn : List ((Int × Int) × Value)} {rows : List Value} {is : List Value} (hw : WF S) (hk : KN S kn)
    (hc : Cover H [Blk p (.cells [.slice av k1 cv, .slice ai k2 ci, .map (some mb)].toArray 72 (0, 0)), OwnSl 111 2 av k1 cv rows, OwnSl 59 1 ai k2 ci is, MapB encK mb kn] Hr)
    (h1 : k1 = S.length) (h2 : k2 = (ins 0 S).length) (h3 : rows = S.flatMap encG) (h4 : is = (ins 0 S).map encI) (h : G M n L (Gr p S :: Hr) T) : G M n L H T := by
  subst h1 h2 h3 h4
  exact g_close (K := GrK p S) ⟨av, cv, ai, ci, mb, kn, rfl, hw, hk⟩ hc h

theorem gr_wf {M : Mx} {n : Nat} {L : Fr} {H H' : List Assn} {T : Act → World → Prop} {p : Nat} {S : St} (tk : Take H (Gr p S) H') (h : WF S → G M n L H T) : G M n L H T := by
  intro a w ha hm
  obtain ⟨hh, s, su, d, r⟩ := hm.own
  obtain ⟨h1, h2, ⟨H1, ⟨av, cv, ai, ci, mb, kn, e, hw, hk⟩, s1⟩, s2, dd, rfl⟩ := tk.sat s
  exact h hw a w ha hm

theorem and0_ok {ρ : Nat → Obj → Prop} (p : Nat) (S : St) (a b : Int) (ha : has S a) (hb : has S b) :
    Con Tryz.prog ρ 59 #[.pointer (some ⟨p, 0, none⟩), .int .i64 a, .int .i64 b] [Gr p S] (fun v H => v = .tuple #[.int .i64 (and0 S a b).1, .int .i64 (and0 S a b).2.1] ∧ H = [Gr p (and0 S a b).2.2]) := by
  obtain ⟨ha0, ha1⟩ := ha
  obtain ⟨hb0, hb1⟩ := hb
  refine con_intro Tryz.func59 Tryz.call59 rfl Tryz.ntmps59 rfl (L := [(0, _), (1, _), (2, _)]) rfl fun w hh => ?_
  refine g_open .here ?_
  rintro _ ⟨av, cv, ai, ci, mb, kn, rfl, hw, hk⟩
  have hlim := hw.lim
  have hnx := nt_xor (max a b) (by omega)
  have hlook := hk.look (min a b) (max a b)
  refine g_seq ?_
  refine g_region ?_
  refine g_pure (p_assign rfl) rfl ?_
  refine g_pure (p_assign rfl) rfl ?_
  refine g_nil ?_
  refine g_qt ?_
  refine g_seq ?_
  refine g_region ?_
  refine g_pure (p_move rfl) rfl ?_
  refine g_pure (p_move rfl) rfl ?_
  refine g_pure (p_min rfl rfl) rfl ?_
  refine g_pure (p_move rfl) rfl ?_
  refine g_pure (p_move rfl) rfl ?_
  refine g_pure (p_max rfl rfl) rfl ?_
  refine g_pure (p_build (by rfl) rfl (by rfl)) rfl ?_
  refine g_eff (e_alloc (by rfl)) rfl (fun _ _ => ?_)
  rintro ⟨b8, rfl, rfl⟩
  first | refine g_eff0 (e_storeO rfl rfl (by rfl) (by rfl) (by rfl) (by repeat' (first | exact Take.here | apply Take.there)) (by rfl)) (fun _ _ => ?_) | refine g_eff0 (e_storeN rfl rfl (by rfl) (by rfl) (by rfl) (by repeat' (first | exact Take.here | apply Take.there)) (by simp)) (fun _ _ => ?_)
  rintro rfl
  refine g_nil ?_
  refine g_qt ?_
  refine g_block ?_
  refine g_seq ?_
  refine m_begin0 (.fl 0 0 (.fl 1 1 (.fl 2 0 (.fl 3 0 (.fl 4 0 (.fl 5 1 (.fl 6 0 (.fl 7 1 (.ef 8 (.fl 9 0 (.fl 10 0 (.fl 11 0 .done)))))))))))) (by kernel_rfl) (by kernel_rfl) ?_
  refine m_float0 rfl (fun _ _ => p_fieldAddr rfl) rfl ?_
  refine m_float rfl (p_load (by rfl) rfl (by first | (apply Has.own; (repeat' (first | exact Take.here | apply Take.there)); done) | exact Has.ro (by assumption)) (by first | rfl | assumption)) rfl ?_
  refine m_float0 rfl (fun _ _ => p_eql rfl rfl) rfl ?_
  refine m_float0 rfl (fun _ _ => p_move rfl) rfl ?_
  refine m_splitd 3 rfl rfl (fun h1 => ?_) (fun h1 => ?_)
  · refine m_no0 rfl rfl rfl rfl rfl ?_
    refine m_no rfl rfl rfl rfl rfl ?_
    refine m_no0 rfl rfl rfl rfl rfl ?_
    refine m_no rfl rfl rfl rfl rfl ?_
    refine m_noe rfl rfl rfl rfl rfl (.some (by repeat' (first | exact Cover.nil | exact Take.here | apply Cover.cons | apply Take.there))) ?_
    refine m_no0 rfl rfl rfl rfl rfl ?_
    first | refine m_float0 rfl (fun _ _ => p_pickt rfl rfl) rfl ?_ | refine m_float0 rfl (fun _ _ => p_pickf rfl rfl) rfl ?_
    refine m_float0 rfl (fun _ _ => p_assign rfl) rfl ?_
    refine m_nil ?_
    refine g_qt ?_
    refine g_ift rfl ?_
    refine g_seq ?_
    refine g_region ?_
    refine g_pure (p_assign rfl) rfl ?_
    refine g_pure (p_assign rfl) rfl ?_
    refine g_nil ?_
    refine g_qt ?_
    refine g_ret ?_
    refine g_qb_ret ?_
    refine gr_close hw hk (by repeat' (first | exact Cover.nil | exact Take.here | apply Cover.cons | apply Take.there)) rfl rfl rfl rfl ?_
    have e : and0 S a b = (0, 0, S) := if_pos (.inl h1)
    exact g_post (rs := [.tmp 6, .tmp 7]) rfl (.tmp rfl (.tmp rfl .nil)) ⟨by rw [e]; rfl, by rw [e]⟩ (by repeat' (first | exact Cover.nil | exact Take.here | apply Cover.cons | apply Take.there))
  · refine m_yes0 rfl rfl rfl (fun _ _ => p_fieldAddr rfl) rfl ?_
    refine m_yes rfl rfl rfl (p_load (by rfl) rfl (by first | (apply Has.own; (repeat' (first | exact Take.here | apply Take.there)); done) | exact Has.ro (by assumption)) (by first | rfl | assumption)) rfl ?_
    refine m_yes0 rfl rfl rfl (fun _ _ => p_fieldAddr rfl) rfl ?_
    refine m_yes rfl rfl rfl (p_load (by rfl) rfl (by first | (apply Has.own; (repeat' (first | exact Take.here | apply Take.there)); done) | exact Has.ro (by assumption)) (by first | rfl | assumption)) rfl ?_
    refine m_call (Hin := []) (Hr := ?hr4) (R := ?rr4) rfl (wantedY rfl rfl) rfl rfl rfl ?hin4 ?hc4 ?hk4
    case hin4 => repeat' (first | exact Cover.nil | exact Take.here | apply Cover.cons | apply Take.there)
    case hc4 => intro ρ' hρ hR; exact not_ok (max a b)
    rintro _ _ ⟨rfl, rfl⟩
    refine ⟨.some (by repeat' (first | exact Cover.nil | exact Take.here | apply Cover.cons | apply Take.there)), ?_⟩
    refine m_yes0 rfl rfl rfl (fun _ _ => p_eql rfl rfl) rfl ?_
    first | refine m_float0 rfl (fun _ _ => p_pickt rfl rfl) rfl ?_ | refine m_float0 rfl (fun _ _ => p_pickf rfl rfl) rfl ?_
    refine m_float0 rfl (fun _ _ => p_assign rfl) rfl ?_
    refine m_nil ?_
    refine g_qt ?_
    refine g_ifd rfl (fun h2 => ?_) (fun h2 => ?_)
    · refine g_seq ?_
      refine g_region ?_
      refine g_pure (p_assign rfl) rfl ?_
      refine g_pure (p_assign rfl) rfl ?_
      refine g_nil ?_
      refine g_qt ?_
      refine g_ret ?_
      refine g_qb_ret ?_
      refine gr_close hw hk (by repeat' (first | exact Cover.nil | exact Take.here | apply Cover.cons | apply Take.there)) rfl rfl rfl rfl ?_
      have e : and0 S a b = (0, 0, S) := if_pos (.inr (by rw [← hnx]; exact h2))
      exact g_post (rs := [.tmp 6, .tmp 7]) rfl (.tmp rfl (.tmp rfl .nil)) ⟨by rw [e]; rfl, by rw [e]⟩ (by repeat' (first | exact Cover.nil | exact Take.here | apply Cover.cons | apply Take.there))
    · have c1 : ¬ (min a b = 0 ∨ min a b = nt (max a b)) := by rw [← hnx]; rintro (h | h); exact h1 h; exact h2 h
      refine g_seq ?_
      refine g_region ?_
      refine g_pure (p_fieldAddr rfl) rfl ?_
      refine g_pure (p_load (by rfl) rfl (by first | (apply Has.own; (repeat' (first | exact Take.here | apply Take.there)); done) | exact Has.ro (by assumption)) (by first | rfl | assumption)) rfl ?_
      refine g_pure (p_eql rfl rfl) rfl ?_
      refine g_pure (p_move rfl) rfl ?_
      refine g_splitd rfl rfl (fun h3 => ?_) (fun h3 => ?_)
      · refine g_no rfl rfl rfl rfl ?_
        refine g_no rfl rfl rfl rfl ?_
        refine g_no rfl rfl rfl rfl ?_
        refine g_no rfl rfl rfl rfl ?_
        refine g_no rfl rfl rfl rfl ?_
        first | refine g_pure (p_pickt rfl rfl) rfl ?_ | refine g_pure (p_pickf rfl rfl) rfl ?_
        refine g_pure (p_assign rfl) rfl ?_
        refine g_nil ?_
        refine g_qt ?_
        refine g_ift rfl ?_
        refine g_seq ?_
        refine g_region ?_
        refine g_pure (p_fieldAddr rfl) rfl ?_
        refine g_pure (p_load (by rfl) rfl (by first | (apply Has.own; (repeat' (first | exact Take.here | apply Take.there)); done) | exact Has.ro (by assumption)) (by first | rfl | assumption)) rfl ?_
        refine g_pure (p_assign rfl) rfl ?_
        refine g_pure (p_assign rfl) rfl ?_
        refine g_nil ?_
        refine g_qt ?_
        refine g_ret ?_
        refine g_qb_ret ?_
        refine gr_close hw hk (by repeat' (first | exact Cover.nil | exact Take.here | apply Cover.cons | apply Take.there)) rfl rfl rfl rfl ?_
        have e : and0 S a b = (max a b, 0, S) := by unfold and0; rw [if_neg c1, if_pos (.inl h3)]
        exact g_post (rs := [.tmp 6, .tmp 7]) rfl (.tmp rfl (.tmp rfl .nil)) ⟨by rw [e]; rfl, by rw [e]⟩ (by repeat' (first | exact Cover.nil | exact Take.here | apply Cover.cons | apply Take.there))
      · refine g_yes rfl rfl ?_
        refine g_pure (p_fieldAddr rfl) rfl ?_
        refine g_yes rfl rfl ?_
        refine g_pure (p_load (by rfl) rfl (by first | (apply Has.own; (repeat' (first | exact Take.here | apply Take.there)); done) | exact Has.ro (by assumption)) (by first | rfl | assumption)) rfl ?_
        refine g_yes rfl rfl ?_
        refine g_pure (p_fieldAddr rfl) rfl ?_
        refine g_yes rfl rfl ?_
        refine g_pure (p_load (by rfl) rfl (by first | (apply Has.own; (repeat' (first | exact Take.here | apply Take.there)); done) | exact Has.ro (by assumption)) (by first | rfl | assumption)) rfl ?_
        refine g_yes rfl rfl ?_
        refine g_pure (p_eql rfl rfl) rfl ?_
        first | refine g_pure (p_pickt rfl rfl) rfl ?_ | refine g_pure (p_pickf rfl rfl) rfl ?_
        refine g_pure (p_assign rfl) rfl ?_
        refine g_nil ?_
        refine g_qt ?_
        refine g_ifd rfl (fun h4 => ?_) (fun h4 => ?_)
        · refine g_seq ?_
          refine g_region ?_
          refine g_pure (p_fieldAddr rfl) rfl ?_
          refine g_pure (p_load (by rfl) rfl (by first | (apply Has.own; (repeat' (first | exact Take.here | apply Take.there)); done) | exact Has.ro (by assumption)) (by first | rfl | assumption)) rfl ?_
          refine g_pure (p_assign rfl) rfl ?_
          refine g_pure (p_assign rfl) rfl ?_
          refine g_nil ?_
          refine g_qt ?_
          refine g_ret ?_
          refine g_qb_ret ?_
          refine gr_close hw hk (by repeat' (first | exact Cover.nil | exact Take.here | apply Cover.cons | apply Take.there)) rfl rfl rfl rfl ?_
          have e : and0 S a b = (max a b, 0, S) := by unfold and0; rw [if_neg c1, if_pos (.inr h4)]
          exact g_post (rs := [.tmp 6, .tmp 7]) rfl (.tmp rfl (.tmp rfl .nil)) ⟨by rw [e]; rfl, by rw [e]⟩ (by repeat' (first | exact Cover.nil | exact Take.here | apply Cover.cons | apply Take.there))
        · have c2 : ¬ (min a b = 1 ∨ min a b = max a b) := by rintro (h | h); exact h3 h; exact h4 h
          cases hf : find (S.drop 1) 1 (min a b) (max a b) with
          | some u =>
            obtain ⟨q, hq⟩ : ∃ q, idx kn (min a b, max a b) 0 = some (q, .int .i64 (2 * (u : Int))) := by
              rw [hf] at hlook
              cases hi : idx kn (min a b, max a b) 0 with
              | none => rw [hi] at hlook; simp at hlook
              | some r => rw [hi] at hlook; simp at hlook; exact ⟨r.1, by rw [← hlook]⟩
            have e : and0 S a b = (2 * (u : Int), 0, S) := by unfold and0; rw [if_neg c1, if_neg c2, hf]
            refine g_seq ?_
            refine g_seq ?_
            refine m_begin0 (.fl 0 0 (.fl 1 0 (.fl 2 0 (.fl 3 1 (.fl 4 1 (.fl 5 1 (.fl 6 0 (.fl 7 0 (.fl 8 0 (.fl 9 0 (.fl 10 0 .done))))))))))) (by kernel_rfl) (by kernel_rfl) ?_
            refine m_float0 rfl (fun _ _ => p_move rfl) rfl ?_
            refine m_float0 rfl (fun _ _ => p_nilCheck rfl) rfl ?_
            refine m_float0 rfl (fun _ _ => p_fieldAddr rfl) rfl ?_
            refine m_float rfl (p_load (by rfl) rfl (by first | (apply Has.own; (repeat' (first | exact Take.here | apply Take.there)); done) | exact Has.ro (by assumption)) (by first | rfl | assumption)) rfl ?_
            first | refine m_float rfl (p_loadO (by rfl) rfl (by first | (apply Has.own; (repeat' (first | exact Take.here | apply Take.there)); done) | exact Has.ro (by assumption)) (by rfl)) rfl ?_ | refine m_float rfl (p_loadN (by rfl) rfl (by first | (apply Has.own; (repeat' (first | exact Take.here | apply Take.there)); done) | exact Has.ro (by assumption)) (by first | rfl | assumption)) rfl ?_
            refine m_float rfl (p_lookS (k := (min a b, max a b)) keyGate rfl rfl (HasMap.own (by repeat' (first | exact Take.here | apply Take.there))) hq) rfl ?_
            refine m_float0 rfl (fun _ _ => p_move rfl) rfl ?_
            refine m_float0 rfl (fun _ _ => p_extract rfl rfl) rfl ?_
            refine m_float0 rfl (fun _ _ => p_extract rfl rfl) rfl ?_
            refine m_float0 rfl (fun _ _ => p_assign rfl) rfl ?_
            refine m_float0 rfl (fun _ _ => p_assign rfl) rfl ?_
            refine m_nil ?_
            refine g_qt ?_
            refine g_seq ?_
            refine g_region ?_
            refine g_pure (p_move rfl) rfl ?_
            refine g_nil ?_
            refine g_qt ?_
            refine g_ift rfl ?_
            refine g_seq ?_
            refine g_region ?_
            refine g_pure (p_move rfl) rfl ?_
            refine g_pure (p_assign rfl) rfl ?_
            refine g_pure (p_assign rfl) rfl ?_
            refine g_nil ?_
            refine g_qt ?_
            refine g_ret ?_
            refine g_qt_ret ?_
            refine g_qb_ret ?_
            refine gr_close hw hk (by repeat' (first | exact Cover.nil | exact Take.here | apply Cover.cons | apply Take.there)) rfl rfl rfl rfl ?_
            exact g_post (rs := [.tmp 6, .tmp 7]) rfl (.tmp rfl (.tmp rfl .nil)) ⟨by rw [e]; rfl, by rw [e]⟩ (by repeat' (first | exact Cover.nil | exact Take.here | apply Cover.cons | apply Take.there))
          | none =>
            have hq : idx kn (min a b, max a b) 0 = none := by
              rw [hf] at hlook; simpa using hlook
            have hx : 2 ≤ min a b := by omega
            have hxy : min a b < max a b := by omega
            have hy : max a b < 2 * S.length := by omega
            refine g_seq ?_
            refine g_seq ?_
            refine m_begin0 (.fl 0 0 (.fl 1 0 (.fl 2 0 (.fl 3 1 (.fl 4 1 (.fl 5 1 (.fl 6 0 (.fl 7 0 (.fl 8 0 (.fl 9 0 (.fl 10 0 .done))))))))))) (by kernel_rfl) (by kernel_rfl) ?_
            refine m_float0 rfl (fun _ _ => p_move rfl) rfl ?_
            refine m_float0 rfl (fun _ _ => p_nilCheck rfl) rfl ?_
            refine m_float0 rfl (fun _ _ => p_fieldAddr rfl) rfl ?_
            refine m_float rfl (p_load (by rfl) rfl (by first | (apply Has.own; (repeat' (first | exact Take.here | apply Take.there)); done) | exact Has.ro (by assumption)) (by first | rfl | assumption)) rfl ?_
            first | refine m_float rfl (p_loadO (by rfl) rfl (by first | (apply Has.own; (repeat' (first | exact Take.here | apply Take.there)); done) | exact Has.ro (by assumption)) (by rfl)) rfl ?_ | refine m_float rfl (p_loadN (by rfl) rfl (by first | (apply Has.own; (repeat' (first | exact Take.here | apply Take.there)); done) | exact Has.ro (by assumption)) (by first | rfl | assumption)) rfl ?_
            refine m_float rfl (p_lookN (k := (min a b, max a b)) keyGate rfl rfl (HasMap.own (by repeat' (first | exact Take.here | apply Take.there))) hq rfl) rfl ?_
            refine m_float0 rfl (fun _ _ => p_move rfl) rfl ?_
            refine m_float0 rfl (fun _ _ => p_extract rfl rfl) rfl ?_
            refine m_float0 rfl (fun _ _ => p_extract rfl rfl) rfl ?_
            refine m_float0 rfl (fun _ _ => p_assign rfl) rfl ?_
            refine m_float0 rfl (fun _ _ => p_assign rfl) rfl ?_
            refine m_nil ?_
            refine g_qt ?_
            refine g_seq ?_
            refine g_region ?_
            refine g_pure (p_move rfl) rfl ?_
            refine g_nil ?_
            refine g_qt ?_
            refine g_iff rfl ?_
            refine g_skip ?_
            refine g_qt ?_
            refine g_seq ?_
            refine g_region ?_
            refine g_pure (p_move rfl) rfl ?_
            first | refine g_pure (p_loadO (by rfl) rfl (by first | (apply Has.own; (repeat' (first | exact Take.here | apply Take.there)); done) | exact Has.ro (by assumption)) (by rfl)) rfl ?_ | refine g_pure (p_loadN (by rfl) rfl (by first | (apply Has.own; (repeat' (first | exact Take.here | apply Take.there)); done) | exact Has.ro (by assumption)) (by first | rfl | assumption)) rfl ?_
            refine g_call (Hin := ?hi5) (Hr := ?hr5) (R := ?rr5) rfl rfl rfl ?hin5 ?hc5 ?hk5
            case hc5 => intro ρ' hρ hR; exact add_ok p av S.length cv (.slice ai (ins 0 S).length ci) (.map (some mb)) (S.flatMap encG) (min a b) (max a b) hw.lim
            case hin5 => repeat' (first | exact Cover.nil | exact Take.here | apply Cover.cons | apply Take.there)
            rintro _ _ (⟨hl, rfl, rfl⟩ | ⟨hl, av', cv', rfl, rfl⟩)
            · refine g_pure (p_move rfl) rfl ?_
              refine g_pure (p_extract rfl rfl) rfl ?_
              refine g_pure (p_extract rfl rfl) rfl ?_
              refine g_pure (p_assign rfl) rfl ?_
              refine g_pure (p_assign rfl) rfl ?_
              refine g_nil ?_
              refine g_qt ?_
              refine g_seq ?_
              refine g_seq ?_
              refine g_region ?_
              refine g_pure (p_move rfl) rfl ?_
              refine g_pure (p_eql rfl rfl) rfl ?_
              refine g_nil ?_
              refine g_qt ?_
              refine g_iff rfl ?_
              refine g_skip ?_
              refine g_qt ?_
              refine g_seq ?_
              refine g_region ?_
              refine g_pure (p_move rfl) rfl ?_
              refine g_pure (p_move rfl) rfl ?_
              refine g_pure (p_assign rfl) rfl ?_
              refine g_pure (p_assign rfl) rfl ?_
              refine g_nil ?_
              refine g_qt ?_
              refine g_ret ?_
              refine g_qb_ret ?_
              have e : and0 S a b = (0, 3, S) := by unfold and0; rw [if_neg c1, if_neg c2, hf]; exact if_pos hl
              refine gr_close hw hk (by repeat' (first | exact Cover.nil | exact Take.here | apply Cover.cons | apply Take.there)) rfl rfl rfl rfl ?_
              exact g_post (rs := [.tmp 6, .tmp 7]) rfl (.tmp rfl (.tmp rfl .nil)) ⟨by rw [e]; rfl, by rw [e]⟩ (by repeat' (first | exact Cover.nil | exact Take.here | apply Cover.cons | apply Take.there))
            · obtain ⟨hkn, hk'⟩ := hk.gate hw.pos hf
              have hw' := hw.gate' hl hx hxy hy hf
              have e : and0 S a b = (2 * (S.length : Int), 0, S ++ [(min a b, max a b, false)]) := by unfold and0; rw [if_neg c1, if_neg c2, hf]; exact if_neg (by omega)
              refine g_pure (p_move rfl) rfl ?_
              refine g_pure (p_extract rfl rfl) rfl ?_
              refine g_pure (p_extract rfl rfl) rfl ?_
              refine g_pure (p_assign rfl) rfl ?_
              refine g_pure (p_assign rfl) rfl ?_
              refine g_nil ?_
              refine g_qt ?_
              refine g_seq ?_
              refine g_seq ?_
              refine g_region ?_
              refine g_pure (p_move rfl) rfl ?_
              refine g_pure (p_eql rfl rfl) rfl ?_
              refine g_nil ?_
              refine g_qt ?_
              refine g_ift rfl ?_
              refine m_begin0 (.fl 0 0 (.fl 1 0 (.fl 2 0 (.fl 3 1 (.fl 4 1 (.fl 5 0 (.ef 6 .done))))))) (by kernel_rfl) (by kernel_rfl) ?_
              refine m_float0 rfl (fun _ _ => p_move rfl) rfl ?_
              refine m_float0 rfl (fun _ _ => p_nilCheck rfl) rfl ?_
              refine m_float0 rfl (fun _ _ => p_fieldAddr rfl) rfl ?_
              refine m_float rfl (p_load (by rfl) rfl (by first | (apply Has.own; (repeat' (first | exact Take.here | apply Take.there)); done) | exact Has.ro (by assumption)) (by first | rfl | assumption)) rfl ?_
              first | refine m_float rfl (p_loadO (by rfl) rfl (by first | (apply Has.own; (repeat' (first | exact Take.here | apply Take.there)); done) | exact Has.ro (by assumption)) (by rfl)) rfl ?_ | refine m_float rfl (p_loadN (by rfl) rfl (by first | (apply Has.own; (repeat' (first | exact Take.here | apply Take.there)); done) | exact Has.ro (by assumption)) (by first | rfl | assumption)) rfl ?_
              refine m_float0 rfl (fun _ _ => p_move rfl) rfl ?_
              refine m_eff0 rfl (e_mapNew (k := (min a b, max a b)) keyGate rfl rfl rfl (by repeat' (first | exact Take.here | apply Take.there)) hkn) (fun _ _ => ?_)
              rintro rfl
              refine ⟨.none (by kernel_rfl), ?_⟩
              refine m_nil ?_
              refine g_qt ?_
              refine g_seq ?_
              refine g_region ?_
              refine g_pure (p_move rfl) rfl ?_
              refine g_pure (p_move rfl) rfl ?_
              refine g_pure (p_assign rfl) rfl ?_
              refine g_pure (p_assign rfl) rfl ?_
              refine g_nil ?_
              refine g_qt ?_
              refine g_ret ?_
              refine g_qb_ret ?_
              refine gr_close hw' hk' (by repeat' (first | exact Cover.nil | exact Take.here | apply Cover.cons | apply Take.there)) (by simp) (by rw [ins_append]; simp [ins]) (by simp [encG]) (by rw [ins_append]; simp [ins]) ?_
              exact g_post (rs := [.tmp 6, .tmp 7]) rfl (.tmp rfl (.tmp rfl .nil)) ⟨by rw [e]; rfl, by rw [e]⟩ (by repeat' (first | exact Cover.nil | exact Take.here | apply Cover.cons | apply Take.there))
end Go.Proofs.YtopgbgnmjogeeaaGreatDoor
/- Chapter 35: the methods of a graph. Conditions: none. -/
namespace Go.Proofs.YtopgbgnmjogeeaaGreatDoor
set_option maxRecDepth 8000
set_option linter.unusedVariables false
set_option linter.unusedSimpArgs false
set_option linter.unusedSectionVars false
open Go Go.Z Go.Z.Aig


theorem hasB_iff {S : St} {a : Int} : hasB S a = true ↔ has S a := by unfold hasB has; simp

theorem and_ok {ρ : Nat → Obj → Prop} (p : Nat) (S : St) (a b : Int) (ha : I64 a) (hb : I64 b) :
    Con Tryz.prog ρ 31 #[.pointer (some ⟨p, 0, none⟩), .int .i64 a, .int .i64 b] [Gr p S] (fun v H => v = .tuple #[.int .i64 (and1 S a b).1, .int .i64 (and1 S a b).2.1] ∧ H = [Gr p (and1 S a b).2.2]) := by
  refine con_intro Tryz.func31 Tryz.call31 rfl Tryz.ntmps31 rfl (L := [(0, _), (1, _), (2, _)]) rfl fun w hh => ?_
  refine g_seq ?_
  refine g_region ?_
  refine g_pure (p_assign rfl) rfl ?_
  refine g_pure (p_assign rfl) rfl ?_
  refine g_nil ?_
  refine g_qt ?_
  refine g_seq ?_
  refine g_seq ?_
  refine g_region ?_
  refine g_pure (p_move rfl) rfl ?_
  refine g_pure (p_move rfl) rfl ?_
  refine g_pure (p_move rfl) rfl ?_
  refine g_eff (e_bs (xs := [.tmp 10, .tmp 11]) rfl rfl rfl (by rfl) (by rfl) rfl (by rfl)) rfl (fun _ _ => ?_)
  rintro ⟨b12, rfl, rfl⟩
  by_cases hy : hasB S a = true ∧ hasB S b = true
  · refine g_call (Hin := []) (Hr := ?hr1) (R := ?rr1) rfl rfl rfl ?hin1 ?hc1 ?hk1
    case hin1 => repeat' (first | exact Cover.nil | exact Take.here | apply Cover.cons | apply Take.there)
    case hc1 => intro ρ' hρ hR; exact ask_yes p S _ 2 [a, b] (.of_blk hR.1.blk (by simp)) (by simp) (by simp; exact ⟨ha, hb⟩) hR.2.1 (by simp [hy])
    rintro _ _ ⟨rfl, rfl⟩
    refine g_pure (p_assign rfl) rfl ?_
    refine g_nil ?_
    refine g_qt ?_
    refine g_seq ?_
    refine g_region ?_
    refine g_pure (p_move rfl) rfl ?_
    refine g_pure (p_neq rfl rfl) rfl ?_
    refine g_nil ?_
    refine g_qt ?_
    refine g_iff rfl ?_
    refine g_skip ?_
    refine g_qt ?_
    refine g_seq ?_
    refine g_region ?_
    refine g_pure (p_move rfl) rfl ?_
    refine g_pure (p_move rfl) rfl ?_
    refine g_pure (p_move rfl) rfl ?_
    refine g_call (Hin := ?hi2) (Hr := ?hr2) (R := ?rr2) rfl rfl rfl ?hin2 ?hc2 ?hk2
    case hc2 => intro ρ' hρ hR; exact and0_ok p S a b (hasB_iff.1 hy.1) (hasB_iff.1 hy.2)
    case hin2 => repeat' (first | exact Cover.nil | exact Take.here | apply Cover.cons | apply Take.there)
    rintro _ _ ⟨rfl, rfl⟩
    refine g_pure (p_extract rfl rfl) rfl ?_
    refine g_pure (p_extract rfl rfl) rfl ?_
    refine g_pure (p_assign rfl) rfl ?_
    refine g_pure (p_assign rfl) rfl ?_
    refine g_nil ?_
    refine g_qt ?_
    refine g_ret ?_
    have e : and1 S a b = and0 S a b := by unfold and1; rw [hy.1, hy.2]; rfl
    exact g_post (rs := [.tmp 6, .tmp 7]) rfl (.tmp rfl (.tmp rfl .nil)) ⟨by rw [e]; rfl, by rw [e]⟩ (by repeat' (first | exact Cover.nil | exact Take.here | apply Cover.cons | apply Take.there))
  · have e0 : (hasB S a && hasB S b) = false := by cases h1 : hasB S a <;> cases h2 : hasB S b <;> simp_all
    refine g_call (Hin := []) (Hr := ?hr3) (R := ?rr3) rfl rfl rfl ?hin3 ?hc3 ?hk3
    case hin3 => repeat' (first | exact Cover.nil | exact Take.here | apply Cover.cons | apply Take.there)
    case hc3 => intro ρ' hρ hR; exact ask_no p S _ 2 [a, b] (.of_blk hR.1.blk (by simp)) (by simp) (by simp; exact ⟨ha, hb⟩) hR.2.1 (by simpa using e0)
    rintro _ _ ⟨rfl, rfl⟩
    refine g_pure (p_assign rfl) rfl ?_
    refine g_nil ?_
    refine g_qt ?_
    refine g_seq ?_
    refine g_region ?_
    refine g_pure (p_move rfl) rfl ?_
    refine g_pure (p_neq rfl rfl) rfl ?_
    refine g_nil ?_
    refine g_qt ?_
    refine g_ift rfl ?_
    refine g_seq ?_
    refine g_region ?_
    refine g_pure (p_move rfl) rfl ?_
    refine g_pure (p_assign rfl) rfl ?_
    refine g_pure (p_assign rfl) rfl ?_
    refine g_nil ?_
    refine g_qt ?_
    refine g_ret ?_
    refine g_qt_ret ?_
    have e : and1 S a b = (0, 14, S) := by unfold and1; rw [e0]; rfl
    exact g_post (rs := [.tmp 6, .tmp 7]) rfl (.tmp rfl (.tmp rfl .nil)) ⟨by rw [e]; rfl, by rw [e]⟩ (by repeat' (first | exact Cover.nil | exact Take.here | apply Cover.cons | apply Take.there))

theorem or_ok {ρ : Nat → Obj → Prop} (p : Nat) (S : St) (a b : Int) (ha : I64 a) (hb : I64 b) :
    Con Tryz.prog ρ 32 #[.pointer (some ⟨p, 0, none⟩), .int .i64 a, .int .i64 b] [Gr p S] (fun v H => v = .tuple #[.int .i64 (or1 S a b).1, .int .i64 (or1 S a b).2.1] ∧ H = [Gr p (or1 S a b).2.2]) := by
  have hxa := nt_xor a ha
  have hxb := nt_xor b hb
  refine con_intro Tryz.func32 Tryz.call32 rfl Tryz.ntmps32 rfl (L := [(0, _), (1, _), (2, _)]) rfl fun w hh => ?_
  refine g_seq ?_
  refine g_region ?_
  refine g_pure (p_assign rfl) rfl ?_
  refine g_pure (p_assign rfl) rfl ?_
  refine g_nil ?_
  refine g_qt ?_
  refine g_seq ?_
  refine g_seq ?_
  refine g_region ?_
  refine g_pure (p_move rfl) rfl ?_
  refine g_pure (p_move rfl) rfl ?_
  refine g_pure (p_move rfl) rfl ?_
  refine g_eff (e_bs (xs := [.tmp 12, .tmp 13]) rfl rfl rfl (by rfl) (by rfl) rfl (by rfl)) rfl (fun _ _ => ?_)
  rintro ⟨b14, rfl, rfl⟩
  by_cases hy : hasB S a = true ∧ hasB S b = true
  · refine g_call (Hin := []) (Hr := ?hr4) (R := ?rr4) rfl rfl rfl ?hin4 ?hc4 ?hk4
    case hin4 => repeat' (first | exact Cover.nil | exact Take.here | apply Cover.cons | apply Take.there)
    case hc4 => intro ρ' hρ hR; exact ask_yes p S _ 2 [a, b] (.of_blk hR.1.blk (by simp)) (by simp) (by simp; exact ⟨ha, hb⟩) hR.2.1 (by simp [hy])
    rintro _ _ ⟨rfl, rfl⟩
    refine g_pure (p_assign rfl) rfl ?_
    refine g_nil ?_
    refine g_qt ?_
    refine g_seq ?_
    refine g_region ?_
    refine g_pure (p_move rfl) rfl ?_
    refine g_pure (p_neq rfl rfl) rfl ?_
    refine g_nil ?_
    refine g_qt ?_
    refine g_iff rfl ?_
    refine g_skip ?_
    refine g_qt ?_
    refine g_seq ?_
    refine g_region ?_
    refine g_pure (p_move rfl) rfl ?_
    refine g_pure (p_move rfl) rfl ?_
    refine g_call (Hin := []) (Hr := ?hr5) (R := ?rr5) rfl rfl rfl ?hin5 ?hc5 ?hk5
    case hin5 => repeat' (first | exact Cover.nil | exact Take.here | apply Cover.cons | apply Take.there)
    case hc5 => intro ρ' hρ hR; exact not_ok a
    rintro _ _ ⟨rfl, rfl⟩
    refine g_pure (p_move rfl) rfl ?_
    refine g_call (Hin := []) (Hr := ?hr6) (R := ?rr6) rfl rfl rfl ?hin6 ?hc6 ?hk6
    case hin6 => repeat' (first | exact Cover.nil | exact Take.here | apply Cover.cons | apply Take.there)
    case hc6 => intro ρ' hρ hR; exact not_ok b
    rintro _ _ ⟨rfl, rfl⟩
    rw [hxa, hxb]
    have h1 := nt_has (hasB_iff.1 hy.1)
    have h2 := nt_has (hasB_iff.1 hy.2)
    have e : or1 S a b = (let r := and0 S (nt a) (nt b); if r.2.1 = 0 then (nt r.1, 0, r.2.2) else (0, r.2.1, r.2.2)) := by unfold or1; rw [hy.1, hy.2]; rfl
    refine g_call (Hin := ?hi7) (Hr := ?hr7) (R := ?rr7) rfl rfl rfl ?hin7 ?hc7 ?hk7
    case hc7 => intro ρ' hρ hR; exact and0_ok p S (nt a) (nt b) h1 h2
    case hin7 => repeat' (first | exact Cover.nil | exact Take.here | apply Cover.cons | apply Take.there)
    rintro _ _ ⟨rfl, rfl⟩
    refine g_pure (p_move rfl) rfl ?_
    refine g_pure (p_extract rfl rfl) rfl ?_
    refine g_pure (p_extract rfl rfl) rfl ?_
    refine g_pure (p_assign rfl) rfl ?_
    refine g_pure (p_assign rfl) rfl ?_
    refine g_nil ?_
    refine g_qt ?_
    refine g_seq ?_
    refine g_seq ?_
    refine g_region ?_
    refine g_pure (p_move rfl) rfl ?_
    refine g_pure (p_neq rfl rfl) rfl ?_
    refine g_nil ?_
    refine g_qt ?_
    refine g_ifnd rfl (fun h3 => ?_) (fun h3 => ?_)
    · refine g_seq ?_
      refine g_region ?_
      refine g_pure (p_move rfl) rfl ?_
      refine g_pure (p_assign rfl) rfl ?_
      refine g_pure (p_assign rfl) rfl ?_
      refine g_nil ?_
      refine g_qt ?_
      refine g_ret ?_
      refine g_qt_ret ?_
      rw [if_neg h3] at e
      exact g_post (rs := [.tmp 6, .tmp 7]) rfl (.tmp rfl (.tmp rfl .nil)) ⟨by rw [e]; rfl, by rw [e]⟩ (by repeat' (first | exact Cover.nil | exact Take.here | apply Cover.cons | apply Take.there))
    · refine g_skip ?_
      refine g_qt ?_
      refine g_seq ?_
      refine g_region ?_
      refine g_pure (p_move rfl) rfl ?_
      rw [if_pos h3] at e
      refine gr_wf .here fun hw => ?_
      have hr : has (and0 S (nt a) (nt b)).2.2 (and0 S (nt a) (nt b)).1 := by
        rcases and0_spec h1 h2 with h | h
        · exact h.2.2
        · omega
      have hxr := nt_xor (and0 S (nt a) (nt b)).1 (by have := hw.lim; have := hr.1; have := hr.2; omega)
      refine g_call (Hin := []) (Hr := ?hr8) (R := ?rr8) rfl rfl rfl ?hin8 ?hc8 ?hk8
      case hin8 => repeat' (first | exact Cover.nil | exact Take.here | apply Cover.cons | apply Take.there)
      case hc8 => intro ρ' hρ hR; exact not_ok (and0 S (nt a) (nt b)).1
      rintro _ _ ⟨rfl, rfl⟩
      refine g_pure (p_assign rfl) rfl ?_
      refine g_pure (p_assign rfl) rfl ?_
      refine g_nil ?_
      refine g_qt ?_
      refine g_ret ?_
      exact g_post (rs := [.tmp 6, .tmp 7]) rfl (.tmp rfl (.tmp rfl .nil)) ⟨by rw [e, hxr]; rfl, by rw [e]⟩ (by repeat' (first | exact Cover.nil | exact Take.here | apply Cover.cons | apply Take.there))
  · have e0 : (hasB S a && hasB S b) = false := by cases h1 : hasB S a <;> cases h2 : hasB S b <;> simp_all
    refine g_call (Hin := []) (Hr := ?hr9) (R := ?rr9) rfl rfl rfl ?hin9 ?hc9 ?hk9
    case hin9 => repeat' (first | exact Cover.nil | exact Take.here | apply Cover.cons | apply Take.there)
    case hc9 => intro ρ' hρ hR; exact ask_no p S _ 2 [a, b] (.of_blk hR.1.blk (by simp)) (by simp) (by simp; exact ⟨ha, hb⟩) hR.2.1 (by simpa using e0)
    rintro _ _ ⟨rfl, rfl⟩
    refine g_pure (p_assign rfl) rfl ?_
    refine g_nil ?_
    refine g_qt ?_
    refine g_seq ?_
    refine g_region ?_
    refine g_pure (p_move rfl) rfl ?_
    refine g_pure (p_neq rfl rfl) rfl ?_
    refine g_nil ?_
    refine g_qt ?_
    refine g_ift rfl ?_
    refine g_seq ?_
    refine g_region ?_
    refine g_pure (p_move rfl) rfl ?_
    refine g_pure (p_assign rfl) rfl ?_
    refine g_pure (p_assign rfl) rfl ?_
    refine g_nil ?_
    refine g_qt ?_
    refine g_ret ?_
    refine g_qt_ret ?_
    have e : or1 S a b = (0, 14, S) := by unfold or1; rw [e0]; rfl
    exact g_post (rs := [.tmp 6, .tmp 7]) rfl (.tmp rfl (.tmp rfl .nil)) ⟨by rw [e]; rfl, by rw [e]⟩ (by repeat' (first | exact Cover.nil | exact Take.here | apply Cover.cons | apply Take.there))

theorem undo_ok {ρ : Nat → Obj → Prop} (p : Nat) (S : St) (m : Nat) (h0 : 0 < m) (hm : m ≤ S.length) (hi : ins 0 (S.take m) = ins 0 S) :
    Con Tryz.prog ρ 76 #[.pointer (some ⟨p, 0, none⟩), .int .i64 m] [Gr p S] (fun v H => v = .tuple #[] ∧ H = [Gr p (S.take m)]) := by
  refine con_intro Tryz.func76 Tryz.call76 rfl Tryz.ntmps76 rfl (L := [(0, _), (1, _)]) rfl fun w hh => ?_
  refine g_open .here ?_
  rintro _ ⟨av, cv, ai, ci, mb, kn, rfl, hw, hk⟩
  have hlim := hw.lim
  refine g_own (.there .here) (fun h1 h2 _ _ => absurd h2 (by have := hw.pos; omega)) ?_
  rintro g cur rfl hc1 hc2 hc3 hc4 hc5
  refine g_seq ?_
  refine g_seq ?_
  refine g_region ?_
  refine g_pure (p_move rfl) rfl ?_
  refine g_pure (p_nilCheck rfl) rfl ?_
  refine g_pure (p_fieldAddr rfl) rfl ?_
  refine g_pure (p_load (by rfl) rfl (by first | (apply Has.own; (repeat' (first | exact Take.here | apply Take.there)); done) | exact Has.ro (by assumption)) (by first | rfl | assumption)) rfl ?_
  refine g_pure (p_move rfl) rfl ?_
  refine g_pure (p_slicel rfl rfl (by omega)) rfl ?_
  refine g_pure (p_len (by rfl) rfl) rfl ?_
  refine g_pure (p_move rfl) rfl ?_
  refine g_nil ?_
  refine g_qt ?_
  refine g_block ?_
  have hmc : ¬ cv = (m : Int).toNat ∨ m = S.length := by omega
  have had : 0 < S.length - (m : Int).toNat → (if cv = (m : Int).toNat then some (⟨g, 0, none⟩ : Addr) else (some ⟨g, 0, none⟩ : Option Addr).map (·.add ((m : Int).toNat * 2))) = some ⟨g, m * 2, none⟩ := fun hlt => by
    rw [if_neg (by omega)]
    simp only [Option.map_some, Int.toNat_natCast, Addr.add]
    split <;> simp_all
  refine g_loop (fun k : Nat => [(0, .pointer (some ⟨p, 0, none⟩)), (1, .int .i64 m), (11, .slice (if cv = (m : Int).toNat then some (⟨g, 0, none⟩ : Addr) else (some ⟨g, 0, none⟩ : Option Addr).map (·.add ((m : Int).toNat * 2))) (S.length - (m : Int).toNat) (cv - (m : Int).toNat)), (12, .int .i64 (S.length - (m : Int).toNat : Nat)), (13, .int .i64 k)])
    (fun k => [Blk p (.cells [.slice (some ⟨g, 0, none⟩) S.length cv, .slice ai (ins 0 S).length ci, .map (some mb)].toArray 72 (0, 0)), Blk g (.cells cur.toArray 111 (0, 0)), OwnSl 59 1 ai (ins 0 S).length ci ((ins 0 S).map encI), MapB encK mb (undoK kn ((S.drop m).take k))])
    (fun k => k ≤ S.length - m) (fun k => S.length - m - k) 0 (Nat.zero_le _) (by (repeat (first | exact trivial | refine ⟨by rfl, ?_⟩)); done) (by repeat' (first | exact Cover.nil | exact Take.here | apply Cover.cons | apply Take.there)) fun k hk' => ?_
  refine g_seq ?_
  refine g_region ?_
  refine g_pure (p_lss rfl rfl) rfl ?_
  refine g_nil ?_
  refine g_qt ?_
  refine g_seq ?_
  refine g_ifd rfl (fun h1 => ?_) (fun h1 => ?_)
  · have hkl : m + k < S.length := by omega
    obtain ⟨q1, q2⟩ := rows_at encG 2 encG_len S (m + k) hkl
    rw [← hc4] at q1 q2
    obtain ⟨⟨x, y, z⟩, hg⟩ : ∃ q, S[m + k] = q := ⟨_, rfl⟩
    have hsub : sub cur (m * 2 + (k : Int).toNat * 2) 2 = some [.int .i64 x, .int .i64 y] := by
      refine sub_take (N := S.length * 2) ?_
      unfold sub
      rw [hg] at q1
      rw [if_pos (by rw [Int.toNat_natCast, ← Nat.add_mul]; exact q2), Int.toNat_natCast, ← Nat.add_mul, q1]; rfl
    have hu : dropKey (undoK kn ((S.drop m).take k)) (x, y) = undoK kn ((S.drop m).take (k + 1)) := by
      have : (S.drop m)[k]? = some (x, y, z) := by rw [List.getElem?_drop, List.getElem?_eq_getElem hkl, hg]
      rw [List.take_add_one, this]
      simp [undoK]
    refine g_skip ?_
    refine g_qt ?_
    refine g_seq ?_
    refine g_block ?_
    refine g_seq ?_
    refine g_region ?_
    refine g_pure (p_indexAddr rfl rfl (by omega) had) rfl ?_
    refine g_pure (p_loadN (by rfl) rfl (Has.own (by repeat' (first | exact Take.here | apply Take.there))) hsub) rfl ?_
    refine g_eff (e_alloc (by rfl)) rfl (fun _ _ => ?_)
    rintro ⟨b5, rfl, rfl⟩
    first | refine g_eff0 (e_storeO rfl rfl (by rfl) (by rfl) (by rfl) (by repeat' (first | exact Take.here | apply Take.there)) (by rfl)) (fun _ _ => ?_) | refine g_eff0 (e_storeN rfl rfl (by rfl) (by rfl) (by rfl) (by repeat' (first | exact Take.here | apply Take.there)) (by simp)) (fun _ _ => ?_)
    rintro rfl
    refine g_nil ?_
    refine g_qt ?_
    refine m_begin0 (.fl 0 0 (.fl 1 0 (.fl 2 0 (.fl 3 1 (.fl 4 1 (.ef 5 .done)))))) (by kernel_rfl) (by kernel_rfl) ?_
    refine m_float0 rfl (fun _ _ => p_move rfl) rfl ?_
    refine m_float0 rfl (fun _ _ => p_nilCheck rfl) rfl ?_
    refine m_float0 rfl (fun _ _ => p_fieldAddr rfl) rfl ?_
    refine m_float rfl (p_load (by rfl) rfl (by first | (apply Has.own; (repeat' (first | exact Take.here | apply Take.there)); done) | exact Has.ro (by assumption)) (by first | rfl | assumption)) rfl ?_
    first | refine m_float rfl (p_loadO (by rfl) rfl (by first | (apply Has.own; (repeat' (first | exact Take.here | apply Take.there)); done) | exact Has.ro (by assumption)) (by rfl)) rfl ?_ | refine m_float rfl (p_loadN (by rfl) rfl (by first | (apply Has.own; (repeat' (first | exact Take.here | apply Take.there)); done) | exact Has.ro (by assumption)) (by first | rfl | assumption)) rfl ?_
    refine m_eff0 rfl (e_delete (k := (x, y)) keyGate rfl rfl (by repeat' (first | exact Take.here | apply Take.there))) (fun _ _ => ?_)
    rintro rfl
    refine ⟨.none (by kernel_rfl), ?_⟩
    refine m_nil ?_
    refine g_qb ?_
    refine g_qt ?_
    refine g_region ?_
    first | refine g_pure (p_addi rfl rfl (by omega)) rfl ?_ | refine g_pure (p_add rfl rfl) rfl ?_
    refine g_pure (p_move rfl) rfl ?_
    refine g_nil ?_
    refine g_qn ?_
    rw [hu]
    exact g_next (k + 1) (by (repeat (first | exact trivial | refine ⟨by rfl, ?_⟩)); done) (by repeat' (first | exact Cover.nil | exact Take.here | apply Cover.cons | apply Take.there)) (by omega) (by omega)
  · have hu : undoK kn ((S.drop m).take k) = undoK kn (S.drop m) := by rw [List.take_of_length_le]; simp; omega
    refine g_exit ?_
    refine g_qt_exit ?_
    refine g_qn_exit ?_
    refine g_qb_exit ?_
    refine g_qt ?_
    refine g_region ?_
    refine g_pure (p_move rfl) rfl ?_
    refine g_pure (p_move rfl) rfl ?_
    refine g_pure (p_nilCheck rfl) rfl ?_
    refine g_pure (p_fieldAddr rfl) rfl ?_
    refine g_pure (p_load (by rfl) rfl (by first | (apply Has.own; (repeat' (first | exact Take.here | apply Take.there)); done) | exact Has.ro (by assumption)) (by first | rfl | assumption)) rfl ?_
    refine g_pure (p_move rfl) rfl ?_
    refine g_pure (p_sliceh rfl rfl (by omega)) rfl ?_
    refine g_pure (p_nilCheck rfl) rfl ?_
    refine g_pure (p_fieldAddr rfl) rfl ?_
    first | refine g_eff0 (e_storeO rfl rfl (by rfl) (by rfl) (by rfl) (by repeat' (first | exact Take.here | apply Take.there)) (by rfl)) (fun _ _ => ?_) | refine g_eff0 (e_store1 (by rfl) rfl rfl rfl (by repeat' (first | exact Take.here | apply Take.there)) (by first | decide | (simp <;> omega) | omega)) (fun _ _ => ?_)
    rintro rfl
    refine g_nil ?_
    rw [hu]
    refine g_fold (k := m) (cap := cv) (xs := (S.take m).flatMap encG) (.there .here) (by omega) hc2 hc3 (by rw [← rows_take encG 2 encG_len S m hm, ← hc4, List.take_take, Nat.min_eq_left (by omega)]) ?_
    refine gr_close (hw.cut h0) (hk.cut hw h0) (by repeat' (first | exact Cover.nil | exact Take.here | apply Cover.cons | apply Take.there)) (by rw [List.length_take]; omega) (by rw [hi]) rfl (by rw [hi]) ?_
    exact g_postn (rs := []) rfl .nil ⟨rfl, rfl⟩ (by repeat' (first | exact Cover.nil | exact Take.here | apply Cover.cons | apply Take.there))

theorem and0_has {S : St} {a b : Int} (ha : has S a) (hb : has S b) (h : (and0 S a b).2.1 = 0) : has (and0 S a b).2.2 (and0 S a b).1 := by
  rcases and0_spec ha hb with h1 | h1
  · exact h1.2.2
  · omega
theorem and0_err {S : St} {a b : Int} (ha : has S a) (hb : has S b) (h : ¬ (and0 S a b).2.1 = 0) : (and0 S a b).2.2 = S := by
  rcases and0_spec ha hb with h1 | h1
  · exact absurd h1.1 h
  · exact h1.2.1

theorem either_ok {ρ : Nat → Obj → Prop} (p : Nat) (S : St) (a b c d : Int) (ha : has S a) (hb : has S b) (hc : has S c) (hd : has S d) :
    Con Tryz.prog ρ 61 #[.pointer (some ⟨p, 0, none⟩), .int .i64 a, .int .i64 b, .int .i64 c, .int .i64 d] [Gr p S] (fun v H => v = .tuple #[.int .i64 (two S a b c d).1, .int .i64 (two S a b c d).2.1] ∧ H = [Gr p (two S a b c d).2.2]) := by
  refine con_intro Tryz.func61 Tryz.call61 rfl Tryz.ntmps61 rfl (L := [(0, _), (1, _), (2, _), (3, _), (4, _)]) rfl fun w hh => ?_
  refine gr_wf .here fun hw0 => ?_
  refine g_open .here ?_
  rintro _ ⟨av, cv, ai, ci, mb, kn, rfl, hw, hk⟩
  have hlim := hw.lim
  refine g_seq ?_
  refine g_region ?_
  refine g_pure (p_assign rfl) rfl ?_
  refine g_pure (p_assign rfl) rfl ?_
  refine g_nil ?_
  refine g_qt ?_
  refine g_seq ?_
  refine g_region ?_
  refine g_pure (p_move rfl) rfl ?_
  refine g_pure (p_nilCheck rfl) rfl ?_
  refine g_pure (p_fieldAddr rfl) rfl ?_
  refine g_pure (p_load (by rfl) rfl (by first | (apply Has.own; (repeat' (first | exact Take.here | apply Take.there)); done) | exact Has.ro (by assumption)) (by first | rfl | assumption)) rfl ?_
  refine g_pure (p_len (by rfl) rfl) rfl ?_
  refine g_pure (p_assign rfl) rfl ?_
  refine g_nil ?_
  refine g_qt ?_
  refine g_seq ?_
  refine g_region ?_
  refine g_pure (p_move rfl) rfl ?_
  refine g_pure (p_move rfl) rfl ?_
  refine g_pure (p_move rfl) rfl ?_
  refine gr_close hw hk (by repeat' (first | exact Cover.nil | exact Take.here | apply Cover.cons | apply Take.there)) rfl rfl rfl rfl ?_
  refine g_call (Hin := ?hi10) (Hr := ?hr10) (R := ?rr10) rfl rfl rfl ?hin10 ?hc10 ?hk10
  case hc10 => intro ρ' hρ hR; exact and0_ok p S a b ha hb
  case hin10 => repeat' (first | exact Cover.nil | exact Take.here | apply Cover.cons | apply Take.there)
  rintro _ _ ⟨rfl, rfl⟩
  refine g_pure (p_move rfl) rfl ?_
  refine g_pure (p_extract rfl rfl) rfl ?_
  refine g_pure (p_extract rfl rfl) rfl ?_
  refine g_pure (p_assign rfl) rfl ?_
  refine g_pure (p_assign rfl) rfl ?_
  refine g_nil ?_
  refine g_qt ?_
  refine g_seq ?_
  refine g_seq ?_
  refine g_region ?_
  refine g_pure (p_move rfl) rfl ?_
  refine g_pure (p_neq rfl rfl) rfl ?_
  refine g_nil ?_
  refine g_qt ?_
  refine g_ifnd rfl (fun h1 => ?_) (fun h1 => ?_)
  · refine g_seq ?_
    refine g_region ?_
    refine g_pure (p_move rfl) rfl ?_
    refine g_pure (p_assign rfl) rfl ?_
    refine g_pure (p_assign rfl) rfl ?_
    refine g_nil ?_
    refine g_qt ?_
    refine g_ret ?_
    refine g_qt_ret ?_
    have e : two S a b c d = (0, (and0 S a b).2.1, (and0 S a b).2.2) := by unfold two; exact if_pos h1
    exact g_post (rs := [.tmp 10, .tmp 11]) rfl (.tmp rfl (.tmp rfl .nil)) ⟨by rw [e]; rfl, by rw [e]⟩ (by repeat' (first | exact Cover.nil | exact Take.here | apply Cover.cons | apply Take.there))
  · refine g_skip ?_
    refine g_qt ?_
    refine g_seq ?_
    refine g_region ?_
    refine g_pure (p_move rfl) rfl ?_
    refine g_pure (p_move rfl) rfl ?_
    refine g_pure (p_move rfl) rfl ?_
    have x1 := (Ext.refl S).and0 ha hb
    have hr1 := and0_has ha hb h1
    have e1 : two S a b c d = (let q := and0 (and0 S a b).2.2 c d; if q.2.1 ≠ 0 then (0, q.2.1, S) else let z := and0 q.2.2 (nt (and0 S a b).1) (nt q.1); if z.2.1 ≠ 0 then (0, z.2.1, S) else (nt z.1, 0, z.2.2)) := by
      unfold two; exact if_neg (by simp only [ne_eq, Decidable.not_not]; exact h1)
    refine gr_wf .here fun hw1 => ?_
    have hx1 := nt_xor (and0 S a b).1 (by have := hw1.lim; have := hr1.1; have := hr1.2; omega)
    generalize and0 S a b = r1 at *
    obtain ⟨l1, f1, S1⟩ := r1
    simp only at h1 x1 hr1 hx1 e1 hw1
    subst h1
    refine g_call (Hin := ?hi11) (Hr := ?hr11) (R := ?rr11) rfl rfl rfl ?hin11 ?hc11 ?hk11
    case hc11 => intro ρ' hρ hR; exact and0_ok p S1 c d (x1.has hc) (x1.has hd)
    case hin11 => repeat' (first | exact Cover.nil | exact Take.here | apply Cover.cons | apply Take.there)
    rintro _ _ ⟨rfl, rfl⟩
    refine g_pure (p_move rfl) rfl ?_
    refine g_pure (p_extract rfl rfl) rfl ?_
    refine g_pure (p_extract rfl rfl) rfl ?_
    refine g_pure (p_assign rfl) rfl ?_
    refine g_pure (p_assign rfl) rfl ?_
    refine g_nil ?_
    refine g_qt ?_
    refine g_seq ?_
    refine g_region ?_
    refine g_pure (p_assign rfl) rfl ?_
    refine g_nil ?_
    refine g_qt ?_
    refine g_seq ?_
    refine g_seq ?_
    refine g_region ?_
    refine g_pure (p_move rfl) rfl ?_
    refine g_pure (p_eql rfl rfl) rfl ?_
    refine g_nil ?_
    refine g_qt ?_
    refine g_ifd rfl (fun h2 => ?_) (fun h2 => ?_)
    · refine g_region ?_
      refine g_pure (p_move rfl) rfl ?_
      refine g_pure (p_move rfl) rfl ?_
      have x2 := x1.and0 (x1.has hc) (x1.has hd)
      have x12 := (Ext.refl S1).and0 (x1.has hc) (x1.has hd)
      have hr2 := and0_has (x1.has hc) (x1.has hd) h2
      refine gr_wf .here fun hw2 => ?_
      have hx2 := nt_xor (and0 S1 c d).1 (by have := hw2.lim; have := hr2.1; have := hr2.2; omega)
      generalize and0 S1 c d = r2 at *
      obtain ⟨l2, f2, S2⟩ := r2
      simp only at h2 x2 x12 hr2 hx2 e1 hw2
      subst h2
      simp only [ne_eq, not_true_eq_false, if_false] at e1
      refine g_call (Hin := []) (Hr := ?hr12) (R := ?rr12) rfl rfl rfl ?hin12 ?hc12 ?hk12
      case hin12 => repeat' (first | exact Cover.nil | exact Take.here | apply Cover.cons | apply Take.there)
      case hc12 => intro ρ' hρ hR; exact not_ok l1
      rintro _ _ ⟨rfl, rfl⟩
      refine g_pure (p_move rfl) rfl ?_
      refine g_call (Hin := []) (Hr := ?hr13) (R := ?rr13) rfl rfl rfl ?hin13 ?hc13 ?hk13
      case hin13 => repeat' (first | exact Cover.nil | exact Take.here | apply Cover.cons | apply Take.there)
      case hc13 => intro ρ' hρ hR; exact not_ok l2
      rintro _ _ ⟨rfl, rfl⟩
      rw [hx1, hx2]
      have hh1 := nt_has (x12.has hr1)
      have hh2 := nt_has hr2
      refine g_call (Hin := ?hi14) (Hr := ?hr14) (R := ?rr14) rfl rfl rfl ?hin14 ?hc14 ?hk14
      case hc14 => intro ρ' hρ hR; exact and0_ok p S2 (nt l1) (nt l2) hh1 hh2
      case hin14 => repeat' (first | exact Cover.nil | exact Take.here | apply Cover.cons | apply Take.there)
      rintro _ _ ⟨rfl, rfl⟩
      refine g_pure (p_move rfl) rfl ?_
      refine g_pure (p_extract rfl rfl) rfl ?_
      refine g_pure (p_extract rfl rfl) rfl ?_
      refine g_pure (p_assign rfl) rfl ?_
      refine g_pure (p_assign rfl) rfl ?_
      refine g_nil ?_
      refine g_qt ?_
      refine g_seq ?_
      refine g_seq ?_
      refine g_region ?_
      refine g_pure (p_move rfl) rfl ?_
      refine g_pure (p_neq rfl rfl) rfl ?_
      refine g_nil ?_
      refine g_qt ?_
      have x3 := x2.and0 hh1 hh2
      refine g_ifnd rfl (fun h3 => ?_) (fun h3 => ?_)
      · refine g_seq ?_
        refine g_region ?_
        refine g_pure (p_move rfl) rfl ?_
        refine g_pure (p_move rfl) rfl ?_
        rw [if_pos h3] at e1
        have x3c := x3.cut
        refine g_call (Hin := ?hi15) (Hr := ?hr15) (R := ?rr15) rfl rfl rfl ?hin15 ?hc15 ?hk15
        case hc15 => intro ρ' hρ hR; exact undo_ok p _ S.length hw0.pos x3c.2.2 (by rw [x3c.1, x3c.2.1])
        case hin15 => repeat' (first | exact Cover.nil | exact Take.here | apply Cover.cons | apply Take.there)
        rintro _ _ ⟨rfl, rfl⟩
        refine g_nil ?_
        refine g_qt ?_
        refine g_seq ?_
        refine g_region ?_
        refine g_pure (p_move rfl) rfl ?_
        refine g_pure (p_assign rfl) rfl ?_
        refine g_pure (p_assign rfl) rfl ?_
        refine g_nil ?_
        refine g_qt ?_
        refine g_ret ?_
        refine g_qt_ret ?_
        rw [x3c.1]
        exact g_post (rs := [.tmp 10, .tmp 11]) rfl (.tmp rfl (.tmp rfl .nil)) ⟨by rw [e1]; rfl, by rw [e1]⟩ (by repeat' (first | exact Cover.nil | exact Take.here | apply Cover.cons | apply Take.there))
      · refine g_skip ?_
        refine g_qt ?_
        refine g_seq ?_
        refine g_region ?_
        refine g_pure (p_move rfl) rfl ?_
        rw [if_neg (fun h => h h3)] at e1
        have hr3 := and0_has hh1 hh2 h3
        refine gr_wf .here fun hw3 => ?_
        have hx3 := nt_xor (and0 S2 (nt l1) (nt l2)).1 (by have := hw3.lim; have := hr3.1; have := hr3.2; omega)
        refine g_call (Hin := []) (Hr := ?hr16) (R := ?rr16) rfl rfl rfl ?hin16 ?hc16 ?hk16
        case hin16 => repeat' (first | exact Cover.nil | exact Take.here | apply Cover.cons | apply Take.there)
        case hc16 => intro ρ' hρ hR; exact not_ok _
        rintro _ _ ⟨rfl, rfl⟩
        refine g_pure (p_assign rfl) rfl ?_
        refine g_pure (p_assign rfl) rfl ?_
        refine g_nil ?_
        refine g_qt ?_
        refine g_ret ?_
        exact g_post (rs := [.tmp 10, .tmp 11]) rfl (.tmp rfl (.tmp rfl .nil)) ⟨by rw [e1, hx3]; rfl, by rw [e1]⟩ (by repeat' (first | exact Cover.nil | exact Take.here | apply Cover.cons | apply Take.there))
    · refine g_skip ?_
      refine g_qt ?_
      refine g_seq ?_
      refine g_seq ?_
      refine g_region ?_
      refine g_pure (p_move rfl) rfl ?_
      refine g_pure (p_neq rfl rfl) rfl ?_
      refine g_nil ?_
      refine g_qt ?_
      have x2 := x1.and0 (x1.has hc) (x1.has hd)
      refine g_ifnd rfl (fun h3 => ?_) (fun h3 => ?_)
      · refine g_seq ?_
        refine g_region ?_
        refine g_pure (p_move rfl) rfl ?_
        refine g_pure (p_move rfl) rfl ?_
        have x2c := x2.cut
        refine g_call (Hin := ?hi17) (Hr := ?hr17) (R := ?rr17) rfl rfl rfl ?hin17 ?hc17 ?hk17
        case hc17 => intro ρ' hρ hR; exact undo_ok p _ S.length hw0.pos x2c.2.2 (by rw [x2c.1, x2c.2.1])
        case hin17 => repeat' (first | exact Cover.nil | exact Take.here | apply Cover.cons | apply Take.there)
        rintro _ _ ⟨rfl, rfl⟩
        refine g_nil ?_
        refine g_qt ?_
        refine g_seq ?_
        refine g_region ?_
        refine g_pure (p_move rfl) rfl ?_
        refine g_pure (p_assign rfl) rfl ?_
        refine g_pure (p_assign rfl) rfl ?_
        refine g_nil ?_
        refine g_qt ?_
        refine g_ret ?_
        refine g_qt_ret ?_
        rw [if_pos h2] at e1
        rw [x2c.1]
        exact g_post (rs := [.tmp 10, .tmp 11]) rfl (.tmp rfl (.tmp rfl .nil)) ⟨by rw [e1]; rfl, by rw [e1]⟩ (by repeat' (first | exact Cover.nil | exact Take.here | apply Cover.cons | apply Take.there))
      · exact absurd h3 h2

theorem xor_ok {ρ : Nat → Obj → Prop} (p : Nat) (S : St) (a b : Int) (ha : I64 a) (hb : I64 b) :
    Con Tryz.prog ρ 33 #[.pointer (some ⟨p, 0, none⟩), .int .i64 a, .int .i64 b] [Gr p S] (fun v H => v = .tuple #[.int .i64 (xor1 S a b).1, .int .i64 (xor1 S a b).2.1] ∧ H = [Gr p (xor1 S a b).2.2]) := by
  have hxa := nt_xor a ha
  have hxb := nt_xor b hb
  refine con_intro Tryz.func33 Tryz.call33 rfl Tryz.ntmps33 rfl (L := [(0, _), (1, _), (2, _)]) rfl fun w hh => ?_
  refine g_seq ?_
  refine g_region ?_
  refine g_pure (p_assign rfl) rfl ?_
  refine g_pure (p_assign rfl) rfl ?_
  refine g_nil ?_
  refine g_qt ?_
  refine g_seq ?_
  refine g_seq ?_
  refine g_region ?_
  refine g_pure (p_move rfl) rfl ?_
  refine g_pure (p_move rfl) rfl ?_
  refine g_pure (p_move rfl) rfl ?_
  refine g_eff (e_bs (xs := [.tmp 10, .tmp 11]) rfl rfl rfl (by rfl) (by rfl) rfl (by rfl)) rfl (fun _ _ => ?_)
  rintro ⟨b12, rfl, rfl⟩
  by_cases hy : hasB S a = true ∧ hasB S b = true
  · refine g_call (Hin := []) (Hr := ?hr18) (R := ?rr18) rfl rfl rfl ?hin18 ?hc18 ?hk18
    case hin18 => repeat' (first | exact Cover.nil | exact Take.here | apply Cover.cons | apply Take.there)
    case hc18 => intro ρ' hρ hR; exact ask_yes p S _ 2 [a, b] (.of_blk hR.1.blk (by simp)) (by simp) (by simp; exact ⟨ha, hb⟩) hR.2.1 (by simp [hy])
    rintro _ _ ⟨rfl, rfl⟩
    refine g_pure (p_assign rfl) rfl ?_
    refine g_nil ?_
    refine g_qt ?_
    refine g_seq ?_
    refine g_region ?_
    refine g_pure (p_move rfl) rfl ?_
    refine g_pure (p_neq rfl rfl) rfl ?_
    refine g_nil ?_
    refine g_qt ?_
    refine g_iff rfl ?_
    refine g_skip ?_
    refine g_qt ?_
    refine g_seq ?_
    refine g_region ?_
    refine g_pure (p_move rfl) rfl ?_
    refine g_pure (p_move rfl) rfl ?_
    refine g_pure (p_move rfl) rfl ?_
    refine g_call (Hin := []) (Hr := ?hr19) (R := ?rr19) rfl rfl rfl ?hin19 ?hc19 ?hk19
    case hin19 => repeat' (first | exact Cover.nil | exact Take.here | apply Cover.cons | apply Take.there)
    case hc19 => intro ρ' hρ hR; exact not_ok b
    rintro _ _ ⟨rfl, rfl⟩
    refine g_pure (p_move rfl) rfl ?_
    refine g_call (Hin := []) (Hr := ?hr20) (R := ?rr20) rfl rfl rfl ?hin20 ?hc20 ?hk20
    case hin20 => repeat' (first | exact Cover.nil | exact Take.here | apply Cover.cons | apply Take.there)
    case hc20 => intro ρ' hρ hR; exact not_ok a
    rintro _ _ ⟨rfl, rfl⟩
    refine g_pure (p_move rfl) rfl ?_
    rw [hxa, hxb]
    have h1 := hasB_iff.1 hy.1
    have h2 := hasB_iff.1 hy.2
    refine g_call (Hin := ?hi21) (Hr := ?hr21) (R := ?rr21) rfl rfl rfl ?hin21 ?hc21 ?hk21
    case hc21 => intro ρ' hρ hR; exact either_ok p S a (nt b) (nt a) b h1 (nt_has h2) (nt_has h1) h2
    case hin21 => repeat' (first | exact Cover.nil | exact Take.here | apply Cover.cons | apply Take.there)
    rintro _ _ ⟨rfl, rfl⟩
    refine g_pure (p_extract rfl rfl) rfl ?_
    refine g_pure (p_extract rfl rfl) rfl ?_
    refine g_pure (p_assign rfl) rfl ?_
    refine g_pure (p_assign rfl) rfl ?_
    refine g_nil ?_
    refine g_qt ?_
    refine g_ret ?_
    have e : xor1 S a b = two S a (nt b) (nt a) b := by unfold xor1; rw [hy.1, hy.2]; rfl
    exact g_post (rs := [.tmp 6, .tmp 7]) rfl (.tmp rfl (.tmp rfl .nil)) ⟨by rw [e]; rfl, by rw [e]⟩ (by repeat' (first | exact Cover.nil | exact Take.here | apply Cover.cons | apply Take.there))
  · have e0 : (hasB S a && hasB S b) = false := by cases h1 : hasB S a <;> cases h2 : hasB S b <;> simp_all
    refine g_call (Hin := []) (Hr := ?hr22) (R := ?rr22) rfl rfl rfl ?hin22 ?hc22 ?hk22
    case hin22 => repeat' (first | exact Cover.nil | exact Take.here | apply Cover.cons | apply Take.there)
    case hc22 => intro ρ' hρ hR; exact ask_no p S _ 2 [a, b] (.of_blk hR.1.blk (by simp)) (by simp) (by simp; exact ⟨ha, hb⟩) hR.2.1 (by simpa using e0)
    rintro _ _ ⟨rfl, rfl⟩
    refine g_pure (p_assign rfl) rfl ?_
    refine g_nil ?_
    refine g_qt ?_
    refine g_seq ?_
    refine g_region ?_
    refine g_pure (p_move rfl) rfl ?_
    refine g_pure (p_neq rfl rfl) rfl ?_
    refine g_nil ?_
    refine g_qt ?_
    refine g_ift rfl ?_
    refine g_seq ?_
    refine g_region ?_
    refine g_pure (p_move rfl) rfl ?_
    refine g_pure (p_assign rfl) rfl ?_
    refine g_pure (p_assign rfl) rfl ?_
    refine g_nil ?_
    refine g_qt ?_
    refine g_ret ?_
    refine g_qt_ret ?_
    have e : xor1 S a b = (0, 14, S) := by unfold xor1; rw [e0]; rfl
    exact g_post (rs := [.tmp 6, .tmp 7]) rfl (.tmp rfl (.tmp rfl .nil)) ⟨by rw [e]; rfl, by rw [e]⟩ (by repeat' (first | exact Cover.nil | exact Take.here | apply Cover.cons | apply Take.there))

theorem mux_ok {ρ : Nat → Obj → Prop} (p : Nat) (S : St) (c a b : Int) (hc : I64 c) (ha : I64 a) (hb : I64 b) :
    Con Tryz.prog ρ 34 #[.pointer (some ⟨p, 0, none⟩), .int .i64 c, .int .i64 a, .int .i64 b] [Gr p S] (fun v H => v = .tuple #[.int .i64 (mux1 S c a b).1, .int .i64 (mux1 S c a b).2.1] ∧ H = [Gr p (mux1 S c a b).2.2]) := by
  have hxc := nt_xor c hc
  refine con_intro Tryz.func34 Tryz.call34 rfl Tryz.ntmps34 rfl (L := [(0, _), (1, _), (2, _), (3, _)]) rfl fun w hh => ?_
  refine g_seq ?_
  refine g_region ?_
  refine g_pure (p_assign rfl) rfl ?_
  refine g_pure (p_assign rfl) rfl ?_
  refine g_nil ?_
  refine g_qt ?_
  refine g_seq ?_
  refine g_seq ?_
  refine g_region ?_
  refine g_pure (p_move rfl) rfl ?_
  refine g_pure (p_move rfl) rfl ?_
  refine g_pure (p_move rfl) rfl ?_
  refine g_pure (p_move rfl) rfl ?_
  refine g_eff (e_bs (xs := [.tmp 12, .tmp 13, .tmp 14]) rfl rfl rfl (by rfl) (by rfl) rfl (by rfl)) rfl (fun _ _ => ?_)
  rintro ⟨b15, rfl, rfl⟩
  by_cases hy : hasB S c = true ∧ hasB S a = true ∧ hasB S b = true
  · refine g_call (Hin := []) (Hr := ?hr23) (R := ?rr23) rfl rfl rfl ?hin23 ?hc23 ?hk23
    case hin23 => repeat' (first | exact Cover.nil | exact Take.here | apply Cover.cons | apply Take.there)
    case hc23 => intro ρ' hρ hR; exact ask_yes p S _ 3 [c, a, b] (.of_blk hR.1.blk (by simp)) (by simp) (by simp; exact ⟨hc, ha, hb⟩) hR.2.1 (by simp [hy])
    rintro _ _ ⟨rfl, rfl⟩
    refine g_pure (p_assign rfl) rfl ?_
    refine g_nil ?_
    refine g_qt ?_
    refine g_seq ?_
    refine g_region ?_
    refine g_pure (p_move rfl) rfl ?_
    refine g_pure (p_neq rfl rfl) rfl ?_
    refine g_nil ?_
    refine g_qt ?_
    refine g_iff rfl ?_
    refine g_skip ?_
    refine g_qt ?_
    refine g_seq ?_
    refine g_region ?_
    refine g_pure (p_move rfl) rfl ?_
    refine g_pure (p_move rfl) rfl ?_
    refine g_pure (p_move rfl) rfl ?_
    refine g_pure (p_move rfl) rfl ?_
    refine g_call (Hin := []) (Hr := ?hr24) (R := ?rr24) rfl rfl rfl ?hin24 ?hc24 ?hk24
    case hin24 => repeat' (first | exact Cover.nil | exact Take.here | apply Cover.cons | apply Take.there)
    case hc24 => intro ρ' hρ hR; exact not_ok c
    rintro _ _ ⟨rfl, rfl⟩
    refine g_pure (p_move rfl) rfl ?_
    rw [hxc]
    have h0 := hasB_iff.1 hy.1
    have h1 := hasB_iff.1 hy.2.1
    have h2 := hasB_iff.1 hy.2.2
    refine g_call (Hin := ?hi25) (Hr := ?hr25) (R := ?rr25) rfl rfl rfl ?hin25 ?hc25 ?hk25
    case hc25 => intro ρ' hρ hR; exact either_ok p S c a (nt c) b h0 h1 (nt_has h0) h2
    case hin25 => repeat' (first | exact Cover.nil | exact Take.here | apply Cover.cons | apply Take.there)
    rintro _ _ ⟨rfl, rfl⟩
    refine g_pure (p_extract rfl rfl) rfl ?_
    refine g_pure (p_extract rfl rfl) rfl ?_
    refine g_pure (p_assign rfl) rfl ?_
    refine g_pure (p_assign rfl) rfl ?_
    refine g_nil ?_
    refine g_qt ?_
    refine g_ret ?_
    have e : mux1 S c a b = two S c a (nt c) b := by unfold mux1; rw [hy.1, hy.2.1, hy.2.2]; rfl
    exact g_post (rs := [.tmp 8, .tmp 9]) rfl (.tmp rfl (.tmp rfl .nil)) ⟨by rw [e]; rfl, by rw [e]⟩ (by repeat' (first | exact Cover.nil | exact Take.here | apply Cover.cons | apply Take.there))
  · have e0 : (hasB S c && (hasB S a && hasB S b)) = false := by cases h0 : hasB S c <;> cases h1 : hasB S a <;> cases h2 : hasB S b <;> simp_all
    refine g_call (Hin := []) (Hr := ?hr26) (R := ?rr26) rfl rfl rfl ?hin26 ?hc26 ?hk26
    case hin26 => repeat' (first | exact Cover.nil | exact Take.here | apply Cover.cons | apply Take.there)
    case hc26 => intro ρ' hρ hR; exact ask_no p S _ 3 [c, a, b] (.of_blk hR.1.blk (by simp)) (by simp) (by simp; exact ⟨hc, ha, hb⟩) hR.2.1 (by simpa using e0)
    rintro _ _ ⟨rfl, rfl⟩
    refine g_pure (p_assign rfl) rfl ?_
    refine g_nil ?_
    refine g_qt ?_
    refine g_seq ?_
    refine g_region ?_
    refine g_pure (p_move rfl) rfl ?_
    refine g_pure (p_neq rfl rfl) rfl ?_
    refine g_nil ?_
    refine g_qt ?_
    refine g_ift rfl ?_
    refine g_seq ?_
    refine g_region ?_
    refine g_pure (p_move rfl) rfl ?_
    refine g_pure (p_assign rfl) rfl ?_
    refine g_pure (p_assign rfl) rfl ?_
    refine g_nil ?_
    refine g_qt ?_
    refine g_ret ?_
    refine g_qt_ret ?_
    have e : mux1 S c a b = (0, 14, S) := by unfold mux1; rw [e0]; rfl
    exact g_post (rs := [.tmp 8, .tmp 9]) rfl (.tmp rfl (.tmp rfl .nil)) ⟨by rw [e]; rfl, by rw [e]⟩ (by repeat' (first | exact Cover.nil | exact Take.here | apply Cover.cons | apply Take.there))

theorem input_ok {ρ : Nat → Obj → Prop} (p : Nat) (S : St) :
    Con Tryz.prog ρ 30 #[.pointer (some ⟨p, 0, none⟩)] [Gr p S] (fun v H => v = .tuple #[.int .i64 (input1 S).1, .int .i64 (input1 S).2.1] ∧ H = [Gr p (input1 S).2.2]) := by
  refine con_intro Tryz.func30 Tryz.call30 rfl Tryz.ntmps30 rfl (L := [(0, _)]) rfl fun w hh => ?_
  refine g_open .here ?_
  rintro _ ⟨av, cv, ai, ci, mb, kn, rfl, hw, hk⟩
  have hlim := hw.lim
  have hil : (ins 0 S).length ≤ 131072 := by
    have : ∀ (l : List Gt) (i : Nat), (ins i l).length ≤ l.length := by
      intro l
      induction l with
      | nil => intro i; simp [ins]
      | cons g l ih => intro i; simp only [ins]; split <;> simp <;> have := ih (i + 1) <;> omega
    have := this S 0; omega
  refine g_seq ?_
  refine g_region ?_
  refine g_pure (p_assign rfl) rfl ?_
  refine g_pure (p_assign rfl) rfl ?_
  refine g_nil ?_
  refine g_qt ?_
  refine g_seq ?_
  refine g_seq ?_
  refine g_region ?_
  refine g_pure (p_move rfl) rfl ?_
  refine g_pure (p_eqnil (by rfl) rfl rfl) rfl ?_
  refine g_nil ?_
  refine g_qt ?_
  refine g_iff rfl ?_
  refine g_skip ?_
  refine g_qt ?_
  refine g_seq ?_
  refine g_region ?_
  refine g_pure (p_move rfl) rfl ?_
  refine g_pure (p_build (by rfl) rfl (by rfl)) rfl ?_
  refine g_call (Hin := ?hi27) (Hr := ?hr27) (R := ?rr27) rfl rfl rfl ?hin27 ?hc27 ?hk27
  case hc27 => intro ρ' hρ hR; exact add_ok p av S.length cv (.slice ai (ins 0 S).length ci) (.map (some mb)) (S.flatMap encG) 0 0 hw.lim
  case hin27 => repeat' (first | exact Cover.nil | exact Take.here | apply Cover.cons | apply Take.there)
  rintro _ _ (⟨hl, rfl, rfl⟩ | ⟨hl, av', cv', rfl, rfl⟩)
  · refine g_pure (p_move rfl) rfl ?_
    refine g_pure (p_extract rfl rfl) rfl ?_
    refine g_pure (p_extract rfl rfl) rfl ?_
    refine g_pure (p_assign rfl) rfl ?_
    refine g_pure (p_assign rfl) rfl ?_
    refine g_nil ?_
    refine g_qt ?_
    refine g_seq ?_
    refine g_seq ?_
    refine g_region ?_
    refine g_pure (p_move rfl) rfl ?_
    refine g_pure (p_eql rfl rfl) rfl ?_
    refine g_nil ?_
    refine g_qt ?_
    refine g_iff rfl ?_
    refine g_skip ?_
    refine g_qt ?_
    refine g_seq ?_
    refine g_region ?_
    refine g_pure (p_move rfl) rfl ?_
    refine g_pure (p_move rfl) rfl ?_
    refine g_pure (p_assign rfl) rfl ?_
    refine g_pure (p_assign rfl) rfl ?_
    refine g_nil ?_
    refine g_qt ?_
    refine g_ret ?_
    have e : input1 S = (0, 3, S) := if_pos hl
    refine gr_close hw hk (by repeat' (first | exact Cover.nil | exact Take.here | apply Cover.cons | apply Take.there)) rfl rfl rfl rfl ?_
    exact g_post (rs := [.tmp 2, .tmp 3]) rfl (.tmp rfl (.tmp rfl .nil)) ⟨by rw [e]; rfl, by rw [e]⟩ (by repeat' (first | exact Cover.nil | exact Take.here | apply Cover.cons | apply Take.there))
  · refine g_pure (p_move rfl) rfl ?_
    refine g_pure (p_extract rfl rfl) rfl ?_
    refine g_pure (p_extract rfl rfl) rfl ?_
    refine g_pure (p_assign rfl) rfl ?_
    refine g_pure (p_assign rfl) rfl ?_
    refine g_nil ?_
    refine g_qt ?_
    refine g_seq ?_
    refine g_seq ?_
    refine g_region ?_
    refine g_pure (p_move rfl) rfl ?_
    refine g_pure (p_eql rfl rfl) rfl ?_
    refine g_nil ?_
    refine g_qt ?_
    refine g_ift rfl ?_
    refine g_region ?_
    refine g_pure (p_move rfl) rfl ?_
    refine g_pure (p_move rfl) rfl ?_
    refine g_pure (p_nilCheck rfl) rfl ?_
    refine g_pure (p_fieldAddr rfl) rfl ?_
    refine g_pure (p_load (by rfl) rfl (by first | (apply Has.own; (repeat' (first | exact Take.here | apply Take.there)); done) | exact Has.ro (by assumption)) (by first | rfl | assumption)) rfl ?_
    refine g_pure (p_move rfl) rfl ?_
    refine g_eff (e_bs (xs := [.tmp 21]) rfl rfl rfl (by rfl) (by rfl) rfl (by rfl)) rfl (fun _ _ => ?_)
    rintro ⟨b22, rfl, rfl⟩
    refine g_eff (e_appendO (by rfl) (by rfl) rfl rfl (by first | (apply Has.own; (repeat' (first | exact Take.here | apply Take.there)); done) | exact Has.ro (by assumption)) (by rfl) (by rfl) (by repeat' (first | exact Take.here | apply Take.there)) (by omega) (by first | omega | (dsimp only; omega) | (simp <;> omega)) (by omega)) rfl (fun _ _ => ?_)
    rintro ⟨a23, c23, rfl, rfl⟩
    refine g_pure (p_nilCheck rfl) rfl ?_
    refine g_pure (p_fieldAddr rfl) rfl ?_
    first | refine g_eff0 (e_storeO rfl rfl (by rfl) (by rfl) (by rfl) (by repeat' (first | exact Take.here | apply Take.there)) (by rfl)) (fun _ _ => ?_) | refine g_eff0 (e_store1 (by rfl) rfl rfl rfl (by repeat' (first | exact Take.here | apply Take.there)) (by first | decide | (simp <;> omega) | omega)) (fun _ _ => ?_)
    rintro rfl
    refine g_nil ?_
    refine g_qt ?_
    refine g_seq ?_
    refine g_region ?_
    refine g_pure (p_move rfl) rfl ?_
    refine g_pure (p_move rfl) rfl ?_
    refine g_pure (p_assign rfl) rfl ?_
    refine g_pure (p_assign rfl) rfl ?_
    refine g_nil ?_
    refine g_qt ?_
    refine g_ret ?_
    have e : input1 S = (2 * (S.length : Int), 0, S ++ [(0, 0, true)]) := if_neg (by omega)
    refine gr_close (hw.input hl) (hk.input hw.pos) (by repeat' (first | exact Cover.nil | exact Take.here | apply Cover.cons | apply Take.there)) (by simp) (by rw [ins_append]; simp [ins]) (by simp [encG]) (by rw [ins_append]; simp [ins, encI]) ?_
    exact g_post (rs := [.tmp 2, .tmp 3]) rfl (.tmp rfl (.tmp rfl .nil)) ⟨by rw [e]; rfl, by rw [e]⟩ (by repeat' (first | exact Cover.nil | exact Take.here | apply Cover.cons | apply Take.there))

theorem new_ok {ρ : Nat → Obj → Prop} : Con Tryz.prog ρ 29 #[] [] (fun v H => ∃ p, v = .pointer (some ⟨p, 0, none⟩) ∧ H = [Gr p [(0, 0, false)]]) := by
  refine con_intro Tryz.func29 Tryz.call29 rfl Tryz.ntmps29 rfl (L := []) rfl fun w hh => ?_
  refine g_seq ?_
  refine g_region ?_
  refine g_pure (p_assign rfl) rfl ?_
  refine g_nil ?_
  refine g_qt ?_
  refine g_seq ?_
  refine g_region ?_
  refine g_eff (e_makeN rfl rfl (by omega) (by decide) (by omega) (l := [.int .i64 0, .int .i64 0]) (by exact madeCells_eq 1 [.int .i64 0, .int .i64 0])) rfl (fun _ _ => ?_)
  rintro ⟨b1, rfl, rfl⟩
  refine g_eff (e_makeMap rfl) rfl (fun _ _ => ?_)
  rintro ⟨b2, rfl, rfl⟩
  refine g_pure (p_build (by rfl) rfl (by rfl)) rfl ?_
  refine g_eff (e_box rfl (by rfl)) rfl (fun _ _ => ?_)
  rintro ⟨b4, rfl, rfl⟩
  refine g_pure (p_assign rfl) rfl ?_
  refine g_nil ?_
  refine g_qt ?_
  refine g_ret ?_
  refine g_fold (k := 1) (cap := 1) (size := 2) (xs := [.int .i64 0, .int .i64 0]) (.there (.there .here)) (by omega) (by omega) rfl rfl ?_
  refine g_ownnil (e := 59) (size := 1) ?_
  refine g_weak (B := MapB encK b2 []) (.there (.there (.there .here))) (fun k hk => ⟨#[], 0, rfl, hk⟩) ?_
  refine gr_close (p := b4) WF.new KN.new (by repeat' (first | exact Cover.nil | exact Take.here | apply Cover.cons | apply Take.there)) rfl rfl rfl rfl ?_
  exact g_post (rs := [.tmp 0]) rfl (.tmp rfl .nil) ⟨b4, rfl, rfl⟩ (by repeat' (first | exact Cover.nil | exact Take.here | apply Cover.cons | apply Take.there))

theorem glen_ok {ρ : Nat → Obj → Prop} (p : Nat) (S : St) (hg : Ro ρ (Gr p S)) : Con Tryz.prog ρ 9 #[.pointer (some ⟨p, 0, none⟩)] [] (fun v H => v = .int .i64 S.length ∧ H = []) := by
  obtain ⟨av, cv, ai, ci, mb, kn, hp, hv, hi, hm, hw, hk⟩ := gr_ro hg
  refine con_intro Tryz.func9 Tryz.call9 rfl Tryz.ntmps9 rfl (L := [(0, _)]) rfl fun w hh => ?_
  refine g_seq ?_
  refine g_region ?_
  refine g_pure (p_assign rfl) rfl ?_
  refine g_nil ?_
  refine g_qt ?_
  refine g_seq ?_
  refine g_seq ?_
  refine g_region ?_
  refine g_pure (p_move rfl) rfl ?_
  refine g_pure (p_eqnil (by rfl) rfl rfl) rfl ?_
  refine g_nil ?_
  refine g_qt ?_
  refine g_iff rfl ?_
  refine g_skip ?_
  refine g_qt ?_
  refine g_seq ?_
  refine g_region ?_
  refine g_pure (p_move rfl) rfl ?_
  refine g_pure (p_nilCheck rfl) rfl ?_
  refine g_pure (p_fieldAddr rfl) rfl ?_
  refine g_pure (p_load (by rfl) rfl (by first | (apply Has.own; (repeat' (first | exact Take.here | apply Take.there)); done) | exact Has.ro (by assumption)) (by first | rfl | assumption)) rfl ?_
  refine g_pure (p_len (by rfl) rfl) rfl ?_
  refine g_pure (p_assign rfl) rfl ?_
  refine g_nil ?_
  refine g_qt ?_
  refine g_ret ?_
  exact g_post (rs := [.tmp 2]) rfl (.tmp rfl .nil) ⟨rfl, rfl⟩ .nil
end Go.Proofs.YtopgbgnmjogeeaaGreatDoor
/- Chapter 35: Gate, Inputs. Conditions: none. -/
namespace Go.Proofs.YtopgbgnmjogeeaaGreatDoor
set_option maxRecDepth 8000
set_option linter.unusedVariables false
set_option linter.unusedSimpArgs false
set_option linter.unusedSectionVars false
open Go Go.Z Go.Z.Aig

def gate1 (S : St) (v : Int) : Int × Int × Bool :=
  match (if 1 ≤ v then S[v.toNat]? else none) with
  | some (a, b, false) => (a, b, true)
  | _ => (0, 0, false)

theorem gate_ok {ρ : Nat → Obj → Prop} (p : Nat) (S : St) (v : Int) (hv0 : I64 v) (hg : Ro ρ (Gr p S)) :
    Con Tryz.prog ρ 36 #[.pointer (some ⟨p, 0, none⟩), .int .i64 v] [] (fun u H => u = .tuple #[.int .i64 (gate1 S v).1, .int .i64 (gate1 S v).2.1, .bool (gate1 S v).2.2] ∧ H = []) := by
  obtain ⟨av, cv, ai, ci, mb, kn, hp, hv, hi, hm, hw, hk⟩ := gr_ro hg
  obtain ⟨b, off, cs, T, fz, hr⟩ := RSl.row encG_len hv
  have hlim := hw.lim
  refine con_intro Tryz.func36 Tryz.call36 rfl Tryz.ntmps36 rfl (L := [(0, _), (1, _)]) rfl fun w hh => ?_
  refine g_seq ?_
  refine g_region ?_
  refine g_pure (p_assign rfl) rfl ?_
  refine g_pure (p_assign rfl) rfl ?_
  refine g_pure (p_assign rfl) rfl ?_
  refine g_nil ?_
  refine g_qt ?_
  refine g_seq ?_
  refine g_seq ?_
  refine g_region ?_
  refine g_pure (p_move rfl) rfl ?_
  refine g_pure (p_eqnil (by rfl) rfl rfl) rfl ?_
  refine g_pure (p_move rfl) rfl ?_
  refine g_yes rfl rfl ?_
  refine g_pure (p_move rfl) rfl ?_
  refine g_yes rfl rfl ?_
  refine g_pure (p_lss rfl rfl) rfl ?_
  first | refine g_pure (p_pickt rfl rfl) rfl ?_ | refine g_pure (p_pickf rfl rfl) rfl ?_
  refine g_pure (p_move rfl) rfl ?_
  refine g_splitd rfl rfl (fun h1 => ?_) (fun h1 => ?_)
  · refine g_no rfl rfl rfl rfl ?_
    refine g_no rfl rfl rfl rfl ?_
    refine g_no rfl rfl rfl rfl ?_
    refine g_no rfl rfl rfl rfl ?_
    refine g_no rfl rfl rfl rfl ?_
    refine g_no rfl rfl rfl rfl ?_
    refine g_no rfl rfl rfl rfl ?_
    first | refine g_pure (p_pickt rfl rfl) rfl ?_ | refine g_pure (p_pickf rfl rfl) rfl ?_
    refine g_pure (p_move rfl) rfl ?_
    refine g_no rfl rfl rfl rfl ?_
    refine g_no rfl rfl rfl rfl ?_
    refine g_no rfl rfl rfl rfl ?_
    refine g_no rfl rfl rfl rfl ?_
    refine g_no rfl rfl rfl rfl ?_
    refine g_no rfl rfl rfl rfl ?_
    refine g_no rfl rfl rfl rfl ?_
    refine g_no rfl rfl rfl rfl ?_
    refine g_no rfl rfl rfl rfl ?_
    first | refine g_pure (p_pickt rfl rfl) rfl ?_ | refine g_pure (p_pickf rfl rfl) rfl ?_
    refine g_nil ?_
    refine g_qt ?_
    refine g_ift rfl ?_
    refine g_seq ?_
    refine g_region ?_
    refine g_pure (p_assign rfl) rfl ?_
    refine g_pure (p_assign rfl) rfl ?_
    refine g_pure (p_assign rfl) rfl ?_
    refine g_nil ?_
    refine g_qt ?_
    refine g_ret ?_
    refine g_qt_ret ?_
    have e : gate1 S v = (0, 0, false) := by unfold gate1; rw [if_neg (by omega)]
    exact g_post (rs := [.tmp 4, .tmp 5, .tmp 6]) rfl (.tmp rfl (.tmp rfl (.tmp rfl .nil))) ⟨by rw [e]; rfl, rfl⟩ .nil
  · refine g_yes rfl rfl ?_
    refine g_pure (p_move rfl) rfl ?_
    refine g_yes rfl rfl ?_
    refine g_pure (p_move rfl) rfl ?_
    refine g_yes rfl rfl ?_
    refine g_pure (p_nilCheck rfl) rfl ?_
    refine g_yes rfl rfl ?_
    refine g_pure (p_fieldAddr rfl) rfl ?_
    refine g_yes rfl rfl ?_
    refine g_pure (p_load (by rfl) rfl (by first | (apply Has.own; (repeat' (first | exact Take.here | apply Take.there)); done) | exact Has.ro (by assumption)) (by first | rfl | assumption)) rfl ?_
    refine g_yes rfl rfl ?_
    refine g_pure (p_len (by rfl) rfl) rfl ?_
    refine g_yes rfl rfl ?_
    refine g_pure (p_geq rfl rfl) rfl ?_
    first | refine g_pure (p_pickt rfl rfl) rfl ?_ | refine g_pure (p_pickf rfl rfl) rfl ?_
    refine g_pure (p_move rfl) rfl ?_
    refine g_splitd rfl rfl (fun h2 => ?_) (fun h2 => ?_)
    · refine g_no rfl rfl rfl rfl ?_
      refine g_no rfl rfl rfl rfl ?_
      refine g_no rfl rfl rfl rfl ?_
      refine g_no rfl rfl rfl rfl ?_
      refine g_no rfl rfl rfl rfl ?_
      refine g_no rfl rfl rfl rfl ?_
      refine g_no rfl rfl rfl rfl ?_
      refine g_no rfl rfl rfl rfl ?_
      refine g_no rfl rfl rfl rfl ?_
      first | refine g_pure (p_pickt rfl rfl) rfl ?_ | refine g_pure (p_pickf rfl rfl) rfl ?_
      refine g_nil ?_
      refine g_qt ?_
      refine g_ift rfl ?_
      refine g_seq ?_
      refine g_region ?_
      refine g_pure (p_assign rfl) rfl ?_
      refine g_pure (p_assign rfl) rfl ?_
      refine g_pure (p_assign rfl) rfl ?_
      refine g_nil ?_
      refine g_qt ?_
      refine g_ret ?_
      refine g_qt_ret ?_
      have e : gate1 S v = (0, 0, false) := by
        unfold gate1
        have : S[v.toNat]? = none := List.getElem?_eq_none (by omega)
        simp [this]
      exact g_post (rs := [.tmp 4, .tmp 5, .tmp 6]) rfl (.tmp rfl (.tmp rfl (.tmp rfl .nil))) ⟨by rw [e]; rfl, rfl⟩ .nil
    · have hvl : v.toNat < S.length := by omega
      obtain ⟨ra, rb, rc⟩ := hr (by omega)
      obtain ⟨rc1, rc2⟩ := rc v.toNat hvl
      obtain ⟨⟨x, y, z⟩, hq⟩ : ∃ q, S[v.toNat] = q := ⟨_, rfl⟩
      rw [hq] at rc1 rc2
      have hsv : S[v.toNat]? = some (x, y, z) := by rw [List.getElem?_eq_getElem hvl, hq]
      have l0 : cs[off + v.toNat * 2 + 0]? = some (.int .i64 x) := rc2 0 _ rfl
      have l1 : cs[off + v.toNat * 2 + 1]? = some (.int .i64 y) := rc2 1 _ rfl
      refine g_yes rfl rfl ?_
      refine g_pure (p_move rfl) rfl ?_
      refine g_yes rfl rfl ?_
      refine g_pure (p_nilCheck rfl) rfl ?_
      refine g_yes rfl rfl ?_
      refine g_pure (p_fieldAddr rfl) rfl ?_
      refine g_yes rfl rfl ?_
      refine g_pure (p_load (by rfl) rfl (by first | (apply Has.own; (repeat' (first | exact Take.here | apply Take.there)); done) | exact Has.ro (by assumption)) (by first | rfl | assumption)) rfl ?_
      refine g_yes rfl rfl ?_
      refine g_pure (p_move rfl) rfl ?_
      refine g_yes rfl rfl ?_
      refine g_pure (p_indexAddr rfl rfl (by omega) (fun _ => ra)) rfl ?_
      refine g_yes rfl rfl ?_
      refine g_pure (p_loadN (vs := [.int .i64 x, .int .i64 y]) (by rfl) rfl (Has.ro rb) (rc1 (by omega))) rfl ?_
      refine g_yes rfl rfl ?_
      refine g_pure (p_build (by rfl) rfl (by rfl)) rfl ?_
      refine g_yes rfl rfl ?_
      refine g_pure (p_eqagg (eqGate 9998 x y 0 0) (by kernel_rfl) rfl rfl) rfl ?_
      first | refine g_pure (p_pickt rfl rfl) rfl ?_ | refine g_pure (p_pickf rfl rfl) rfl ?_
      refine g_nil ?_
      refine g_qt ?_
      refine g_if rfl (fun h3 => ?_) (fun h3 => ?_)
      · refine g_seq ?_
        refine g_region ?_
        refine g_pure (p_assign rfl) rfl ?_
        refine g_pure (p_assign rfl) rfl ?_
        refine g_pure (p_assign rfl) rfl ?_
        refine g_nil ?_
        refine g_qt ?_
        refine g_ret ?_
        refine g_qt_ret ?_
        have e : gate1 S v = (0, 0, false) := by
          unfold gate1
          simp at h3
          by_cases hv1 : 1 ≤ v
          · rw [if_pos hv1, hsv]
            cases z with
            | true => rfl
            | false => have := hw.gate v.toNat x y (by omega) hsv; omega
          · rw [if_neg hv1]
        exact g_post (rs := [.tmp 4, .tmp 5, .tmp 6]) rfl (.tmp rfl (.tmp rfl (.tmp rfl .nil))) ⟨by rw [e]; rfl, rfl⟩ .nil
      · refine g_skip ?_
        refine g_qt ?_
        refine g_seq ?_
        refine m_begin0 (.fl 0 0 (.fl 1 0 (.fl 2 0 (.fl 3 1 (.fl 4 0 (.fl 5 0 (.fl 6 0 (.fl 7 1 (.fl 8 0 (.fl 9 0 (.fl 10 0 (.fl 11 1 (.fl 12 0 (.fl 13 0 (.fl 14 0 (.fl 15 1 (.fl 16 0 (.fl 17 0 (.fl 18 0 .done))))))))))))))))))) (by kernel_rfl) (by kernel_rfl) ?_
        refine m_float0 rfl (fun _ _ => p_move rfl) rfl ?_
        refine m_float0 rfl (fun _ _ => p_nilCheck rfl) rfl ?_
        refine m_float0 rfl (fun _ _ => p_fieldAddr rfl) rfl ?_
        refine m_float rfl (p_load (by rfl) rfl (by first | (apply Has.own; (repeat' (first | exact Take.here | apply Take.there)); done) | exact Has.ro (by assumption)) (by first | rfl | assumption)) rfl ?_
        refine m_float0 rfl (fun _ _ => p_move rfl) rfl ?_
        refine m_float0 rfl (fun _ _ => p_indexAddr rfl rfl (by omega) (fun _ => ra)) rfl ?_
        refine m_float0 rfl (fun _ _ => p_fieldAddr rfl) rfl ?_
        refine m_float rfl (p_load (by rfl) rfl (Has.ro rb) l0) rfl ?_
        refine m_float0 rfl (fun _ _ => p_move rfl) rfl ?_
        refine m_float0 rfl (fun _ _ => p_nilCheck rfl) rfl ?_
        refine m_float0 rfl (fun _ _ => p_fieldAddr rfl) rfl ?_
        refine m_float rfl (p_load (by rfl) rfl (by first | (apply Has.own; (repeat' (first | exact Take.here | apply Take.there)); done) | exact Has.ro (by assumption)) (by first | rfl | assumption)) rfl ?_
        refine m_float0 rfl (fun _ _ => p_move rfl) rfl ?_
        refine m_float0 rfl (fun _ _ => p_indexAddr rfl rfl (by omega) (fun _ => ra)) rfl ?_
        refine m_float0 rfl (fun _ _ => p_fieldAddr rfl) rfl ?_
        refine m_float rfl (p_load (by rfl) rfl (Has.ro rb) l1) rfl ?_
        refine m_float0 rfl (fun _ _ => p_assign rfl) rfl ?_
        refine m_float0 rfl (fun _ _ => p_assign rfl) rfl ?_
        refine m_float0 rfl (fun _ _ => p_assign rfl) rfl ?_
        refine m_nil ?_
        refine g_qt ?_
        refine g_ret ?_
        have e : gate1 S v = (x, y, true) := by
          unfold gate1
          have hv1 : 1 ≤ v := by
            apply Classical.byContradiction
            intro hn
            have h0 : v.toNat = 0 := by omega
            rw [h0] at hsv
            have := hw.hd
            rw [List.head?_eq_getElem?, hsv] at this
            simp at this
            obtain ⟨rfl, rfl, _⟩ := this
            simp at h3
          rw [if_pos hv1, hsv]
          cases z with
          | true => obtain ⟨rfl, rfl⟩ := hw.inp _ _ _ hsv; simp at h3
          | false => rfl
        exact g_post (rs := [.tmp 4, .tmp 5, .tmp 6]) rfl (.tmp rfl (.tmp rfl (.tmp rfl .nil))) ⟨by rw [e]; rfl, rfl⟩ .nil

theorem clone_ok {ρ : Nat → Obj → Prop} (al : Option Addr) (cl : Nat) (ls : List Int) (hl : RSl ρ 1 al ls.length (ls.map encI)) (hlen : ls.length ≤ 10000000000) :
    Con Tryz.prog ρ 57 #[.slice al ls.length cl] [] (fun v H => ∃ a c, v = .slice a ls.length c ∧ H = [OwnSl 59 1 a ls.length c (ls.map encI)]) := by
  obtain ⟨_, b, off, cs, T, fz, hr⟩ := hl
  refine con_intro Tryz.func57 Tryz.call57 rfl Tryz.ntmps57 rfl (L := [(0, _)]) rfl fun w hh => ?_
  refine g_seq ?_
  refine g_region ?_
  refine g_pure (p_assign rfl) rfl ?_
  refine g_nil ?_
  refine g_qt ?_
  refine g_seq ?_
  refine g_seq ?_
  refine g_region ?_
  refine g_pure (p_move rfl) rfl ?_
  refine g_pure (p_eqslnil (by rfl) rfl rfl) rfl ?_
  refine g_nil ?_
  refine g_qt ?_
  cases al with
  | none =>
    refine g_ift rfl ?_
    refine g_seq ?_
    refine g_region ?_
    refine g_pure (p_assign rfl) rfl ?_
    refine g_nil ?_
    refine g_qt ?_
    refine g_ret ?_
    refine g_qt_ret ?_
    have h0 : ls = [] := by
      cases ls with
      | nil => rfl
      | cons x l => have := (hr (by simp)).1; cases this
    subst h0
    refine g_ownnil (e := 59) (size := 1) ?_
    exact g_post (rs := [.tmp 2]) rfl (.tmp rfl .nil) ⟨none, 0, rfl, rfl⟩ (by repeat' (first | exact Cover.nil | exact Take.here | apply Cover.cons | apply Take.there))
  | some ad =>
    refine g_iff rfl ?_
    refine g_skip ?_
    refine g_qt ?_
    refine g_seq ?_
    refine g_region ?_
    refine g_eff (e_bs (xs := []) rfl rfl rfl (by rfl) (by rfl) rfl (by rfl)) rfl (fun _ _ => ?_)
    rintro ⟨b5, rfl, rfl⟩
    refine g_pure (p_move rfl) rfl ?_
    refine g_fold (k := 0) (cap := 0) (size := 1) (xs := []) .here (by omega) (by omega) rfl rfl ?_
    cases ls with
    | nil =>
      refine g_eff (e_append0 rfl rfl (by omega)) rfl (fun _ _ => ?_)
      rintro ⟨rfl, rfl⟩
      refine g_pure (p_assign rfl) rfl ?_
      refine g_nil ?_
      refine g_qt ?_
      refine g_ret ?_
      exact g_post (rs := [.tmp 2]) rfl (.tmp rfl .nil) ⟨_, _, rfl, rfl⟩ (by repeat' (first | exact Cover.nil | exact Take.here | apply Cover.cons | apply Take.there))
    | cons x l =>
      obtain ⟨ra, rb, rc⟩ := hr (by simp)
      obtain rfl : ad = ⟨b, off, none⟩ := Option.some.inj ra
      have hsub : sub cs off ((x :: l).length * 1) = some ((x :: l).map encI) := by
        have := sub_of (o := off) (i := 0) (k := (x :: l).length) rc (by simp) (by simp)
        rw [List.drop_zero, List.take_of_length_le (by simp)] at this
        simpa using this
      have hone : one1 ((x :: l).map encI) = true := by unfold one1; rw [List.all_eq_true]; intro v hv; obtain ⟨y, _, rfl⟩ := List.mem_map.1 hv; rfl
      refine g_eff (e_append rfl rfl rfl rfl (Has.ro rb) hsub hone .here (by simp) (by simp only [Nat.zero_add]; omega) (by omega)) rfl (fun _ _ => ?_)
      rintro ⟨a7, c7, rfl, rfl⟩
      refine g_pure (p_assign rfl) rfl ?_
      refine g_nil ?_
      refine g_qt ?_
      refine g_ret ?_
      have e0 : (0 : Nat) + (x :: l).length = (x :: l).length := Nat.zero_add _
      rw [e0]
      exact g_post (rs := [.tmp 2]) rfl (.tmp rfl .nil) ⟨_, _, rfl, rfl⟩ (by repeat' (first | exact Cover.nil | exact Take.here | apply Cover.cons | apply Take.there))

theorem ins_le : ∀ (l : List Gt) (i : Nat), (ins i l).length ≤ l.length
  | [], i => by simp [ins]
  | g :: l, i => by simp only [ins]; have := ins_le l (i + 1); split <;> simp <;> omega

theorem inputs_ok {ρ : Nat → Obj → Prop} (p : Nat) (S : St) (hg : Ro ρ (Gr p S)) :
    Con Tryz.prog ρ 27 #[.pointer (some ⟨p, 0, none⟩)] [] (fun v H => ∃ a c, v = .slice a (ins 0 S).length c ∧ H = [OwnSl 59 1 a (ins 0 S).length c ((ins 0 S).map encI)]) := by
  obtain ⟨av, cv, ai, ci, mb, kn, hp, hv, hi, hm, hw, hk⟩ := gr_ro hg
  refine con_intro Tryz.func27 Tryz.call27 rfl Tryz.ntmps27 rfl (L := [(0, _)]) rfl fun w hh => ?_
  refine g_seq ?_
  refine g_region ?_
  refine g_pure (p_assign rfl) rfl ?_
  refine g_nil ?_
  refine g_qt ?_
  refine g_seq ?_
  refine g_seq ?_
  refine g_region ?_
  refine g_pure (p_move rfl) rfl ?_
  refine g_pure (p_eqnil (by rfl) rfl rfl) rfl ?_
  refine g_nil ?_
  refine g_qt ?_
  refine g_iff rfl ?_
  refine g_skip ?_
  refine g_qt ?_
  refine g_seq ?_
  refine g_region ?_
  refine g_pure (p_move rfl) rfl ?_
  refine g_pure (p_nilCheck rfl) rfl ?_
  refine g_pure (p_fieldAddr rfl) rfl ?_
  refine g_pure (p_load (by rfl) rfl (by first | (apply Has.own; (repeat' (first | exact Take.here | apply Take.there)); done) | exact Has.ro (by assumption)) (by first | rfl | assumption)) rfl ?_
  refine g_call (Hin := []) (Hr := ?hr1) (R := ?rr1) rfl rfl rfl ?hin1 ?hc1 ?hk1
  case hin1 => repeat' (first | exact Cover.nil | exact Take.here | apply Cover.cons | apply Take.there)
  case hc1 => intro ρ' hρ hR; exact clone_ok ai ci (ins 0 S) (hi.mono hρ) (by have := hw.lim; have := ins_le S 0; omega)
  rintro _ _ ⟨a, c, rfl, rfl⟩
  refine g_pure (p_assign rfl) rfl ?_
  refine g_nil ?_
  refine g_qt ?_
  refine g_ret ?_
  exact g_post (rs := [.tmp 2]) rfl (.tmp rfl .nil) ⟨_, _, rfl, rfl⟩ (by repeat' (first | exact Cover.nil | exact Take.here | apply Cover.cons | apply Take.there))
end Go.Proofs.YtopgbgnmjogeeaaGreatDoor
/- Chapter 35: the values of variables, plain. Conditions: none. -/
namespace Go.Z.Aig
set_option maxRecDepth 8000
set_option linter.unusedVariables false
set_option linter.unusedSimpArgs false
set_option linter.unusedSectionVars false
open Go Go.Z

def litv (acc : List Bool) (a : Int) : Bool := acc.getD (a / 2).toNat false != decide (a % 2 = 1)
def stepV (st : List Bool × List Bool) (g : Gt) : List Bool × List Bool :=
  if g.2.2 then (st.1 ++ [st.2.headD false], st.2.tail) else (st.1 ++ [litv st.1 g.1 && litv st.1 g.2.1], st.2)
def valsF (l : List Gt) (inp : List Bool) : List Bool × List Bool := l.foldl stepV ([false], inp)
def vals (S : St) (inp : List Bool) : List Bool := (valsF (S.drop 1) inp).1
def eval1 (S : St) (inp : List Bool) (ls : List Int) : List Bool × Int :=
  if inp.length ≠ (ins 0 S).length then ([], 9) else if ls.all (hasB S) then (ls.map (litv (vals S inp)), 0) else ([], 14)

theorem valsF_snoc (l : List Gt) (g : Gt) (inp : List Bool) : valsF (l ++ [g]) inp = stepV (valsF l inp) g := by simp [valsF]
theorem stepV_pre (st : List Bool × List Bool) (g : Gt) : ∃ b, (stepV st g).1 = st.1 ++ [b] := by unfold stepV; split <;> exact ⟨_, rfl⟩
theorem foldV_pre : ∀ (l : List Gt) (st : List Bool × List Bool), ∃ t, (l.foldl stepV st).1 = st.1 ++ t ∧ t.length = l.length
  | [], st => ⟨[], by simp⟩
  | g :: l, st => by
    obtain ⟨b, hb⟩ := stepV_pre st g
    obtain ⟨t, ht, hl⟩ := foldV_pre l (stepV st g)
    exact ⟨b :: t, by simp [ht, hb], by simp [hl]⟩
theorem valsF_len (l : List Gt) (inp : List Bool) : (valsF l inp).1.length = l.length + 1 := by
  obtain ⟨t, ht, hl⟩ := foldV_pre l ([false], inp)
  unfold valsF
  rw [ht, List.length_append, hl]; simp; omega
theorem valsF_rest (i : Nat) : ∀ (l : List Gt) (inp : List Bool) (acc : List Bool), (l.foldl stepV (acc, inp)).2 = inp.drop (ins i l).length
  | [], inp, acc => by simp [ins]
  | g :: l, inp, acc => by
    simp only [List.foldl_cons, ins]
    have hi : ∀ j, (ins j l).length = (ins i l).length := by
      have : ∀ (l : List Gt) (i j : Nat), (ins i l).length = (ins j l).length := by
        intro l
        induction l with
        | nil => intro i j; rfl
        | cons g l ih => intro i j; simp only [ins]; split <;> simp [ih (i + 1) (j + 1)]
      exact fun j => this l j i
    split
    · rename_i hg
      have e : stepV (acc, inp) g = (acc ++ [inp.headD false], inp.tail) := by simp [stepV, hg]
      rw [e, valsF_rest i l inp.tail _, List.length_cons, hi (i + 1)]
      cases inp <;> simp
    · rename_i hg
      have e : stepV (acc, inp) g = (acc ++ [litv acc g.1 && litv acc g.2.1], inp) := by simp [stepV, hg]
      rw [e, valsF_rest i l inp _, hi (i + 1)]

theorem vals_len {S : St} (h : WF S) (inp : List Bool) : (vals S inp).length = S.length := by
  unfold vals; rw [valsF_len, List.length_drop]; have := h.pos; omega

theorem vals_split {S : St} {v : Nat} {g : Gt} (hv : 0 < v) (hg : S[v]? = some g) (inp : List Bool) :
    ∃ t, vals S inp = (stepV (valsF ((S.drop 1).take (v - 1)) inp) g).1 ++ t ∧ (valsF ((S.drop 1).take (v - 1)) inp).1.length = v := by
  have hlt := (List.getElem?_eq_some_iff.1 hg).1
  have h1 : S.drop 1 = (S.drop 1).take (v - 1) ++ g :: (S.drop 1).drop v := by
    have h2 : (S.drop 1)[v - 1]? = some g := by rw [List.getElem?_drop, show 1 + (v - 1) = v from by omega]; exact hg
    have h3 := (List.getElem?_eq_some_iff.1 h2)
    obtain ⟨h4, h5⟩ := h3
    rw [← h5]
    have := List.take_append_drop (v - 1) (S.drop 1)
    rw [List.drop_eq_getElem_cons h4, show v - 1 + 1 = v from by omega] at this
    exact this.symm
  unfold vals
  have hlen : (valsF ((S.drop 1).take (v - 1)) inp).1.length = v := by
    rw [valsF_len, List.length_take, List.length_drop]; omega
  obtain ⟨t, ht, _⟩ := foldV_pre ((S.drop 1).drop v) (stepV (valsF ((S.drop 1).take (v - 1)) inp) g)
  refine ⟨t, ?_, hlen⟩
  rw [← ht]
  conv => lhs; rw [h1]
  simp [valsF]

theorem litv_pre {acc t : List Bool} {a : Int} (h : (a / 2).toNat < acc.length) : litv (acc ++ t) a = litv acc a := by
  unfold litv
  rw [List.getD_eq_getElem?_getD, List.getElem?_append_left h, ← List.getD_eq_getElem?_getD]

theorem vals_gate {S : St} (h : WF S) {v : Nat} {a b : Int} (hv : 0 < v) (hg : S[v]? = some (a, b, false)) (inp : List Bool) :
    (vals S inp)[v]? = some (litv (vals S inp) a && litv (vals S inp) b) := by
  obtain ⟨t, ht, hl⟩ := vals_split hv hg inp
  obtain ⟨h1, h2, h3⟩ := h.gate v a b hv hg
  have e : (stepV (valsF ((S.drop 1).take (v - 1)) inp) (a, b, false)).1 = (valsF ((S.drop 1).take (v - 1)) inp).1 ++ [litv (valsF ((S.drop 1).take (v - 1)) inp).1 a && litv (valsF ((S.drop 1).take (v - 1)) inp).1 b] := by simp [stepV]
  rw [e] at ht
  rw [ht, List.append_assoc, litv_pre (by rw [hl]; omega), litv_pre (by rw [hl]; omega), List.getElem?_append_right (by omega), hl]
  simp

theorem vals_zero {S : St} (h : WF S) (inp : List Bool) : (vals S inp)[0]? = some false := by
  obtain ⟨t, ht, _⟩ := foldV_pre (S.drop 1) ([false], inp)
  unfold vals valsF
  rw [ht]; rfl

/-- how many inputs stand before variable v -/
def rank (S : St) (v : Nat) : Nat := (ins 0 (S.take v)).length

theorem ins_at : ∀ (l : List Gt) (i j : Nat) (a b : Int), l[j]? = some (a, b, true) → (ins i l)[(ins i (l.take j)).length]? = some (2 * ((i + j : Nat) : Int))
  | [], i, j, a, b, h => by simp at h
  | g :: l, i, 0, a, b, h => by
    simp at h; subst h; simp [ins]
  | g :: l, i, j + 1, a, b, h => by
    have ih := ins_at l (i + 1) j a b (by simpa using h)
    rw [List.take_succ_cons]
    simp only [ins]
    split
    · rw [List.length_cons, List.getElem?_cons_succ, ih]; congr 2; omega
    · rw [ih]; congr 2; omega

theorem ins_of : ∀ (l : List Gt) (i k : Nat) (x : Int), (ins i l)[k]? = some x → ∃ j a b, l[j]? = some (a, b, true) ∧ x = 2 * ((i + j : Nat) : Int) ∧ (ins i (l.take j)).length = k
  | [], i, k, x, h => by simp [ins] at h
  | (a, b, true) :: l, i, 0, x, h => by
    simp [ins] at h
    exact ⟨0, a, b, by simp, by rw [← h]; rfl, by simp [ins]⟩
  | (a, b, true) :: l, i, k + 1, x, h => by
    simp [ins] at h
    obtain ⟨j, a', b', h1, h2, h3⟩ := ins_of l (i + 1) k x h
    exact ⟨j + 1, a', b', by simpa using h1, by rw [h2]; congr 2; omega, by simp [ins, h3]⟩
  | (a, b, false) :: l, i, k, x, h => by
    simp [ins] at h
    obtain ⟨j, a', b', h1, h2, h3⟩ := ins_of l (i + 1) k x h
    exact ⟨j + 1, a', b', by simpa using h1, by rw [h2]; congr 2; omega, by simp [ins, h3]⟩

theorem vals_inp {S : St} (h : WF S) {v : Nat} {a b : Int} (hv : 0 < v) (hg : S[v]? = some (a, b, true)) (inp : List Bool) :
    (vals S inp)[v]? = some (inp.getD (rank S v) false) := by
  obtain ⟨t, ht, hl⟩ := vals_split hv hg inp
  have e0 : (valsF ((S.drop 1).take (v - 1)) inp).2 = inp.drop (rank S v) := by
    unfold valsF
    rw [valsF_rest 1]
    unfold rank
    have : S.take v = (S.take 1) ++ (S.drop 1).take (v - 1) := by
      rw [← List.take_add, show 1 + (v - 1) = v from by omega]
    rw [this, ins_append]
    have hd := h.hd
    cases S with
    | nil => simp at hd
    | cons g S => simp at hd; subst hd; simp [ins]
  have e : (stepV (valsF ((S.drop 1).take (v - 1)) inp) (a, b, true)).1 = (valsF ((S.drop 1).take (v - 1)) inp).1 ++ [(inp.drop (rank S v)).headD false] := by rw [← e0]; rfl
  rw [e] at ht
  rw [ht, List.append_assoc, List.getElem?_append_right (by omega), hl]
  simp [List.headD_eq_head?_getD, List.head?_drop, List.getD_eq_getElem?_getD]
end Go.Z.Aig
/- Chapter 35: Eval. Conditions: none. -/
namespace Go.Proofs.YtopgbgnmjogeeaaGreatDoor
set_option maxRecDepth 8000
set_option linter.unusedVariables false
set_option linter.unusedSimpArgs false
set_option linter.unusedSectionVars false
open Go Go.Z Go.Z.Aig


theorem lit_ok {ρ : Nat → Obj → Prop} (b9 g len cap : Nat) (W : List Bool) (a : Int) (ha : 0 ≤ a ∧ a < 2 * W.length) (hW : W.length ≤ 131072) (hlen : len = W.length) (h9 : ρ b9 (.cells [.slice (some ⟨g, 0, none⟩) len cap].toArray 37 (0, 0))) (hg : ρ g (.cells (W.map encB).toArray 4 (0, 0))) :
    Con Tryz.prog ρ 52 #[.int .i64 a, .pointer (some ⟨b9, 0, none⟩)] [] (fun v H => v = .bool (litv W a) ∧ H = []) := by
  subst hlen
  have hx : (W.map encB)[0 + (a / 2).toNat * 1]? = some (.bool (W.getD (a / 2).toNat false)) := by
    have h1 : (a / 2).toNat < W.length := by omega
    simp [encB, List.getElem?_eq_getElem h1]
  have hand := and1_i64 a (by omega)
  refine con_intro Tryz.func52 Tryz.call52 rfl Tryz.ntmps52 rfl (L := [(0, _), (1, _)]) rfl fun w hh => ?_
  refine g_seq ?_
  refine g_region ?_
  refine g_pure (p_assign rfl) rfl ?_
  refine g_nil ?_
  refine g_qt ?_
  refine g_seq ?_
  refine g_region ?_
  refine g_pure (p_load (by rfl) rfl (by first | (apply Has.own; (repeat' (first | exact Take.here | apply Take.there)); done) | exact Has.ro (by assumption)) (by first | rfl | assumption)) rfl ?_
  refine g_pure (p_move rfl) rfl ?_
  first | refine g_pure (p_quon rfl rfl (by omega) (by omega)) rfl ?_ | refine g_pure (p_quoi rfl rfl (by omega) (by omega)) rfl ?_ | refine g_pure (p_quo rfl rfl (by omega)) rfl ?_
  refine g_pure (p_indexAddr rfl rfl (by omega) (by first | exact fun _ => rfl | assumption)) rfl ?_
  refine g_pure (p_load (by rfl) rfl (Has.ro hg) hx) rfl ?_
  refine g_pure (p_move rfl) rfl ?_
  refine g_pure (p_and rfl rfl) rfl ?_
  refine g_pure (p_eql rfl rfl) rfl ?_
  refine g_pure (p_neqb (by rfl) rfl rfl) rfl ?_
  refine g_pure (p_assign rfl) rfl ?_
  refine g_nil ?_
  refine g_qt ?_
  refine g_ret ?_
  rw [hand]
  refine g_post (rs := [.tmp 3]) rfl (.tmp rfl .nil) ⟨?_, rfl⟩ .nil
  show Value.bool _ = Value.bool _
  congr 1

def inpB (S : St) (j : Nat) : Bool := (S[j]?.map (·.2.2)).getD false
def W1 (S : St) (inp : List Bool) (k : Nat) : List Bool := (List.range S.length).map fun j => if inpB S j && decide (rank S j < k) then (vals S inp).getD j false else false
def W2 (S : St) (inp : List Bool) (k : Nat) : List Bool := (List.range S.length).map fun j => if decide (j < k) || inpB S j then (vals S inp).getD j false else false

theorem W1_zero (S : St) (inp : List Bool) : W1 S inp 0 = List.replicate S.length false := by
  unfold W1
  apply List.ext_getElem
  · simp
  · intro i h1 h2; simp

theorem rank_inj {S : St} {i j : Nat} (hi : inpB S i = true) (hj : inpB S j = true) (h : rank S i = rank S j) : i = j := by
  have key : ∀ i, inpB S i = true → (ins 0 S)[rank S i]? = some (2 * (i : Int)) := fun i hi => by
    unfold inpB at hi
    cases e : S[i]? with
    | none => rw [e] at hi; simp at hi
    | some g =>
      obtain ⟨a, b, z⟩ := g
      rw [e] at hi; simp at hi; subst hi
      have := ins_at S 0 i a b e
      simpa [rank] using this
  have h1 := key i hi
  have h2 := key j hj
  rw [h, h2] at h1
  simp at h1; omega

theorem W1_step {S : St} (hw : WF S) (inp : List Bool) {k : Nat} {x : Int} (hx : (ins 0 S)[k]? = some x) (hk : k < inp.length) :
    ∃ v : Nat, x = 2 * (v : Int) ∧ v < S.length ∧ (W1 S inp k).set v inp[k] = W1 S inp (k + 1) := by
  obtain ⟨v, a, b, h1, h2, h3⟩ := ins_of S 0 k x hx
  have hv := (List.getElem?_eq_some_iff.1 h1).1
  have hv0 : 0 < v := by
    rcases Nat.eq_zero_or_pos v with e | e
    · subst e
      have := hw.hd
      rw [List.head?_eq_getElem?, h1] at this
      simp at this
    · exact e
  have hin : inpB S v = true := by simp [inpB, h1]
  have hval := vals_inp hw hv0 h1 inp
  have hrk : rank S v = k := h3
  refine ⟨v, by simpa using h2, hv, ?_⟩
  apply List.ext_getElem?
  intro j
  rw [List.getElem?_set]
  unfold W1
  by_cases hjv : v = j
  · subst hjv
    simp only [if_true, List.length_map, List.length_range, hv, List.getElem?_map, List.getElem?_range hv, Option.map_some]
    rw [hrk, hin]
    simp [List.getD_eq_getElem?_getD, hval, hrk, List.getElem?_eq_getElem hk]
  · rw [if_neg hjv]
    by_cases hj : j < S.length
    · simp only [List.getElem?_map, List.getElem?_range hj, Option.map_some]
      congr 1
      by_cases hi : inpB S j = true
      · have : rank S j ≠ k := fun e => hjv (rank_inj hin hi (by omega))
        have e1 : decide (rank S j < k + 1) = decide (rank S j < k) := by rw [decide_eq_decide]; omega
        rw [e1]
      · simp [hi]
    · simp [List.getElem?_eq_none, hj]

theorem W1_last {S : St} (inp : List Bool) : W1 S inp (ins 0 S).length = W2 S inp 0 := by
  unfold W1 W2
  apply List.map_congr_left
  intro j _
  by_cases hi : inpB S j = true
  · have : rank S j < (ins 0 S).length := by
      unfold inpB at hi
      cases e : S[j]? with
      | none => rw [e] at hi; simp at hi
      | some g =>
        obtain ⟨a, b, z⟩ := g
        rw [e] at hi; simp at hi; subst hi
        have := ins_at S 0 j a b e
        exact (List.getElem?_eq_some_iff.1 this).1
    simp [hi, this]
  · simp [hi]

theorem W2_len (S : St) (inp : List Bool) (k : Nat) : (W2 S inp k).length = S.length := by simp [W2]
theorem W2_get {S : St} (inp : List Bool) {k j : Nat} (hj : j < S.length) : (W2 S inp k)[j]? = some (if decide (j < k) || inpB S j then (vals S inp).getD j false else false) := by
  simp [W2, List.getElem?_range hj]
theorem W2_lit {S : St} (inp : List Bool) {k : Nat} {a : Int} (ha : 0 ≤ a ∧ a < 2 * k) (hk : k ≤ S.length) : litv (W2 S inp k) a = litv (vals S inp) a := by
  unfold litv
  congr 1
  rw [List.getD_eq_getElem?_getD, W2_get inp (by omega)]
  have : (a / 2).toNat < k := by omega
  simp [this]
theorem W2_skip {S : St} (hw : WF S) (inp : List Bool) {k : Nat} {g : Gt} (hg : S[k]? = some g) (h : g.2.2 = true ∨ k = 0) : W2 S inp k = W2 S inp (k + 1) := by
  unfold W2
  apply List.map_congr_left
  intro j _
  by_cases e : j = k
  · subst e
    rcases h with h | h
    · have : inpB S j = true := by simp [inpB, hg, h]
      simp [this]
    · subst h
      have := vals_zero hw inp
      simp [List.getD_eq_getElem?_getD, this]
  · have : decide (j < k + 1) = decide (j < k) := by rw [decide_eq_decide]; omega
    rw [this]
theorem W2_set {S : St} (hw : WF S) (inp : List Bool) {k : Nat} {a b : Int} (hk : 0 < k) (hg : S[k]? = some (a, b, false)) : (W2 S inp k).set k (litv (W2 S inp k) a && litv (W2 S inp k) b) = W2 S inp (k + 1) := by
  have hkl := (List.getElem?_eq_some_iff.1 hg).1
  obtain ⟨g1, g2, g3⟩ := hw.gate k a b hk hg
  rw [W2_lit inp (by omega) (by omega), W2_lit inp (by omega) (by omega)]
  have hv := vals_gate hw hk hg inp
  apply List.ext_getElem?
  intro j
  rw [List.getElem?_set]
  by_cases hjk : k = j
  · subst hjk
    rw [if_pos rfl, W2_len, if_pos hkl, W2_get inp hkl]
    simp [List.getD_eq_getElem?_getD, hv]
  · rw [if_neg hjk]
    by_cases hj : j < S.length
    · rw [W2_get inp hj, W2_get inp hj]
      have : decide (j < k + 1) = decide (j < k) := by rw [decide_eq_decide]; omega
      rw [this]
    · rw [List.getElem?_eq_none (by rw [W2_len]; omega), List.getElem?_eq_none (by rw [W2_len]; omega)]
theorem W2_last {S : St} (hw : WF S) (inp : List Bool) : W2 S inp S.length = vals S inp := by
  apply List.ext_getElem?
  intro j
  by_cases hj : j < S.length
  · rw [W2_get inp hj]
    have : j < (vals S inp).length := by rw [vals_len hw]; exact hj
    simp [hj, List.getD_eq_getElem?_getD, List.getElem?_eq_getElem this]
  · rw [List.getElem?_eq_none (by rw [W2_len]; omega), List.getElem?_eq_none (by rw [vals_len hw]; omega)]

theorem eval_ok {ρ : Nat → Obj → Prop} (p : Nat) (S : St) (ia : Option Addr) (ic : Nat) (inp : List Bool) (hin : RSl ρ 1 ia inp.length (inp.map encB)) (al : Option Addr) (cl : Nat) (ls : List Int) (hl : RSl ρ 1 al ls.length (ls.map encI)) (hlen : ls.length ≤ 10000000000) (hilen : inp.length ≤ 9223372036854775807)
    (hr : ∀ l ∈ ls, -9223372036854775808 ≤ l ∧ l ≤ 9223372036854775807) (hg : Ro ρ (Gr p S)) :
    Con Tryz.prog ρ 25 #[.pointer (some ⟨p, 0, none⟩), .slice ia inp.length ic, .slice al ls.length cl] []
      (fun v H => ∃ a c, v = .tuple #[.slice a (eval1 S inp ls).1.length c, .int .i64 (eval1 S inp ls).2] ∧ H = [OwnSl 4 1 a (eval1 S inp ls).1.length c ((eval1 S inp ls).1.map encB)]) := by
  obtain ⟨av, cv, ai, ci, mb, kn, hp, hv, hi, hm, hw, hk⟩ := gr_ro hg
  have hlim := hw.lim
  have hil := ins_le S 0
  refine con_intro Tryz.func25 Tryz.call25 rfl Tryz.ntmps25 rfl (L := [(0, _), (1, _), (2, _)]) rfl fun w hh => ?_
  refine g_seq ?_
  refine g_region ?_
  refine g_pure (p_assign rfl) rfl ?_
  refine g_pure (p_assign rfl) rfl ?_
  refine g_nil ?_
  refine g_qt ?_
  refine g_seq ?_
  refine g_seq ?_
  refine g_region ?_
  refine g_pure (p_move rfl) rfl ?_
  refine g_pure (p_eqnil (by rfl) rfl rfl) rfl ?_
  refine g_nil ?_
  refine g_qt ?_
  refine g_iff rfl ?_
  refine g_skip ?_
  refine g_qt ?_
  refine g_seq ?_
  refine g_seq ?_
  refine g_region ?_
  refine g_pure (p_move rfl) rfl ?_
  refine g_pure (p_len (by rfl) rfl) rfl ?_
  refine g_pure (p_move rfl) rfl ?_
  refine g_pure (p_nilCheck rfl) rfl ?_
  refine g_pure (p_fieldAddr rfl) rfl ?_
  refine g_pure (p_load (by rfl) rfl (by first | (apply Has.own; (repeat' (first | exact Take.here | apply Take.there)); done) | exact Has.ro (by assumption)) (by first | rfl | assumption)) rfl ?_
  refine g_pure (p_len (by rfl) rfl) rfl ?_
  refine g_pure (p_neq rfl rfl) rfl ?_
  refine g_nil ?_
  refine g_qt ?_
  refine g_ifnd rfl (fun h1 => ?_) (fun h1 => ?_)
  · refine g_seq ?_
    refine g_region ?_
    refine g_pure (p_assign rfl) rfl ?_
    refine g_pure (p_assign rfl) rfl ?_
    refine g_nil ?_
    refine g_qt ?_
    refine g_ret ?_
    refine g_qt_ret ?_
    have e : eval1 S inp ls = ([], 9) := by unfold eval1; rw [if_pos (by omega)]
    refine g_ownnil (e := 4) (size := 1) ?_
    exact g_post (rs := [.tmp 6, .tmp 7]) rfl (.tmp rfl (.tmp rfl .nil)) ⟨none, 0, by rw [e]; rfl, by rw [e]⟩ (by repeat' (first | exact Cover.nil | exact Take.here | apply Cover.cons | apply Take.there))
  · refine g_skip ?_
    refine g_qt ?_
    refine g_seq ?_
    refine g_seq ?_
    refine g_region ?_
    refine g_pure (p_move rfl) rfl ?_
    refine g_pure (p_move rfl) rfl ?_
    cases hy : ls.all (hasB S) with
    | false =>
      refine g_call (Hin := []) (Hr := ?hr1) (R := ?rr1) rfl rfl rfl ?hin1 ?hc1 ?hk1
      case hin1 => repeat' (first | exact Cover.nil | exact Take.here | apply Cover.cons | apply Take.there)
      case hc1 => intro ρ' hρ hR; exact ask_no p S al cl ls (hl.mono hρ) (by omega) hr (hg.mono hρ) hy
      rintro _ _ ⟨rfl, rfl⟩
      refine g_pure (p_assign rfl) rfl ?_
      refine g_nil ?_
      refine g_qt ?_
      refine g_seq ?_
      refine g_region ?_
      refine g_pure (p_move rfl) rfl ?_
      refine g_pure (p_neq rfl rfl) rfl ?_
      refine g_nil ?_
      refine g_qt ?_
      refine g_ift rfl ?_
      refine g_seq ?_
      refine g_region ?_
      refine g_pure (p_move rfl) rfl ?_
      refine g_pure (p_assign rfl) rfl ?_
      refine g_pure (p_assign rfl) rfl ?_
      refine g_nil ?_
      refine g_qt ?_
      refine g_ret ?_
      refine g_qt_ret ?_
      have e : eval1 S inp ls = ([], 14) := by unfold eval1; rw [if_neg (by omega), hy]; rfl
      refine g_ownnil (e := 4) (size := 1) ?_
      exact g_post (rs := [.tmp 6, .tmp 7]) rfl (.tmp rfl (.tmp rfl .nil)) ⟨none, 0, by rw [e]; rfl, by rw [e]⟩ (by repeat' (first | exact Cover.nil | exact Take.here | apply Cover.cons | apply Take.there))
    | true =>
      have e : eval1 S inp ls = (ls.map (litv (vals S inp)), 0) := by unfold eval1; rw [if_neg (by omega), hy]; rfl
      refine g_call (Hin := []) (Hr := ?hr2) (R := ?rr2) rfl rfl rfl ?hin2 ?hc2 ?hk2
      case hin2 => repeat' (first | exact Cover.nil | exact Take.here | apply Cover.cons | apply Take.there)
      case hc2 => intro ρ' hρ hR; exact ask_yes p S al cl ls (hl.mono hρ) (by omega) hr (hg.mono hρ) hy
      rintro _ _ ⟨rfl, rfl⟩
      refine g_pure (p_assign rfl) rfl ?_
      refine g_nil ?_
      refine g_qt ?_
      refine g_seq ?_
      refine g_region ?_
      refine g_pure (p_move rfl) rfl ?_
      refine g_pure (p_neq rfl rfl) rfl ?_
      refine g_nil ?_
      refine g_qt ?_
      refine g_iff rfl ?_
      refine g_skip ?_
      refine g_qt ?_
      refine g_seq ?_
      refine g_region ?_
      refine g_pure (p_move rfl) rfl ?_
      refine g_pure (p_nilCheck rfl) rfl ?_
      refine g_pure (p_fieldAddr rfl) rfl ?_
      refine g_pure (p_load (by rfl) rfl (by first | (apply Has.own; (repeat' (first | exact Take.here | apply Take.there)); done) | exact Has.ro (by assumption)) (by first | rfl | assumption)) rfl ?_
      refine g_pure (p_len (by rfl) rfl) rfl ?_
      refine g_eff (e_make (by rfl) (by rfl) rfl rfl (by omega) (by first | omega | (dsimp only; omega)) (by omega)) rfl (fun _ _ => ?_)
      rintro ⟨b39, rfl, rfl⟩
      refine g_eff (e_alloc (by rfl)) rfl (fun _ _ => ?_)
      rintro ⟨b9, rfl, rfl⟩
      first | refine g_eff0 (e_storeO rfl rfl (by rfl) (by rfl) (by rfl) (by repeat' (first | exact Take.here | apply Take.there)) (by rfl)) (fun _ _ => ?_) | refine g_eff0 (e_store1 (by rfl) rfl rfl rfl (by repeat' (first | exact Take.here | apply Take.there)) (by first | decide | (simp <;> omega) | omega)) (fun _ _ => ?_)
      rintro rfl
      refine g_nil ?_
      refine g_qt ?_
      refine g_seq ?_
      refine g_seq ?_
      refine g_region ?_
      refine g_pure (p_move rfl) rfl ?_
      refine g_pure (p_nilCheck rfl) rfl ?_
      refine g_pure (p_fieldAddr rfl) rfl ?_
      refine g_pure (p_load (by rfl) rfl (by first | (apply Has.own; (repeat' (first | exact Take.here | apply Take.there)); done) | exact Has.ro (by assumption)) (by first | rfl | assumption)) rfl ?_
      refine g_pure (p_len (by rfl) rfl) rfl ?_
      refine g_pure (p_move rfl) rfl ?_
      refine g_nil ?_
      refine g_qt ?_
      refine g_block ?_
      obtain ⟨_, b1, o1, cs1, T1, fz1, hi1⟩ := hi
      obtain ⟨_, b2, o2, cs2, T2, fz2, hin2⟩ := hin
      obtain ⟨_, b3, o3, cs3, T3, fz3, hl3⟩ := hl
      obtain ⟨b4, o4, cs4, T4, fz4, hv4⟩ := RSl.row encG_len hv
      have hreps : List.replicate (S.length : Int).toNat (Value.bool false) = (W1 S inp 0).map encB := by rw [W1_zero]; simp [encB]
      have hsl : Value.slice (some ⟨b39, 0, none⟩) (S.length : Int).toNat (S.length : Int).toNat = .slice (some ⟨b39, 0, none⟩) S.length S.length := by simp
      rw [hreps, hsl]
      refine g_loop (fun k : Nat => [(0, .pointer (some ⟨p, 0, none⟩)), (1, .slice ia inp.length ic), (2, .slice al ls.length cl), (9, .pointer (some ⟨b9, 0, none⟩)), (43, .slice ai (ins 0 S).length ci), (44, .int .i64 (ins 0 S).length), (45, .int .i64 k)])
        (fun k => [Blk b9 (.cells [.slice (some ⟨b39, 0, none⟩) S.length S.length].toArray 37 (0, 0)), Blk b39 (.cells ((W1 S inp k).map encB).toArray 4 (0, 0))]) (fun k => k ≤ (ins 0 S).length) (fun k => (ins 0 S).length - k) 0 (Nat.zero_le _) (by (repeat (first | exact trivial | refine ⟨by rfl, ?_⟩)); done) (by repeat' (first | exact Cover.nil | exact Take.here | apply Cover.cons | apply Take.there)) fun k hk' => ?_
      refine g_seq ?_
      refine g_region ?_
      refine g_pure (p_lss rfl rfl) rfl ?_
      refine g_nil ?_
      refine g_qt ?_
      refine g_seq ?_
      refine g_ifd rfl (fun h2 => ?_) (fun h2 => ?_)
      · have hkl : k < (ins 0 S).length := by omega
        have hki : k < inp.length := by omega
        obtain ⟨x, hx⟩ : ∃ x, (ins 0 S)[k]? = some x := ⟨_, List.getElem?_eq_getElem hkl⟩
        obtain ⟨v, hxv, hvl, hset⟩ := W1_step hw inp hx hki
        subst hxv
        have hx1 : cs1[o1 + (k : Int).toNat * 1]? = some (.int .i64 (2 * (v : Int))) := (hi1 (by omega)).2.2 _ _ (by simp [hx, encI])
        have hx2 : cs2[o2 + (k : Int).toNat * 1]? = some (.bool inp[k]) := (hin2 (by omega)).2.2 _ _ (by simp [encB, List.getElem?_eq_getElem hki])
        refine g_skip ?_
        refine g_qt ?_
        refine g_seq ?_
        refine g_block ?_
        refine g_seq ?_
        refine g_region ?_
        refine g_pure (p_move rfl) rfl ?_
        refine g_pure (p_indexAddr rfl rfl (by omega) (fun _ => (hi1 (by omega)).1)) rfl ?_
        refine g_pure (p_load (by rfl) rfl (Has.ro (hi1 (by omega)).2.1) hx1) rfl ?_
        refine g_pure (p_assign rfl) rfl ?_
        refine g_pure (p_assign rfl) rfl ?_
        refine g_nil ?_
        refine g_qt ?_
        refine m_begin0 (.fl 0 1 (.fl 1 0 (.fl 2 0 (.fl 3 0 (.fl 4 0 (.fl 5 0 (.fl 6 1 (.fl 7 0 (.ef 8 .done))))))))) (by kernel_rfl) (by kernel_rfl) ?_
        refine m_float rfl (p_load (by rfl) rfl (by first | (apply Has.own; (repeat' (first | exact Take.here | apply Take.there)); done) | exact Has.ro (by assumption)) (by first | rfl | assumption)) rfl ?_
        refine m_float0 rfl (fun _ _ => p_move rfl) rfl ?_
        first | refine m_float0 rfl (fun _ _ => p_quon rfl rfl (by omega) (by omega)) rfl ?_ | refine m_float0 rfl (fun _ _ => p_quoi rfl rfl (by omega) (by omega)) rfl ?_ | refine m_float0 rfl (fun _ _ => p_quo rfl rfl (by omega)) rfl ?_
        refine m_float0 rfl (fun _ _ => p_move rfl) rfl ?_
        refine m_float0 rfl (fun _ _ => p_move rfl) rfl ?_
        refine m_float0 rfl (fun _ _ => p_indexAddr rfl rfl (by omega) (fun _ => (hin2 (by omega)).1)) rfl ?_
        refine m_float rfl (p_load (by rfl) rfl (Has.ro (hin2 (by omega)).2.1) hx2) rfl ?_
        refine m_float0 rfl (fun _ _ => p_indexAddr rfl rfl (by omega) (fun _ => rfl)) rfl ?_
        refine m_eff0 rfl (e_store1 (by rfl) rfl rfl rfl (by repeat' (first | exact Take.here | apply Take.there)) (by simp [W1]; omega)) (fun _ _ => ?_)
        rintro rfl
        refine ⟨.none (by kernel_rfl), ?_⟩
        refine m_nil ?_
        refine g_qb ?_
        refine g_qt ?_
        refine g_region ?_
        first | refine g_pure (p_addi rfl rfl (by omega)) rfl ?_ | refine g_pure (p_add rfl rfl) rfl ?_
        refine g_pure (p_move rfl) rfl ?_
        refine g_nil ?_
        refine g_qn ?_
        have e5 : ((W1 S inp k).map encB).set (0 + (2 * (v : Int) / 2).toNat * 1) (Value.bool inp[k]) = (W1 S inp (k + 1)).map encB := by
          rw [show 0 + (2 * (v : Int) / 2).toNat * 1 = v from by omega, ← hset, List.map_set]; rfl
        rw [e5]
        exact g_next (k + 1) (by (repeat (first | exact trivial | refine ⟨by rfl, ?_⟩)); done) (by repeat' (first | exact Cover.nil | exact Take.here | apply Cover.cons | apply Take.there)) (by omega) (by omega)
      · have hke : k = (ins 0 S).length := by omega
        subst hke
        rw [W1_last]
        refine g_exit ?_
        refine g_qt_exit ?_
        refine g_qn_exit ?_
        refine g_qb_exit ?_
        refine g_qt ?_
        refine g_seq ?_
        refine g_region ?_
        refine g_pure (p_makeFunc rfl rfl) rfl ?_
        refine g_pure (p_assign rfl) rfl ?_
        refine g_nil ?_
        refine g_qt ?_
        refine g_seq ?_
        refine g_seq ?_
        refine g_region ?_
        refine g_pure (p_move rfl) rfl ?_
        refine g_pure (p_nilCheck rfl) rfl ?_
        refine g_pure (p_fieldAddr rfl) rfl ?_
        refine g_pure (p_load (by rfl) rfl (by first | (apply Has.own; (repeat' (first | exact Take.here | apply Take.there)); done) | exact Has.ro (by assumption)) (by first | rfl | assumption)) rfl ?_
        refine g_pure (p_len (by rfl) rfl) rfl ?_
        refine g_pure (p_move rfl) rfl ?_
        refine g_nil ?_
        refine g_qt ?_
        refine g_block ?_
        refine g_loop (fun k : Nat => [(0, .pointer (some ⟨p, 0, none⟩)), (2, .slice al ls.length cl), (9, .pointer (some ⟨b9, 0, none⟩)), (12, .func (.func 52) #[] #[.pointer (some ⟨b9, 0, none⟩)]), (63, .slice av S.length cv), (64, .int .i64 S.length), (65, .int .i64 k)])
          (fun k => [Blk b9 (.cells [.slice (some ⟨b39, 0, none⟩) S.length S.length].toArray 37 (0, 0)), Blk b39 (.cells ((W2 S inp k).map encB).toArray 4 (0, 0))]) (fun k => k ≤ S.length) (fun k => S.length - k) 0 (Nat.zero_le _) (by (repeat (first | exact trivial | refine ⟨by rfl, ?_⟩)); done) (by repeat' (first | exact Cover.nil | exact Take.here | apply Cover.cons | apply Take.there)) fun k hk2 => ?_
        refine g_seq ?_
        refine g_region ?_
        refine g_pure (p_lss rfl rfl) rfl ?_
        refine g_nil ?_
        refine g_qt ?_
        refine g_seq ?_
        refine g_ifd rfl (fun h3 => ?_) (fun h3 => ?_)
        · have hkl : k < S.length := by omega
          obtain ⟨⟨x, y, z⟩, hq⟩ : ∃ q, S[k] = q := ⟨_, rfl⟩
          have hsk : S[k]? = some (x, y, z) := by rw [List.getElem?_eq_getElem hkl, hq]
          obtain ⟨ra, rb, rc⟩ := hv4 (by omega)
          obtain ⟨rc1, _⟩ := rc k hkl
          rw [hq] at rc1
          refine g_skip ?_
          refine g_qt ?_
          refine g_seq ?_
          refine g_block ?_
          refine g_seq ?_
          refine g_region ?_
          refine g_pure (p_move rfl) rfl ?_
          refine g_pure (p_indexAddr rfl rfl (by omega) (fun _ => ra)) rfl ?_
          refine g_pure (p_loadN (vs := [.int .i64 x, .int .i64 y]) (by rfl) rfl (Has.ro rb) (by rw [Int.toNat_natCast]; exact rc1 (by omega))) rfl ?_
          refine g_eff (e_alloc (by rfl)) rfl (fun _ _ => ?_)
          rintro ⟨b14, rfl, rfl⟩
          refine g_pure (p_assign rfl) rfl ?_
          first | refine g_eff0 (e_storeO rfl rfl (by rfl) (by rfl) (by rfl) (by repeat' (first | exact Take.here | apply Take.there)) (by rfl)) (fun _ _ => ?_) | refine g_eff0 (e_storeN rfl rfl (by rfl) (by rfl) (by rfl) (by repeat' (first | exact Take.here | apply Take.there)) (by simp)) (fun _ _ => ?_)
          rintro rfl
          refine g_nil ?_
          refine g_qt ?_
          refine g_seq ?_
          refine g_region ?_
          first | refine g_pure (p_loadO (by rfl) rfl (by first | (apply Has.own; (repeat' (first | exact Take.here | apply Take.there)); done) | exact Has.ro (by assumption)) (by rfl)) rfl ?_ | refine g_pure (p_loadN (by rfl) rfl (by first | (apply Has.own; (repeat' (first | exact Take.here | apply Take.there)); done) | exact Has.ro (by assumption)) (by first | rfl | assumption)) rfl ?_
          refine g_pure (p_build (by rfl) rfl (by rfl)) rfl ?_
          refine g_pure (p_neagg (eqGate 9998 x y 0 0) (by kernel_rfl) rfl rfl) rfl ?_
          refine g_nil ?_
          refine g_qt ?_
          refine g_if rfl (fun h4 => ?_) (fun h4 => ?_)
          · have hgate : z = false ∧ 0 < k := by
              cases z with
              | true => obtain ⟨rfl, rfl⟩ := hw.inp k x y hsk; simp at h4
              | false =>
                refine ⟨rfl, ?_⟩
                rcases Nat.eq_zero_or_pos k with e0 | e0
                · subst e0
                  have := hw.hd
                  rw [List.head?_eq_getElem?, hsk] at this
                  simp at this
                  obtain ⟨rfl, rfl⟩ := this
                  simp at h4
                · exact e0
            obtain ⟨rfl, hk0⟩ := hgate
            obtain ⟨q1, q2, q3⟩ := hw.gate k x y hk0 hsk
            have hset := W2_set hw inp hk0 hsk
            have hwl := W2_len S inp k
            have hst : ∀ c : Bool, ((W2 S inp k).map encB).set (0 + (k : Int).toNat * 1) (Value.bool c) = ((W2 S inp k).set k c).map encB := fun c => by
              rw [show 0 + (k : Int).toNat * 1 = k from by omega, List.map_set]; rfl
            refine m_begin0 (.fl 0 1 (.fl 1 0 (.fl 2 0 (.fl 3 0 (.fl 4 1 (.ef 5 (.fl 6 0 (.fl 7 0 (.fl 8 0 (.fl 9 1 (.ef 10 (.fl 11 0 (.fl 12 0 (.ef 13 .done)))))))))))))) (by kernel_rfl) (by kernel_rfl) ?_
            refine m_float rfl (p_load (by rfl) rfl (by first | (apply Has.own; (repeat' (first | exact Take.here | apply Take.there)); done) | exact Has.ro (by assumption)) (by first | rfl | assumption)) rfl ?_
            refine m_float0 rfl (fun _ _ => p_move rfl) rfl ?_
            refine m_float0 rfl (fun _ _ => p_move rfl) rfl ?_
            refine m_float0 rfl (fun _ _ => p_fieldAddr rfl) rfl ?_
            refine m_float rfl (p_load (by rfl) rfl (by first | (apply Has.own; (repeat' (first | exact Take.here | apply Take.there)); done) | exact Has.ro (by assumption)) (by first | rfl | assumption)) rfl ?_
            refine m_call (Hin := []) (Hr := ?hr3) (R := ?rr3) rfl wantedN rfl rfl rfl ?hin3 ?hc3 ?hk3
            case hin3 => repeat' (first | exact Cover.nil | exact Take.here | apply Cover.cons | apply Take.there)
            case hc3 => intro ρ' hρ hR; exact lit_ok b9 b39 S.length S.length (W2 S inp k) x (by omega) (by omega) (by omega) hR.2.1.blk hR.2.2.1.blk
            rintro _ _ ⟨rfl, rfl⟩
            refine ⟨.some (by repeat' (first | exact Cover.nil | exact Take.here | apply Cover.cons | apply Take.there)), ?_⟩
            refine m_float0 rfl (fun _ _ => p_move rfl) rfl ?_
            refine m_split 6 rfl rfl (fun h5 => ?_) (fun h5 => ?_)
            · refine m_yes0 rfl rfl rfl (fun _ _ => p_move rfl) rfl ?_
              refine m_yes0 rfl rfl rfl (fun _ _ => p_fieldAddr rfl) rfl ?_
              refine m_yes rfl rfl rfl (p_load (by rfl) rfl (by first | (apply Has.own; (repeat' (first | exact Take.here | apply Take.there)); done) | exact Has.ro (by assumption)) (by first | rfl | assumption)) rfl ?_
              refine m_call (Hin := []) (Hr := ?hr4) (R := ?rr4) rfl (wantedY rfl rfl) rfl rfl rfl ?hin4 ?hc4 ?hk4
              case hin4 => repeat' (first | exact Cover.nil | exact Take.here | apply Cover.cons | apply Take.there)
              case hc4 => intro ρ' hρ hR; exact lit_ok b9 b39 S.length S.length (W2 S inp k) y (by omega) (by omega) (by omega) hR.2.1.blk hR.2.2.1.blk
              rintro _ _ ⟨rfl, rfl⟩
              refine ⟨.some (by repeat' (first | exact Cover.nil | exact Take.here | apply Cover.cons | apply Take.there)), ?_⟩
              first | refine m_float0 rfl (fun _ _ => p_pickt rfl rfl) rfl ?_ | refine m_float0 rfl (fun _ _ => p_pickf rfl rfl) rfl ?_
              refine m_float0 rfl (fun _ _ => p_indexAddr rfl rfl (by omega) (fun _ => rfl)) rfl ?_
              refine m_eff0 rfl (e_store1 (by rfl) rfl rfl rfl (by repeat' (first | exact Take.here | apply Take.there)) (by simp [W2]; omega)) (fun _ _ => ?_)
              rintro rfl
              refine ⟨.none (by kernel_rfl), ?_⟩
              refine m_nil ?_
              refine g_qb ?_
              refine g_qt ?_
              refine g_region ?_
              first | refine g_pure (p_addi rfl rfl (by omega)) rfl ?_ | refine g_pure (p_add rfl rfl) rfl ?_
              refine g_pure (p_move rfl) rfl ?_
              refine g_nil ?_
              refine g_qn ?_
              rw [hst]
              rw [h5, Bool.true_and] at hset
              rw [hset]
              exact g_next (k + 1) (by (repeat (first | exact trivial | refine ⟨by rfl, ?_⟩)); done) (by repeat' (first | exact Cover.nil | exact Take.here | apply Cover.cons | apply Take.there)) (by omega) (by omega)
            · refine m_no0 rfl rfl rfl rfl rfl ?_
              refine m_no0 rfl rfl rfl rfl rfl ?_
              refine m_no rfl rfl rfl rfl rfl ?_
              refine m_noe rfl rfl rfl rfl rfl (.some (by repeat' (first | exact Cover.nil | exact Take.here | apply Cover.cons | apply Take.there))) ?_
              first | refine m_float0 rfl (fun _ _ => p_pickt rfl rfl) rfl ?_ | refine m_float0 rfl (fun _ _ => p_pickf rfl rfl) rfl ?_
              refine m_float0 rfl (fun _ _ => p_indexAddr rfl rfl (by omega) (fun _ => rfl)) rfl ?_
              refine m_eff0 rfl (e_store1 (by rfl) rfl rfl rfl (by repeat' (first | exact Take.here | apply Take.there)) (by simp [W2]; omega)) (fun _ _ => ?_)
              rintro rfl
              refine ⟨.none (by kernel_rfl), ?_⟩
              refine m_nil ?_
              refine g_qb ?_
              refine g_qt ?_
              refine g_region ?_
              first | refine g_pure (p_addi rfl rfl (by omega)) rfl ?_ | refine g_pure (p_add rfl rfl) rfl ?_
              refine g_pure (p_move rfl) rfl ?_
              refine g_nil ?_
              refine g_qn ?_
              rw [hst]
              rw [h5, Bool.false_and] at hset
              rw [hset]
              exact g_next (k + 1) (by (repeat (first | exact trivial | refine ⟨by rfl, ?_⟩)); done) (by repeat' (first | exact Cover.nil | exact Take.here | apply Cover.cons | apply Take.there)) (by omega) (by omega)
          · refine g_skip ?_
            refine g_qb ?_
            refine g_qt ?_
            refine g_region ?_
            first | refine g_pure (p_addi rfl rfl (by omega)) rfl ?_ | refine g_pure (p_add rfl rfl) rfl ?_
            refine g_pure (p_move rfl) rfl ?_
            refine g_nil ?_
            refine g_qn ?_
            have hsk2 : z = true ∨ k = 0 := by
              cases z with
              | true => exact .inl rfl
              | false =>
                right
                rcases Nat.eq_zero_or_pos k with e0 | e0
                · exact e0
                · have := hw.gate k x y e0 hsk
                  simp at h4; omega
            rw [W2_skip hw inp hsk hsk2]
            exact g_next (k + 1) (by (repeat (first | exact trivial | refine ⟨by rfl, ?_⟩)); done) (by repeat' (first | exact Cover.nil | exact Take.here | apply Cover.cons | apply Take.there)) (by omega) (by omega)
        · have hke : k = S.length := by omega
          subst hke
          rw [W2_last hw]
          refine g_exit ?_
          refine g_qt_exit ?_
          refine g_qn_exit ?_
          refine g_qb_exit ?_
          refine g_qt ?_
          refine g_seq ?_
          refine g_region ?_
          refine g_pure (p_assign rfl) rfl ?_
          refine g_nil ?_
          refine g_qt ?_
          refine g_seq ?_
          refine g_seq ?_
          refine g_region ?_
          refine g_pure (p_move rfl) rfl ?_
          refine g_pure (p_len (by rfl) rfl) rfl ?_
          refine g_pure (p_move rfl) rfl ?_
          refine g_nil ?_
          refine g_qt ?_
          refine g_block ?_
          refine g_ownnil (e := 4) (size := 1) ?_
          refine g_loop (fun kk : Nat × Option Addr × Nat => [(2, .slice al ls.length cl), (12, .func (.func 52) #[] #[.pointer (some ⟨b9, 0, none⟩)]), (15, .slice kk.2.1 kk.1 kk.2.2), (87, .slice al ls.length cl), (88, .int .i64 ls.length), (89, .int .i64 kk.1)])
            (fun kk => [OwnSl 4 1 kk.2.1 kk.1 kk.2.2 (((ls.take kk.1).map (litv (vals S inp))).map encB), Blk b9 (.cells [.slice (some ⟨b39, 0, none⟩) S.length S.length].toArray 37 (0, 0)), Blk b39 (.cells ((vals S inp).map encB).toArray 4 (0, 0))]) (fun kk => kk.1 ≤ ls.length) (fun kk => ls.length - kk.1) (0, none, 0) (Nat.zero_le _) (by (repeat (first | exact trivial | refine ⟨by rfl, ?_⟩)); done) (by repeat' (first | exact Cover.nil | exact Take.here | apply Cover.cons | apply Take.there)) ?_
          rintro ⟨k, ao, co⟩ hk3
          refine g_seq ?_
          refine g_region ?_
          refine g_pure (p_lss rfl rfl) rfl ?_
          refine g_nil ?_
          refine g_qt ?_
          refine g_seq ?_
          refine g_ifd rfl (fun h4 => ?_) (fun h4 => ?_)
          · have hkl : k < ls.length := by simp at h4; omega
            have hk3' : k ≤ ls.length := hk3
            have hx1 : cs3[o3 + (k : Int).toNat * 1]? = some (.int .i64 ls[k]) := (hl3 (by omega)).2.2 _ _ (by simp [encI, List.getElem?_eq_getElem hkl])
            refine g_skip ?_
            refine g_qt ?_
            refine g_seq ?_
            refine g_block ?_
            refine g_seq ?_
            refine g_region ?_
            refine g_pure (p_indexAddr rfl rfl (by omega) (fun _ => (hl3 (by omega)).1)) rfl ?_
            refine g_pure (p_load (by rfl) rfl (Has.ro (hl3 (by omega)).2.1) hx1) rfl ?_
            refine g_pure (p_assign rfl) rfl ?_
            refine g_nil ?_
            refine g_qt ?_
            refine g_region ?_
            refine g_pure (p_move rfl) rfl ?_
            refine g_pure (p_move rfl) rfl ?_
            refine g_pure (p_move rfl) rfl ?_
            have hb := hasB_iff.1 (List.all_eq_true.1 hy ls[k] (List.getElem_mem hkl))
            have hb1 := hb.1
            have hb2 := hb.2
            have hvl := vals_len hw inp
            refine g_call (Hin := []) (Hr := ?hr5) (R := ?rr5) rfl rfl rfl ?hin5 ?hc5 ?hk5
            case hin5 => repeat' (first | exact Cover.nil | exact Take.here | apply Cover.cons | apply Take.there)
            case hc5 => intro ρ' hρ hR; exact lit_ok b9 b39 S.length S.length (vals S inp) ls[k] (by omega) (by omega) (by omega) hR.2.1.blk hR.2.2.1.blk
            rintro _ _ ⟨rfl, rfl⟩
            refine g_eff (e_bs (xs := [.tmp 96]) rfl rfl rfl (by rfl) (by rfl) rfl (by rfl)) rfl (fun _ _ => ?_)
            rintro ⟨b97, rfl, rfl⟩
            refine g_eff (e_appendO (by rfl) (by rfl) rfl rfl (by first | (apply Has.own; (repeat' (first | exact Take.here | apply Take.there)); done) | exact Has.ro (by assumption)) (by rfl) (by rfl) (by repeat' (first | exact Take.here | apply Take.there)) (by omega) (by first | omega | (dsimp only; omega) | (simp <;> omega)) (by omega)) rfl (fun _ _ => ?_)
            rintro ⟨a98, c98, rfl, rfl⟩
            refine g_pure (p_assign rfl) rfl ?_
            refine g_nil ?_
            refine g_qb ?_
            refine g_qt ?_
            refine g_region ?_
            first | refine g_pure (p_addi rfl rfl (by omega)) rfl ?_ | refine g_pure (p_add rfl rfl) rfl ?_
            refine g_pure (p_move rfl) rfl ?_
            refine g_nil ?_
            refine g_qn ?_
            have e6 : ((ls.take k).map (litv (vals S inp))).map encB ++ [Value.bool (litv (vals S inp) ls[k])] = ((ls.take (k + 1)).map (litv (vals S inp))).map encB := by
              rw [List.take_add_one, List.getElem?_eq_getElem hkl, Option.toList_some, List.map_append, List.map_append]; rfl
            rw [e6]
            exact g_next (k + 1, a98, c98) (by (repeat (first | exact trivial | refine ⟨by rfl, ?_⟩)); done) (by repeat' (first | exact Cover.nil | exact Take.here | apply Cover.cons | apply Take.there)) (by show k + 1 ≤ ls.length; omega) (by show ls.length - (k + 1) < ls.length - k; omega)
          · have hke : k = ls.length := by have hk3' : k ≤ ls.length := hk3; simp at h4; omega
            subst hke
            refine g_exit ?_
            refine g_qt_exit ?_
            refine g_qn_exit ?_
            refine g_qb_exit ?_
            refine g_qt ?_
            refine g_seq ?_
            refine g_region ?_
            refine g_pure (p_move rfl) rfl ?_
            refine g_pure (p_assign rfl) rfl ?_
            refine g_pure (p_assign rfl) rfl ?_
            refine g_nil ?_
            refine g_qt ?_
            refine g_ret ?_
            rw [List.take_of_length_le (Nat.le_refl _)]
            exact g_post (rs := [.tmp 6, .tmp 7]) (Ho := [OwnSl 4 1 ao ls.length co ((ls.map (litv (vals S inp))).map encB)]) rfl (.tmp rfl (.tmp rfl .nil)) ⟨ao, co, by rw [e, List.length_map]; rfl, by rw [e, List.length_map]⟩ (by repeat' (first | exact Cover.nil | exact Take.here | apply Cover.cons | apply Take.there))
end Go.Proofs.YtopgbgnmjogeeaaGreatDoor
/- Chapter 35: the small case, negations. Conditions: none. -/
namespace Go.Proofs.YtopgbgnmjogeeaaGreatDoor
set_option maxRecDepth 8000
set_option linter.unusedVariables false
set_option linter.unusedSimpArgs false
set_option linter.unusedSectionVars false
open Go Go.Z Go.Z.Aig

def L0 : St := [(0, 0, false)]
def L2 : St := [(0, 0, false), (0, 0, true), (0, 0, true)]
def L5 : St := [(0, 0, false), (0, 0, true), (0, 0, true), (2, 5, false), (3, 4, false), (7, 9, false)]
def L6 : St := [(0, 0, false), (0, 0, true), (0, 0, true), (2, 5, false), (3, 4, false), (7, 9, false), (2, 4, false)]

theorem lives_in1 : input1 L0 = (2, 0, [(0, 0, false), (0, 0, true)]) := by decide
theorem lives_in2 : input1 [(0, 0, false), (0, 0, true)] = (4, 0, L2) := by decide
theorem lives_xor : xor1 L2 2 4 = (11, 0, L5) := by decide
theorem lives_and : and1 L5 4 2 = (12, 0, L6) := by decide
theorem lives_and2 : and1 L6 2 4 = (12, 0, L6) := by decide
theorem lives_eval : eval1 L6 [true, false] [11, 12, 1, 3] = ([true, false, true, false], 0) := by decide

theorem input_at {ρ : Nat → Obj → Prop} {p : Nat} {S : St} {a e : Int} {T : St} (h : input1 S = (a, e, T)) :
    Con Tryz.prog ρ 30 #[.pointer (some ⟨p, 0, none⟩)] [Gr p S] (fun v H => v = .tuple #[.int .i64 a, .int .i64 e] ∧ H = [Gr p T]) := by
  have := input_ok (ρ := ρ) p S; rw [h] at this; exact this
theorem and_at {ρ : Nat → Obj → Prop} {p : Nat} {S : St} {x y a e : Int} {T : St} (h : and1 S x y = (a, e, T)) (hx : I64 x) (hy : I64 y) :
    Con Tryz.prog ρ 31 #[.pointer (some ⟨p, 0, none⟩), .int .i64 x, .int .i64 y] [Gr p S] (fun v H => v = .tuple #[.int .i64 a, .int .i64 e] ∧ H = [Gr p T]) := by
  have := and_ok (ρ := ρ) p S x y hx hy; rw [h] at this; exact this
theorem or_at {ρ : Nat → Obj → Prop} {p : Nat} {S : St} {x y a e : Int} {T : St} (h : or1 S x y = (a, e, T)) (hx : I64 x) (hy : I64 y) :
    Con Tryz.prog ρ 32 #[.pointer (some ⟨p, 0, none⟩), .int .i64 x, .int .i64 y] [Gr p S] (fun v H => v = .tuple #[.int .i64 a, .int .i64 e] ∧ H = [Gr p T]) := by
  have := or_ok (ρ := ρ) p S x y hx hy; rw [h] at this; exact this
theorem xor_at {ρ : Nat → Obj → Prop} {p : Nat} {S : St} {x y a e : Int} {T : St} (h : xor1 S x y = (a, e, T)) (hx : I64 x) (hy : I64 y) :
    Con Tryz.prog ρ 33 #[.pointer (some ⟨p, 0, none⟩), .int .i64 x, .int .i64 y] [Gr p S] (fun v H => v = .tuple #[.int .i64 a, .int .i64 e] ∧ H = [Gr p T]) := by
  have := xor_ok (ρ := ρ) p S x y hx hy; rw [h] at this; exact this
theorem mux_at {ρ : Nat → Obj → Prop} {p : Nat} {S : St} {c x y a e : Int} {T : St} (h : mux1 S c x y = (a, e, T)) (hc : I64 c) (hx : I64 x) (hy : I64 y) :
    Con Tryz.prog ρ 34 #[.pointer (some ⟨p, 0, none⟩), .int .i64 c, .int .i64 x, .int .i64 y] [Gr p S] (fun v H => v = .tuple #[.int .i64 a, .int .i64 e] ∧ H = [Gr p T]) := by
  have := mux_ok (ρ := ρ) p S c x y hc hx hy; rw [h] at this; exact this
theorem eval_at {ρ : Nat → Obj → Prop} {p : Nat} {S : St} {ia : Option Addr} {ic : Nat} {inp : List Bool} {al : Option Addr} {cl : Nat} {ls : List Int} {vs : List Bool} {e : Int} (h : eval1 S inp ls = (vs, e)) (hin : RSl ρ 1 ia inp.length (inp.map encB)) (hl : RSl ρ 1 al ls.length (ls.map encI)) (hlen : ls.length ≤ 10000000000) (hilen : inp.length ≤ 9223372036854775807)
    (hr : ∀ l ∈ ls, -9223372036854775808 ≤ l ∧ l ≤ 9223372036854775807) (hg : Ro ρ (Gr p S)) :
    Con Tryz.prog ρ 25 #[.pointer (some ⟨p, 0, none⟩), .slice ia inp.length ic, .slice al ls.length cl] []
      (fun v H => ∃ a c, v = .tuple #[.slice a vs.length c, .int .i64 e] ∧ H = [OwnSl 4 1 a vs.length c (vs.map encB)]) := by
  have := eval_ok (ρ := ρ) p S ia ic inp hin al cl ls hl hlen hilen hr hg; rw [h] at this; exact this

theorem i64_lit {a : Int} (h : (decide (-9223372036854775808 ≤ a) && decide (a ≤ 9223372036854775807)) = true) : I64 a := by simpa [I64] using h

end Go.Proofs.YtopgbgnmjogeeaaGreatDoor
/- Chapter 35, the document's side: variables in three lists. Conditions: none. -/
namespace Go.Proofs.YtopgbgnmjogeeaaGreatDoor
set_option maxRecDepth 8000
set_option linter.unusedVariables false
set_option linter.unusedSimpArgs false
set_option linter.unusedSectionVars false
open Go Go.Z Go.Z.Aig

theorem own_at {cur xs : List Value} {N k i : Nat} {v : Value} (h : cur.take (N * 1) = xs) (hi : i = 0 + k * 1) (hv : xs[k]? = some v) : cur[i]? = some v := by
  subst hi
  rw [← h, List.getElem?_take] at hv
  split at hv
  · simpa using hv
  · cases hv

theorem g_cap {M : Mx} {n : Nat} {L : Fr} {H H' : List Assn} {T : Act → World → Prop} {e : TypeId} {size : Nat} {a1 : Option Addr} {k cap : Nat} {xs : List Value} (tk : Take H (OwnSl e size a1 k cap xs) H') (h : k ≤ cap → cap ≤ 9223372036854775807 → G M n L H T) : G M n L H T := by
  intro a w ha hm
  obtain ⟨e1, e2⟩ := OwnSl.cases tk hm
  rcases e2 with ⟨r1, r2, r3, hm'⟩ | ⟨g, cur, r1, r2, r3, r4, r5, hm'⟩
  · exact h (by omega) (by omega) a w ha hm
  · exact h r2 r3 a w ha hm

theorem hasB_nt (S : St) (a : Int) : hasB S (nt a) = hasB S a := by
  have h : hasB S (nt a) = true ↔ hasB S a = true := by
    rw [hasB_iff, hasB_iff]
    refine ⟨fun h => ?_, nt_has⟩
    have e : nt (nt a) = a := by unfold nt; split <;> split <;> omega
    rw [← e]; exact nt_has h
  cases h1 : hasB S (nt a) <;> cases h2 : hasB S a <;> simp_all

theorem i64_nt {a : Int} (h : I64 a) : I64 (Aig.nt a) := by unfold I64 Aig.nt at *; split <;> omega

theorem min_nt {a b : Int} (h : a = nt b) : min a b = nt (max a b) := by unfold nt at *; split at h <;> split <;> omega
theorem min_nt' {a b : Int} (h : ¬ a = nt b) : ¬ min a b = nt (max a b) := by
  intro e; apply h; unfold nt at *; split at e <;> split <;> omega

theorem find_step {S : St} {k : Nat} (hk : k < S.length) {x y : Int} : find (S.drop k) k x y = if S[k] = (x, y, false) then some k else find (S.drop (k + 1)) (k + 1) x y := by
  rw [List.drop_eq_getElem_cons hk]; rfl

end Go.Proofs.YtopgbgnmjogeeaaGreatDoor
/- Chapter 35, the document's side: selections. Conditions: none. -/
namespace Go.Proofs.YtopgbgnmjogeeaaGreatDoor
set_option maxRecDepth 8000
set_option linter.unusedVariables false
set_option linter.unusedSimpArgs false
set_option linter.unusedSectionVars false
open Go Go.Z Go.Z.Aig

def orX (S : St) (a b : Int) : Int × Int × St := let r := and0 S (nt a) (nt b); if r.2.1 = 0 then (nt r.1, 0, r.2.2) else (0, r.2.1, r.2.2)
def two1 (S : St) (a b c d : Int) : Int × Int × St := if hasB S a && (hasB S b && (hasB S c && hasB S d)) then two S a b c d else (0, 14, S)

end Go.Proofs.YtopgbgnmjogeeaaGreatDoor
/- Chapter 35, the document's side: inputs, gates. Conditions: none. -/
namespace Go.Proofs.YtopgbgnmjogeeaaGreatDoor
set_option maxRecDepth 8000
set_option linter.unusedVariables false
set_option linter.unusedSimpArgs false
set_option linter.unusedSectionVars false
open Go Go.Z Go.Z.Aig

theorem ins_snoc {S : St} {k : Nat} (hk : k < S.length) : ins 0 (S.take (k + 1)) = ins 0 (S.take k) ++ (if S[k].2.2 then [2 * (k : Int)] else []) := by
  rw [List.take_add_one, List.getElem?_eq_getElem hk, Option.toList_some, ins_append]
  congr 1
  have : (S.take k).length = k := by rw [List.length_take]; omega
  simp only [ins, this, Nat.zero_add]

theorem ins_one {S : St} (h : WF S) : ins 0 (S.take 1) = [] := by
  have := h.hd
  cases S with
  | nil => rfl
  | cons g l => simp at this; subst this; rfl

end Go.Proofs.YtopgbgnmjogeeaaGreatDoor
