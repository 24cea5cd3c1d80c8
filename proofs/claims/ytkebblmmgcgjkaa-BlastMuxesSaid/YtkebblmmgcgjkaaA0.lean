/- The plain machine of chapter 35: variables with operands, shared conjunctions. No program in sight. Conditions: none. -/
import Derived.Test.YtkebblmmgcgjkaaZg
namespace Go.Z.Aig
set_option maxRecDepth 8000
set_option linter.unusedVariables false
set_option linter.unusedSimpArgs false
set_option linter.unusedSectionVars false
open Go Go.Z

abbrev Gt := Int × Int × Bool
abbrev St := List Gt

def nt (a : Int) : Int := if a % 2 = 0 then a + 1 else a - 1
def has (S : St) (a : Int) : Prop := 0 ≤ a ∧ a < 2 * S.length
instance (S : St) (a : Int) : Decidable (has S a) := by unfold has; exact inferInstance
def hasB (S : St) (a : Int) : Bool := decide (0 ≤ a) && decide (a < 2 * S.length)
def add (S : St) (g : Gt) : Int × Int × St := if 131072 ≤ S.length then (0, 3, S) else (2 * S.length, 0, S ++ [g])
def find : List Gt → Nat → Int → Int → Option Nat
  | [], _, _, _ => none
  | g :: l, i, x, y => if g = (x, y, false) then some i else find l (i + 1) x y
def and0 (S : St) (a b : Int) : Int × Int × St :=
  if min a b = 0 ∨ min a b = nt (max a b) then (0, 0, S)
  else if min a b = 1 ∨ min a b = max a b then (max a b, 0, S)
  else match find (S.drop 1) 1 (min a b) (max a b) with
    | some v => (2 * v, 0, S)
    | none => add S (min a b, max a b, false)
def and1 (S : St) (a b : Int) : Int × Int × St := if hasB S a && hasB S b then and0 S a b else (0, 14, S)
def or1 (S : St) (a b : Int) : Int × Int × St :=
  if hasB S a && hasB S b then (let r := and0 S (nt a) (nt b); if r.2.1 = 0 then (nt r.1, 0, r.2.2) else (0, r.2.1, r.2.2)) else (0, 14, S)
def two (S : St) (a b c d : Int) : Int × Int × St :=
  let r := and0 S a b
  if r.2.1 ≠ 0 then (0, r.2.1, r.2.2) else
  let q := and0 r.2.2 c d
  if q.2.1 ≠ 0 then (0, q.2.1, S) else
  let z := and0 q.2.2 (nt r.1) (nt q.1)
  if z.2.1 ≠ 0 then (0, z.2.1, S) else (nt z.1, 0, z.2.2)
def xor1 (S : St) (a b : Int) : Int × Int × St := if hasB S a && hasB S b then two S a (nt b) (nt a) b else (0, 14, S)
def mux1 (S : St) (c a b : Int) : Int × Int × St := if hasB S c && (hasB S a && hasB S b) then two S c a (nt c) b else (0, 14, S)
def input1 (S : St) : Int × Int × St := add S (0, 0, true)
def ins : Nat → List Gt → List Int
  | _, [] => []
  | i, g :: l => if g.2.2 then (2 * i : Int) :: ins (i + 1) l else ins (i + 1) l

structure WF (S : St) : Prop where
  hd : S.head? = some (0, 0, false)
  inp : ∀ (v : Nat) a b, S[v]? = some (a, b, true) → a = 0 ∧ b = 0
  gate : ∀ (v : Nat) a b, 0 < v → S[v]? = some (a, b, false) → 2 ≤ a ∧ a < b ∧ b < 2 * v
  one : ∀ (v u : Nat) a b, 0 < v → 0 < u → S[v]? = some (a, b, false) → S[u]? = some (a, b, false) → v = u
  lim : S.length ≤ 131072

theorem WF.pos {S : St} (h : WF S) : 0 < S.length := by
  have := h.hd
  cases S with
  | nil => simp at this
  | cons => simp

def encG (g : Gt) : List Value := [.int .i64 g.1, .int .i64 g.2.1]
def encK (p : Int × Int) : Value := .agg #[.int .i64 p.1, .int .i64 p.2]

theorem encG_len (g : Gt) : (encG g).length = 2 := rfl

structure KN (S : St) (kn : List ((Int × Int) × Value)) : Prop where
  nd : (kn.map (·.1)).Nodup
  look : ∀ x y, (idx kn (x, y) 0).map (·.2) = (find (S.drop 1) 1 x y).map fun v => Value.int .i64 (2 * (v : Int))

theorem find_append : ∀ (l m : List Gt) (i : Nat) (x y : Int), find (l ++ m) i x y = (find l i x y).or (find m (i + l.length) x y)
  | [], m, i, x, y => by simp [find]
  | g :: l, m, i, x, y => by
    simp only [List.cons_append, find]
    split
    · rfl
    · rw [find_append l m (i + 1) x y, List.length_cons, show i + 1 + l.length = i + (l.length + 1) from by omega]

theorem find_some : ∀ (l : List Gt) (i v : Nat) (x y : Int), find l i x y = some v → i ≤ v ∧ l[v - i]? = some (x, y, false)
  | [], i, v, x, y, h => by simp [find] at h
  | g :: l, i, v, x, y, h => by
    simp only [find] at h
    split at h
    · rename_i hg; simp at h; subst h; simp [hg]
    · obtain ⟨h1, h2⟩ := find_some l (i + 1) v x y h
      refine ⟨by omega, ?_⟩
      rw [show v - i = (v - (i + 1)) + 1 from by omega]
      simpa using h2

theorem find_none : ∀ (l : List Gt) (i : Nat) (x y : Int), find l i x y = none → ∀ j : Nat, l[j]? ≠ some (x, y, false)
  | [], i, x, y, h, j => by simp
  | g :: l, i, x, y, h, j => by
    simp only [find] at h
    split at h
    · cases h
    · rename_i hg
      cases j with
      | zero => simpa using hg
      | succ j => simpa using find_none l (i + 1) x y h j

theorem ins_append : ∀ (l m : List Gt) (i : Nat), ins i (l ++ m) = ins i l ++ ins (i + l.length) m
  | [], m, i => by simp [ins]
  | g :: l, m, i => by
    simp only [List.cons_append, ins, ins_append l m (i + 1), List.length_cons]
    rw [show i + 1 + l.length = i + (l.length + 1) from by omega]
    split <;> simp

theorem idx_append {α : Type} [DecidableEq α] : ∀ (l m : List (α × Value)) (k : α) (i : Nat), idx (l ++ m) k i = (idx l k i).or (idx m k (i + l.length))
  | [], m, k, i => by simp [idx]
  | (k', v) :: l, m, k, i => by
    simp only [List.cons_append, idx]
    split
    · rfl
    · rw [idx_append l m k (i + 1), List.length_cons, show i + 1 + l.length = i + (l.length + 1) from by omega]

theorem idx_none_iff {α : Type} [DecidableEq α] : ∀ (l : List (α × Value)) (k : α) (i : Nat), idx l k i = none ↔ k ∉ l.map (·.1)
  | [], k, i => by simp [idx]
  | (k', v) :: l, k, i => by
    simp only [idx, List.map_cons, List.mem_cons, not_or]
    split
    · rename_i h; subst h; simp
    · rename_i h; rw [idx_none_iff l k (i + 1)]; simp [h]

theorem idx_shift {α : Type} [DecidableEq α] : ∀ (l : List (α × Value)) (k : α) (i j : Nat), (idx l k i).map (·.2) = (idx l k j).map (·.2)
  | [], k, i, j => by simp [idx]
  | (k', v) :: l, k, i, j => by
    simp only [idx]
    split
    · rfl
    · exact idx_shift l k (i + 1) (j + 1)

theorem idx_drop {α : Type} [DecidableEq α] : ∀ (l : List (α × Value)) (k q : α), (l.map (·.1)).Nodup → (idx (dropKey l k) q 0).map (·.2) = if q = k then none else (idx l q 0).map (·.2)
  | [], k, q, h => by simp [dropKey, idx]
  | (k', v) :: l, k, q, h => by
    simp only [List.map_cons, List.nodup_cons] at h
    by_cases e : k' = k
    · subst e
      have ed : dropKey ((k', v) :: l) k' = l := by simp [dropKey]
      rw [ed]
      by_cases hq : q = k'
      · subst hq
        rw [if_pos rfl, (idx_none_iff l q 0).2 h.1]; rfl
      · rw [if_neg hq]
        simp only [idx, if_neg hq]
        exact idx_shift l q 0 1
    · have ed : dropKey ((k', v) :: l) k = (k', v) :: dropKey l k := by simp [dropKey, e]
      rw [ed]
      simp only [idx]
      have ih := idx_drop l k q h.2
      by_cases hq : q = k'
      · subst hq
        simp [e]
      · simp only [if_neg hq]
        rw [idx_shift _ q (0 + 1) 0, ih]
        split
        · rfl
        · exact (idx_shift l q (0 + 1) 0).symm

theorem dropKey_nodup {α : Type} [DecidableEq α] (l : List (α × Value)) (k : α) (h : (l.map (·.1)).Nodup) : ((dropKey l k).map (·.1)).Nodup := by
  have : (dropKey l k).Sublist l := List.eraseP_sublist
  exact h.sublist (this.map _)

theorem WF.new : WF [(0, 0, false)] := by
  refine ⟨rfl, fun v a b h => ?_, fun v a b hv h => ?_, fun v u a b hv hu h => ?_, by simp⟩
  · cases v <;> simp at h
  · cases v <;> simp at h hv
  · cases v <;> simp at h hv

theorem KN.new : KN [(0, 0, false)] [] := ⟨by simp, fun x y => by simp [idx, find]⟩

theorem get_snoc {S : St} {g q : Gt} {v : Nat} (h : (S ++ [g])[v]? = some q) : S[v]? = some q ∨ (v = S.length ∧ q = g) := by
  rw [List.getElem?_append] at h
  split at h
  · exact .inl h
  · rename_i hv
    right
    cases hk : v - S.length with
    | zero => rw [hk] at h; simp at h; exact ⟨by omega, h.symm⟩
    | succ k => rw [hk] at h; simp at h

theorem WF.input {S : St} (h : WF S) (hl : S.length < 131072) : WF (S ++ [(0, 0, true)]) := by
  refine ⟨?_, fun v a b hv => ?_, fun v a b h0 hv => ?_, fun v u a b h0 h1 hv hu => ?_, by simp; omega⟩
  · have := h.hd; cases S with
    | nil => simp at this
    | cons => simpa using this
  · rcases get_snoc hv with e | ⟨_, e⟩
    · exact h.inp v a b e
    · simp at e; exact e
  · rcases get_snoc hv with e | ⟨_, e⟩
    · exact h.gate v a b h0 e
    · simp at e
  · rcases get_snoc hv with e | ⟨_, e⟩
    · rcases get_snoc hu with f | ⟨_, f⟩
      · exact h.one v u a b h0 h1 e f
      · simp at f
    · simp at e

theorem WF.gate' {S : St} (h : WF S) (hl : S.length < 131072) {x y : Int} (hx : 2 ≤ x) (hxy : x < y) (hy : y < 2 * S.length) (hn : find (S.drop 1) 1 x y = none) : WF (S ++ [(x, y, false)]) := by
  have hno : ∀ v, 0 < v → S[v]? ≠ some (x, y, false) := fun v hv he => by
    refine find_none _ _ _ _ hn (v - 1) ?_
    rw [List.getElem?_drop, show 1 + (v - 1) = v from by omega]; exact he
  refine ⟨?_, fun v a b hv => ?_, fun v a b h0 hv => ?_, fun v u a b h0 h1 hv hu => ?_, by simp; omega⟩
  · have := h.hd; cases S with
    | nil => simp at this
    | cons => simpa using this
  · rcases get_snoc hv with e | ⟨_, e⟩
    · exact h.inp v a b e
    · simp at e
  · rcases get_snoc hv with e | ⟨e1, e⟩
    · exact h.gate v a b h0 e
    · simp at e; obtain ⟨rfl, rfl⟩ := e; subst e1; exact ⟨hx, hxy, hy⟩
  · rcases get_snoc hv with e | ⟨e1, e⟩
    · rcases get_snoc hu with f | ⟨f1, f⟩
      · exact h.one v u a b h0 h1 e f
      · simp at f; obtain ⟨rfl, rfl⟩ := f; exact absurd e (hno v h0)
    · rcases get_snoc hu with f | ⟨f1, f⟩
      · simp at e; obtain ⟨rfl, rfl⟩ := e; exact absurd f (hno u h1)
      · omega

theorem drop_snoc {S : St} (h : 0 < S.length) (g : Gt) : (S ++ [g]).drop 1 = S.drop 1 ++ [g] := by
  rw [List.drop_append_of_le_length (by omega)]

theorem KN.input {S : St} {kn : List ((Int × Int) × Value)} (h : KN S kn) (hs : 0 < S.length) : KN (S ++ [(0, 0, true)]) kn := by
  refine ⟨h.nd, fun x y => ?_⟩
  rw [h.look, drop_snoc hs, find_append]
  simp [find]

theorem KN.gate {S : St} {kn : List ((Int × Int) × Value)} (h : KN S kn) (hs : 0 < S.length) {x y : Int} (hn : find (S.drop 1) 1 x y = none) :
    idx kn (x, y) 0 = none ∧ KN (S ++ [(x, y, false)]) (kn ++ [((x, y), .int .i64 (2 * (S.length : Int)))]) := by
  have h0 : idx kn (x, y) 0 = none := by
    have := h.look x y
    rw [hn] at this
    simpa using this
  refine ⟨h0, ?_, fun u w => ?_⟩
  · rw [List.map_append, List.nodup_append]
    refine ⟨h.nd, by simp, fun a ha b hb e => ?_⟩
    simp at hb
    subst hb; subst e
    exact (idx_none_iff kn _ 0).1 h0 ha
  · rw [idx_append, drop_snoc hs, find_append]
    have hl := h.look u w
    cases hf : find (S.drop 1) 1 u w with
    | some v =>
      rw [hf] at hl
      cases hi : idx kn (u, w) 0 with
      | none => rw [hi] at hl; simp at hl
      | some p => rw [hi] at hl; simpa using hl
    | none =>
      rw [hf] at hl
      have hi : idx kn (u, w) 0 = none := by simpa using hl
      rw [hi]
      simp only [Option.none_or, idx, find]
      have e1 : (1 + (S.drop 1).length) = S.length := by simp; omega
      rw [e1]
      by_cases e : (u, w) = (x, y)
      · simp at e; obtain ⟨rfl, rfl⟩ := e; simp
      · have e2 : ¬ ((x, y, false) : Gt) = (u, w, false) := fun e3 => e (by simp at e3 ⊢; exact ⟨e3.1.symm, e3.2.symm⟩)
        rw [if_neg e, if_neg e2]; rfl

/-- what 'undo' leaves -/
def undoK (kn : List ((Int × Int) × Value)) (R : List Gt) : List ((Int × Int) × Value) := R.foldl (fun kn g => dropKey kn (g.1, g.2.1)) kn

theorem undoK_look : ∀ (R : List Gt) (kn : List ((Int × Int) × Value)) (q : Int × Int), (kn.map (·.1)).Nodup →
    ((undoK kn R).map (·.1)).Nodup ∧ (idx (undoK kn R) q 0).map (·.2) = if q ∈ R.map (fun g => (g.1, g.2.1)) then none else (idx kn q 0).map (·.2)
  | [], kn, q, h => ⟨h, by simp [undoK]⟩
  | g :: R, kn, q, h => by
    obtain ⟨h1, h2⟩ := undoK_look R (dropKey kn (g.1, g.2.1)) q (dropKey_nodup kn _ h)
    refine ⟨h1, ?_⟩
    show (idx (undoK (dropKey kn (g.1, g.2.1)) R) q 0).map (·.2) = _
    rw [h2, idx_drop kn _ q h]
    simp only [List.map_cons, List.mem_cons]
    by_cases e1 : q = (g.1, g.2.1)
    · simp [e1]
    · by_cases e2 : q ∈ R.map (fun g => (g.1, g.2.1)) <;> simp [e1, e2]

theorem WF.cut {S : St} (h : WF S) {m : Nat} (hm : 0 < m) : WF (S.take m) := by
  have hsub : ∀ (v : Nat) q, (S.take m)[v]? = some q → S[v]? = some q := fun v q hv => by
    rw [List.getElem?_take] at hv
    split at hv
    · exact hv
    · cases hv
  refine ⟨?_, fun v a b hv => h.inp v a b (hsub v _ hv), fun v a b h0 hv => h.gate v a b h0 (hsub v _ hv), fun v u a b h0 h1 hv hu => h.one v u a b h0 h1 (hsub v _ hv) (hsub u _ hu), ?_⟩
  · have := h.hd; cases S with
    | nil => simp at this
    | cons => cases m with
      | zero => omega
      | succ m => simpa using this
  · have := h.lim; rw [List.length_take]; omega

theorem KN.cut {S : St} {kn : List ((Int × Int) × Value)} (h : KN S kn) (hw : WF S) {m : Nat} (hm : 0 < m) : KN (S.take m) (undoK kn (S.drop m)) := by
  refine ⟨(undoK_look _ kn (0, 0) h.nd).1, fun x y => ?_⟩
  rw [(undoK_look _ kn (x, y) h.nd).2, h.look]
  have hsplit : S.drop 1 = (S.take m).drop 1 ++ S.drop m := by
    rw [List.drop_take]
    have := List.take_append_drop (m - 1) (S.drop 1)
    rw [List.drop_drop, show 1 + (m - 1) = m from by omega] at this
    exact this.symm
  rw [hsplit, find_append]
  cases hf : find ((S.take m).drop 1) 1 x y with
  | some v =>
    obtain ⟨h1, h2⟩ := find_some _ _ _ _ _ hf
    rw [List.getElem?_drop, show 1 + (v - 1) = v from by omega, List.getElem?_take] at h2
    split at h2
    · rename_i hvm
      have hne : ¬ (x, y) ∈ (S.drop m).map (fun g => (g.1, g.2.1)) := fun hmem => by
        simp only [List.mem_map] at hmem
        obtain ⟨⟨a, b, i⟩, hin, hab⟩ := hmem
        simp at hab
        obtain ⟨rfl, rfl⟩ := hab
        obtain ⟨j, hj⟩ := List.getElem?_of_mem hin
        rw [List.getElem?_drop] at hj
        cases i with
        | false => have := hw.one v (m + j) a b (by omega) (by omega) h2 hj; omega
        | true => have h3 := hw.inp _ _ _ hj; have h4 := hw.gate v a b (by omega) h2; omega
      rw [if_neg hne]; simp
    · cases h2
  | none =>
    simp only [Option.none_or]
    split
    · rfl
    · rename_i hne
      cases hg : find (S.drop m) (1 + ((S.take m).drop 1).length) x y with
      | none => rfl
      | some v =>
        obtain ⟨h1, h2⟩ := find_some _ _ _ _ _ hg
        exact absurd (List.mem_map.2 ⟨(x, y, false), List.mem_of_getElem? h2, rfl⟩) hne

theorem nt_has {S : St} {a : Int} (h : has S a) : has S (nt a) := by
  unfold has nt at *
  split <;> omega

theorem and0_spec {S : St} {a b : Int} (ha : has S a) (hb : has S b) :
    ((and0 S a b).2.1 = 0 ∧ ((and0 S a b).2.2 = S ∨ ∃ x y, (and0 S a b).2.2 = S ++ [(x, y, false)]) ∧ has (and0 S a b).2.2 (and0 S a b).1) ∨ ((and0 S a b).2.1 = 3 ∧ (and0 S a b).2.2 = S ∧ (and0 S a b).1 = 0) := by
  have hp : 0 ≤ a ∧ 0 ≤ b ∧ a < 2 * S.length ∧ b < 2 * S.length := ⟨ha.1, hb.1, ha.2, hb.2⟩
  unfold and0
  split
  · exact .inl ⟨rfl, .inl rfl, by unfold has; simp; omega⟩
  · split
    · exact .inl ⟨rfl, .inl rfl, by unfold has; simp; omega⟩
    · split
      · rename_i v hf
        obtain ⟨h1, h2⟩ := find_some _ _ _ _ _ hf
        have := (List.getElem?_eq_some_iff.1 h2).1
        rw [List.length_drop] at this
        exact .inl ⟨rfl, .inl rfl, by unfold has; simp; omega⟩
      · unfold add
        split
        · exact .inr ⟨rfl, rfl, rfl⟩
        · exact .inl ⟨rfl, .inr ⟨_, _, rfl⟩, by unfold has; simp; omega⟩

theorem has_snoc {S : St} {g : Gt} {a : Int} (h : has S a) : has (S ++ [g]) a := by unfold has at *; simp; omega

/-- 'T' is 'S' with some gates more -/
def Ext (S T : St) : Prop := ∃ R : List Gt, T = S ++ R ∧ ∀ g ∈ R, g.2.2 = false
theorem Ext.refl (S : St) : Ext S S := ⟨[], by simp, by simp⟩
theorem Ext.and0 {S T : St} {a b : Int} (h : Ext S T) (ha : has T a) (hb : has T b) : Ext S (Aig.and0 T a b).2.2 := by
  obtain ⟨R, rfl, hR⟩ := h
  rcases and0_spec ha hb with ⟨_, h1 | ⟨x, y, h1⟩, _⟩ | ⟨_, h1, _⟩
  · exact ⟨R, h1, hR⟩
  · refine ⟨R ++ [(x, y, false)], by rw [h1, List.append_assoc], fun g hg => ?_⟩
    rcases List.mem_append.1 hg with h | h
    · exact hR g h
    · rw [List.mem_singleton.1 h]
  · exact ⟨R, h1, hR⟩
theorem Ext.has {S T : St} {a : Int} (h : Ext S T) (ha : Aig.has S a) : Aig.has T a := by
  obtain ⟨R, rfl, _⟩ := h
  unfold Aig.has at *; simp; omega
theorem ins_gates : ∀ (R : List Gt) (i : Nat), (∀ g ∈ R, g.2.2 = false) → ins i R = []
  | [], _, _ => rfl
  | g :: R, i, h => by
    have h1 : g.2.2 = false := h g (by simp)
    simp only [ins, h1]
    exact ins_gates R (i + 1) fun g hg => h g (by simp [hg])
theorem Ext.cut {S T : St} (h : Ext S T) : T.take S.length = S ∧ ins 0 T = ins 0 S ∧ S.length ≤ T.length := by
  obtain ⟨R, rfl, hR⟩ := h
  refine ⟨by simp, ?_, by simp⟩
  rw [ins_append, ins_gates R _ hR]; simp
end Go.Z.Aig
