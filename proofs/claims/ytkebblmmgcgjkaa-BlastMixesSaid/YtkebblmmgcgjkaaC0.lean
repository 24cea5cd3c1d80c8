/- Chapter 5, plain: values, operators, cells. No program in sight. Conditions: none. -/
import Derived.Test.YtkebblmmgcgjkaaZi
namespace Go.Z.Val
set_option maxRecDepth 8000
set_option linter.unusedVariables false
set_option linter.unusedSimpArgs false
set_option linter.unusedSectionVars false
open Go Go.Z

theorem mapI (c : List Int) {k : Nat} (hk : k < c.length) : (c.map encI)[k]? = some (encI c[k]) := by simp [List.getElem?_eq_getElem hk]
theorem flat2 {cs xs : List Value} {o i : Nat} {v : Value} (h : ∀ j v, xs[j]? = some v → cs[o + j]? = some v) (hv : xs[i]? = some v) {j : Nat} (hj : j = o + i * 1) : cs[j]? = some v := by
  subst hj; rw [Nat.mul_one]; exact h i v hv
theorem own_at {cur xs : List Value} {N k i : Nat} {v : Value} (h : cur.take (N * 1) = xs) (hi : i = 0 + k * 1) (hv : xs[k]? = some v) : cur[i]? = some v := by
  subst hi
  rw [← h, List.getElem?_take] at hv
  split at hv
  · simpa using hv
  · cases hv
theorem all_take {α : Type} {p : α → Prop} {l : List α} {k : Nat} (hk : k < l.length) (h : ∀ x ∈ l.take k, p x) (h2 : p l[k]) : ∀ x ∈ l.take (k + 1), p x := by
  rw [List.take_add_one, List.getElem?_eq_getElem hk, Option.toList_some]
  intro x hx
  rcases List.mem_append.1 hx with hx | hx
  · exact h x hx
  · rw [List.mem_singleton.1 hx]; exact h2

/-- 16-bit wrapping -/
def wr (n : Int) : Int := (n + 32768) % 65536 - 32768
theorem wr_eq (n : Int) : IntKind.i16.wrap n = wr n := by
  unfold wr
  simp only [IntKind.wrap, IntKind.bits, IntKind.signed]
  simp
  split <;> omega
theorem wr_in (n : Int) : -32768 ≤ wr n ∧ wr n ≤ 32767 := by unfold wr; omega
theorem wr_id {n : Int} (h : -32768 ≤ n ∧ n ≤ 32767) : wr n = n := by unfold wr; omega
/-- the document's way -/
theorem wr_doc (n : Int) : wr n = if 32767 < n.tmod 65536 then n.tmod 65536 - 65536 else if n.tmod 65536 < -32768 then n.tmod 65536 + 65536 else n.tmod 65536 := by
  unfold wr
  have h : n.tmod 65536 = if 0 ≤ n then n % 65536 else -((-n) % 65536) := by
    split
    · rw [Int.tmod_eq_emod_of_nonneg (by assumption)]
    · have : n = -(-n) := by omega
      conv => lhs; rw [this, Int.neg_tmod, Int.tmod_eq_emod_of_nonneg (by omega)]
  rw [h]
  split <;> split <;> (try split) <;> omega

def groupF (op : Int) : Int × Nat :=
  if op = 1 then (1, 1) else if op = 3 ∨ op = 4 ∨ op = 5 then (1, 2) else if op = 2 then (2, 1) else if 6 ≤ op ∧ op ≤ 10 then (2, 2) else if op = 11 ∨ op = 12 then (3, 2) else if 13 ≤ op ∧ op ≤ 16 then (4, 2) else (0, 0)
def argB (k v : Int) : Bool := if k = 1 then decide (v = 0 ∨ v = 1) else if k = 2 ∨ k = 4 then decide (-32768 ≤ v ∧ v ≤ 32767) else true
def truth (b : Bool) : Int := if b then 1 else 0
def computeF (op a b : Int) : Int :=
  if op = 2 then wr (-(wr a)) else if op = 6 then wr (wr a + wr b) else if op = 7 then wr (wr a - wr b) else if op = 8 then wr (wr a * wr b) else if op = 9 then (if wr b = 0 then 0 else wr ((wr a).tdiv (wr b))) else if wr b = 0 then wr a else (wr a).tmod (wr b)
def holdsF (op a b : Int) : Bool :=
  if op = 1 then decide (a = 0) else if op = 3 then decide (a = 1) && decide (b = 1) else if op = 4 then decide (a = 1) || decide (b = 1) else if op = 11 then decide (a = b) else if op = 5 ∨ op = 12 then !decide (a = b) else if op = 13 then decide (a < b) else if op = 14 then decide (a ≤ b) else if op = 15 then decide (b < a) else decide (b ≤ a)
def opF (op a b : Int) : Int := if (groupF op).1 = 2 then computeF op a b else truth (holdsF op a b)
def applyF (op : Int) (args : List Int) : Int × Int :=
  if (groupF op).1 = 0 then (0, 2) else if args.length ≠ (groupF op).2 then (0, 9) else if args.all (argB (groupF op).1) then (opF op (args.getD 0 0) (args.getD ((groupF op).2 - 1) 0), 0) else (0, 14)

abbrev Ce := Int × Int
def encC (c : Ce) : List Value := [.int .i64 c.1, .int .i64 c.2]
def aggC (c : Ce) : Value := .agg #[.int .i64 c.1, .int .i64 c.2]
theorem encC_len (c : Ce) : (encC c).length = 2 := rfl
def thereB (c : Ce) : Bool := decide (c.1 = 1) || decide (c.1 = 2)
def cleanF (c : Ce) : Ce := if c.1 = 1 then c else if c.1 = 2 then (2, 0) else (0, 0)
def liftF (op : Int) (l : List Ce) : Ce :=
  if l.all thereB then (if (l.any fun c => decide (c.1 = 2)) || decide ((applyF op (l.map (·.2))).2 ≠ 0) then (2, 0) else (1, (applyF op (l.map (·.2))).1)) else (0, 0)
def C64 (c : Ce) : Prop := I64 c.1 ∧ I64 c.2
theorem groupF_cases (op : Int) : ((groupF op).1 = 0 ∧ (groupF op).2 = 0) ∨ ((groupF op).1 ≠ 0 ∧ ((groupF op).2 = 1 ∨ (groupF op).2 = 2)) := by
  unfold groupF
  repeat' split
  all_goals simp
end Go.Z.Val
