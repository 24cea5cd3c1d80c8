/- Chapter 40: intervals: the document's interval of an operator. Conditions: none. -/
import Derived.Test.YtlcipnligbjclabF5
namespace Go.Z.Val
set_option linter.unusedVariables false
set_option linter.unusedSimpArgs false
set_option linter.unusedSectionVars false
open Go Go.Z
/-- all operands are single numbers -/
def sing (op : Int) (l : List Sp) : Bool := l.all fun s => decide ((cutS op s).1 = (cutS op s).2)
theorem sing_take {op : Int} {l : List Sp} {i : Nat} (h : i < l.length) : sing op (l.take (i + 1)) = (sing op (l.take i) && decide ((cutS op l[i]).1 = (cutS op l[i]).2)) := by
  unfold sing
  rw [List.take_add_one, List.getElem?_eq_getElem h, Option.toList_some, List.all_append]; simp
theorem sing_ends {op : Int} {l : List Sp} (h12 : l.length = 1 ∨ l.length = 2) (h0 : 0 < l.length) : sing op l = (decide ((cutS op l[0]).1 = (cutS op l[0]).2) && decide ((cutS op (l[l.length - 1]'(by omega))).1 = (cutS op (l[l.length - 1]'(by omega))).2)) := by
  match l, h12 with
  | [x], _ => simp [sing]
  | [x, y], _ => simp [sing]
theorem fin_dsingle {op : Int} {args : List Sp} {a1 a2 c1 c2 u1 u2 : Int} (hg : (groupF op).1 ≠ 0) (hn : args.length = (groupF op).2) (hne : ∀ s ∈ args, emptyS (cutS op s) = false) (hfull : applyS op args = (resS op (a1, a2) (c1, c2), 0)) (h0 : 0 < args.length) (ea : cutS op args[0] = (a1, a2)) (ec : cutS op (args[args.length - 1]'(by omega)) = (c1, c2)) (h12 : args.length = 1 ∨ args.length = 2)
    (hs : sing op args = true) (hu : ofS (applyF op ((args.map (cutS op)).map (·.1))).1 (applyF op ((args.map (cutS op)).map (·.1))).1 = (u1, u2)) : applyS op args = ((u1, u2), 0) := by
  have hall : ∀ s ∈ args.map (cutS op), argB (groupF op).1 s.1 = true := by
    intro s hs2
    obtain ⟨x, hx, rfl⟩ := List.mem_map.1 hs2
    unfold sing at hs
    rw [List.all_eq_true] at hs
    exact single_arg hg (hne x hx) (of_decide_eq_true (hs x hx))
  rw [apply_lows hg (by simpa using hn) hall, getD_map (cutS op) args 0 (0, 0) (0, 0) h0, ← hn, getD_map (cutS op) args _ (0, 0) (0, 0) (by omega)] at hu
  simp only [List.getD_eq_getElem?_getD] at hu
  rw [List.getElem?_eq_getElem h0, List.getElem?_eq_getElem (by omega : args.length - 1 < args.length)] at hu
  simp only [Option.getD_some, ea, ec] at hu
  rw [sing_ends h12 h0, ea, ec, Bool.and_eq_true, decide_eq_true_iff, decide_eq_true_iff] at hs
  rw [hfull]
  unfold resS
  rw [if_pos hs, ← hu, ofS_of (Int.le_refl _)]
theorem fin_dcomp {op : Int} {args : List Sp} {a1 a2 c1 c2 u1 u2 : Int} (hfull : applyS op args = (resS op (a1, a2) (c1, c2), 0)) (h0 : 0 < args.length) (ea : cutS op args[0] = (a1, a2)) (ec : cutS op (args[args.length - 1]'(by omega)) = (c1, c2)) (h12 : args.length = 1 ∨ args.length = 2)
    (hs : ¬ sing op args = true) (hu : computeS op (a1, a2) (c1, c2) = (u1, u2)) : applyS op args = ((u1, u2), 0) := by
  refine fin_comp hfull (fun h => hs ?_) hu
  rw [sing_ends h12 h0, ea, ec, Bool.and_eq_true, decide_eq_true_iff, decide_eq_true_iff]
  exact h
theorem group_zero {op : Int} : (groupF op).1 = 0 ↔ (groupF op).2 = 0 := by
  have := groupF_cases op
  constructor <;> intro h <;> rcases this with h2 | h2 <;> first | exact h2.1 | exact h2.2 | (exact absurd h h2.1) | omega
end Go.Z.Val
namespace Go.Proofs.Ytlcipnligbjclab
open Go Go.Z Go.Z.Val

end Go.Proofs.Ytlcipnligbjclab
