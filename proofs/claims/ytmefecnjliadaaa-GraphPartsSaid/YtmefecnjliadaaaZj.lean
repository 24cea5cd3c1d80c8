/- Drawn regions: guards that were not carried out themselves; lists of assertions. Conditions: none. -/
import Derived.Test.YtmefecnjliadaaaZi
namespace Go.Z
set_option maxRecDepth 8000
set_option linter.unusedVariables false
set_option linter.unusedSimpArgs false
set_option linter.unusedSectionVars false
open Go
section
variable {P : Program} {M : Mx} {n : Nat} {L : Fr} {H H' Hs : List Assn} {T : List Nat} {Q : Exit → Act → World → Prop} {bf : Array Nat} {F : List Nat} {rest : Tree} {ops : Array Oper} {i : Nat} {ty : TypeId} {ps : String} {af : Array Edge}
theorem yielded_un {a : Act} {j dj : Nat} (hd : (ops[j]?).bind (·.dst) = some dj) (ha : Holds n L a) (hl : L.lookup dj = some undef) : yielded ops a.tmps j = none := by
  have h := ha.look _ _ hl
  unfold yielded
  rw [hd]
  cases e : a.tmps[dj]? with
  | none => simp [e]
  | some u =>
    rw [Array.getD_eq_getD_getElem?, e] at h
    simp at h; subst h; simp [e, undef]
theorem m_nou0 {d j dj : Nat} {b : Bool} {op : Op} (ho : ops[i]? = some ⟨some d, op, ty, ps, af, some (j, b)⟩) (hd : (ops[j]?).bind (·.dst) = some dj) (hl : L.lookup dj = some undef) (hn : Nat.blt d n = true) (k : G M n ((d, undef) :: L) H (TM P ops bf F M Hs rest T Q)) :
    G M n L H (TM P ops bf F M Hs (.fl i 0 rest) T Q) := by
  unfold G TM at *
  intro a w ha hm
  exact ⟨_, undef, ho, .inr ⟨by simp [Region.wanted, yielded_un hd ha hl], rfl⟩, k _ _ (ha.put (by simpa using hn) _) hm⟩
theorem m_nou {d j dj : Nat} {b : Bool} {op : Op} (ho : ops[i]? = some ⟨some d, op, ty, ps, af, some (j, b)⟩) (hd : (ops[j]?).bind (·.dst) = some dj) (hl : L.lookup dj = some undef) (hn : Nat.blt d n = true) (k : G M n ((d, undef) :: L) H (TM P ops bf F M Hs rest T Q)) :
    G M n L H (TM P ops bf F M Hs (.fl i 1 rest) T Q) := by
  unfold G TM at *
  intro a w ha hm
  exact ⟨_, undef, ho, .inr ⟨by simp [Region.wanted, yielded_un hd ha hl], rfl⟩, k _ _ (ha.put (by simpa using hn) _) hm⟩
theorem m_noue {d j dj : Nat} {b : Bool} {op : Op} (ho : ops[i]? = some ⟨some d, op, ty, ps, af, some (j, b)⟩) (hd : (ops[j]?).bind (·.dst) = some dj) (hl : L.lookup dj = some undef) (hn : Nat.blt d n = true) (hc : Kept bf F T i H Hs) (k : G M n ((d, undef) :: L) H (TM P ops bf F M Hs rest (upd bf F T i) Q)) :
    G M n L H (TM P ops bf F M Hs (.ef i rest) T Q) := by
  unfold G TM at *
  intro a w ha hm
  have hw : Region.wanted ⟨some d, op, ty, ps, af, some (j, b)⟩ (yielded ops a.tmps) = false := by simp [Region.wanted, yielded_un hd ha hl]
  simp only [wpMix, wpOp, ho]
  rw [if_neg (by rw [hw]; simp)]
  exact ⟨hc.ms hm, k _ _ (ha.put (by simpa using hn) _) hm⟩
end
section
variable {P : Program} {M : Mx} {n : Nat} {L : Fr} {H H' : List Assn} {T : Act → World → Prop}
theorem g_alpush {l : List Assn} {X : Assn} {H1 H2 : List Assn} (t1 : Take H (Al l) H1) (t2 : Take H1 X H2) (k : G M n L (Al (l ++ [X]) :: H2) T) : G M n L H T :=
  g_weak2 t1 t2 (fun h s => by
    obtain ⟨k1, k2, ha, s2, d, rfl⟩ := s
    exact sat_append ha s2 d) k
theorem ros_at {ρ : Nat → Obj → Prop} : ∀ {l : List Assn}, Ros ρ l → ∀ j (hj : j < l.length), Ro ρ l[j]
  | [], _, j, hj => by simp at hj
  | X :: l, h, 0, _ => h.1
  | X :: l, h, j + 1, hj => ros_at (l := l) h.2 j (by simpa using hj)
end
end Go.Z
namespace Go.Z
set_option maxRecDepth 8000
set_option linter.unusedVariables false
set_option linter.unusedSimpArgs false
set_option linter.unusedSectionVars false
open Go
variable {P : Program} {n : Nat} {L : Fr} {H : List Assn} {M : Mx}
variable {dd : Option Tmp} {ty t : TypeId} {ps : String} {af : Array Edge} {gd : Option (Nat × Bool)} {x y : Operand} {b c : Bool} {tz : TypeId} {yt : Ty}
theorem p_neqbF [ht : TyC P t yt] (hd : yt.d = .bool) (h1 : ev L x = some (.bool b)) (h2 : ev L y = some (.bool c)) (h : b = c) : Pur P M n L H ⟨dd, .binOp .neq t x y tz, ty, ps, af, gd⟩ (.bool false) := by
  have := p_neqb (P := P) (M := M) (n := n) (H := H) (dd := dd) (t := t) (tz := tz) (ty := ty) (ps := ps) (af := af) (gd := gd) hd h1 h2
  subst h; rwa [show (b == b) = true by simp] at this
theorem p_eqlbT [ht : TyC P t yt] (hd : yt.d = .bool) (h1 : ev L x = some (.bool b)) (h2 : ev L y = some (.bool c)) (h : b = c) : Pur P M n L H ⟨dd, .binOp .eql t x y tz, ty, ps, af, gd⟩ (.bool true) := by
  have := p_eqlb (P := P) (M := M) (n := n) (H := H) (dd := dd) (t := t) (tz := tz) (ty := ty) (ps := ps) (af := af) (gd := gd) hd h1 h2
  subst h; rwa [show (b == b) = true by simp] at this
end Go.Z
