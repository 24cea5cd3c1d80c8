/- Own layer: the rules with the usual proofs of their side conditions (for texts that are put together). Conditions: none; generic in the program. -/
import Derived.Test.YtcnfcoojmbjdlaaGreatDoorZh
namespace Go.Z
set_option maxRecDepth 8000
set_option linter.unusedVariables false
set_option linter.unusedSimpArgs false
set_option linter.unusedSectionVars false
open Go
variable {P : Program} {n : Nat} {L : Fr} {H H' : List Assn} {M : Mx} {Q : Exit → Act → World → Prop} {ops : Array Oper} {rest : List Oper} {x y z : Operand} {v : Value} {dd : Option Tmp} {ty t tz : TypeId} {ps : String} {af : Array Edge} {gd : Option (Nat × Bool)}
theorem p_loadA {b o : Nat} {l : List Value} {T : TypeId} {fz : Nat × Nat} {yt : Ty} [ht : TyC P t yt] (hd : aggD yt.d = false := by rfl) (h1 : ev L x = some (.pointer (some ⟨b, o, none⟩)) := by rfl)
    (hh : Has M H b (.cells l.toArray T fz) := by first | (apply Has.own; (repeat' (first | exact Take.here | apply Take.there)); done) | exact Has.ro (by assumption)) (hc : l[o]? = some v := by first | rfl | assumption) :
    Pur P M n L H ⟨dd, .load t x, ty, ps, af, gd⟩ v := p_load hd h1 hh hc
theorem g_mv {d : Nat} (k : G M n ((d, v) :: L) H (TL P ops rest Q)) (h1 : ev L x = some v := by rfl) (hn : Nat.blt d n = true := by rfl) : G M n L H (TL P ops (⟨some d, .move x, ty, ps, af, none⟩ :: rest) Q) := g_pure (p_move h1) hn k
theorem g_as {d : Nat} (k : G M n ((d, v) :: L) H (TL P ops rest Q)) (h1 : ev L x = some v := by rfl) (hn : Nat.blt d n = true := by rfl) : G M n L H (TL P ops (⟨some d, .assign x, ty, ps, af, none⟩ :: rest) Q) := g_pure (p_assign h1) hn k
theorem g_fa {d s i off b o : Nat} [hf : FieldC P s i off] (k : G M n ((d, .pointer (some ⟨b, o + off, none⟩)) :: L) H (TL P ops rest Q)) (h1 : ev L x = some (.pointer (some ⟨b, o, none⟩)) := by rfl) (hn : Nat.blt d n = true := by rfl) : G M n L H (TL P ops (⟨some d, .fieldAddr s x i, ty, ps, af, none⟩ :: rest) Q) := g_pure (p_fieldAddr h1) hn k
theorem g_ld {d b o : Nat} {l : List Value} {T : TypeId} {fz : Nat × Nat} {yt : Ty} [ht : TyC P t yt] (k : G M n ((d, v) :: L) H (TL P ops rest Q)) (hd : aggD yt.d = false := by rfl) (h1 : ev L x = some (.pointer (some ⟨b, o, none⟩)) := by rfl)
    (hh : Has M H b (.cells l.toArray T fz) := by first | (apply Has.own; (repeat' (first | exact Take.here | apply Take.there)); done) | exact Has.ro (by assumption)) (hc : l[o]? = some v := by first | rfl | assumption) (hn : Nat.blt d n = true := by rfl) :
    G M n L H (TL P ops (⟨some d, .load t x, ty, ps, af, none⟩ :: rest) Q) := g_pure (p_load hd h1 hh hc) hn k
theorem g_pkt {d : Nat} (k : G M n ((d, v) :: L) H (TL P ops rest Q)) (hc : ev L x = some (.bool true) := by rfl) (h1 : ev L y = some v := by rfl) (hn : Nat.blt d n = true := by rfl) : G M n L H (TL P ops (⟨some d, .pick x y z, ty, ps, af, none⟩ :: rest) Q) := g_pure (p_pickt hc h1) hn k
theorem g_pkf {d : Nat} (k : G M n ((d, v) :: L) H (TL P ops rest Q)) (hc : ev L x = some (.bool false) := by rfl) (h1 : ev L z = some v := by rfl) (hn : Nat.blt d n = true := by rfl) : G M n L H (TL P ops (⟨some d, .pick x y z, ty, ps, af, none⟩ :: rest) Q) := g_pure (p_pickf hc h1) hn k
theorem g_noA {op : Op} {j dj d : Nat} {b c : Bool} (k : G M n ((d, undef) :: L) H (TL P ops rest Q)) (hd : (ops[j]?).bind (·.dst) = some dj := by rfl) (hl : L.lookup dj = some (.bool c) := by rfl) (hb : (c == b) = false := by rfl) (hn : Nat.blt d n = true := by rfl) :
    G M n L H (TL P ops (⟨some d, op, ty, ps, af, some (j, b)⟩ :: rest) Q) := g_no hd hl hb hn k
theorem g_yesA {op : Op} {j dj : Nat} {b : Bool} (k : G M n L H (TL P ops (⟨dd, op, ty, ps, af, none⟩ :: rest) Q)) (hd : (ops[j]?).bind (·.dst) = some dj := by rfl) (hl : L.lookup dj = some (.bool b) := by rfl) : G M n L H (TL P ops (⟨dd, op, ty, ps, af, some (j, b)⟩ :: rest) Q) := g_yes hd hl k
theorem g_nextA {α : Type} {st : α → Fr} {hp : α → List Assn} {inv : α → Prop} {μ : α → Nat} {m : Nat} (y : α) {Hr : List Assn} (hi : inv y) (hμ : μ y < m) (hL : SubFr L (st y) := by (repeat (first | exact trivial | refine ⟨by rfl, ?_⟩)); done)
    (hH : Cover H (hp y) Hr := by repeat' (first | exact Cover.nil | exact Take.here | apply Cover.cons | apply Take.there)) :
    G M n L H (fun a w => ∃ y, inv y ∧ μ y < m ∧ Holds n (st y) a ∧ Ms M (hp y) w) := g_next y hL hH hi hμ
theorem g_joinedA {α : Type} {st : α → Fr} {hp : α → List Assn} {inv : α → Prop} (y : α) {Hr : List Assn} (hi : inv y) (hL : SubFr L (st y) := by (repeat (first | exact trivial | refine ⟨by rfl, ?_⟩)); done)
    (hH : Cover H' (hp y) Hr := by repeat' (first | exact Cover.nil | exact Take.here | apply Cover.cons | apply Take.there)) : G M n L H' (fun a w => ∃ y, inv y ∧ Holds n (st y) a ∧ Ms M (hp y) w) := g_joined y hL hH hi
theorem g_postA {fn : Func} {rs : List ResultVar} {vs : List Value} {R : Value → List Assn → Prop} {Ho Hr : List Assn} (hrs : fn.results = rs.toArray) (hv : Res P M L H rs vs) (hR : R (tupled vs) Ho)
    (hc : Cover H Ho Hr := by repeat' (first | exact Cover.nil | exact Take.here | apply Cover.cons | apply Take.there)) : G M n L H (TP (bodyPost P fn (postOf M R)) .ret) := g_post hrs hv hR hc
end Go.Z
