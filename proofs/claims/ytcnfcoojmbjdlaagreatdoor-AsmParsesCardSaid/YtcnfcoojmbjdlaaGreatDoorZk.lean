/- Own layer: contracts of the library as contracts of this layer; what is known of every world. Conditions: none. -/
import Derived.Test.YtcnfcoojmbjdlaaGreatDoorZj
import Derived.Below
import Derived.Lib.Bytes
namespace Go.Z
set_option maxRecDepth 8000
set_option linter.unusedVariables false
set_option linter.unusedSimpArgs false
set_option linter.unusedSectionVars false
open Go Go.RowKit
variable {P : Program}
/-- every world that agrees with what nobody writes has X -/
def Knows (ρ : Nat → Obj → Prop) (X : World → Prop) : Prop := ∀ w : World, (∀ b o, ρ b o → w.heap[b]? = some o) → X w
theorem Knows.mono {ρ ρ' : Nat → Obj → Prop} {X : World → Prop} (h : Knows ρ X) (s : ∀ b o, ρ b o → ρ' b o) : Knows ρ' X := fun w hw => h w fun b o hb => hw b o (s b o hb)
theorem con_below {ρ : Nat → Obj → Prop} {f : FuncId} {args : Array Value} {R : Value → Prop} (hcall : ∀ vs w, (callFunc f vs).run P w = .ok (.enter f vs) w)
    (h : ∀ w : World, (∀ b o, ρ b o → w.heap[b]? = some o) → Calls P f args w fun e w' => ∃ v, e = .returned v ∧ R v ∧ Below w.heap.size w w') : Con P ρ f args [] (fun v H => R v ∧ H = []) :=
  ⟨hcall, fun w hp s su r => (h w fun b o hb => (r b o hb).1).mono fun e w' ⟨v, e1, hR, hb⟩ => by
    have keep : ∀ b o, w.heap[b]? = some o → w'.heap[b]? = some o := fun b o hw => (hb.block b (lt_of_heap hw)).trans hw
    exact ⟨v, [], e1, ⟨hR, rfl⟩, ⟨hb.os, hb.tape, hb.output, hb.size, fun b hlt _ => hb.block b hlt, fun b o hr => keep b o (r b o hr).1, hp, s, fun b o hbo => keep b o (su b o hbo), fun b e => .inl e, fun b o hr => (r b o hr).2⟩⟩⟩
section iface
variable {n : Nat} {L : Fr} {H : List Assn} {M : Mx}
variable {dd : Option Tmp} {ty t : TypeId} {ps : String} {af : Array Edge} {gd : Option (Nat × Bool)} {x y : Operand} {tz : TypeId} {yt : Ty} {ms : Array (String × TypeId)}
theorem eqIn_nn {d : Nat} [ht : TyC P t yt] (hd : yt.d = .interface ms) (w : World) : (Op.equalIn (d + 1) t .nilIface .nilIface).run P w = .ok true w := by
  simp only [Op.equalIn, Sem.run_bind, ht.run_u, hd, Result.andThen_ok, Sem.run_pure]
theorem eqIn_in {d : Nat} [ht : TyC P t yt] {u : TypeId} {v : Value} (hd : yt.d = .interface ms) (w : World) : (Op.equalIn (d + 1) t (.iface u v) .nilIface).run P w = .ok false w := by
  simp only [Op.equalIn, Sem.run_bind, ht.run_u, hd, Result.andThen_ok, Sem.run_pure]
theorem p_neqifF [ht : TyC P t yt] (hd : yt.d = .interface ms) (h1 : ev L x = some .nilIface) (h2 : y = .const .nilIface) : Pur P M n L H ⟨dd, .binOp .neq t x y tz, ty, ps, af, gd⟩ (.bool false) := by
  subst h2
  exact p_neOf (r := true) h1 (show ev L (.const .nilIface) = some .nilIface from rfl) (fun w => by simp only [binOp, Op.equal, Op.maxDepth, Sem.run_bind, Sem.run_pure]) (fun w => by unfold eqGuard; simp) (eqIn_nn hd)
theorem p_neqifT [ht : TyC P t yt] {u : TypeId} {v : Value} (hd : yt.d = .interface ms) (h1 : ev L x = some (.iface u v)) (h2 : y = .const .nilIface) : Pur P M n L H ⟨dd, .binOp .neq t x y tz, ty, ps, af, gd⟩ (.bool true) := by
  subst h2
  exact p_neOf (r := false) h1 (show ev L (.const .nilIface) = some .nilIface from rfl) (fun w => by simp only [binOp, Op.equal, Op.maxDepth, Sem.run_bind, Sem.run_pure]) (fun w => by unfold eqGuard; simp) (eqIn_in hd)
theorem p_eqlifT [ht : TyC P t yt] (hd : yt.d = .interface ms) (h1 : ev L x = some .nilIface) (h2 : y = .const .nilIface) : Pur P M n L H ⟨dd, .binOp .eql t x y tz, ty, ps, af, gd⟩ (.bool true) := by
  subst h2
  exact p_eqOf (r := true) h1 (show ev L (.const .nilIface) = some .nilIface from rfl) (fun w => by simp only [binOp, Op.equal, Op.maxDepth, Sem.run_bind, Sem.run_pure]) (fun w => by unfold eqGuard; simp) (eqIn_nn hd)
theorem p_eqlifF [ht : TyC P t yt] {u : TypeId} {v : Value} (hd : yt.d = .interface ms) (h1 : ev L x = some (.iface u v)) (h2 : y = .const .nilIface) : Pur P M n L H ⟨dd, .binOp .eql t x y tz, ty, ps, af, gd⟩ (.bool false) := by
  subst h2
  exact p_eqOf (r := false) h1 (show ev L (.const .nilIface) = some .nilIface from rfl) (fun w => by simp only [binOp, Op.equal, Op.maxDepth, Sem.run_bind, Sem.run_pure]) (fun w => by unfold eqGuard; simp) (eqIn_in hd)
theorem bytes_dec (i j : ByteArray) : (i == j) = decide (i = j) := by
  obtain ⟨a⟩ := i; obtain ⟨b⟩ := j
  show ByteArray.beq ⟨a⟩ ⟨b⟩ = _
  unfold ByteArray.beq
  by_cases h : a = b
  · subst h; simp
  · simp [h]
theorem str_dec (i j : ByteArray) : (i.toList == j.toList) = decide (i = j) := by
  rw [Lib.toList_data, Lib.toList_data]
  obtain ⟨⟨a⟩⟩ := i; obtain ⟨⟨b⟩⟩ := j
  by_cases h : a = b
  · subst h; simp
  · simp [h]
theorem p_eqls {i j : ByteArray} [ht : TyC P t yt] (hd : yt.d = .string) (h1 : ev L x = some (.string i)) (h2 : ev L y = some (.string j)) : Pur P M n L H ⟨dd, .binOp .eql t x y tz, ty, ps, af, gd⟩ (.bool (decide (i = j))) := fun a w ha _ => by
  simp [execOp, ha.ev h1, ha.ev h2, eqGuard, binOp, Op.stringOp, str_dec]
theorem p_neqs {i j : ByteArray} [ht : TyC P t yt] (hd : yt.d = .string) (h1 : ev L x = some (.string i)) (h2 : ev L y = some (.string j)) : Pur P M n L H ⟨dd, .binOp .neq t x y tz, ty, ps, af, gd⟩ (.bool (!decide (i = j))) := fun a w ha _ => by
  simp [execOp, ha.ev h1, ha.ev h2, eqGuard, binOp, Op.stringOp, str_dec]
theorem p_eqlsT {i j : ByteArray} [ht : TyC P t yt] (hd : yt.d = .string) (h1 : ev L x = some (.string i)) (h2 : ev L y = some (.string j)) (h : i = j) : Pur P M n L H ⟨dd, .binOp .eql t x y tz, ty, ps, af, gd⟩ (.bool true) := by
  have := p_eqls (P := P) (M := M) (n := n) (H := H) (dd := dd) (t := t) (tz := tz) (ty := ty) (ps := ps) (af := af) (gd := gd) hd h1 h2
  rwa [decide_eq_true h] at this
theorem p_neqsF {i j : ByteArray} [ht : TyC P t yt] (hd : yt.d = .string) (h1 : ev L x = some (.string i)) (h2 : ev L y = some (.string j)) (h : i = j) : Pur P M n L H ⟨dd, .binOp .neq t x y tz, ty, ps, af, gd⟩ (.bool false) := by
  have := p_neqs (P := P) (M := M) (n := n) (H := H) (dd := dd) (t := t) (tz := tz) (ty := ty) (ps := ps) (af := af) (gd := gd) hd h1 h2
  rwa [decide_eq_true h] at this
end iface
end Go.Z
