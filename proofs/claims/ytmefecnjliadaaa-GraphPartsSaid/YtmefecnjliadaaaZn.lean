/- Own layer: values as interfaces, a method called through an interface. Conditions: none; generic in the program. -/
import Derived.Test.YtmefecnjliadaaaZj
import Derived.Laws.Build
namespace Go.Z
set_option maxRecDepth 8000
set_option linter.unusedVariables false
set_option linter.unusedSimpArgs false
set_option linter.unusedSectionVars false
open Go
variable {P : Program} {n : Nat} {L L' : Fr} {H H' Hi Hr : List Assn} {M : Mx} {Q : Exit → Act → World → Prop} {ops : Array Oper} {rest : List Oper}
variable {dd : Option Tmp} {ty t : TypeId} {ps : String} {af : Array Edge} {gd : Option (Nat × Bool)} {x y z : Operand} {v u : Value} {w w' : World}
def ifaceD : TypeDesc → Bool
  | .interface _ => true
  | _ => false
theorem p_mkI {T : TypeId} {yt : Ty} [ht : TyC P T yt] (hd : ifaceD yt.d = false) (h1 : ev L x = some v) : Pur P M n L H ⟨dd, .makeInterface T x, ty, ps, af, gd⟩ (.iface T v) := fun a w ha _ => by
  have hr : (Instr.makeInterface T v).run P w = .ok (.iface T v) w := by
    unfold Instr.makeInterface
    simp only [Sem.run_bind, ht.run_u, Result.andThen_ok]
    cases h : yt.d <;> first | (rw [h] at hd; cases hd; done) | simp
  simp [execOp, ha.ev h1, hr]
theorem p_assertI {T xT : TypeId} {yt : Ty} [ht : TyC P T yt] (hd : ifaceD yt.d = false) (h1 : ev L x = some (.iface T v)) : Pur P M n L H ⟨dd, .typeAssert x xT T false, ty, ps, af, gd⟩ v := fun a w ha _ => by
  have hr : (Instr.typeAssert (.iface T v) xT T false).run P w = .ok v w := by
    unfold Instr.typeAssert
    simp only [Sem.run_bind, ht.run_u, Result.andThen_ok]
    cases h : yt.d <;> first | (rw [h] at hd; cases hd; done) | simp
  simp [execOp, ha.ev h1, hr]
/-- a call of a method through an interface -/
theorem g_icall {rv : Operand} {r : Value} {name : String} {d f : Nat} {args : Array Operand} {as' : Array Value} {tys : Array TypeId} {vs : List Value} {Hin : List Assn} {R : Value → List Assn → Prop}
    (hr : ev L rv = some r) (hargs : evL L args.toList = some vs) (hn : Nat.blt d n = true) (hm : ∀ w, Ms M H w → (callMethod r name vs.toArray).run P w = .ok (.enter f as') w) (hin : Cover H Hin Hr)
    (hc : ∀ ρ', (∀ b o, M.ρ b o → ρ' b o) → Ros ρ' Hr → Con P ρ' f as' Hin R)
    (k : ∀ v Ho, R v Ho → G M n ((d, v) :: L) (Ho ++ Hr) (TL P ops rest Q)) : G M n L H (TL P ops (⟨some d, .call ⟨.invoke rv name, args, tys⟩, ty, ps, af, none⟩ :: rest) Q) := by
  unfold G TL at *
  intro a w ha hms
  refine wpList_plain rfl fun K hK => ?_
  have e1 : args.map a.eval = vs.toArray := by apply Array.ext'; simpa using evs ha _ _ (by rw [← evL_eq]; exact hargs)
  obtain ⟨hi, hr', s1, s2, s3, s4, s5, s6⟩ := hms.split hin
  have hcon := hc (fun b o => M.ρ b o ∨ hr' b = some o) (fun b o e => .inl e) (ros_of_sat s3 fun b o e => .inr e)
  have hcall := hcon.2 w hi s1 s2 s5
  unfold Oper.wp
  have e2 : (execOp a.eval ⟨some d, .call ⟨.invoke rv name, args, tys⟩, ty, ps, af, none⟩).run P w = .ok (.enter f as') w := by
    simp only [execOp, resolve, ha.ev hr, e1, Sem.run_bind, Sem.run_pure, Result.andThen_ok, invoke]
    simp [hm w hms]
  rw [e2, Oper.upon_enter]
  refine hcall.mono fun e w' ⟨v, Ho, he, hR, hm'⟩ => ?_
  subst he
  exact hK _ _ (k v Ho hR _ _ (ha.put (by simpa using hn) v) (s6 Ho w' hm'))
theorem g_icall0 {rv : Operand} {r : Value} {name : String} {f : Nat} {args : Array Operand} {as' : Array Value} {tys : Array TypeId} {vs : List Value} {Hin : List Assn} {R : Value → List Assn → Prop}
    (hr : ev L rv = some r) (hargs : evL L args.toList = some vs) (hm : ∀ w, Ms M H w → (callMethod r name vs.toArray).run P w = .ok (.enter f as') w) (hin : Cover H Hin Hr)
    (hc : ∀ ρ', (∀ b o, M.ρ b o → ρ' b o) → Ros ρ' Hr → Con P ρ' f as' Hin R)
    (k : ∀ v Ho, R v Ho → G M n L (Ho ++ Hr) (TL P ops rest Q)) : G M n L H (TL P ops (⟨none, .call ⟨.invoke rv name, args, tys⟩, ty, ps, af, none⟩ :: rest) Q) := by
  unfold G TL at *
  intro a w ha hms
  refine wpList_plain rfl fun K hK => ?_
  have e1 : args.map a.eval = vs.toArray := by apply Array.ext'; simpa using evs ha _ _ (by rw [← evL_eq]; exact hargs)
  obtain ⟨hi, hr', s1, s2, s3, s4, s5, s6⟩ := hms.split hin
  have hcon := hc (fun b o => M.ρ b o ∨ hr' b = some o) (fun b o e => .inl e) (ros_of_sat s3 fun b o e => .inr e)
  have hcall := hcon.2 w hi s1 s2 s5
  unfold Oper.wp
  have e2 : (execOp a.eval ⟨none, .call ⟨.invoke rv name, args, tys⟩, ty, ps, af, none⟩).run P w = .ok (.enter f as') w := by
    simp only [execOp, resolve, ha.ev hr, e1, Sem.run_bind, Sem.run_pure, Result.andThen_ok, invoke]
    simp [hm w hms]
  rw [e2, Oper.upon_enter]
  refine hcall.mono fun e w' ⟨v, Ho, he, hR, hm'⟩ => ?_
  subst he
  exact hK _ _ (k v Ho hR _ _ ha (s6 Ho w' hm'))
end Go.Z
