/- Chapter 4: the heap's functions of the library: a method called through an interface. Conditions: none. -/
import Derived.Test.YtmefecnjliadaaaN1
namespace Go.Proofs.Ytmefecnjliadaaa
set_option maxRecDepth 8000
set_option linter.unusedVariables false
set_option linter.unusedSimpArgs false
set_option linter.unusedSectionVars false
open Go Go.Z Go.Z.Gr
theorem mth_push (w : World) (b : Nat) (x : Value) : (callMethod (.iface 45 (.pointer (some ⟨b, 0, none⟩))) "Push" [x].toArray).run Try.prog w = .ok (.enter 89 #[.pointer (some ⟨b, 0, none⟩), x]) w := by
  kernel_rfl
theorem mth_pop (w : World) (b : Nat) : (callMethod (.iface 45 (.pointer (some ⟨b, 0, none⟩))) "Pop" [].toArray).run Try.prog w = .ok (.enter 88 #[.pointer (some ⟨b, 0, none⟩)]) w := by
  kernel_rfl
theorem run_box {w : World} {b : Nat} {v : Value} {T : TypeId} {fz : Nat × Nat} (h : w.heap[b]? = some (.cells [v].toArray T fz)) : (loadVar 46 ⟨b, 0, none⟩).run Try.prog w = .ok v w := by
  have e : w.cell? ⟨b, 0, none⟩ = some v := by simp [World.cell?, h]
  have ht : TyC Try.prog 46 _ := inferInstance
  simp [loadVar, ht.run_agg, aggD, e]
theorem run_wrap (xt : TypeId) (a : Addr) (s m : ByteArray) (w : World) : (Builtin.ssaWrapNilChk_ #[xt] xt #[.pointer (some a), .string s, .string m]).run Try.prog w = .ok (.pointer (some a)) w := rfl
theorem run_info (w : World) : (typeInfo 45).run Try.prog w = .ok Try.t45 w := by kernel_rfl
theorem run_mth {w : World} {b : Nat} {v : Value} {T : TypeId} {fz : Nat × Nat} (h : w.heap[b]? = some (.cells [v].toArray T fz)) {name : String} {sg : TypeId} {f : Nat} (hf : Try.t45.methods.find? (·.name == name) = some ⟨name, sg, #[], some (f, false)⟩) (n : Nat) :
    (method (n + 1) 45 (.pointer (some ⟨b, 0, none⟩)) name).run Try.prog w = .ok (f, v) w := by
  have ht : TyC Try.prog 45 _ := inferInstance
  unfold method
  simp only [Sem.run_bind, run_info, Result.andThen_ok, hf]
  simp [follow, receiverAt, ht.run_u, Place.get, strVal, run_wrap, asAddr, run_box h]
theorem mth_val {w : World} {b : Nat} {v : Value} {T : TypeId} {fz : Nat × Nat} (h : w.heap[b]? = some (.cells [v].toArray T fz)) {name : String} {sg : TypeId} {f : Nat} (hf : Try.t45.methods.find? (·.name == name) = some ⟨name, sg, #[], some (f, false)⟩)
    (hc : ∀ args w, (callFunc f args).run Try.prog w = .ok (.enter f args) w) (vs : List Value) : (callMethod (.iface 45 (.pointer (some ⟨b, 0, none⟩))) name vs.toArray).run Try.prog w = .ok (.enter f (v :: vs).toArray) w := by
  have hd : Try.prog.types.size + Made.depth = (Try.prog.types.size + (Made.depth - 1)) + 1 := by decide
  unfold callMethod
  simp only [Sem.run_bind]
  have hp : (program).run Try.prog w = .ok Try.prog w := rfl
  rw [hp]
  simp only [Result.andThen_ok]
  rw [hd, run_mth h hf]
  simp only [Result.andThen_ok]
  rw [hc]
  congr 2
  simp
theorem mth_len {w : World} {b : Nat} {v : Value} {T : TypeId} {fz : Nat × Nat} (h : w.heap[b]? = some (.cells [v].toArray T fz)) : (callMethod (.iface 45 (.pointer (some ⟨b, 0, none⟩))) "Len" [].toArray).run Try.prog w = .ok (.enter 26 #[v]) w := mth_val h (by rfl) Try.call26 []
theorem mth_less {w : World} {b : Nat} {v : Value} {T : TypeId} {fz : Nat × Nat} (h : w.heap[b]? = some (.cells [v].toArray T fz)) (x y : Value) : (callMethod (.iface 45 (.pointer (some ⟨b, 0, none⟩))) "Less" [x, y].toArray).run Try.prog w = .ok (.enter 87 #[v, x, y]) w := mth_val h (by rfl) Try.call87 [x, y]
theorem mth_swap {w : World} {b : Nat} {v : Value} {T : TypeId} {fz : Nat × Nat} (h : w.heap[b]? = some (.cells [v].toArray T fz)) (x y : Value) : (callMethod (.iface 45 (.pointer (some ⟨b, 0, none⟩))) "Swap" [x, y].toArray).run Try.prog w = .ok (.enter 90 #[v, x, y]) w := mth_val h (by rfl) Try.call90 [x, y]
end Go.Proofs.Ytmefecnjliadaaa
