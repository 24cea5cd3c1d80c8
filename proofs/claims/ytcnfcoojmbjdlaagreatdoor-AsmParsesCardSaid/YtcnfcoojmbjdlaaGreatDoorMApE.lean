/- The row of AsmParses: at every input the statement's function returns true and every argument reads as before. Conditions: none. -/
import Derived.Test.YtcnfcoojmbjdlaaGreatDoorMApO1
import Derived.Test.YtcnfcoojmbjdlaaGreatDoorMApP0
import Derived.Test.YtcnfcoojmbjdlaaGreatDoorRows
import Derived.Test.YtcnfcoojmbjdlaaGreatDoorCards
import Derived.Test.YtcnfcoojmbjdlaaGreatDoorTie
import Derived.SevenTiedAt
namespace Go.Proofs.YtcnfcoojmbjdlaaGreatDoor.asmParsesEnd
set_option linter.unusedVariables false
set_option linter.unusedSimpArgs false
open Go Go.Z Go.Z.Asm Go.ChangeShapes Go.WideShapes Go.ChangeAt Go.RowKit

theorem own : ownKnob Tryz.prog.godebug = none := by kernel_rfl
theorem laidOut : laidOutB Tryz.prog = true := by kernel_rfl

set_option maxRecDepth 100000 in
theorem lifted (os : Os) (started : os.Started) (H : Type) (enc : TypeId × Value → H) :
    ReturnsInHanded {} Tryz.checked os 8 .any (fun w args => (Rows.asmParsesSpec.pre enc Tryz.prog Tryz.f8 Rows.asmParsesRow.domain false w args ∧ laidMet Tryz.prog Rows.asmParsesRow.laid w) ∧ sizedMet enc Tryz.prog Tryz.f8 (OpenSpec.ofChange Rows.asmParsesSpec) false w args)
      (Rows.asmParsesSpec.post enc Tryz.prog Tryz.f8 false true false false) := by
  refine wrap_shaped (C := Tryz.checked) (X := fun w _ => laidMet Tryz.prog Rows.asmParsesRow.laid w) (fun _ _ _ hh h => h.of_heap hh) own started (by kernel_rfl) Tryz.func8
    (ChangeSpec.witness_at (enc := enc) (C := Tryz.checked) (os := os) (X := fun w _ => laidMet Tryz.prog Rows.asmParsesRow.laid w) false (laidWorld os) #[.string ⟨#[]⟩] 8 rfl (by kernel_rfl) (by kernel_rfl) (by kernel_rfl) (by kernel_rfl) (by kernel_rfl) (laidWorld_met os _)) ?_
  intro W base args ds gs before hval0 hW hcnd hsz0 hL hSh hx0
  have hK : LibA (Old W) := libA_of hL hSh
  have hsz : (DataW.weightsEach Tryz.prog (Tryz.f8.params.toList ++ Rows.asmParsesSpec.plain.varTypes Tryz.prog) (ds ++ gs)).all (· ≤ reachBytes) = true := hsz0
  have hval : ∀ (j : Nat) t v, Tryz.f8.params[j]? = some t → args[j]? = some v → Value.okWide Tryz.prog W .any base t v := hval0
  have hW' := hW
  obtain ⟨p, q, hA, hV, rfl, hfz, hnd⟩ := hW
  have hA0 : DataW.TrodAll enc Tryz.prog W 0 (fun _ => true) true Tryz.f8.params.toList args.toList ds p := hA
  rw [Tryz.params8] at hA0 hval hsz
  have hA1 := hA0
  obtain ⟨v0, vs0, d0, ds0, p0, q0x, hargs, rfl, rfl, h0, r0x⟩ := trodAll_cons hA0
  obtain ⟨rfl, rfl, rfl⟩ := trodAll_nil r0x
  obtain rfl : args = #[v0] := by cases args; simp_all
  obtain ⟨rfl, rfl⟩ := trodVars_none hV
  obtain ⟨a0, rfl⟩ := okWide_string Tryz.underlying9 (hval 0 9 v0 rfl rfl)
  obtain ⟨n0, e0, w0⟩ := rd_string Tryz.underlying9 (Rdx.of h0)
  cases e0
  refine (law_calls (P := Tryz.prog) (W := W) (f := 8) (aparsesB_ok hK a0 w0)).mono fun e W' ⟨he, bel⟩ => ?_
  subst he
  exact ⟨_, rfl, _, _, _, [], _, [], hW', trodAll_mk1 (shut_bool Tryz.underlying4 _), trodAll_below laidOut bel (by kernel_rfl) hA1, rfl, bel.frame _, fun h => by cases h⟩

/-- the statement -/
theorem proved : Rows.AsmParsesSaid :=
  OpenClaim.holds_of_wide 8 Tryz.f8 rfl rfl rfl rfl rfl rfl rfl ⟨rfl, rfl, rfl, rfl, rfl⟩ rfl rfl rfl rfl rfl (by kernel_rfl) Tryz.func8 (by kernel_rfl)
    (of_decide_eq_true (by kernel_rfl)) (by unfold Func.isWrapper; first | (rw [if_pos (by decide +kernel)]; kernel_rfl) | (rw [if_neg (by decide +kernel)]; exact ⟨rfl, rfl⟩))
    (fun os started H enc hx => lifted os started H enc)

/-- the statement: the row, its listed variables tied to the program's text -/
theorem card : Rows.AsmParsesCardSaid :=
  Claim7.holds_tied_plain_at .later [] [.data, .data, .data, .data, .sentinel, .sentinel, .widerDeep, .pinned] true (true, "cdff456dd92370c1c64b087ef969cc4e43962e6e52a4d6d08ebddc6a88487c0e") true
    proved (fun _ h => by cases h) (by kernel_rfl) (fun _ h => by cases h) asmParses_row_tie rfl ⟨rfl, rfl⟩ (by kernel_rfl) rfl
    (fun f fn hf hfn => by
      obtain rfl : f = 8 := Option.some.inj ((show Tryz.prog.funcNamed Rows.asmParsesRow.func = some 8 by kernel_rfl).symm.trans hf) |>.symm
      obtain rfl : fn = Tryz.f8 := (Option.some.inj (Tryz.func8.symm.trans hfn)).symm
      refine ⟨by kernel_rfl, fun j t ht => ?_⟩
      rw [Tryz.params8] at ht
      rcases j with _ | j
      · obtain rfl : 9 = t := Option.some.inj (show some 9 = some t from ht)
        exact (show Tryz.prog.wantsStandIn 9 = false by kernel_rfl)
      · simp at ht)
    (by kernel_rfl)
#print axioms card
end Go.Proofs.YtcnfcoojmbjdlaaGreatDoor.asmParsesEnd
