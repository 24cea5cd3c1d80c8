/- The row of ValueParses: at every input the statement's function returns true and every argument reads as before. Conditions: none. -/
import Derived.Test.YtkbofpcnhjopaaaDoorI1
import Derived.Test.YtkbofpcnhjopaaaDoorLa
import Derived.Test.YtkbofpcnhjopaaaDoorRows
import Derived.Test.YtkbofpcnhjopaaaDoorCards
import Derived.Test.YtkbofpcnhjopaaaDoorTie
import Derived.SevenTiedAt
namespace Go.Proofs.YtkbofpcnhjopaaaDoor.valueParsesEnd
set_option linter.unusedVariables false
set_option linter.unusedSimpArgs false
open Go Go.Z Go.Z.Val Go.ChangeShapes Go.WideShapes Go.ChangeAt Go.RowKit

theorem own : ownKnob Tryd.prog.godebug = none := by kernel_rfl
theorem laidOut : laidOutB Tryd.prog = true := by kernel_rfl

set_option maxRecDepth 100000 in
theorem lifted (os : Os) (started : os.Started) (H : Type) (enc : TypeId × Value → H) :
    ReturnsInHanded {} Tryd.checked os 4 .any (fun w args => (Rows.valueParsesSpec.pre enc Tryd.prog Tryd.f4 Rows.valueParsesRow.domain false w args ∧ laidMet Tryd.prog Rows.valueParsesRow.laid w) ∧ sizedMet enc Tryd.prog Tryd.f4 (OpenSpec.ofChange Rows.valueParsesSpec) false w args)
      (Rows.valueParsesSpec.post enc Tryd.prog Tryd.f4 false true false false) := by
  refine returnsInHanded_of_change_and (C := Tryd.checked) (X := fun w _ => laidMet Tryd.prog Rows.valueParsesRow.laid w) (fun _ _ _ hh h => h.of_heap hh) own started (by kernel_rfl) Tryd.func4
    (ChangeSpec.witness_at (enc := enc) (C := Tryd.checked) (os := os) (X := fun w _ => laidMet Tryd.prog Rows.valueParsesRow.laid w) false (laidWorld os) #[.slice none 0 0, .int .i64 0, .string ⟨#[]⟩] 8 rfl (by kernel_rfl) (by kernel_rfl) (by kernel_rfl) (by kernel_rfl) (by kernel_rfl) (laidWorld_met os _)) ?_
  intro W base args ds gs before hval0 hW hcnd hsz0 hL hx0
  have hK : LibK (Old W) := libK_of hL
  have hsz : (DataW.weightsEach Tryd.prog (Tryd.f4.params.toList ++ Rows.valueParsesSpec.plain.varTypes Tryd.prog) (ds ++ gs)).all (· ≤ reachBytes) = true := hsz0
  have hval : ∀ (j : Nat) t v, Tryd.f4.params[j]? = some t → args[j]? = some v → Value.okWide Tryd.prog W .any base t v := hval0
  have hW' := hW
  obtain ⟨p, q, hA, hV, rfl, hfz, hnd⟩ := hW
  have hA0 : DataW.TrodAll enc Tryd.prog W 0 (fun _ => true) true Tryd.f4.params.toList args.toList ds p := hA
  rw [Tryd.params4] at hA0 hval hsz
  have hA1 := hA0
  obtain ⟨v0, vs0, d0, ds0, p0, q0x, hargs, rfl, rfl, h0, r0x⟩ := trodAll_cons hA0
  obtain ⟨v1, vs1, d1, ds1, p1, q1x, rfl, rfl, rfl, h1, r1x⟩ := trodAll_cons r0x
  obtain ⟨v2, vs2, d2, ds2, p2, q2x, rfl, rfl, rfl, h2, r2x⟩ := trodAll_cons r1x
  obtain ⟨rfl, rfl, rfl⟩ := trodAll_nil r2x
  obtain rfl : args = #[v0, v1, v2] := by cases args; simp_all
  obtain ⟨rfl, rfl⟩ := trodVars_none hV
  obtain ⟨a0, len0, cap0, rfl⟩ := okWide_slice Tryd.underlying22 (hval 0 22 v0 rfl rfl)
  obtain ⟨s0, c0, l0, e0, hl0, hm0, q0, r0⟩ := rd_enums (Rdx.of h0)
  cases e0
  obtain ⟨a1, rfl⟩ := okWide_int Tryd.underlying3 (hval 1 3 v1 rfl rfl)
  obtain ⟨n1, e1, w1⟩ := rd_int Tryd.underlying3 (Rdx.of h1)
  cases e1
  obtain ⟨a2, rfl⟩ := okWide_string Tryd.underlying9 (hval 2 9 v2 rfl rfl)
  obtain ⟨n2, e2, w2⟩ := rd_string Tryd.underlying9 (Rdx.of h2)
  cases e2
  refine (law_calls (P := Tryd.prog) (W := W) (f := 4) (vparses_ok hK ⟨r0, q0⟩ (rd_enlen (Rdw.of hsz (j := 0) rfl rfl h0)) a1 (wf_i64 w1) a2)).mono fun e W' ⟨he, bel⟩ => ?_
  subst he
  exact ⟨_, rfl, _, _, _, [], _, [], hW', trodAll_mk1 (shut_bool Tryd.underlying4 _), trodAll_below laidOut bel (by kernel_rfl) hA1, rfl, bel.frame _, fun h => by cases h⟩

/-- the statement -/
theorem proved : Rows.ValueParsesSaid :=
  OpenClaim.holds_of_wide 4 Tryd.f4 rfl rfl rfl rfl rfl rfl rfl ⟨rfl, rfl, rfl, rfl, rfl⟩ rfl rfl rfl rfl rfl (by kernel_rfl) Tryd.func4 (by kernel_rfl)
    (of_decide_eq_true (by kernel_rfl)) (by unfold Func.isWrapper; first | (rw [if_pos (by decide +kernel)]; kernel_rfl) | (rw [if_neg (by decide +kernel)]; exact ⟨rfl, rfl⟩))
    (fun os started H enc hx => lifted os started H enc)

/-- the statement: the row, its listed variables tied to the program's text -/
theorem card : Rows.ValueParsesCardSaid :=
  Claim7.holds_tied_plain_at .later [] [.data, .data, .data, .sentinel, .sentinel] true (true, "875f53f9b5d04a9294d19609df0091be4a47eefe875ab9a0847eedf17314403e") true
    proved (fun _ h => by cases h) (by kernel_rfl) (fun _ h => by cases h) valueParses_row_tie rfl ⟨rfl, rfl⟩ (by kernel_rfl) rfl
    (fun f fn hf hfn => by
      obtain rfl : f = 4 := Option.some.inj ((show Tryd.prog.funcNamed Rows.valueParsesRow.func = some 4 by kernel_rfl).symm.trans hf) |>.symm
      obtain rfl : fn = Tryd.f4 := (Option.some.inj (Tryd.func4.symm.trans hfn)).symm
      refine ⟨by kernel_rfl, fun j t ht => ?_⟩
      rw [Tryd.params4] at ht
      rcases j with _ | _ | _ | j
      · obtain rfl : 22 = t := Option.some.inj (show some 22 = some t from ht)
        exact (show Tryd.prog.wantsStandIn 22 = false by kernel_rfl)
      · obtain rfl : 3 = t := Option.some.inj (show some 3 = some t from ht)
        exact (show Tryd.prog.wantsStandIn 3 = false by kernel_rfl)
      · obtain rfl : 9 = t := Option.some.inj (show some 9 = some t from ht)
        exact (show Tryd.prog.wantsStandIn 9 = false by kernel_rfl)
      · simp at ht)
    (by kernel_rfl)
#print axioms card
end Go.Proofs.YtkbofpcnhjopaaaDoor.valueParsesEnd
