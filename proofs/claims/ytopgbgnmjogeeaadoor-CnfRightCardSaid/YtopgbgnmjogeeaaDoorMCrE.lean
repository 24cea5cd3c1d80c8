/- The row of CnfRight: at every input the statement's function returns true and every argument reads as before. Conditions: none. -/
import Derived.Test.YtopgbgnmjogeeaaDoorMCrR0
import Derived.Test.YtopgbgnmjogeeaaDoorMCrL0
import Derived.Test.YtopgbgnmjogeeaaDoorRows
import Derived.Test.YtopgbgnmjogeeaaDoorCards
import Derived.Test.YtopgbgnmjogeeaaDoorTie
import Derived.SevenTiedAt
namespace Go.Proofs.YtopgbgnmjogeeaaDoor.cnfRightEnd
set_option linter.unusedVariables false
set_option linter.unusedSimpArgs false
open Go Go.Z Go.Z.Sat Go.ChangeShapes Go.WideShapes Go.ChangeAt Go.RowKit

theorem own : ownKnob Tryd.prog.godebug = none := by kernel_rfl
theorem laidOut : laidOutB Tryd.prog = true := by kernel_rfl

set_option maxRecDepth 100000 in
theorem lifted (os : Os) (started : os.Started) (H : Type) (enc : TypeId × Value → H) :
    ReturnsInHanded {} Tryd.checked os 4 .any (fun w args => (Rows.cnfRightSpec.pre enc Tryd.prog Tryd.f4 Rows.cnfRightRow.domain false w args ∧ laidMet Tryd.prog Rows.cnfRightRow.laid w) ∧ sizedMet enc Tryd.prog Tryd.f4 (OpenSpec.ofChange Rows.cnfRightSpec) false w args)
      (Rows.cnfRightSpec.post enc Tryd.prog Tryd.f4 false true false false) := by
  refine wrap_shaped (C := Tryd.checked) (X := fun w _ => laidMet Tryd.prog Rows.cnfRightRow.laid w) (fun _ _ _ hh h => h.of_heap hh) own started (by kernel_rfl) Tryd.func4
    (ChangeSpec.witness_at (enc := enc) (C := Tryd.checked) (os := os) (X := fun w _ => laidMet Tryd.prog Rows.cnfRightRow.laid w) false (laidWorld os) #[.agg #[.int .i64 0, .slice none 0 0], .slice none 0 0] 8 rfl (by kernel_rfl) (by kernel_rfl) (by kernel_rfl) (by kernel_rfl) (by kernel_rfl) (laidWorld_met os _)) ?_
  intro W base args ds gs before hval0 hW hcnd hsz0 hL hSh hx0
  have hK : LibC (Old W) := libC_of hL hSh
  have hsz : (DataW.weightsEach Tryd.prog (Tryd.f4.params.toList ++ Rows.cnfRightSpec.plain.varTypes Tryd.prog) (ds ++ gs)).all (· ≤ reachBytes) = true := hsz0
  have hval : ∀ (j : Nat) t v, Tryd.f4.params[j]? = some t → args[j]? = some v → Value.okWide Tryd.prog W .any base t v := hval0
  have hW' := hW
  obtain ⟨p, q, hA, hV, rfl, hfz, hnd⟩ := hW
  have hA0 : DataW.TrodAll enc Tryd.prog W 0 (fun _ => true) true Tryd.f4.params.toList args.toList ds p := hA
  rw [Tryd.params4] at hA0 hval hsz
  have hA1 := hA0
  obtain ⟨v0, vs0, d0, ds0, p0, q0x, hargs, rfl, rfl, h0, r0x⟩ := trodAll_cons hA0
  obtain ⟨v1, vs1, d1, ds1, p1, q1x, rfl, rfl, rfl, h1, r1x⟩ := trodAll_cons r0x
  obtain ⟨rfl, rfl, rfl⟩ := trodAll_nil r1x
  obtain rfl : args = #[v0, v1] := by cases args; simp_all
  obtain ⟨rfl, rfl⟩ := trodVars_none hV
  obtain ⟨a0, rfl, z0⟩ := okWide_struct Tryd.underlying24 (hval 0 24 v0 rfl rfl)
  obtain ⟨n0, ca0, cc0, F0, e0, f0⟩ := rd_formula (Rdw.of hsz (j := 0) rfl rfl h0); obtain rfl : a0 = #[.int .i64 n0, .slice ca0 F0.length cc0] := by apply Array.ext'; exact e0
  obtain ⟨a1, len1, cap1, rfl⟩ := okWide_slice Tryd.underlying32 (hval 1 32 v1 rfl rfl)
  obtain ⟨s1, c1, l1, e1, hl1, hm1, q1, r1⟩ := rd_list1 (fun _ => True) (fun b => .bool b) Tryd.underlying32 (by kernel_rfl) (fun c h => let ⟨b, e⟩ := rd_bool Tryd.underlying4 h; ⟨b, e, trivial⟩) (Rdx.of h1)
  cases e1
  refine (law_calls (P := Tryd.prog) (W := W) (f := 4) (cright_ok hK f0 r1 (by have h : maxLen = 9223372036854775807 := rfl; omega))).mono fun e W' ⟨he, bel⟩ => ?_
  subst he
  exact ⟨_, rfl, _, _, _, [], _, [], hW', trodAll_mk1 (shut_bool Tryd.underlying4 _), trodAll_below laidOut bel (by kernel_rfl) hA1, rfl, bel.frame _, fun h => by cases h⟩

/-- the statement -/
theorem proved : Rows.CnfRightSaid :=
  OpenClaim.holds_of_wide 4 Tryd.f4 rfl rfl rfl rfl rfl rfl rfl ⟨rfl, rfl, rfl, rfl, rfl⟩ rfl rfl rfl rfl rfl (by kernel_rfl) Tryd.func4 (by kernel_rfl)
    (of_decide_eq_true (by kernel_rfl)) (by unfold Func.isWrapper; first | (rw [if_pos (by decide +kernel)]; kernel_rfl) | (rw [if_neg (by decide +kernel)]; exact ⟨rfl, rfl⟩))
    (fun os started H enc hx => lifted os started H enc)

/-- the statement: the row, its listed variables tied to the program's text -/
theorem card : Rows.CnfRightCardSaid :=
  Claim7.holds_tied_plain_at .later [] [.data, .data, .data, .data, .sentinel, .sentinel, .pinned] true (true, "303a8fcac4fa41be38d304870bfbfa35e8fcc58049a0a74a0b1feda9da7aed86") true
    proved (fun _ h => by cases h) (by kernel_rfl) (fun _ h => by cases h) cnfRight_row_tie rfl ⟨rfl, rfl⟩ (by kernel_rfl) rfl
    (fun f fn hf hfn => by
      obtain rfl : f = 4 := Option.some.inj ((show Tryd.prog.funcNamed Rows.cnfRightRow.func = some 4 by kernel_rfl).symm.trans hf) |>.symm
      obtain rfl : fn = Tryd.f4 := (Option.some.inj (Tryd.func4.symm.trans hfn)).symm
      refine ⟨by kernel_rfl, fun j t ht => ?_⟩
      rw [Tryd.params4] at ht
      rcases j with _ | _ | j
      · obtain rfl : 24 = t := Option.some.inj (show some 24 = some t from ht)
        exact (show Tryd.prog.wantsStandIn 24 = false by kernel_rfl)
      · obtain rfl : 32 = t := Option.some.inj (show some 32 = some t from ht)
        exact (show Tryd.prog.wantsStandIn 32 = false by kernel_rfl)
      · simp at ht)
    (by kernel_rfl)
#print axioms card
end Go.Proofs.YtopgbgnmjogeeaaDoor.cnfRightEnd
