/- The row of CnfRoots: at every input the statement's function returns true and every argument reads as before. Conditions: none. -/
import Derived.Test.YtopgbgnmjogeeaaGreatDoorMCmR1
import Derived.Test.YtopgbgnmjogeeaaGreatDoorMCmL0
import Derived.Test.YtopgbgnmjogeeaaGreatDoorRows
import Derived.Test.YtopgbgnmjogeeaaGreatDoorCards
import Derived.Test.YtopgbgnmjogeeaaGreatDoorTie
import Derived.SevenTiedAt
namespace Go.Proofs.YtopgbgnmjogeeaaGreatDoor.cnfRootsEnd
set_option linter.unusedVariables false
set_option linter.unusedSimpArgs false
open Go Go.Z Go.Z.Sat Go.ChangeShapes Go.WideShapes Go.ChangeAt Go.RowKit

theorem own : ownKnob Tryz.prog.godebug = none := by kernel_rfl
theorem laidOut : laidOutB Tryz.prog = true := by kernel_rfl

set_option maxRecDepth 100000 in
theorem lifted (os : Os) (started : os.Started) (H : Type) (enc : TypeId × Value → H) :
    ReturnsInHanded {} Tryz.checked os 7 .any (fun w args => (Rows.cnfRootsSpec.pre enc Tryz.prog Tryz.f7 Rows.cnfRootsRow.domain false w args ∧ laidMet Tryz.prog Rows.cnfRootsRow.laid w) ∧ sizedMet enc Tryz.prog Tryz.f7 (OpenSpec.ofChange Rows.cnfRootsSpec) false w args)
      (Rows.cnfRootsSpec.post enc Tryz.prog Tryz.f7 false true false false) := by
  refine wrap_shaped (C := Tryz.checked) (X := fun w _ => laidMet Tryz.prog Rows.cnfRootsRow.laid w) (fun _ _ _ hh h => h.of_heap hh) own started (by kernel_rfl) Tryz.func7
    (ChangeSpec.witness_at (enc := enc) (C := Tryz.checked) (os := os) (X := fun w _ => laidMet Tryz.prog Rows.cnfRootsRow.laid w) false (laidWorld os) #[.slice none 0 0, .slice none 0 0, .slice none 0 0, .int .u8 0] 8 rfl (by kernel_rfl) (by kernel_rfl) (by kernel_rfl) (by kernel_rfl) (by kernel_rfl) (laidWorld_met os _)) ?_
  intro W base args ds gs before hval0 hW hcnd hsz0 hL hSh hx0
  have hK : LibC (Old W) := libC_of hL hSh
  have hsz : (DataW.weightsEach Tryz.prog (Tryz.f7.params.toList ++ Rows.cnfRootsSpec.plain.varTypes Tryz.prog) (ds ++ gs)).all (· ≤ reachBytes) = true := hsz0
  have hval : ∀ (j : Nat) t v, Tryz.f7.params[j]? = some t → args[j]? = some v → Value.okWide Tryz.prog W .any base t v := hval0
  have hW' := hW
  obtain ⟨p, q, hA, hV, rfl, hfz, hnd⟩ := hW
  have hA0 : DataW.TrodAll enc Tryz.prog W 0 (fun _ => true) true Tryz.f7.params.toList args.toList ds p := hA
  rw [Tryz.params7] at hA0 hval hsz
  have hA1 := hA0
  obtain ⟨v0, vs0, d0, ds0, p0, q0x, hargs, rfl, rfl, h0, r0x⟩ := trodAll_cons hA0
  obtain ⟨v1, vs1, d1, ds1, p1, q1x, rfl, rfl, rfl, h1, r1x⟩ := trodAll_cons r0x
  obtain ⟨v2, vs2, d2, ds2, p2, q2x, rfl, rfl, rfl, h2, r2x⟩ := trodAll_cons r1x
  obtain ⟨v3, vs3, d3, ds3, p3, q3x, rfl, rfl, rfl, h3, r3x⟩ := trodAll_cons r2x
  obtain ⟨rfl, rfl, rfl⟩ := trodAll_nil r3x
  obtain rfl : args = #[v0, v1, v2, v3] := by cases args; simp_all
  obtain ⟨rfl, rfl⟩ := trodVars_none hV
  obtain ⟨a0, len0, cap0, rfl⟩ := okWide_slice Tryz.underlying22 (hval 0 22 v0 rfl rfl)
  obtain ⟨s0, c0, l0, e0, hl0, hm0, q0, r0⟩ := rd_acts (Rdx.of h0)
  cases e0
  obtain ⟨a1, len1, cap1, rfl⟩ := okWide_slice Tryz.underlying37 (hval 1 37 v1 rfl rfl)
  obtain ⟨s1, c1, l1, e1, hl1, hm1, q1, r1⟩ := rd_list1 (fun _ => True) (fun b => .bool b) Tryz.underlying37 (by kernel_rfl) (fun c h => let ⟨b, e⟩ := rd_bool Tryz.underlying4 h; ⟨b, e, trivial⟩) (Rdx.of h1)
  cases e1
  obtain ⟨a2, len2, cap2, rfl⟩ := okWide_slice Tryz.underlying23 (hval 2 23 v2 rfl rfl)
  obtain ⟨s2, c2, l2, e2, hl2, hm2, q2, r2⟩ := rd_list1 (fun n => (Lit.int .i64 n).wf = true) (fun n => .int .i64 n) Tryz.underlying23 (by kernel_rfl) (fun c h => rd_int Tryz.underlying3 h) (Rdx.of h2)
  cases e2
  obtain ⟨a3, rfl⟩ := okWide_int Tryz.underlying5 (hval 3 5 v3 rfl rfl)
  obtain ⟨n3, e3, w3⟩ := rd_int Tryz.underlying5 (Rdx.of h3)
  cases e3
  refine (law_calls (P := Tryz.prog) (W := W) (f := 7) (croots_ok hK a0 cap0 l0 r0 (Nat.le_trans hl0 hm0) q0 a1 cap1 l1 r1 (Nat.le_trans hl1 hm1) a2 cap2 l2 r2 (Nat.le_trans hl2 hm2) (fun x hx => wf_i64 (q2 x hx)) a3 (wf_u8 w3))).mono fun e W' ⟨he, bel⟩ => ?_
  subst he
  exact ⟨_, rfl, _, _, _, [], _, [], hW', trodAll_mk1 (shut_bool Tryz.underlying4 _), trodAll_below laidOut bel (by kernel_rfl) hA1, rfl, bel.frame _, fun h => by cases h⟩

/-- the statement -/
theorem proved : Rows.CnfRootsSaid :=
  OpenClaim.holds_of_wide 7 Tryz.f7 rfl rfl rfl rfl rfl rfl rfl ⟨rfl, rfl, rfl, rfl, rfl⟩ rfl rfl rfl rfl rfl (by kernel_rfl) Tryz.func7 (by kernel_rfl)
    (of_decide_eq_true (by kernel_rfl)) (by unfold Func.isWrapper; first | (rw [if_pos (by decide +kernel)]; kernel_rfl) | (rw [if_neg (by decide +kernel)]; exact ⟨rfl, rfl⟩))
    (fun os started H enc hx => lifted os started H enc)

/-- the statement: the row, its listed variables tied to the program's text -/
theorem card : Rows.CnfRootsCardSaid :=
  Claim7.holds_tied_plain_at .later [] [.data, .data, .data, .data, .sentinel, .sentinel, .pinned] true (true, "8ae6adcfbcae13a88e8347355fe437268045a46a7e9e6e847fe479540f83d3b6") true
    proved (fun _ h => by cases h) (by kernel_rfl) (fun _ h => by cases h) cnfRoots_row_tie rfl ⟨rfl, rfl⟩ (by kernel_rfl) rfl
    (fun f fn hf hfn => by
      obtain rfl : f = 7 := Option.some.inj ((show Tryz.prog.funcNamed Rows.cnfRootsRow.func = some 7 by kernel_rfl).symm.trans hf) |>.symm
      obtain rfl : fn = Tryz.f7 := (Option.some.inj (Tryz.func7.symm.trans hfn)).symm
      refine ⟨by kernel_rfl, fun j t ht => ?_⟩
      rw [Tryz.params7] at ht
      rcases j with _ | _ | _ | _ | j
      · obtain rfl : 22 = t := Option.some.inj (show some 22 = some t from ht)
        exact (show Tryz.prog.wantsStandIn 22 = false by kernel_rfl)
      · obtain rfl : 37 = t := Option.some.inj (show some 37 = some t from ht)
        exact (show Tryz.prog.wantsStandIn 37 = false by kernel_rfl)
      · obtain rfl : 23 = t := Option.some.inj (show some 23 = some t from ht)
        exact (show Tryz.prog.wantsStandIn 23 = false by kernel_rfl)
      · obtain rfl : 5 = t := Option.some.inj (show some 5 = some t from ht)
        exact (show Tryz.prog.wantsStandIn 5 = false by kernel_rfl)
      · simp at ht)
    (by kernel_rfl)
#print axioms card
end Go.Proofs.YtopgbgnmjogeeaaGreatDoor.cnfRootsEnd
