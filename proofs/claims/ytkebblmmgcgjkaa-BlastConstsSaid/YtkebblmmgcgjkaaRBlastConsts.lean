/- The row of BlastConsts: at every input the statement's function returns true and every argument reads as before. Conditions: none. -/
import Derived.Test.YtkebblmmgcgjkaaK7
import Derived.Test.YtkebblmmgcgjkaaRows
namespace Go.Proofs.Ytkebblmmgcgjkaa.blastConstsEnd
set_option linter.unusedVariables false
set_option linter.unusedSimpArgs false
open Go Go.Z Go.Z.Val Go.ChangeShapes Go.WideShapes Go.ChangeAt Go.RowKit

theorem own : ownKnob Try.prog.godebug = none := by kernel_rfl
theorem laidOut : laidOutB Try.prog = true := by kernel_rfl

set_option maxRecDepth 100000 in
theorem lifted (os : Os) (started : os.Started) (H : Type) (enc : TypeId × Value → H) :
    ReturnsInHanded {} Try.checked os 4 .any (Rows.blastConstsSpec.pre6 enc Try.prog Try.f4 Rows.blastConstsRow.domain false) (Rows.blastConstsSpec.post enc Try.prog Try.f4 false true false false) := by
  refine returnsInHanded_of_change (C := Try.checked) own started (by kernel_rfl) Try.func4
    (ChangeSpec.witness6 (enc := enc) (C := Try.checked) false ⟨#[], #[.slice none 0 0, .int .i64 0, .int .i64 0, .slice none 0 0], []⟩ 8 (by kernel_rfl) (by kernel_rfl) (by kernel_rfl) (by kernel_rfl)) ?_
  intro W base args ds gs before hval0 hW hcnd hx0
  have hval : ∀ (j : Nat) t v, Try.f4.params[j]? = some t → args[j]? = some v → Value.okWide Try.prog W .any base t v := hval0
  have hW' := hW
  obtain ⟨p, q, hA, hV, rfl, hfz, hnd⟩ := hW
  have hA0 : DataW.TrodAll enc Try.prog W 0 (fun _ => true) true Try.f4.params.toList args.toList ds p := hA
  rw [Try.params4] at hA0 hval
  have hA1 := hA0
  obtain ⟨v0, vs0, d0, ds0, p0, q0x, hargs, rfl, rfl, h0, r0x⟩ := trodAll_cons hA0
  obtain ⟨v1, vs1, d1, ds1, p1, q1x, rfl, rfl, rfl, h1, r1x⟩ := trodAll_cons r0x
  obtain ⟨v2, vs2, d2, ds2, p2, q2x, rfl, rfl, rfl, h2, r2x⟩ := trodAll_cons r1x
  obtain ⟨v3, vs3, d3, ds3, p3, q3x, rfl, rfl, rfl, h3, r3x⟩ := trodAll_cons r2x
  obtain ⟨rfl, rfl, rfl⟩ := trodAll_nil r3x
  obtain rfl : args = #[v0, v1, v2, v3] := by cases args; simp_all
  obtain ⟨rfl, rfl⟩ := trodVars_none hV
  obtain ⟨a0, len0, cap0, rfl⟩ := okWide_slice Try.underlying48 (hval 0 48 v0 rfl rfl)
  obtain ⟨s0, c0, l0, e0, hl0, hm0, q0, r0⟩ := rd_enums (Rdx.of h0)
  cases e0
  obtain ⟨a1, rfl⟩ := okWide_int Try.underlying3 (hval 1 3 v1 rfl rfl)
  obtain ⟨n1, e1, w1⟩ := rd_int Try.underlying3 (Rdx.of h1)
  cases e1
  obtain ⟨a2, rfl⟩ := okWide_int Try.underlying3 (hval 2 3 v2 rfl rfl)
  obtain ⟨n2, e2, w2⟩ := rd_int Try.underlying3 (Rdx.of h2)
  cases e2
  obtain ⟨a3, len3, cap3, rfl⟩ := okWide_slice Try.underlying41 (hval 3 41 v3 rfl rfl)
  obtain ⟨s3, c3, l3, e3, hl3, hm3, q3, r3⟩ := rd_list1 (fun _ => True) (fun b => .bool b) Try.underlying41 (by kernel_rfl) (fun c h => let ⟨b, e⟩ := rd_bool Try.underlying4 h; ⟨b, e, trivial⟩) (Rdx.of h3)
  cases e3
  refine (law_calls (P := Try.prog) (W := W) (f := 4) (bconsts_ok ⟨r0, q0⟩ (Nat.le_trans hl0 hm0) a1 a2 (wf_i64 w1) (wf_i64 w2) r3 (Nat.le_trans hl3 hm3))).mono fun e W' ⟨he, bel⟩ => ?_
  subst he
  exact ⟨_, rfl, _, _, _, [], _, [], hW', trodAll_mk1 (shut_bool Try.underlying4 _), trodAll_below laidOut bel (by kernel_rfl) hA1, rfl, bel.frame _, fun h => by cases h⟩

/-- the statement -/
theorem proved : Rows.BlastConstsSaid :=
  OpenClaim.holds_of_wide 4 Try.f4 rfl rfl rfl rfl rfl rfl rfl ⟨rfl, rfl, rfl, rfl, rfl⟩ rfl rfl rfl rfl rfl (by kernel_rfl) Try.func4 (by kernel_rfl)
    (of_decide_eq_true (by kernel_rfl)) (by unfold Func.isWrapper; first | (rw [if_pos (by decide +kernel)]; kernel_rfl) | (rw [if_neg (by decide +kernel)]; exact ⟨rfl, rfl⟩))
    (fun os started H enc hx => lifted os started H enc)
#print axioms proved
end Go.Proofs.Ytkebblmmgcgjkaa.blastConstsEnd
