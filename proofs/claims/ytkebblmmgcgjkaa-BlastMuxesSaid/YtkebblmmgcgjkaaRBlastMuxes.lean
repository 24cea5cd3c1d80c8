/- The row of BlastMuxes: at every input the statement's function returns true and every argument reads as before. Conditions: none. -/
import Derived.Test.YtkebblmmgcgjkaaM1
import Derived.Test.YtkebblmmgcgjkaaRows
namespace Go.Proofs.Ytkebblmmgcgjkaa.blastMuxesEnd
set_option linter.unusedVariables false
set_option linter.unusedSimpArgs false
open Go Go.Z Go.Z.Val Go.ChangeShapes Go.WideShapes Go.ChangeAt Go.RowKit

theorem own : ownKnob Try.prog.godebug = none := by kernel_rfl
theorem laidOut : laidOutB Try.prog = true := by kernel_rfl

set_option maxRecDepth 100000 in
theorem lifted (os : Os) (started : os.Started) (H : Type) (enc : TypeId × Value → H) :
    ReturnsInHanded {} Try.checked os 6 .any (Rows.blastMuxesSpec.pre6 enc Try.prog Try.f6 Rows.blastMuxesRow.domain false) (Rows.blastMuxesSpec.post enc Try.prog Try.f6 false true false false) := by
  refine returnsInHanded_of_change (C := Try.checked) own started (by kernel_rfl) Try.func6
    (ChangeSpec.witness6 (enc := enc) (C := Try.checked) false ⟨#[], #[.int .i64 0, .slice none 0 0, .slice none 0 0, .int .u8 0], []⟩ 8 (by kernel_rfl) (by kernel_rfl) (by kernel_rfl) (by kernel_rfl)) ?_
  intro W base args ds gs before hval0 hW hcnd hx0
  have hval : ∀ (j : Nat) t v, Try.f6.params[j]? = some t → args[j]? = some v → Value.okWide Try.prog W .any base t v := hval0
  have hW' := hW
  obtain ⟨p, q, hA, hV, rfl, hfz, hnd⟩ := hW
  have hA0 : DataW.TrodAll enc Try.prog W 0 (fun _ => true) true Try.f6.params.toList args.toList ds p := hA
  rw [Try.params6] at hA0 hval
  have hA1 := hA0
  obtain ⟨v0, vs0, d0, ds0, p0, q0x, hargs, rfl, rfl, h0, r0x⟩ := trodAll_cons hA0
  obtain ⟨v1, vs1, d1, ds1, p1, q1x, rfl, rfl, rfl, h1, r1x⟩ := trodAll_cons r0x
  obtain ⟨v2, vs2, d2, ds2, p2, q2x, rfl, rfl, rfl, h2, r2x⟩ := trodAll_cons r1x
  obtain ⟨v3, vs3, d3, ds3, p3, q3x, rfl, rfl, rfl, h3, r3x⟩ := trodAll_cons r2x
  obtain ⟨rfl, rfl, rfl⟩ := trodAll_nil r3x
  obtain rfl : args = #[v0, v1, v2, v3] := by cases args; simp_all
  obtain ⟨rfl, rfl⟩ := trodVars_none hV
  obtain ⟨a0, rfl⟩ := okWide_int Try.underlying3 (hval 0 3 v0 rfl rfl)
  obtain ⟨n0, e0, w0⟩ := rd_int Try.underlying3 (Rdx.of h0)
  cases e0
  obtain ⟨a1, len1, cap1, rfl⟩ := okWide_slice Try.underlying66 (hval 1 66 v1 rfl rfl)
  obtain ⟨s1, c1, l1, e1, hl1, hm1, q1, r1⟩ := rd_list1 (fun n => (Lit.int .i64 n).wf = true) (fun n => .int .i64 n) Try.underlying66 (by kernel_rfl) (fun c h => rd_int Try.underlying3 h) (Rdx.of h1)
  cases e1
  obtain ⟨a2, len2, cap2, rfl⟩ := okWide_slice Try.underlying66 (hval 2 66 v2 rfl rfl)
  obtain ⟨s2, c2, l2, e2, hl2, hm2, q2, r2⟩ := rd_list1 (fun n => (Lit.int .i64 n).wf = true) (fun n => .int .i64 n) Try.underlying66 (by kernel_rfl) (fun c h => rd_int Try.underlying3 h) (Rdx.of h2)
  cases e2
  obtain ⟨a3, rfl⟩ := okWide_int Try.underlying5 (hval 3 5 v3 rfl rfl)
  obtain ⟨n3, e3, w3⟩ := rd_int Try.underlying5 (Rdx.of h3)
  cases e3
  refine (law_calls (P := Try.prog) (W := W) (f := 6) (bmuxes_ok a0 a3 (wf_i64 w0) (wf_u8 w3) r1 r2 (fun x hx => wf_i64 (q1 x hx)) (fun x hx => wf_i64 (q2 x hx)) (Nat.le_trans hl1 hm1) (Nat.le_trans hl2 hm2))).mono fun e W' ⟨he, bel⟩ => ?_
  subst he
  exact ⟨_, rfl, _, _, _, [], _, [], hW', trodAll_mk1 (shut_bool Try.underlying4 _), trodAll_below laidOut bel (by kernel_rfl) hA1, rfl, bel.frame _, fun h => by cases h⟩

/-- the statement -/
theorem proved : Rows.BlastMuxesSaid :=
  OpenClaim.holds_of_wide 6 Try.f6 rfl rfl rfl rfl rfl rfl rfl ⟨rfl, rfl, rfl, rfl, rfl⟩ rfl rfl rfl rfl rfl (by kernel_rfl) Try.func6 (by kernel_rfl)
    (of_decide_eq_true (by kernel_rfl)) (by unfold Func.isWrapper; first | (rw [if_pos (by decide +kernel)]; kernel_rfl) | (rw [if_neg (by decide +kernel)]; exact ⟨rfl, rfl⟩))
    (fun os started H enc hx => lifted os started H enc)
#print axioms proved
end Go.Proofs.Ytkebblmmgcgjkaa.blastMuxesEnd
