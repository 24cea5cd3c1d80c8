/- Chapter 05: the examples of the laws. Conditions: what the library's variables hold (LibK). -/
import Derived.Test.YtkbofpcnhjopaaaDoorH3
namespace Go.Proofs.YtkbofpcnhjopaaaDoor
set_option maxRecDepth 8000
set_option linter.unusedVariables false
set_option linter.unusedSimpArgs false
set_option linter.unusedSectionVars false
open Go Go.Z Go.Z.Val

def redT : ByteArray := ⟨#[82, 101, 100]⟩
def greenT : ByteArray := ⟨#[71, 114, 101, 101, 110]⟩
def lightT : ByteArray := ⟨#[76, 105, 103, 104, 116]⟩
def lightE (b : Nat) : En := (lightT, some ⟨b, 0, none⟩, 2, [redT, greenT])
theorem light_en {ρ : Nat → Obj → Prop} {b1 b3 : Nat} {T T' : TypeId} {fz fz' : Nat × Nat} (h : ρ b3 (.cells [.string lightT, .slice (some ⟨b1, 0, none⟩) 2 2].toArray T fz)) (h1 : ρ b1 (.cells [.string redT, .string greenT].toArray T' fz')) : EnR ρ (some ⟨b3, 0, none⟩) [lightE b1] := by
  refine ⟨RSl.of_blk (k := 1) (size := 2) h (by simp), fun e he => ?_⟩
  rw [List.mem_singleton] at he
  subst he
  refine ⟨RSl.of_blk (k := 2) (size := 1) h1 (by simp), (by decide : 5 ≤ maxLen), ?_, (by decide : 2 ≤ maxLen)⟩
  intro s hs
  rcases List.mem_cons.1 hs with rfl | hs
  · decide
  · rcases List.mem_cons.1 hs with rfl | hs
    · decide
    · cases hs
theorem one_max : 1 ≤ maxLen := by decide
theorem light_ok {ρ : Nat → Obj → Prop} : Con Tryd.prog ρ 22 #[] [] (fun v H => ∃ b1 b3, v = .slice (some ⟨b3, 0, none⟩) 1 1 ∧ H = [Blk b3 (.cells [.string lightT, .slice (some ⟨b1, 0, none⟩) 2 2].toArray 54 (0, 0)), Blk b1 (.cells [.string redT, .string greenT].toArray 9 (0, 0))]) := by
  refine con_intro Tryd.func22 Tryd.call22 rfl Tryd.ntmps22 rfl (L := []) rfl fun w hh => ?_
  refine g_seq ?_
  refine g_region ?_
  refine g_pure (p_assign rfl) rfl ?_
  refine g_nil ?_
  refine g_qt ?_
  refine g_seq ?_
  refine g_region ?_
  refine g_eff (e_bs (xs := [.const (.string (⟨#[82, 101, 100]⟩)), .const (.string (⟨#[71, 114, 101, 101, 110]⟩))]) rfl rfl rfl (by rfl) (by rfl) rfl (by rfl)) rfl (fun _ _ => ?_)
  rintro ⟨b1, rfl, rfl⟩
  refine g_pure (p_build (by rfl) rfl (by rfl)) rfl ?_
  refine g_eff (e_bs (xs := [.tmp 2]) rfl rfl rfl (by rfl) (by rfl) rfl (by rfl)) rfl (fun _ _ => ?_)
  rintro ⟨b3, rfl, rfl⟩
  refine g_pure (p_assign rfl) rfl ?_
  refine g_nil ?_
  refine g_qt ?_
  refine g_ret ?_
  exact g_post (rs := [.tmp 0]) rfl (.tmp rfl .nil) ⟨_, _, rfl, rfl⟩ (by repeat' (first | exact Cover.nil | exact Take.here | apply Cover.cons | apply Take.there))
theorem text_light (b : Nat) : textF [lightE b] 3 1 = (greenT, 0) := by
  have h1 : known [lightE b] 3 := .inr (.inr (by simp))
  have h2 : tyHas [lightE b] 3 1 := by
    unfold tyHas; rw [if_neg (by decide)]
    exact ⟨by decide, by show (1 : Int) < tagN [lightE b] 3; exact (by decide : (1 : Int) < 2)⟩
  unfold textF
  rw [if_neg (not_not_intro h1), if_neg (not_not_intro h2), if_neg (by decide), if_neg (by decide)]
  rfl
theorem num5 : numF ⟨#[45, 53]⟩ = some (-5) := by
  have h : Lib.atoiAll (⟨#[45, 53]⟩ : ByteArray).data.toList = .ok (-5) := by decide
  have h2 : Lib.itoa (-5) = [45, 53] := by
    unfold Lib.itoa; rw [if_pos (by decide)]
    rw [Lib.decDigits]; rfl
  unfold numF
  rw [h]
  dsimp only
  rw [h2, if_pos ⟨by decide, rfl⟩]
theorem parse_light (b : Nat) : parseF [lightE b] 2 ⟨#[45, 53]⟩ = (-5, 0) := by
  unfold parseF
  rw [if_neg (not_not_intro (.inr (.inl rfl))), if_pos rfl, num5]

theorem vawake_ok {ρ : Nat → Obj → Prop} (hk : LibK ρ) : Con Tryd.prog ρ 12 #[] [] (fun v H => v = .bool true ∧ H = []) := by
  refine con_intro Tryd.func12 Tryd.call12 rfl Tryd.ntmps12 rfl (L := []) rfl fun w hh => ?_
  refine g_seq ?_
  refine g_region ?_
  refine g_pure (p_assign rfl) rfl ?_
  refine g_nil ?_
  refine g_qt ?_
  refine g_seq ?_
  refine g_region ?_
  refine g_call (Hin := []) (Hr := ?hr1) (R := ?rr1) rfl rfl rfl ?hin1 ?hc1 ?hk1
  case hin1 => repeat' (first | exact Cover.nil | exact Take.here | apply Cover.cons | apply Take.there)
  case hc1 => intro ρ' hρ hR; exact light_ok
  rintro _ _ ⟨b1, b3, rfl, rfl⟩
  refine g_call (Hin := []) (Hr := ?hr2) (R := ?rr2) rfl rfl rfl ?hin2 ?hc2 ?hk2
  case hin2 => repeat' (first | exact Cover.nil | exact Take.here | apply Cover.cons | apply Take.there)
  case hc2 => intro ρ' hρ hR; exact text_ok (hk.mono hρ) (l := [lightE b1]) (light_en hR.1.blk hR.2.1.blk) one_max 3 1 ⟨by decide, by decide⟩
  rintro _ _ ⟨rfl, rfl⟩
  rw [text_light]
  dsimp only
  refine g_pure (p_move rfl) rfl ?_
  refine g_pure (p_extract rfl rfl) rfl ?_
  refine g_pure (p_extract rfl rfl) rfl ?_
  refine g_pure (p_assign rfl) rfl ?_
  refine g_pure (p_assign rfl) rfl ?_
  refine g_nil ?_
  refine g_qt ?_
  refine g_seq ?_
  refine g_region ?_
  refine g_call (Hin := []) (Hr := ?hr3) (R := ?rr3) rfl rfl rfl ?hin3 ?hc3 ?hk3
  case hin3 => repeat' (first | exact Cover.nil | exact Take.here | apply Cover.cons | apply Take.there)
  case hc3 => intro ρ' hρ hR; exact light_ok
  rintro _ _ ⟨b4, b5, rfl, rfl⟩
  refine g_call (Hin := []) (Hr := ?hr4) (R := ?rr4) rfl rfl rfl ?hin4 ?hc4 ?hk4
  case hin4 => repeat' (first | exact Cover.nil | exact Take.here | apply Cover.cons | apply Take.there)
  case hc4 => intro ρ' hρ hR; exact parse_ok (hk.mono hρ) (l := [lightE b4]) (light_en hR.1.blk hR.2.1.blk) one_max 2 ⟨by decide, by decide⟩ ⟨#[45, 53]⟩ (fun _ => by decide)
  rintro _ _ ⟨rfl, rfl⟩
  rw [parse_light]
  dsimp only
  refine g_pure (p_move rfl) rfl ?_
  refine g_pure (p_extract rfl rfl) rfl ?_
  refine g_pure (p_extract rfl rfl) rfl ?_
  refine g_pure (p_assign rfl) rfl ?_
  refine g_pure (p_assign rfl) rfl ?_
  refine g_nil ?_
  refine g_qt ?_
  refine g_seq ?_
  refine g_region ?_
  refine g_eff (e_bs (xs := [.const (.int .i64 (-7)), .const (.int .i64 2)]) rfl rfl rfl (by rfl) (by rfl) rfl (by rfl)) rfl (fun _ _ => ?_)
  rintro ⟨b23, rfl, rfl⟩
  refine g_call (Hin := []) (Hr := ?hr5) (R := ?rr5) rfl rfl rfl ?hin5 ?hc5 ?hk5
  case hin5 => repeat' (first | exact Cover.nil | exact Take.here | apply Cover.cons | apply Take.there)
  case hc5 => intro ρ' hρ hR; exact apply_ok 9 (args := [-7, 2]) (RSl.of_blk hR.1.blk (by decide)) (by decide)
  rintro _ _ ⟨rfl, rfl⟩
  rw [show applyF 9 [-7, 2] = (-3, 0) from by decide]
  dsimp only
  refine g_pure (p_move rfl) rfl ?_
  refine g_pure (p_extract rfl rfl) rfl ?_
  refine g_pure (p_extract rfl rfl) rfl ?_
  refine g_pure (p_assign rfl) rfl ?_
  refine g_pure (p_assign rfl) rfl ?_
  refine g_nil ?_
  refine g_qt ?_
  refine g_seq ?_
  refine g_region ?_
  refine g_eff (e_bs (xs := [.const (.int .i64 32767), .const (.int .i64 1)]) rfl rfl rfl (by rfl) (by rfl) rfl (by rfl)) rfl (fun _ _ => ?_)
  rintro ⟨b28, rfl, rfl⟩
  refine g_call (Hin := []) (Hr := ?hr6) (R := ?rr6) rfl rfl rfl ?hin6 ?hc6 ?hk6
  case hin6 => repeat' (first | exact Cover.nil | exact Take.here | apply Cover.cons | apply Take.there)
  case hc6 => intro ρ' hρ hR; exact apply_ok 6 (args := [32767, 1]) (RSl.of_blk hR.1.blk (by decide)) (by decide)
  rintro _ _ ⟨rfl, rfl⟩
  rw [show applyF 6 [32767, 1] = (-32768, 0) from by decide]
  dsimp only
  refine g_pure (p_move rfl) rfl ?_
  refine g_pure (p_extract rfl rfl) rfl ?_
  refine g_pure (p_extract rfl rfl) rfl ?_
  refine g_pure (p_assign rfl) rfl ?_
  refine g_pure (p_assign rfl) rfl ?_
  refine g_nil ?_
  refine g_qt ?_
  refine g_seq ?_
  refine g_region ?_
  refine g_eff (e_bs (xs := [.const (.int .i64 7), .const (.int .i64 7)]) rfl rfl rfl (by rfl) (by rfl) rfl (by rfl)) rfl (fun _ _ => ?_)
  rintro ⟨b33, rfl, rfl⟩
  refine g_call (Hin := []) (Hr := ?hr7) (R := ?rr7) rfl rfl rfl ?hin7 ?hc7 ?hk7
  case hin7 => repeat' (first | exact Cover.nil | exact Take.here | apply Cover.cons | apply Take.there)
  case hc7 => intro ρ' hρ hR; exact result_ok 11 (ts := [7, 7]) (RSl.of_blk hR.1.blk (by decide)) (by decide)
  rintro _ _ ⟨rfl, rfl⟩
  rw [show resultF 11 [7, 7] = (1, 0) from by decide]
  dsimp only
  refine g_pure (p_move rfl) rfl ?_
  refine g_pure (p_extract rfl rfl) rfl ?_
  refine g_pure (p_extract rfl rfl) rfl ?_
  refine g_pure (p_assign rfl) rfl ?_
  refine g_pure (p_assign rfl) rfl ?_
  refine g_nil ?_
  refine g_qt ?_
  refine g_seq ?_
  refine g_region ?_
  refine g_pure (p_build (by rfl) rfl (by rfl)) rfl ?_
  refine g_pure (p_build (by rfl) rfl (by rfl)) rfl ?_
  refine g_eff (e_bs (xs := [.tmp 37, .tmp 38]) rfl rfl rfl (by rfl) (by rfl) rfl (by rfl)) rfl (fun _ _ => ?_)
  rintro ⟨b39, rfl, rfl⟩
  refine g_call (Hin := []) (Hr := ?hr8) (R := ?rr8) rfl rfl rfl ?hin8 ?hc8 ?hk8
  case hin8 => repeat' (first | exact Cover.nil | exact Take.here | apply Cover.cons | apply Take.there)
  case hc8 => intro ρ' hρ hR; exact lift_ok 6 (l := [(1, 2), (2, 0)]) (RSl.of_blk hR.1.blk (by decide)) (by decide)
  rintro _ _ ⟨rfl, rfl⟩
  rw [show liftF 6 [(1, 2), (2, 0)] = (2, 0) from by decide]
  unfold aggC
  dsimp only
  refine g_eff (e_alloc (by rfl)) rfl (fun _ _ => ?_)
  rintro ⟨b11, rfl, rfl⟩
  first | refine g_eff0 (e_storeO rfl rfl (by rfl) (by rfl) (by rfl) (by repeat' (first | exact Take.here | apply Take.there)) (by rfl)) (fun _ _ => ?_) | refine g_eff0 (e_storeN rfl rfl (by rfl) (by rfl) (by rfl) (by repeat' (first | exact Take.here | apply Take.there)) (by simp)) (fun _ _ => ?_)
  rintro rfl
  refine g_nil ?_
  refine g_qt ?_
  refine g_seq ?_
  refine g_region ?_
  refine g_pure (p_move rfl) rfl ?_
  refine g_pure (p_eqlsT (by rfl) rfl rfl rfl) rfl ?_
  refine g_pure (p_move rfl) rfl ?_
  refine g_yes rfl rfl ?_
  refine g_pure (p_move rfl) rfl ?_
  refine g_yes rfl rfl ?_
  refine g_pure (p_eql rfl rfl) rfl ?_
  first | refine g_pure (p_pickt rfl rfl) rfl ?_ | refine g_pure (p_pickf rfl rfl) rfl ?_
  refine g_pure (p_move rfl) rfl ?_
  refine g_yes rfl rfl ?_
  refine g_pure (p_move rfl) rfl ?_
  refine g_yes rfl rfl ?_
  refine g_pure (p_eql rfl rfl) rfl ?_
  first | refine g_pure (p_pickt rfl rfl) rfl ?_ | refine g_pure (p_pickf rfl rfl) rfl ?_
  refine g_pure (p_move rfl) rfl ?_
  refine g_yes rfl rfl ?_
  refine g_pure (p_move rfl) rfl ?_
  refine g_yes rfl rfl ?_
  refine g_pure (p_eql rfl rfl) rfl ?_
  first | refine g_pure (p_pickt rfl rfl) rfl ?_ | refine g_pure (p_pickf rfl rfl) rfl ?_
  refine g_pure (p_move rfl) rfl ?_
  refine g_yes rfl rfl ?_
  refine g_pure (p_move rfl) rfl ?_
  refine g_yes rfl rfl ?_
  refine g_pure (p_eql rfl rfl) rfl ?_
  first | refine g_pure (p_pickt rfl rfl) rfl ?_ | refine g_pure (p_pickf rfl rfl) rfl ?_
  refine g_pure (p_move rfl) rfl ?_
  refine g_yes rfl rfl ?_
  refine g_pure (p_move rfl) rfl ?_
  refine g_yes rfl rfl ?_
  refine g_pure (p_eql rfl rfl) rfl ?_
  first | refine g_pure (p_pickt rfl rfl) rfl ?_ | refine g_pure (p_pickf rfl rfl) rfl ?_
  refine g_pure (p_move rfl) rfl ?_
  refine g_yes rfl rfl ?_
  refine g_pure (p_move rfl) rfl ?_
  refine g_yes rfl rfl ?_
  refine g_pure (p_eql rfl rfl) rfl ?_
  first | refine g_pure (p_pickt rfl rfl) rfl ?_ | refine g_pure (p_pickf rfl rfl) rfl ?_
  refine g_pure (p_move rfl) rfl ?_
  refine g_yes rfl rfl ?_
  refine g_pure (p_move rfl) rfl ?_
  refine g_yes rfl rfl ?_
  refine g_pure (p_eql rfl rfl) rfl ?_
  first | refine g_pure (p_pickt rfl rfl) rfl ?_ | refine g_pure (p_pickf rfl rfl) rfl ?_
  refine g_pure (p_move rfl) rfl ?_
  refine g_yes rfl rfl ?_
  refine g_pure (p_move rfl) rfl ?_
  refine g_yes rfl rfl ?_
  refine g_pure (p_eql rfl rfl) rfl ?_
  first | refine g_pure (p_pickt rfl rfl) rfl ?_ | refine g_pure (p_pickf rfl rfl) rfl ?_
  refine g_pure (p_move rfl) rfl ?_
  refine g_yes rfl rfl ?_
  refine g_pure (p_move rfl) rfl ?_
  refine g_yes rfl rfl ?_
  refine g_pure (p_eql rfl rfl) rfl ?_
  first | refine g_pure (p_pickt rfl rfl) rfl ?_ | refine g_pure (p_pickf rfl rfl) rfl ?_
  refine g_pure (p_move rfl) rfl ?_
  refine g_yes rfl rfl ?_
  refine g_pure (p_fieldAddr rfl) rfl ?_
  refine g_yes rfl rfl ?_
  refine g_pure (p_load (by rfl) rfl (by first | (apply Has.own; (repeat' (first | exact Take.here | apply Take.there)); done) | exact Has.ro (by assumption)) (by first | rfl | assumption)) rfl ?_
  refine g_yes rfl rfl ?_
  refine g_pure (p_eql rfl rfl) rfl ?_
  first | refine g_pure (p_pickt rfl rfl) rfl ?_ | refine g_pure (p_pickf rfl rfl) rfl ?_
  refine g_pure (p_move rfl) rfl ?_
  refine g_yes rfl rfl ?_
  refine g_call (Hin := []) (Hr := ?hr9) (R := ?rr9) rfl rfl rfl ?hin9 ?hc9 ?hk9
  case hin9 => repeat' (first | exact Cover.nil | exact Take.here | apply Cover.cons | apply Take.there)
  case hc9 => intro ρ' hρ hR; exact light_ok
  rintro _ _ ⟨b6, b7, rfl, rfl⟩
  refine g_yes rfl rfl ?_
  refine g_call (Hin := []) (Hr := ?hr10) (R := ?rr10) rfl rfl rfl ?hin10 ?hc10 ?hk10
  case hin10 => repeat' (first | exact Cover.nil | exact Take.here | apply Cover.cons | apply Take.there)
  case hc10 => intro ρ' hρ hR; exact size_ok (l := [lightE b6]) (light_en hR.1.blk hR.2.1.blk) one_max 3 ⟨by decide, by decide⟩
  rintro _ _ ⟨rfl, rfl⟩
  rw [show tagN [lightE b6] 3 = 2 from rfl]
  refine g_yes rfl rfl ?_
  refine g_pure (p_eql rfl rfl) rfl ?_
  first | refine g_pure (p_pickt rfl rfl) rfl ?_ | refine g_pure (p_pickf rfl rfl) rfl ?_
  refine g_pure (p_assign rfl) rfl ?_
  refine g_nil ?_
  refine g_qt ?_
  refine g_ret ?_
  exact g_post (Ho := []) (rs := [.tmp 0]) rfl (.tmp rfl .nil) ⟨rfl, rfl⟩ .nil
end Go.Proofs.YtkbofpcnhjopaaaDoor
