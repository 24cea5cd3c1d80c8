/- Own texts, put together: Oi. Conditions: as told at each. -/
import Derived.Test.YtcnfcoojmbjdlaaGreatDoorMApO0
import Derived.Test.YtcnfcoojmbjdlaaGreatDoorZm
/- Chapter 26: the statement on texts that are read. Conditions: what the library's variables hold (LibA). -/
namespace Go.Z
set_option maxRecDepth 8000
set_option linter.unusedVariables false
set_option linter.unusedSimpArgs false
set_option linter.unusedSectionVars false
open Go
variable {P : Program} {n : Nat} {L : Fr} {H : List Assn} {M : Mx}
variable {dd : Option Tmp} {ty t : TypeId} {ps : String} {af : Array Edge} {gd : Option (Nat × Bool)} {x y z : Operand} {yt : Ty}
theorem p_slicesh {l : List UInt8} {k : IntKind} {j : Int} [ht : TyC P t yt] (hd : yt.d = .string) (h1 : ev L x = some (.string ⟨l.toArray⟩)) (h2 : ev L y = some (.int k j)) (h0 : 0 ≤ j ∧ j ≤ l.length) :
  Pur P M n L H ⟨dd, .slice t x none (some y) none, ty, ps, af, gd⟩ (.string ⟨(l.take j.toNat).toArray⟩) := fun a w ha _ => by
 have hu : P.underlying t = some .string := by rw [ht.u, hd]
 have hs : (⟨l.toArray⟩ : ByteArray).size = l.length := rfl
 have hr := run_slice_string_to_if (P := P) w t ⟨l.toArray⟩ k j hu
 have hat := run_sliceAt_string (P := P) (w := w) t (.string ⟨l.toArray⟩) none (some (.int k j)) none hu
 rw [if_pos ⟨h0.1, by rw [hs]; exact h0.2⟩, ByteArray.extract_mk] at hr
 rw [hr] at hat
 simp only [execOp, ha.ev h1, Option.map_some, ha.ev h2, Option.map_none, Sem.run_bind, hat, Result.andThen_ok, Sem.run_pure]
 simp
end Go.Z
namespace Go.Proofs.YtcnfcoojmbjdlaaGreatDoor
set_option maxRecDepth 8000
set_option linter.unusedVariables false
set_option linter.unusedSimpArgs false
set_option linter.unusedSectionVars false
open Go Go.Z Go.Z.Asm Go.RowKit Go.Z.Val Go.Z.Txt

theorem aparses_ok {ρ : Nat → Obj → Prop} (hk : LibA ρ) (s0 : List UInt8) (hs0 : s0.length ≤ 9223372036854775807) :
  Con Tryz.prog ρ 8 #[.string (strB s0)] [] (fun v _ => v = .bool true) := by
 have hsz : (strB s0).size = s0.length := rfl
 refine con_intro Tryz.func8 Tryz.call8 rfl Tryz.ntmps8 rfl (L := [(0, _)]) rfl fun w hh => ?_
 refine g_seq <| g_region ?_
 refine g_as ?_
 refine g_nil <| g_qt <| g_seq <| g_seq <| g_region ?_
 refine g_mv ?_
 refine g_pure (p_lens (by rfl) rfl) rfl ?_
 refine g_pure (p_gtr rfl rfl) rfl ?_
 refine g_nil <| g_qt ?_
 refine g_join (fun s : List UInt8 => [(0, .string (strB s))]) (fun _ => []) (fun s => s.length ≤ 4000) ?_ ?_
 ·refine g_ifd rfl (fun q => ?_) (fun q => ?_)
  ·refine g_region ?_
   refine g_mv ?_
   refine g_pure (p_slicesh (l := s0) (by rfl) rfl rfl (by omega)) rfl ?_
   refine g_as ?_
   refine g_nil <| g_qn ?_
   rw [show (⟨(s0.take (4000 : Int).toNat).toArray⟩ : ByteArray) = strB (s0.take 4000) from rfl]
   exact g_joinedA (s0.take 4000) (by rw [List.length_take]; omega)
  ·refine g_skip <| g_qn ?_
   exact g_joinedA s0 (by omega)
 rintro s hs
 refine g_qt ?_
 obtain ⟨o, ho⟩ : ∃ o, outP (parseR s) = o := ⟨_, rfl⟩
 obtain ⟨m1, m2, m3, m4⟩ := out_bounds ho (by omega)
 have hok := out_ok ho
 have cS : ∀ {ρ' : Nat → Obj → Prop} {xa ya ua va : Option Addr} (xc yc uc vc : Nat), ImI ρ' xa ya o.1 → ImI ρ' ua va o.1 → Con Tryz.prog ρ' 13 #[.agg #[.slice xa o.1.1.length xc, .slice ya o.1.2.length yc], .agg #[.slice ua o.1.1.length uc, .slice va o.1.2.length vc]] [] (fun v H => v = .bool true ∧ H = []) := fun xc yc uc vc h1 h2 => by
  have := rsame_ok (ec := xc) (rc := yc) (ed := uc) (rd := vc) h1 h2
  rw [decide_eq_true (p := o.1 = o.1) rfl] at this
  exact this
 have mkI : ∀ {ρ' : Nat → Obj → Prop} {xa ya : Option Addr} {xc yc : Nat}, Ro ρ' (OwnIm 3 32 45 xa ya xc yc o.1) → ImI ρ' xa ya o.1 := fun hr => own_im hr m1 m2 m3 m4
 have cA : ∀ {ρ' : Nat → Obj → Prop}, (∀ b o, ρ b o → ρ' b o) → Con Tryz.prog ρ' 25 #[.string (strB s)] [] (fun v H => ∃ ea ec ra rc, v = .tuple #[.agg #[.slice ea o.1.1.length ec, .slice ra o.1.2.length rc], .int .i64 o.2.1, .int .i64 o.2.2] ∧ H = [OwnIm 3 32 45 ea ra ec rc o.1]) := fun hρ => parseA_ok (hk.mono hρ) s (by omega) ho
 have cR : ∀ (ρ' : Nat → Obj → Prop), Con Tryz.prog ρ' 26 #[.string (strB s)] [] (fun v H => ∃ ea ec ra rc, v = .tuple #[.agg #[.slice ea o.1.1.length ec, .slice ra o.1.2.length rc], .int .i64 o.2.1, .int .i64 o.2.2] ∧ H = [OwnIm 3 32 45 ea ra ec rc o.1]) := fun ρ' => rparse_ok s (by omega) ho
 have cT : ∀ {ρ' : Nat → Obj → Prop} {xa ya : Option Addr} (xc yc : Nat), (∀ b o, ρ b o → ρ' b o) → o.2.2 = 0 → ImI ρ' xa ya o.1 → Con Tryz.prog ρ' 23 #[.agg #[.slice xa o.1.1.length xc, .slice ya o.1.2.length yc]] [] (fun v H => v = .tuple #[.string (strB s), .int .i64 0] ∧ H = []) := fun xc yc hρ h0 h1 => by
  obtain ⟨im, i1, i2, i3⟩ := hok h0
  have := textA_ok (ec := xc) (rc := yc) (hk.mono hρ).ops (hk.mono hρ).tab h1
  rw [i3, i2, if_pos rfl, parse_back i1] at this
  rw [i3]; exact this
 clear hok ho
 obtain ⟨⟨es, rts⟩, on, oe⟩ := o
 dsimp only at m1 m2 m3 m4 cS mkI cA cR cT
 refine g_seq <| g_region ?_
 refine g_mv ?_
 refine g_call (Hin := []) (Hr := ?hr1) (R := ?rr1) rfl rfl rfl ?hin1 ?hc1 ?hk1
 case hin1 => repeat' (first | exact Cover.nil | exact Take.here | apply Cover.cons | apply Take.there)
 case hc1 => intro ρ' hρ hR; exact cA hρ
 rintro _ _ ⟨xa, xc, ya, yc, rfl, rfl⟩
 refine g_mv ?_
 refine g_pure (p_extract rfl rfl) rfl ?_
 refine g_pure (p_extract rfl rfl) rfl ?_
 refine g_pure (p_extract rfl rfl) rfl ?_
 refine g_eff (e_alloc (by rfl)) rfl (fun _ _ => ?_)
 rintro ⟨b3, rfl, rfl⟩
 first | refine g_eff0 (e_storeO rfl rfl (by rfl) (by rfl) (by rfl) (by repeat' (first | exact Take.here | apply Take.there)) (by rfl)) (fun _ _ => ?_) | refine g_eff0 (e_storeN rfl rfl (by rfl) (by rfl) (by rfl) (by repeat' (first | exact Take.here | apply Take.there)) (by simp)) (fun _ _ => ?_)
 rintro rfl
 refine g_as ?_
 refine g_as ?_
 refine g_nil <| g_qt <| g_seq <| g_region ?_
 refine g_mv ?_
 refine g_call (Hin := []) (Hr := ?hr2) (R := ?rr2) rfl rfl rfl ?hin2 ?hc2 ?hk2
 case hin2 => repeat' (first | exact Cover.nil | exact Take.here | apply Cover.cons | apply Take.there)
 case hc2 => intro ρ' hρ hR; exact cR ρ'
 rintro _ _ ⟨ua, uc, va, vc, rfl, rfl⟩
 refine g_mv ?_
 refine g_pure (p_extract rfl rfl) rfl ?_
 refine g_pure (p_extract rfl rfl) rfl ?_
 refine g_pure (p_extract rfl rfl) rfl ?_
 refine g_eff (e_alloc (by rfl)) rfl (fun _ _ => ?_)
 rintro ⟨b6, rfl, rfl⟩
 first | refine g_eff0 (e_storeO rfl rfl (by rfl) (by rfl) (by rfl) (by repeat' (first | exact Take.here | apply Take.there)) (by rfl)) (fun _ _ => ?_) | refine g_eff0 (e_storeN rfl rfl (by rfl) (by rfl) (by rfl) (by repeat' (first | exact Take.here | apply Take.there)) (by simp)) (fun _ _ => ?_)
 rintro rfl
 refine g_as ?_
 refine g_as ?_
 refine g_nil <| g_qt <| g_seq <| g_seq <| g_region ?_
 refine g_mv ?_
 refine g_mv ?_
 refine g_pure (p_neqF rfl rfl rfl) rfl ?_
 refine g_mv ?_
 refine g_yesA ?_
 refine g_mv ?_
 refine g_yesA ?_
 refine g_mv ?_
 refine g_yesA ?_
 refine g_pure (p_neqF rfl rfl rfl) rfl ?_
 first | refine g_pkt ?_ | refine g_pkf ?_
 refine g_mv ?_
 refine g_yesA ?_
 first | refine g_pure (p_loadO (by rfl) rfl (by first | (apply Has.own; (repeat' (first | exact Take.here | apply Take.there)); done) | exact Has.ro (by assumption)) (by rfl)) rfl ?_ | refine g_pure (p_loadN (by rfl) rfl (by first | (apply Has.own; (repeat' (first | exact Take.here | apply Take.there)); done) | exact Has.ro (by assumption)) (by first | rfl | assumption)) rfl ?_
 refine g_yesA ?_
 first | refine g_pure (p_loadO (by rfl) rfl (by first | (apply Has.own; (repeat' (first | exact Take.here | apply Take.there)); done) | exact Has.ro (by assumption)) (by rfl)) rfl ?_ | refine g_pure (p_loadN (by rfl) rfl (by first | (apply Has.own; (repeat' (first | exact Take.here | apply Take.there)); done) | exact Has.ro (by assumption)) (by first | rfl | assumption)) rfl ?_
 refine g_yesA ?_
 refine g_call (Hin := []) (Hr := ?hr3) (R := ?rr3) rfl rfl rfl ?hin3 ?hc3 ?hk3
 case hin3 => repeat' (first | exact Cover.nil | exact Take.here | apply Cover.cons | apply Take.there)
 case hc3 => intro ρ' hρ hR; exact cS xc yc uc vc (mkI (Take.ro (A := OwnIm 3 32 45 xa ya xc yc (es, rts)) (by repeat' (first | exact Take.here | apply Take.there)) hR)) (mkI (Take.ro (A := OwnIm 3 32 45 ua va uc vc (es, rts)) (by repeat' (first | exact Take.here | apply Take.there)) hR))
 rintro _ _ ⟨rfl, rfl⟩
 refine g_yesA ?_
 refine g_pure (p_not rfl) rfl ?_
 first | refine g_pkt ?_ | refine g_pkf ?_
 refine g_nil <| g_qt ?_
 refine g_iff rfl ?_
 refine g_skip <| g_qt <| g_seq <| g_seq <| g_region ?_
 refine g_mv ?_
 refine g_pure (p_neq rfl rfl) rfl ?_
 refine g_nil <| g_qt ?_
 refine g_ifndL rfl (fun h4 => ?_) (fun h4 => ?_)
 ·refine g_seq <| g_region ?_
  refine g_call (Hin := []) (Hr := ?hr4) (R := ?rr4) rfl rfl rfl ?hin4 ?hc4 ?hk4
  case hin4 => repeat' (first | exact Cover.nil | exact Take.here | apply Cover.cons | apply Take.there)
  case hc4 => intro ρ' hρ hR; exact lives_ok (hk.mono hρ)
  rintro _ _ ⟨rfl, rfl⟩
  refine g_as ?_
  refine g_nil <| g_qt <| g_ret <| g_qt_ret ?_
  exact g_postA (rs := [.tmp 2]) rfl (.tmp rfl .nil) rfl
 ·refine g_skip <| g_qt <| g_seq <| g_region ?_
  first | refine g_pure (p_loadO (by rfl) rfl (by first | (apply Has.own; (repeat' (first | exact Take.here | apply Take.there)); done) | exact Has.ro (by assumption)) (by rfl)) rfl ?_ | refine g_pure (p_loadN (by rfl) rfl (by first | (apply Has.own; (repeat' (first | exact Take.here | apply Take.there)); done) | exact Has.ro (by assumption)) (by first | rfl | assumption)) rfl ?_
  refine g_call (Hin := []) (Hr := ?hr5) (R := ?rr5) rfl rfl rfl ?hin5 ?hc5 ?hk5
  case hin5 => repeat' (first | exact Cover.nil | exact Take.here | apply Cover.cons | apply Take.there)
  case hc5 => intro ρ' hρ hR; exact cT xc yc hρ (by omega) (mkI (Take.ro (A := OwnIm 3 32 45 xa ya xc yc (es, rts)) (by repeat' (first | exact Take.here | apply Take.there)) hR))
  rintro _ _ ⟨rfl, rfl⟩
  refine g_mv ?_
  refine g_pure (p_extract rfl rfl) rfl ?_
  refine g_pure (p_extract rfl rfl) rfl ?_
  refine g_as ?_
  refine g_as ?_
  refine g_nil <| g_qt <| g_seq <| g_region ?_
  refine g_mv ?_
  refine g_pure (p_eqlT rfl rfl rfl) rfl ?_
  refine g_mv ?_
  refine g_yesA ?_
  refine g_mv ?_
  refine g_yesA ?_
  refine g_mv ?_
  refine g_yesA ?_
  refine g_pure (p_eqlsT (by rfl) rfl rfl rfl) rfl ?_
  first | refine g_pkt ?_ | refine g_pkf ?_
  refine g_mv ?_
  refine g_yesA ?_
  refine g_call (Hin := []) (Hr := ?hr6) (R := ?rr6) rfl rfl rfl ?hin6 ?hc6 ?hk6
  case hin6 => repeat' (first | exact Cover.nil | exact Take.here | apply Cover.cons | apply Take.there)
  case hc6 => intro ρ' hρ hR; exact lives_ok (hk.mono hρ)
  rintro _ _ ⟨rfl, rfl⟩
  first | refine g_pkt ?_ | refine g_pkf ?_
  refine g_as ?_
  refine g_nil <| g_qt <| g_ret ?_
  exact g_postA (rs := [.tmp 2]) rfl (.tmp rfl .nil) rfl
theorem aparsesB_ok {ρ : Nat → Obj → Prop} (hk : LibA ρ) (s : ByteArray) (hsz : s.size ≤ 9223372036854775807) :
  Con Tryz.prog ρ 8 #[.string s] [] (fun v _ => v = .bool true) := by
 obtain ⟨t, rfl⟩ : ∃ t, s = strB t := ⟨s.data.toList, by apply ByteArray.ext; apply Array.ext'; rfl⟩
 exact aparses_ok hk t hsz
end Go.Proofs.YtcnfcoojmbjdlaaGreatDoor
