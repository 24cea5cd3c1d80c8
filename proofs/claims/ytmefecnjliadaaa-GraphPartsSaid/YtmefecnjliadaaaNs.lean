/- Chapter 4: the chapter's examples. Conditions: none. -/
import Derived.Test.YtmefecnjliadaaaNr
namespace Go.Proofs.Ytmefecnjliadaaa
set_option maxRecDepth 8000
set_option linter.unusedVariables false
set_option linter.unusedSimpArgs false
set_option linter.unusedSectionVars false
open Go Go.Z Go.Z.Gr Go.Z.Gra
theorem exOrder_ok {ρ : Nat → Obj → Prop} {b : Nat} {T : TypeId} {fz : Nat × Nat} (h : ρ b (.cells (flatE ex1).toArray T fz)) :
    Con Try.prog ρ 10 #[.int .i64 4, .slice (some ⟨b, 0, none⟩) 2 2] [] (fun r H => ∃ a' c', r = .tuple #[.slice a' 4 c', .int .i64 0] ∧ H = [OwnSl 3 1 a' 4 c' [.int .i64 1, .int .i64 2, .int .i64 0, .int .i64 3]]) := by
  have := order_ok 4 _ 2 ex1 (edB h) (by decide)
  rw [ex1_order] at this
  exact this
theorem exCycle_ok {ρ : Nat → Obj → Prop} {b : Nat} {T : TypeId} {fz : Nat × Nat} (h : ρ b (.cells (flatE ex2).toArray T fz)) :
    Con Try.prog ρ 14 #[.int .i64 5, .slice (some ⟨b, 0, none⟩) 5 5] [] (fun r H => ∃ a' c', r = .tuple #[.slice a' 2 c', .int .i64 0] ∧ H = [OwnSl 3 1 a' 2 c' [.int .i64 3, .int .i64 4]]) := by
  have := cycle_ok 5 _ 5 ex2 (edB h) (by decide)
  rw [ex2_cycle] at this
  exact this
theorem exNone_ok {ρ : Nat → Obj → Prop} :
    Con Try.prog ρ 14 #[.int .i64 3, .slice none 0 0] [] (fun r H => ∃ a' c', r = .tuple #[.slice a' 0 c', .int .i64 8] ∧ H = [OwnSl 3 1 a' 0 c' []]) := by
  have := cycle_ok 3 none 0 [] (edNil (ρ := ρ)) (by decide)
  rw [ex5_cycle] at this
  exact this
theorem exReach_ok {ρ : Nat → Obj → Prop} {b : Nat} {T : TypeId} {fz : Nat × Nat} (h : ρ b (.cells (flatE ex3).toArray T fz)) :
    Con Try.prog ρ 16 #[.int .i64 3, .slice (some ⟨b, 0, none⟩) 1 1, .int .i64 1] [] (fun r H => ∃ a' c' xs e, r = .tuple #[.slice a' xs.length c', .int .i64 e] ∧ H = [OwnSl 4 1 a' xs.length c' (xs.map encB)] ∧ reachA 3 ex3 1 xs e) :=
  reach_ok 3 _ 1 ex3 (edB h) (by decide) 1
theorem exParts_ok {ρ : Nat → Obj → Prop} {b : Nat} {T : TypeId} {fz : Nat × Nat} (h : ρ b (.cells (flatE ex4).toArray T fz)) :
    Con Try.prog ρ 18 #[.int .i64 4, .slice (some ⟨b, 0, none⟩) 3 3] [] (fun r H => ∃ a' c', r = .tuple #[.slice a' 3 c', .int .i64 0] ∧ H = [Own2 24 3 a' c' (([[0, 2], [1], [3]] : List (List Int)).map fun l => l.map Z.encI)]) := by
  have := parts_ok 4 _ 3 ex4 (edB h) (by decide)
  rw [ex4_parts] at this
  exact this
theorem awake_ok {ρ : Nat → Obj → Prop} : Con Try.prog ρ 13 #[] [] (fun r H => r = .bool true ∧ H = []) := by
  refine con_intro Try.func13 Try.call13 rfl Try.ntmps13 rfl (L := []) rfl fun w hh => ?_
  refine g_seq ?_
  refine g_region ?_
  refine g_pure (p_assign rfl) rfl ?_
  refine g_nil ?_
  refine g_qt ?_
  refine g_seq ?_
  refine g_region ?_
  refine g_pure (p_build (by rfl) rfl (by rfl)) rfl ?_
  refine g_pure (p_build (by rfl) rfl (by rfl)) rfl ?_
  refine g_eff (e_bs (xs := [.tmp 12, .tmp 13]) rfl rfl rfl (by rfl) (by rfl) rfl (by rfl)) rfl (fun _ _ => ?_)
  rintro ⟨b14, rfl, rfl⟩
  refine g_call (Hin := []) (Hr := ?hr1) (R := ?rr1) rfl rfl rfl ?hin1 ?hc1 ?hk1
  case hin1 => repeat' (first | exact Cover.nil | exact Take.here | apply Cover.cons | apply Take.there)
  case hc1 => intro ρ' hρ hR; exact exOrder_ok (Take.ro (A := Blk b14 _) (by repeat' (first | exact Take.here | apply Take.there)) hR).blk
  rintro _ _ ⟨aa, ac, rfl, rfl⟩
  refine g_pure (p_move rfl) rfl ?_
  refine g_pure (p_extract rfl rfl) rfl ?_
  refine g_pure (p_extract rfl rfl) rfl ?_
  refine g_pure (p_assign rfl) rfl ?_
  refine g_pure (p_assign rfl) rfl ?_
  refine g_nil ?_
  refine g_qt ?_
  refine g_seq ?_
  refine g_region ?_
  refine g_pure (p_build (by rfl) rfl (by rfl)) rfl ?_
  refine g_pure (p_build (by rfl) rfl (by rfl)) rfl ?_
  refine g_pure (p_build (by rfl) rfl (by rfl)) rfl ?_
  refine g_pure (p_build (by rfl) rfl (by rfl)) rfl ?_
  refine g_pure (p_build (by rfl) rfl (by rfl)) rfl ?_
  refine g_eff (e_bs (xs := [.tmp 19, .tmp 20, .tmp 21, .tmp 22, .tmp 23]) rfl rfl rfl (by rfl) (by rfl) rfl (by rfl)) rfl (fun _ _ => ?_)
  rintro ⟨b24, rfl, rfl⟩
  refine g_call (Hin := []) (Hr := ?hr2) (R := ?rr2) rfl rfl rfl ?hin2 ?hc2 ?hk2
  case hin2 => repeat' (first | exact Cover.nil | exact Take.here | apply Cover.cons | apply Take.there)
  case hc2 => intro ρ' hρ hR; exact exCycle_ok (Take.ro (A := Blk b24 _) (by repeat' (first | exact Take.here | apply Take.there)) hR).blk
  rintro _ _ ⟨ba, bc, rfl, rfl⟩
  refine g_pure (p_move rfl) rfl ?_
  refine g_pure (p_extract rfl rfl) rfl ?_
  refine g_pure (p_extract rfl rfl) rfl ?_
  refine g_pure (p_assign rfl) rfl ?_
  refine g_pure (p_assign rfl) rfl ?_
  refine g_nil ?_
  refine g_qt ?_
  refine g_seq ?_
  refine g_region ?_
  refine g_pure (p_build (by rfl) rfl (by rfl)) rfl ?_
  refine g_eff (e_bs (xs := [.tmp 29]) rfl rfl rfl (by rfl) (by rfl) rfl (by rfl)) rfl (fun _ _ => ?_)
  rintro ⟨b30, rfl, rfl⟩
  refine g_call (Hin := []) (Hr := ?hr3) (R := ?rr3) rfl rfl rfl ?hin3 ?hc3 ?hk3
  case hin3 => repeat' (first | exact Cover.nil | exact Take.here | apply Cover.cons | apply Take.there)
  case hc3 => intro ρ' hρ hR; exact exReach_ok (Take.ro (A := Blk b30 _) (by repeat' (first | exact Take.here | apply Take.there)) hR).blk
  rintro _ _ ⟨ca, cc, xs, e, rfl, rfl, hxs⟩
  obtain ⟨rfl, rfl⟩ := ex3_reach hxs
  refine g_pure (p_move rfl) rfl ?_
  refine g_pure (p_extract rfl rfl) rfl ?_
  refine g_pure (p_extract rfl rfl) rfl ?_
  refine g_pure (p_assign rfl) rfl ?_
  refine g_pure (p_assign rfl) rfl ?_
  refine g_nil ?_
  refine g_qt ?_
  refine g_seq ?_
  refine g_region ?_
  refine g_pure (p_build (by rfl) rfl (by rfl)) rfl ?_
  refine g_pure (p_build (by rfl) rfl (by rfl)) rfl ?_
  refine g_pure (p_build (by rfl) rfl (by rfl)) rfl ?_
  refine g_eff (e_bs (xs := [.tmp 35, .tmp 36, .tmp 37]) rfl rfl rfl (by rfl) (by rfl) rfl (by rfl)) rfl (fun _ _ => ?_)
  rintro ⟨b38, rfl, rfl⟩
  refine g_call (Hin := []) (Hr := ?hr4) (R := ?rr4) rfl rfl rfl ?hin4 ?hc4 ?hk4
  case hin4 => repeat' (first | exact Cover.nil | exact Take.here | apply Cover.cons | apply Take.there)
  case hc4 => intro ρ' hρ hR; exact exParts_ok (Take.ro (A := Blk b38 _) (by repeat' (first | exact Take.here | apply Take.there)) hR).blk
  rintro _ _ ⟨da, dc, rfl, rfl⟩
  refine g_freeze (A := Own2 _ _ da dc _) .here ?_
  intro ρ1 hρ1 hDo
  have hD : LsR ρ1 da [[0, 2], [1], [3]] := Own2.ro hDo
  clear hDo
  refine g_pure (p_move rfl) rfl ?_
  refine g_pure (p_extract rfl rfl) rfl ?_
  refine g_pure (p_extract rfl rfl) rfl ?_
  refine g_pure (p_assign rfl) rfl ?_
  refine g_pure (p_assign rfl) rfl ?_
  refine g_nil ?_
  refine g_qt ?_
  refine g_seq ?_
  refine g_region ?_
  refine g_call (Hin := []) (Hr := ?hr5) (R := ?rr5) rfl rfl rfl ?hin5 ?hc5 ?hk5
  case hin5 => repeat' (first | exact Cover.nil | exact Take.here | apply Cover.cons | apply Take.there)
  case hc5 => intro ρ' hρ hR; exact exNone_ok
  rintro _ _ ⟨ea, ec, rfl, rfl⟩
  refine g_freeze (A := OwnSl 4 1 ca _ cc _) (by repeat' (first | exact Take.here | apply Take.there)) ?_
  intro ρ2 hρ2 hCo
  obtain ⟨_, b, off, cs, T, fz, h3⟩ := RSl.of_own hCo
  obtain ⟨r1, r2, r3⟩ := h3 (by decide)
  have k0 : cs[off + (0 : Int).toNat * 1]? = some (.bool false) := r3 0 _ rfl
  have k1 : cs[off + (1 : Int).toNat * 1]? = some (.bool true) := r3 1 _ rfl
  have k2 : cs[off + (2 : Int).toNat * 1]? = some (.bool true) := r3 2 _ rfl
  clear h3 r3 hCo
  have hD := hD.mono hρ2
  obtain ⟨d1, o1, c1, T1, z1, x1, y1, s1, s2, s3, s4⟩ := hD.at (v := 0) (by decide)
  obtain ⟨d2, o2, c2, T2, z2, x2, y2, t1, t2, t3, t4⟩ := hD.at (v := 1) (by decide)
  obtain ⟨d3, o3, c3, T3, z3, x3, y3, u1, u2, u3, u4⟩ := hD.at (v := 2) (by decide)
  refine g_pure (p_move rfl) rfl ?_
  refine g_pure (p_extract rfl rfl) rfl ?_
  refine g_pure (p_extract rfl rfl) rfl ?_
  refine g_pure (p_assign rfl) rfl ?_
  refine g_pure (p_assign rfl) rfl ?_
  refine g_nil ?_
  refine g_qt ?_
  refine g_seq ?_
  refine g_seq ?_
  refine g_region ?_
  refine g_pure (p_move rfl) rfl ?_
  refine g_pure (p_neq rfl rfl) rfl ?_
  refine g_pure (p_move rfl) rfl ?_
  refine g_yes rfl rfl ?_
  refine g_pure (p_move rfl) rfl ?_
  refine g_yes rfl rfl ?_
  refine g_pure (p_neq rfl rfl) rfl ?_
  first | refine g_pure (p_pickt rfl rfl) rfl ?_ | refine g_pure (p_pickf rfl rfl) rfl ?_
  refine g_pure (p_move rfl) rfl ?_
  refine g_yes rfl rfl ?_
  refine g_pure (p_move rfl) rfl ?_
  refine g_yes rfl rfl ?_
  refine g_pure (p_neq rfl rfl) rfl ?_
  first | refine g_pure (p_pickt rfl rfl) rfl ?_ | refine g_pure (p_pickf rfl rfl) rfl ?_
  refine g_pure (p_move rfl) rfl ?_
  refine g_yes rfl rfl ?_
  refine g_pure (p_move rfl) rfl ?_
  refine g_yes rfl rfl ?_
  refine g_pure (p_neq rfl rfl) rfl ?_
  first | refine g_pure (p_pickt rfl rfl) rfl ?_ | refine g_pure (p_pickf rfl rfl) rfl ?_
  refine g_pure (p_move rfl) rfl ?_
  refine g_yes rfl rfl ?_
  refine g_pure (p_move rfl) rfl ?_
  refine g_yes rfl rfl ?_
  refine g_pure (p_neq rfl rfl) rfl ?_
  first | refine g_pure (p_pickt rfl rfl) rfl ?_ | refine g_pure (p_pickf rfl rfl) rfl ?_
  refine g_pure (p_move rfl) rfl ?_
  refine g_yes rfl rfl ?_
  refine g_pure (p_move rfl) rfl ?_
  refine g_yes rfl rfl ?_
  refine g_pure (p_len (by rfl) rfl) rfl ?_
  refine g_yes rfl rfl ?_
  refine g_pure (p_neq rfl rfl) rfl ?_
  first | refine g_pure (p_pickt rfl rfl) rfl ?_ | refine g_pure (p_pickf rfl rfl) rfl ?_
  refine g_pure (p_move rfl) rfl ?_
  refine g_yes rfl rfl ?_
  refine g_pure (p_move rfl) rfl ?_
  refine g_yes rfl rfl ?_
  refine g_pure (p_len (by rfl) rfl) rfl ?_
  refine g_yes rfl rfl ?_
  refine g_pure (p_neq rfl rfl) rfl ?_
  first | refine g_pure (p_pickt rfl rfl) rfl ?_ | refine g_pure (p_pickf rfl rfl) rfl ?_
  refine g_nil ?_
  refine g_qt ?_
  refine g_iff rfl ?_
  refine g_skip ?_
  refine g_qt ?_
  refine g_seq ?_
  refine g_region ?_
  refine g_pure (p_move rfl) rfl ?_
  refine g_eff (e_bs (xs := [.const (.int .i64 1), .const (.int .i64 2), .const (.int .i64 0), .const (.int .i64 3)]) rfl rfl rfl (by rfl) (by rfl) rfl (by rfl)) rfl (fun _ _ => ?_)
  rintro ⟨b75, rfl, rfl⟩
  refine g_call (Hin := []) (Hr := ?hr6) (R := ?rr6) rfl rfl rfl ?hin6 ?hc6 ?hk6
  case hin6 => repeat' (first | exact Cover.nil | exact Take.here | apply Cover.cons | apply Take.there)
  case hc6 => intro ρ' hρ hR; exact same_ok aa _ ac _ [1, 2, 0, 3] [1, 2, 0, 3] (RSl.of_own (Take.ro (A := OwnSl 3 1 aa 4 ac _) (by repeat' (first | exact Take.here | apply Take.there)) hR)) (rslB (l := [1, 2, 0, 3]) (Take.ro (A := Blk b75 _) (by repeat' (first | exact Take.here | apply Take.there)) hR).blk) (by decide)
  rintro _ _ ⟨rfl, rfl⟩
  refine g_pure (p_move rfl) rfl ?_
  refine g_yes rfl rfl ?_
  refine g_pure (p_move rfl) rfl ?_
  refine g_yes rfl rfl ?_
  refine g_eff (e_bs (xs := [.const (.int .i64 3), .const (.int .i64 4)]) rfl rfl rfl (by rfl) (by rfl) rfl (by rfl)) rfl (fun _ _ => ?_)
  rintro ⟨b79, rfl, rfl⟩
  refine g_yes rfl rfl ?_
  refine g_call (Hin := []) (Hr := ?hr7) (R := ?rr7) rfl rfl rfl ?hin7 ?hc7 ?hk7
  case hin7 => repeat' (first | exact Cover.nil | exact Take.here | apply Cover.cons | apply Take.there)
  case hc7 => intro ρ' hρ hR; exact same_ok ba _ bc _ [3, 4] [3, 4] (RSl.of_own (Take.ro (A := OwnSl 3 1 ba 2 bc _) (by repeat' (first | exact Take.here | apply Take.there)) hR)) (rslB (l := [3, 4]) (Take.ro (A := Blk b79 _) (by repeat' (first | exact Take.here | apply Take.there)) hR).blk) (by decide)
  rintro _ _ ⟨rfl, rfl⟩
  first | refine g_pure (p_pickt rfl rfl) rfl ?_ | refine g_pure (p_pickf rfl rfl) rfl ?_
  refine g_pure (p_move rfl) rfl ?_
  refine g_yes rfl rfl ?_
  refine g_pure (p_move rfl) rfl ?_
  refine g_yes rfl rfl ?_
  refine g_pure (p_indexAddr rfl rfl (by decide) (fun _ => r1)) rfl ?_
  refine g_yes rfl rfl ?_
  refine g_pure (p_load (by rfl) rfl (Has.ro r2) k0) rfl ?_
  refine g_yes rfl rfl ?_
  refine g_pure (p_not rfl) rfl ?_
  first | refine g_pure (p_pickt rfl rfl) rfl ?_ | refine g_pure (p_pickf rfl rfl) rfl ?_
  refine g_pure (p_move rfl) rfl ?_
  refine g_yes rfl rfl ?_
  refine g_pure (p_move rfl) rfl ?_
  refine g_yes rfl rfl ?_
  refine g_pure (p_indexAddr rfl rfl (by decide) (fun _ => r1)) rfl ?_
  refine g_yes rfl rfl ?_
  refine g_pure (p_load (by rfl) rfl (Has.ro r2) k1) rfl ?_
  first | refine g_pure (p_pickt rfl rfl) rfl ?_ | refine g_pure (p_pickf rfl rfl) rfl ?_
  refine g_pure (p_move rfl) rfl ?_
  refine g_yes rfl rfl ?_
  refine g_pure (p_move rfl) rfl ?_
  refine g_yes rfl rfl ?_
  refine g_pure (p_indexAddr rfl rfl (by decide) (fun _ => r1)) rfl ?_
  refine g_yes rfl rfl ?_
  refine g_pure (p_load (by rfl) rfl (Has.ro r2) k2) rfl ?_
  first | refine g_pure (p_pickt rfl rfl) rfl ?_ | refine g_pure (p_pickf rfl rfl) rfl ?_
  refine g_pure (p_move rfl) rfl ?_
  refine g_yes rfl rfl ?_
  refine g_pure (p_move rfl) rfl ?_
  refine g_yes rfl rfl ?_
  refine g_pure (p_indexAddr rfl rfl (by decide) (fun _ => s1)) rfl ?_
  refine g_yes rfl rfl ?_
  refine g_pure (p_load (by rfl) rfl (Has.ro s2) s3) rfl ?_
  refine g_yes rfl rfl ?_
  refine g_eff (e_bs (xs := [.const (.int .i64 0), .const (.int .i64 2)]) rfl rfl rfl (by rfl) (by rfl) rfl (by rfl)) rfl (fun _ _ => ?_)
  rintro ⟨b102, rfl, rfl⟩
  refine g_yes rfl rfl ?_
  refine g_call (Hin := []) (Hr := ?hr8) (R := ?rr8) rfl rfl rfl ?hin8 ?hc8 ?hk8
  case hin8 => repeat' (first | exact Cover.nil | exact Take.here | apply Cover.cons | apply Take.there)
  case hc8 => intro ρ' hρ hR; exact same_ok x1 _ y1 _ [0, 2] [0, 2] (s4.mono hρ) (rslB (l := [0, 2]) (Take.ro (A := Blk b102 _) (by repeat' (first | exact Take.here | apply Take.there)) hR).blk) (by decide)
  rintro _ _ ⟨rfl, rfl⟩
  first | refine g_pure (p_pickt rfl rfl) rfl ?_ | refine g_pure (p_pickf rfl rfl) rfl ?_
  refine g_pure (p_move rfl) rfl ?_
  refine g_yes rfl rfl ?_
  refine g_pure (p_move rfl) rfl ?_
  refine g_yes rfl rfl ?_
  refine g_pure (p_indexAddr rfl rfl (by decide) (fun _ => t1)) rfl ?_
  refine g_yes rfl rfl ?_
  refine g_pure (p_load (by rfl) rfl (Has.ro t2) t3) rfl ?_
  refine g_yes rfl rfl ?_
  refine g_eff (e_bs (xs := [.const (.int .i64 1)]) rfl rfl rfl (by rfl) (by rfl) rfl (by rfl)) rfl (fun _ _ => ?_)
  rintro ⟨b109, rfl, rfl⟩
  refine g_yes rfl rfl ?_
  refine g_call (Hin := []) (Hr := ?hr9) (R := ?rr9) rfl rfl rfl ?hin9 ?hc9 ?hk9
  case hin9 => repeat' (first | exact Cover.nil | exact Take.here | apply Cover.cons | apply Take.there)
  case hc9 => intro ρ' hρ hR; exact same_ok x2 _ y2 _ [1] [1] (t4.mono hρ) (rslB (l := [1]) (Take.ro (A := Blk b109 _) (by repeat' (first | exact Take.here | apply Take.there)) hR).blk) (by decide)
  rintro _ _ ⟨rfl, rfl⟩
  first | refine g_pure (p_pickt rfl rfl) rfl ?_ | refine g_pure (p_pickf rfl rfl) rfl ?_
  refine g_pure (p_move rfl) rfl ?_
  refine g_yes rfl rfl ?_
  refine g_pure (p_move rfl) rfl ?_
  refine g_yes rfl rfl ?_
  refine g_pure (p_indexAddr rfl rfl (by decide) (fun _ => u1)) rfl ?_
  refine g_yes rfl rfl ?_
  refine g_pure (p_load (by rfl) rfl (Has.ro u2) u3) rfl ?_
  refine g_yes rfl rfl ?_
  refine g_eff (e_bs (xs := [.const (.int .i64 3)]) rfl rfl rfl (by rfl) (by rfl) rfl (by rfl)) rfl (fun _ _ => ?_)
  rintro ⟨b116, rfl, rfl⟩
  refine g_yes rfl rfl ?_
  refine g_call (Hin := []) (Hr := ?hr10) (R := ?rr10) rfl rfl rfl ?hin10 ?hc10 ?hk10
  case hin10 => repeat' (first | exact Cover.nil | exact Take.here | apply Cover.cons | apply Take.there)
  case hc10 => intro ρ' hρ hR; exact same_ok x3 _ y3 _ [3] [3] (u4.mono hρ) (rslB (l := [3]) (Take.ro (A := Blk b116 _) (by repeat' (first | exact Take.here | apply Take.there)) hR).blk) (by decide)
  rintro _ _ ⟨rfl, rfl⟩
  first | refine g_pure (p_pickt rfl rfl) rfl ?_ | refine g_pure (p_pickf rfl rfl) rfl ?_
  refine g_pure (p_assign rfl) rfl ?_
  refine g_nil ?_
  refine g_qt ?_
  refine g_ret ?_
  refine g_thaw hρ2 ?_
  refine g_thaw hρ1 ?_
  exact g_post (rs := [.tmp 0]) rfl (.tmp rfl .nil) ⟨rfl, rfl⟩ .nil
end Go.Proofs.Ytmefecnjliadaaa
