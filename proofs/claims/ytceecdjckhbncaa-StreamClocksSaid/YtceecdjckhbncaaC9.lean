/- Chapter 16: the chapter's examples. Conditions: none. -/
import Derived.Test.YtceecdjckhbncaaC8
namespace Go.Proofs.Ytceecdjckhbncaa
set_option linter.unusedVariables false
set_option linter.unusedSimpArgs false
set_option linter.unusedSectionVars false
open Go Go.Z Go.Z.Val

def isL (xs : List Int) : List Ce := xs.map fun v => (1, v)
theorem is_ok {ρ : Nat → Obj → Prop} {aa : Option Addr} {ac : Nat} {xs : List Int} (ha : RSl ρ 1 aa xs.length (xs.map encI)) (hlen : xs.length ≤ 1000000) :
    Con Try.prog ρ 33 #[.slice aa xs.length ac] [] (StrP (isL xs)) := by
  obtain ⟨_, bl, ol, kl, Tl, fl, hl⟩ := ha
  refine con_intro Try.func33 Try.call33 rfl Try.ntmps33 rfl (L := [(0, _)]) rfl fun w hh => ?_
  refine g_seq ?_
  refine g_region ?_
  refine g_pure (p_assign rfl) rfl ?_
  refine g_nil ?_
  refine g_qt ?_
  refine g_seq ?_
  refine g_region ?_
  refine g_pure (p_assign rfl) rfl ?_
  refine g_nil ?_
  refine g_qt ?_
  refine g_seq ?_
  refine g_seq ?_
  refine g_region ?_
  refine g_pure (p_assign rfl) rfl ?_
  refine g_nil ?_
  refine g_qt ?_
  refine g_block ?_
  refine g_ownnil (e := 31) (size := 2) ?_
  refine g_loop (fun q : Nat × Option Addr × Nat => [(0, .slice aa xs.length ac), (3, .slice q.2.1 (isL (xs.take q.1)).length q.2.2), (4, .int .i64 q.1)]) (fun q => [OwnSl 31 2 q.2.1 (isL (xs.take q.1)).length q.2.2 ((isL (xs.take q.1)).flatMap encC)]) (fun q => q.1 ≤ xs.length) (fun q => xs.length - q.1) (0, none, 0) (Nat.zero_le _) (by (repeat (first | exact trivial | refine ⟨by rfl, ?_⟩)); done) (by repeat' (first | exact Cover.nil | exact Take.here | apply Cover.cons | apply Take.there)) ?_
  rintro ⟨i, oa, oc⟩ hi
  dsimp only at hi ⊢
  have hil : (isL (xs.take i)).length = i := by simp [isL]; omega
  refine g_seq ?_
  refine g_seq ?_
  refine g_region ?_
  refine g_pure (p_move rfl) rfl ?_
  refine g_pure (p_move rfl) rfl ?_
  refine g_pure (p_len (by rfl) rfl) rfl ?_
  refine g_pure (p_lss rfl rfl) rfl ?_
  refine g_nil ?_
  refine g_qt ?_
  refine g_ifd rfl (fun q => ?_) (fun q => ?_)
  · have hjl : i < xs.length := by omega
    obtain ⟨l1, l2, l3⟩ := hl (by omega)
    have x1 : kl[ol + (i : Int).toNat * 1]? = some (encI xs[i]) := flat2 l3 (i := i) (mapI _ hjl) (by simp)
    have hm : isL (xs.take (i + 1)) = isL (xs.take i) ++ [(1, xs[i])] := by unfold isL; rw [List.take_add_one, List.getElem?_eq_getElem hjl, Option.toList_some, List.map_append]; rfl
    generalize xs[i] = u at *
    have hm1 : (isL (xs.take i)).length + 1 = (isL (xs.take (i + 1))).length := by rw [hm]; simp
    have hm2 : (isL (xs.take i)).flatMap encC ++ encC (1, u) = (isL (xs.take (i + 1))).flatMap encC := by rw [hm]; simp
    refine g_skip ?_
    refine g_qt ?_
    refine g_seq ?_
    refine g_block ?_
    refine g_region ?_
    refine g_pure (p_move rfl) rfl ?_
    refine g_pure (p_move rfl) rfl ?_
    refine g_pure (p_move rfl) rfl ?_
    refine g_pure (p_indexAddr rfl rfl (by omega) (fun _ => l1)) rfl ?_
    refine g_pure (p_load (by rfl) rfl (Has.ro l2) x1) rfl ?_
    refine g_pure (p_build (by rfl) rfl (by rfl)) rfl ?_
    refine g_eff (e_bs (xs := [.tmp 16]) rfl rfl rfl (by rfl) (by rfl) rfl (by rfl)) rfl (fun _ _ => ?_)
    rintro ⟨b17, rfl, rfl⟩
    refine g_eff (e_appendO (by rfl) (by rfl) rfl rfl (by first | (apply Has.own; (repeat' (first | exact Take.here | apply Take.there)); done) | exact Has.ro (by assumption)) (by rfl) (by rfl) (by repeat' (first | exact Take.here | apply Take.there)) (by omega) (by first | omega | (dsimp only; omega) | (simp <;> omega)) (by omega)) rfl (fun _ _ => ?_)
    rintro ⟨a18, c18, rfl, rfl⟩
    refine g_pure (p_assign rfl) rfl ?_
    refine g_nil ?_
    refine g_qb ?_
    refine g_qt ?_
    refine g_region ?_
    refine g_pure (p_move rfl) rfl ?_
    first | refine g_pure (p_addi rfl rfl (by omega)) rfl ?_ | refine g_pure (p_add rfl rfl) rfl ?_
    refine g_pure (p_assign rfl) rfl ?_
    refine g_nil ?_
    refine g_qn ?_
    rw [hm1]
    refine g_weak (A := OwnSl 31 2 a18 _ c18 ((isL (xs.take i)).flatMap encC ++ encC (1, u))) (B := OwnSl 31 2 a18 (isL (xs.take (i + 1))).length c18 ((isL (xs.take (i + 1))).flatMap encC)) (by repeat' (first | exact Take.here | apply Take.there)) (fun h hh => by rw [← hm2]; exact hh) ?_
    exact g_next (i + 1, a18, c18) (by (repeat (first | exact trivial | refine ⟨by rfl, ?_⟩)); done) (by repeat' (first | exact Cover.nil | exact Take.here | apply Cover.cons | apply Take.there)) (by dsimp only; omega) (by dsimp only; omega)
  · obtain rfl : i = xs.length := by omega
    rw [List.take_length]
    refine g_exit ?_
    refine g_qt_exit ?_
    refine g_qn_exit ?_
    refine g_qb_exit ?_
    refine g_qt ?_
    refine g_seq ?_
    refine g_region ?_
    refine g_pure (p_move rfl) rfl ?_
    refine g_pure (p_assign rfl) rfl ?_
    refine g_nil ?_
    refine g_qt ?_
    refine g_ret ?_
    exact g_post (rs := [.tmp 2]) rfl (.tmp rfl .nil) ⟨oa, oc, rfl, rfl⟩ (by repeat' (first | exact Cover.nil | exact Take.here | apply Cover.cons | apply Take.there))

theorem lives_ok {ρ : Nat → Obj → Prop} : Con Try.prog ρ 10 #[] [] (fun v H => v = .bool true ∧ H = []) := by
  obtain ⟨la, hla⟩ : ∃ la : List Ce, la = [(1, 5), (0, 0), (1, 6), (1, 7)] := ⟨_, rfl⟩
  refine con_intro Try.func10 Try.call10 rfl Try.ntmps10 rfl (L := []) rfl fun w hh => ?_
  refine g_seq ?_
  refine g_region ?_
  refine g_pure (p_assign rfl) rfl ?_
  refine g_nil ?_
  refine g_qt ?_
  refine g_seq ?_
  refine g_region ?_
  refine g_pure (p_build (by rfl) rfl (by rfl)) rfl ?_
  refine g_pure (p_build (by rfl) rfl (by rfl)) rfl ?_
  refine g_pure (p_build (by rfl) rfl (by rfl)) rfl ?_
  refine g_pure (p_build (by rfl) rfl (by rfl)) rfl ?_
  refine g_eff (e_bs (xs := [.tmp 5, .tmp 6, .tmp 7, .tmp 8]) rfl rfl rfl (by rfl) (by rfl) rfl (by rfl)) rfl (fun _ _ => ?_)
  rintro ⟨b9, rfl, rfl⟩
  refine g_pure (p_assign rfl) rfl ?_
  refine g_nil ?_
  refine g_qt ?_
  refine g_seq ?_
  refine g_region ?_
  refine g_pure (p_build (by rfl) rfl (by rfl)) rfl ?_
  refine g_pure (p_build (by rfl) rfl (by rfl)) rfl ?_
  refine g_pure (p_build (by rfl) rfl (by rfl)) rfl ?_
  refine g_pure (p_build (by rfl) rfl (by rfl)) rfl ?_
  refine g_eff (e_bs (xs := [.tmp 10, .tmp 11, .tmp 12, .tmp 13]) rfl rfl rfl (by rfl) (by rfl) rfl (by rfl)) rfl (fun _ _ => ?_)
  rintro ⟨b14, rfl, rfl⟩
  refine g_pure (p_assign rfl) rfl ?_
  refine g_nil ?_
  refine g_qt ?_
  refine g_seq ?_
  refine g_region ?_
  refine g_eff (e_bs (xs := [.const (.bool true)]) rfl rfl rfl (by rfl) (by rfl) rfl (by rfl)) rfl (fun _ _ => ?_)
  rintro ⟨b15, rfl, rfl⟩
  refine g_eff (e_bs (xs := [.const (.bool false), .const (.bool true)]) rfl rfl rfl (by rfl) (by rfl) rfl (by rfl)) rfl (fun _ _ => ?_)
  rintro ⟨b16, rfl, rfl⟩
  refine g_pure (p_build (by rfl) rfl (by rfl)) rfl ?_
  refine g_eff (e_alloc (by rfl)) rfl (fun _ _ => ?_)
  rintro ⟨b3, rfl, rfl⟩
  first | refine g_eff0 (e_storeO rfl rfl (by rfl) (by rfl) (by rfl) (by repeat' (first | exact Take.here | apply Take.there)) (by rfl)) (fun _ _ => ?_) | refine g_eff0 (e_storeN rfl rfl (by rfl) (by rfl) (by rfl) (by repeat' (first | exact Take.here | apply Take.there)) (by simp)) (fun _ _ => ?_)
  rintro rfl
  refine g_nil ?_
  refine g_qt ?_
  refine g_seq ?_
  refine g_region ?_
  refine g_pure (p_build (by rfl) rfl (by rfl)) rfl ?_
  refine g_pure (p_build (by rfl) rfl (by rfl)) rfl ?_
  refine g_pure (p_build (by rfl) rfl (by rfl)) rfl ?_
  refine g_pure (p_build (by rfl) rfl (by rfl)) rfl ?_
  refine g_eff (e_bs (xs := [.tmp 18, .tmp 19, .tmp 20, .tmp 21]) rfl rfl rfl (by rfl) (by rfl) rfl (by rfl)) rfl (fun _ _ => ?_)
  rintro ⟨b22, rfl, rfl⟩
  refine g_pure (p_assign rfl) rfl ?_
  refine g_nil ?_
  refine g_qt ?_
  refine g_seq ?_
  refine g_region ?_
  refine g_pure (p_move rfl) rfl ?_
  refine g_call (Hin := []) (Hr := ?hr1) (R := ?rr1) rfl rfl rfl ?hin1 ?hc1 ?hk1
  case hin1 => repeat' (first | exact Cover.nil | exact Take.here | apply Cover.cons | apply Take.there)
  case hc1 => intro ρ' hρ hR; exact pre_ok (a := [(1, 5), (0, 0), (1, 6), (1, 7)]) (RSl.of_blk (Take.ro (A := Blk b9 (.cells (List.flatMap encC [(1, 5), (0, 0), (1, 6), (1, 7)]).toArray 31 (0, 0))) (by repeat' (first | exact Take.here | apply Take.there)) hR).blk (by decide)) (by decide)
  rintro _ _ ⟨o1, c1, rfl, rfl⟩
  refine g_pure (p_move rfl) rfl ?_
  refine g_call (Hin := []) (Hr := ?hr2) (R := ?rr2) rfl rfl rfl ?hin2 ?hc2 ?hk2
  case hin2 => repeat' (first | exact Cover.nil | exact Take.here | apply Cover.cons | apply Take.there)
  case hc2 => intro ρ' hρ hR; exact same_ok (xs := PreL [(1, 5), (0, 0), (1, 6), (1, 7)]) (ys := [(2, 0), (0, 0), (1, 5), (1, 6)]) rfl rfl (RSl.of_own hR.1) (RSl.of_blk (Take.ro (A := Blk b14 (.cells (List.flatMap encC [(2, 0), (0, 0), (1, 5), (1, 6)]).toArray 31 (0, 0))) (by repeat' (first | exact Take.here | apply Take.there)) hR).blk (by decide)) (by decide) (by decide)
  rintro _ _ ⟨rfl, rfl⟩
  rw [show decide (PreL [(1, 5), (0, 0), (1, 6), (1, 7)] = [(2, 0), (0, 0), (1, 5), (1, 6)]) = true by decide]
  refine g_pure (p_move rfl) rfl ?_
  refine g_yes rfl rfl ?_
  refine g_eff (e_bs (xs := [.const (.int .i64 1), .const (.int .i64 2)]) rfl rfl rfl (by rfl) (by rfl) rfl (by rfl)) rfl (fun _ _ => ?_)
  rintro ⟨b28, rfl, rfl⟩
  refine g_yes rfl rfl ?_
  refine g_call (Hin := []) (Hr := ?hr3) (R := ?rr3) rfl rfl rfl ?hin3 ?hc3 ?hk3
  case hin3 => repeat' (first | exact Cover.nil | exact Take.here | apply Cover.cons | apply Take.there)
  case hc3 => intro ρ' hρ hR; exact is_ok (xs := [1, 2]) (RSl.of_blk hR.1.blk (by decide)) (by decide)
  rintro _ _ ⟨o2, c2, rfl, rfl⟩
  refine g_yes rfl rfl ?_
  refine g_eff (e_bs (xs := [.const (.int .i64 3)]) rfl rfl rfl (by rfl) (by rfl) rfl (by rfl)) rfl (fun _ _ => ?_)
  rintro ⟨b30, rfl, rfl⟩
  refine g_yes rfl rfl ?_
  refine g_call (Hin := []) (Hr := ?hr4) (R := ?rr4) rfl rfl rfl ?hin4 ?hc4 ?hk4
  case hin4 => repeat' (first | exact Cover.nil | exact Take.here | apply Cover.cons | apply Take.there)
  case hc4 => intro ρ' hρ hR; exact is_ok (xs := [3]) (RSl.of_blk hR.1.blk (by decide)) (by decide)
  rintro _ _ ⟨o3, c3, rfl, rfl⟩
  refine g_yes rfl rfl ?_
  refine g_eff (e_bs (xs := [.tmp 29, .tmp 31]) rfl rfl rfl (by rfl) (by rfl) rfl (by rfl)) rfl (fun _ _ => ?_)
  rintro ⟨b32, rfl, rfl⟩
  refine g_yes rfl rfl ?_
  refine g_call (Hin := []) (Hr := ?hr5) (R := ?rr5) rfl rfl rfl ?hin5 ?hc5 ?hk5
  case hin5 => repeat' (first | exact Cover.nil | exact Take.here | apply Cover.cons | apply Take.there)
  case hc5 => intro ρ' hρ hR; exact slift_ok (l := [isL [1, 2], isL [3]]) (SlS.of2 hR.1.blk (RSl.of_own (Take.ro (A := OwnSl 31 2 o2 (isL [1, 2]).length c2 ((isL [1, 2]).flatMap encC)) (by repeat' (first | exact Take.here | apply Take.there)) hR)) (RSl.of_own (Take.ro (A := OwnSl 31 2 o3 (isL [3]).length c3 ((isL [3]).flatMap encC)) (by repeat' (first | exact Take.here | apply Take.there)) hR))) (by decide) (by decide)
  rintro _ _ ⟨o4, c4, rfl, rfl⟩
  refine g_yes rfl rfl ?_
  refine g_eff (e_bs (xs := [.const (.int .i64 4)]) rfl rfl rfl (by rfl) (by rfl) rfl (by rfl)) rfl (fun _ _ => ?_)
  rintro ⟨b34, rfl, rfl⟩
  refine g_yes rfl rfl ?_
  refine g_call (Hin := []) (Hr := ?hr6) (R := ?rr6) rfl rfl rfl ?hin6 ?hc6 ?hk6
  case hin6 => repeat' (first | exact Cover.nil | exact Take.here | apply Cover.cons | apply Take.there)
  case hc6 => intro ρ' hρ hR; exact is_ok (xs := [4]) (RSl.of_blk hR.1.blk (by decide)) (by decide)
  rintro _ _ ⟨o5, c5, rfl, rfl⟩
  refine g_yes rfl rfl ?_
  refine g_call (Hin := []) (Hr := ?hr7) (R := ?rr7) rfl rfl rfl ?hin7 ?hc7 ?hk7
  case hin7 => repeat' (first | exact Cover.nil | exact Take.here | apply Cover.cons | apply Take.there)
  case hc7 => intro ρ' hρ hR; exact same_ok (xs := LiftL 6 [isL [1, 2], isL [3]]) (ys := isL [4]) rfl rfl (RSl.of_own (Take.ro (A := OwnSl 31 2 o4 (LiftL 6 [isL [1, 2], isL [3]]).length c4 ((LiftL 6 [isL [1, 2], isL [3]]).flatMap encC)) (by repeat' (first | exact Take.here | apply Take.there)) hR)) (RSl.of_own hR.1) (by decide) (by decide)
  rintro _ _ ⟨rfl, rfl⟩
  rw [show decide (LiftL 6 [isL [1, 2], isL [3]] = isL [4]) = true by decide]
  first | refine g_pure (p_pickt rfl rfl) rfl ?_ | refine g_pure (p_pickf rfl rfl) rfl ?_
  refine g_pure (p_move rfl) rfl ?_
  refine g_yes rfl rfl ?_
  first | refine g_pure (p_loadO (by rfl) rfl (by first | (apply Has.own; (repeat' (first | exact Take.here | apply Take.there)); done) | exact Has.ro (by assumption)) (by rfl)) rfl ?_ | refine g_pure (p_loadN (by rfl) rfl (by first | (apply Has.own; (repeat' (first | exact Take.here | apply Take.there)); done) | exact Has.ro (by assumption)) (by first | rfl | assumption)) rfl ?_
  refine g_yes rfl rfl ?_
  refine g_pure (p_move rfl) rfl ?_
  refine g_yes rfl rfl ?_
  refine g_call (Hin := []) (Hr := ?hr8) (R := ?rr8) rfl rfl rfl ?hin8 ?hc8 ?hk8
  case hin8 => repeat' (first | exact Cover.nil | exact Take.here | apply Cover.cons | apply Take.there)
  case hc8 => intro ρ' hρ hR; exact word_ok (hd := [true]) (lp := [false, true]) ⟨RSl.of_blk (Take.ro (A := Blk b15 (.cells [Value.bool true].toArray 4 (0, 0))) (by repeat' (first | exact Take.here | apply Take.there)) hR).blk (by decide), RSl.of_blk (Take.ro (A := Blk b16 (.cells [Value.bool false, Value.bool true].toArray 4 (0, 0))) (by repeat' (first | exact Take.here | apply Take.there)) hR).blk (by decide), by decide, by decide⟩ (a := [(1, 5), (0, 0), (1, 6), (1, 7)]) (RSl.of_blk (Take.ro (A := Blk b9 (.cells (List.flatMap encC [(1, 5), (0, 0), (1, 6), (1, 7)]).toArray 31 (0, 0))) (by repeat' (first | exact Take.here | apply Take.there)) hR).blk (by decide)) (by decide)
  rintro _ _ ⟨o6, c6, rfl, rfl⟩
  refine g_yes rfl rfl ?_
  refine g_pure (p_move rfl) rfl ?_
  refine g_yes rfl rfl ?_
  refine g_call (Hin := []) (Hr := ?hr9) (R := ?rr9) rfl rfl rfl ?hin9 ?hc9 ?hk9
  case hin9 => repeat' (first | exact Cover.nil | exact Take.here | apply Cover.cons | apply Take.there)
  case hc9 => intro ρ' hρ hR; exact same_ok (xs := WordL [true] [false, true] [(1, 5), (0, 0), (1, 6), (1, 7)]) (ys := [(1, 1), (0, 0), (1, 0), (1, 1)]) rfl rfl (RSl.of_own hR.1) (RSl.of_blk (Take.ro (A := Blk b22 (.cells (List.flatMap encC [(1, 1), (0, 0), (1, 0), (1, 1)]).toArray 31 (0, 0))) (by repeat' (first | exact Take.here | apply Take.there)) hR).blk (by decide)) (by decide) (by decide)
  rintro _ _ ⟨rfl, rfl⟩
  rw [show decide (WordL [true] [false, true] [(1, 5), (0, 0), (1, 6), (1, 7)] = [(1, 1), (0, 0), (1, 0), (1, 1)]) = true by decide]
  first | refine g_pure (p_pickt rfl rfl) rfl ?_ | refine g_pure (p_pickf rfl rfl) rfl ?_
  refine g_pure (p_move rfl) rfl ?_
  refine g_yes rfl rfl ?_
  refine g_eff (e_bs (xs := [.const (.int .i64 0), .const (.int .i64 0)]) rfl rfl rfl (by rfl) (by rfl) rfl (by rfl)) rfl (fun _ _ => ?_)
  rintro ⟨b46, rfl, rfl⟩
  refine g_yes rfl rfl ?_
  refine g_call (Hin := []) (Hr := ?hr10) (R := ?rr10) rfl rfl rfl ?hin10 ?hc10 ?hk10
  case hin10 => repeat' (first | exact Cover.nil | exact Take.here | apply Cover.cons | apply Take.there)
  case hc10 => intro ρ' hρ hR; exact is_ok (xs := [0, 0]) (RSl.of_blk hR.1.blk (by decide)) (by decide)
  rintro _ _ ⟨o7, c7, rfl, rfl⟩
  refine g_yes rfl rfl ?_
  refine g_eff (e_bs (xs := [.const (.int .i64 1), .const (.int .i64 2)]) rfl rfl rfl (by rfl) (by rfl) rfl (by rfl)) rfl (fun _ _ => ?_)
  rintro ⟨b48, rfl, rfl⟩
  refine g_yes rfl rfl ?_
  refine g_call (Hin := []) (Hr := ?hr11) (R := ?rr11) rfl rfl rfl ?hin11 ?hc11 ?hk11
  case hin11 => repeat' (first | exact Cover.nil | exact Take.here | apply Cover.cons | apply Take.there)
  case hc11 => intro ρ' hρ hR; exact is_ok (xs := [1, 2]) (RSl.of_blk hR.1.blk (by decide)) (by decide)
  rintro _ _ ⟨o8, c8, rfl, rfl⟩
  refine g_yes rfl rfl ?_
  refine g_call (Hin := []) (Hr := ?hr12) (R := ?rr12) rfl rfl rfl ?hin12 ?hc12 ?hk12
  case hin12 => repeat' (first | exact Cover.nil | exact Take.here | apply Cover.cons | apply Take.there)
  case hc12 => intro ρ' hρ hR; exact fby_ok (a := isL [0, 0]) (b := isL [1, 2]) (RSl.of_own (Take.ro (A := OwnSl 31 2 o7 (isL [0, 0]).length c7 ((isL [0, 0]).flatMap encC)) (by repeat' (first | exact Take.here | apply Take.there)) hR)) (RSl.of_own hR.1) (by decide)
  rintro _ _ ⟨o9, c9, rfl, rfl⟩
  refine g_yes rfl rfl ?_
  refine g_eff (e_bs (xs := [.const (.int .i64 0), .const (.int .i64 1)]) rfl rfl rfl (by rfl) (by rfl) rfl (by rfl)) rfl (fun _ _ => ?_)
  rintro ⟨b51, rfl, rfl⟩
  refine g_yes rfl rfl ?_
  refine g_call (Hin := []) (Hr := ?hr13) (R := ?rr13) rfl rfl rfl ?hin13 ?hc13 ?hk13
  case hin13 => repeat' (first | exact Cover.nil | exact Take.here | apply Cover.cons | apply Take.there)
  case hc13 => intro ρ' hρ hR; exact is_ok (xs := [0, 1]) (RSl.of_blk hR.1.blk (by decide)) (by decide)
  rintro _ _ ⟨o10, c10, rfl, rfl⟩
  refine g_yes rfl rfl ?_
  refine g_call (Hin := []) (Hr := ?hr14) (R := ?rr14) rfl rfl rfl ?hin14 ?hc14 ?hk14
  case hin14 => repeat' (first | exact Cover.nil | exact Take.here | apply Cover.cons | apply Take.there)
  case hc14 => intro ρ' hρ hR; exact same_ok (xs := FbyL (isL [0, 0]) (isL [1, 2])) (ys := isL [0, 1]) rfl rfl (RSl.of_own (Take.ro (A := OwnSl 31 2 o9 (FbyL (isL [0, 0]) (isL [1, 2])).length c9 ((FbyL (isL [0, 0]) (isL [1, 2])).flatMap encC)) (by repeat' (first | exact Take.here | apply Take.there)) hR)) (RSl.of_own hR.1) (by decide) (by decide)
  rintro _ _ ⟨rfl, rfl⟩
  rw [show decide (FbyL (isL [0, 0]) (isL [1, 2]) = isL [0, 1]) = true by decide]
  first | refine g_pure (p_pickt rfl rfl) rfl ?_ | refine g_pure (p_pickf rfl rfl) rfl ?_
  refine g_pure (p_move rfl) rfl ?_
  refine g_yes rfl rfl ?_
  refine g_call (Hin := []) (Hr := ?hr15) (R := ?rr15) rfl rfl rfl ?hin15 ?hc15 ?hk15
  case hin15 => repeat' (first | exact Cover.nil | exact Take.here | apply Cover.cons | apply Take.there)
  case hc15 => intro ρ' hρ hR; exact const_ok 3 2
  rintro _ _ ⟨o11, c11, rfl, rfl⟩
  refine g_yes rfl rfl ?_
  refine g_eff (e_bs (xs := [.const (.int .i64 3), .const (.int .i64 3)]) rfl rfl rfl (by rfl) (by rfl) rfl (by rfl)) rfl (fun _ _ => ?_)
  rintro ⟨b57, rfl, rfl⟩
  refine g_yes rfl rfl ?_
  refine g_call (Hin := []) (Hr := ?hr16) (R := ?rr16) rfl rfl rfl ?hin16 ?hc16 ?hk16
  case hin16 => repeat' (first | exact Cover.nil | exact Take.here | apply Cover.cons | apply Take.there)
  case hc16 => intro ρ' hρ hR; exact is_ok (xs := [3, 3]) (RSl.of_blk hR.1.blk (by decide)) (by decide)
  rintro _ _ ⟨o12, c12, rfl, rfl⟩
  refine g_yes rfl rfl ?_
  refine g_call (Hin := []) (Hr := ?hr17) (R := ?rr17) rfl rfl rfl ?hin17 ?hc17 ?hk17
  case hin17 => repeat' (first | exact Cover.nil | exact Take.here | apply Cover.cons | apply Take.there)
  case hc17 => intro ρ' hρ hR; exact same_ok (xs := ConstL 3 2) (ys := isL [3, 3]) rfl rfl (RSl.of_own (Take.ro (A := OwnSl 31 2 o11 (ConstL 3 2).length c11 ((ConstL 3 2).flatMap encC)) (by repeat' (first | exact Take.here | apply Take.there)) hR)) (RSl.of_own hR.1) (by decide) (by decide)
  rintro _ _ ⟨rfl, rfl⟩
  rw [show decide (ConstL 3 2 = isL [3, 3]) = true by decide]
  first | refine g_pure (p_pickt rfl rfl) rfl ?_ | refine g_pure (p_pickf rfl rfl) rfl ?_
  refine g_pure (p_assign rfl) rfl ?_
  refine g_nil ?_
  refine g_qt ?_
  refine g_ret ?_
  exact g_post (Ho := []) (rs := [.tmp 0]) rfl (.tmp rfl .nil) ⟨rfl, rfl⟩ .nil
end Go.Proofs.Ytceecdjckhbncaa
