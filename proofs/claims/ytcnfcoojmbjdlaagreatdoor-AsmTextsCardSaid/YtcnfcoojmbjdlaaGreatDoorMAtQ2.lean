/- Own texts, put together: Qy Qz. Conditions: as told at each. -/
import Derived.Test.YtcnfcoojmbjdlaaGreatDoorMAtQ1
import Derived.Test.YtcnfcoojmbjdlaaGreatDoorZm
/- Chapter 26: a line with a word and numbers; whether there is more; an instruction behind an error. Conditions: what the library's variables hold (LibA). -/
namespace Go.Z.Asm
set_option maxRecDepth 8000
set_option linter.unusedVariables false
set_option linter.unusedSimpArgs false
set_option linter.unusedSectionVars false
open Go Go.Z Go.Lib Go.Z.Txt
theorem nextS_at (ls : List (List UInt8)) (s : RS) : (nextS ls s).2.1 = s.1 := by
  unfold nextS
  dsimp only
  by_cases h1 : (ls.length : Int) - 1 ≤ s.1
  · rw [if_pos h1]
    split
    · rfl
    · dsimp only; split <;> rfl
  · rw [if_neg h1]
    split
    · rfl
    · dsimp only; split <;> rfl
theorem pieces_le (c : UInt8) (l : List UInt8) : (pieces c l).length ≤ l.length + 1 := by
  induction l with
  | nil => simp [pieces]
  | cons b l ih =>
    unfold pieces
    split
    · simp; omega
    · split
      · simp
      · rename_i h; rw [h] at ih; simp at ih ⊢; omega
theorem nextS_words {ls : List (List UInt8)} {s : RS} (h : ∀ l ∈ ls, l.length < 4294967281) : (nextS ls s).1.length ≤ 4294967281 ∧ ∀ w ∈ (nextS ls s).1, w.length < 4294967281 := by
  unfold nextS
  dsimp only
  generalize (if (ls.length : Int) - 1 ≤ s.1 then failS 4 s else s) = s1
  by_cases h2 : s1.2 ≠ 0
  · rw [if_pos h2]; simp
  · rw [if_neg h2]
    have hg : (ls.getD s.1 []).length < 4294967281 := by
      rw [List.getD_eq_getElem?_getD]
      cases e : ls[s.1]? with
      | none => simp
      | some l => exact h l (List.mem_of_getElem? e)
    have hp := pieces_le 32 (ls.getD s.1 [])
    exact ⟨by dsimp only; omega, fun w hw => Nat.lt_of_le_of_lt (pieces_mem hw).2 hg⟩
theorem tail_rsl {ρ : Nat → Obj → Prop} {wb : Nat} {w0 : List UInt8} {W : List (List UInt8)} {T : TypeId} {fz : Nat × Nat} (h : ρ wb (.cells ((w0 :: W).map strV).toArray T fz)) {a : Option Addr} (ha : 0 < W.length → a = some ⟨wb, 1, none⟩) : RSl ρ 1 a W.length (W.map strV) :=
  ⟨by simp, wb, 1, (w0 :: W).map strV, T, fz, fun h0 => ⟨ha h0, h, fun j v hj => by rw [Nat.add_comm, List.map_cons, List.getElem?_cons_succ]; exact hj⟩⟩
theorem tail_addr {wb : Nat} {w0 : List UInt8} {W : List (List UInt8)} (h : 0 < W.length) : (if (w0 :: W).length = (1 : Int).toNat then some (⟨wb, 0, none⟩ : Addr) else (some (⟨wb, 0, none⟩ : Addr)).map (·.add ((1 : Int).toNat * 1))) = some ⟨wb, 1, none⟩ := by
  rw [if_neg (by rw [List.length_cons]; show ¬ W.length + 1 = 1; omega)]; rfl
def moreS (ls : List (List UInt8)) (s : RS) : Bool := decide (s.2 = 0) && (decide ((s.1 : Int) < ls.length - 1) || decide (ls.getD s.1 [] ≠ []))
theorem numbersS_at (W : List (List UInt8)) (many : Int) (s : RS) : (numbersS W many s).1 ≤ s.1 + 1 := by
  rw [numbersS_eq]
  have h1 : (if 0 ≤ many ∧ (W.length : Int) ≠ many then failS 5 (badS W s) else badS W s).1 = s.1 := by split <;> exact badS_at W s
  generalize (if 0 ≤ many ∧ (W.length : Int) ≠ many then failS 5 (badS W s) else badS W s) = t at h1
  unfold doneS
  split
  · dsimp only; omega
  · omega
end Go.Z.Asm
namespace Go.Proofs.YtcnfcoojmbjdlaaGreatDoor
set_option maxRecDepth 8000
set_option linter.unusedVariables false
set_option linter.unusedSimpArgs false
set_option linter.unusedSectionVars false
open Go Go.Z Go.Z.Asm Go.RowKit Go.Z.Txt

theorem list_ok {ρ : Nat → Obj → Prop} (hk : LibA ρ) {lb : Nat} {ls : List (List UInt8)} (hL : Lns ρ lb ls) (p : Nat) (s : RS) (hs : s.1 < ls.length) (word : List UInt8) (many : Int) :
    Con Tryz.prog ρ 50 #[.pointer (some ⟨p, 0, none⟩), .string (strB word), .int .i64 many] [Rd 73 p lb ls.length s]
    (fun v H => ∃ oa oc, ∃ out : List Int, v = .slice oa out.length oc ∧ out.length = (nextS ls s).1.tail.length ∧ ((listS ls word many s).2 = 0 → out = numsV (nextS ls s).1.tail) ∧ H = [OwnSl 3 1 oa out.length oc (out.map encI), Rd 73 p lb ls.length (listS ls word many s)]) := by
  have hll := hL.len
  obtain ⟨hw1, hw2⟩ := nextS_words (s := s) hL.each
  have hat := nextS_at ls s
  have hne := nextS_ne ls s
  have hlS : listS ls word many s = numbersS (nextS ls s).1.tail many (if (nextS ls s).1.headD [] ≠ word then failS 5 (nextS ls s).2 else (nextS ls s).2) := rfl
  rw [hlS]
  refine con_intro Tryz.func50 Tryz.call50 rfl Tryz.ntmps50 rfl (L := [(0, _), (1, _), (2, _)]) rfl fun w hh => ?_
  refine g_seq <| g_region ?_
  refine g_pure (p_assign rfl) rfl ?_
  refine g_nil <| g_qt <| g_seq <| g_region ?_
  refine g_pure (p_move rfl) rfl ?_
  refine g_call (Hin := [Rd 73 p lb ls.length s]) (Hr := ?hr1) (R := ?rr1) rfl rfl rfl ?hin1 ?hc1 ?hk1
  case hin1 => repeat' (first | exact Cover.nil | exact Take.here | apply Cover.cons | apply Take.there)
  case hc1 => intro ρ' hρ hR; exact next_ok (hk.mono hρ) (hL.mono hρ) p s hs
  rintro _ _ ⟨wb, rfl, rfl⟩
  generalize nextS ls s = N at hw1 hw2 hat hne ⊢
  obtain ⟨W, s1⟩ := N
  dsimp only at hw1 hw2 hat hne ⊢
  match W, hne with
  | w0 :: W, _ =>
  rw [List.headD_cons, List.tail_cons]
  refine g_pure (p_assign rfl) rfl ?_
  refine g_nil <| g_qt <| g_seq ?_
  refine g_join (fun _ : Unit => [(0, .pointer (some ⟨p, 0, none⟩)), (2, .int .i64 many), (7, .slice (some ⟨wb, 0, none⟩) (w0 :: W).length (w0 :: W).length)]) (fun _ => [Blk wb (.cells ((w0 :: W).map strV).toArray 9 (0, 0)), Rd 73 p lb ls.length (if w0 ≠ word then failS 5 s1 else s1)]) (fun _ => True) ?_ ?_
  · refine g_seq <| g_region ?_
    refine g_pure (p_move rfl) rfl ?_
    refine g_pure (p_indexAddr rfl rfl (by simp) (fun _ => rfl)) rfl ?_
    refine g_pure (p_load (v := .string (strB w0)) (by rfl) rfl (Has.own (by repeat' (first | exact Take.here | apply Take.there))) (by rfl)) rfl ?_
    refine g_pure (p_move rfl) rfl ?_
    refine g_pure (p_neqs (i := strB w0) (j := strB word) (by rfl) rfl rfl) rfl ?_
    refine g_nil <| g_qt ?_
    refine g_ifnd rfl (fun h1 => ?_) (fun h1 => ?_)
    · rw [if_pos (fun h => h1 (by rw [h]))]
      refine g_region ?_
      refine g_pure (p_move rfl) rfl ?_
      refine g_call (Hin := [Rd 73 p lb ls.length s1]) (Hr := ?hr2) (R := ?rr2) rfl rfl rfl ?hin2 ?hc2 ?hk2
      case hin2 => repeat' (first | exact Cover.nil | exact Take.here | apply Cover.cons | apply Take.there)
      case hc2 => intro ρ' hρ hR; exact fail_ok p lb ls.length s1 5
      rintro _ _ ⟨rfl, rfl⟩
      refine g_nil <| g_qn ?_
      exact g_joinedA () trivial
    · rw [if_neg (fun h => h (strB_inj.1 h1))]
      refine g_skip <| g_qn ?_
      exact g_joinedA () trivial
  rintro _ -
  refine g_qt ?_
  have hat2 : (if w0 ≠ word then failS 5 s1 else s1).1 = s.1 := by split <;> exact hat
  generalize (if w0 ≠ word then failS 5 s1 else s1) = s2 at hat2 ⊢
  have hlW : W.length ≤ 4294967296 := by rw [List.length_cons] at hw1; omega
  refine g_seq <| g_region ?_
  refine g_pure (p_move rfl) rfl ?_
  refine g_pure (p_move rfl) rfl ?_
  refine g_pure (p_slicel rfl rfl (by rw [List.length_cons]; omega)) rfl ?_
  refine g_pure (p_move rfl) rfl ?_
  refine g_call (Hin := [Rd 73 p lb ls.length s2]) (Hr := ?hr3) (R := ?rr3) rfl rfl rfl ?hin3 ?hc3 ?hk3
  case hin3 => repeat' (first | exact Cover.nil | exact Take.here | apply Cover.cons | apply Take.there)
  case hc3 => intro ρ' hρ hR; exact numbers_ok (hk.mono hρ) p lb ls.length s2 (by omega) _ _ W (tail_rsl (w0 := w0) (Take.ro (A := Blk wb (.cells ((w0 :: W).map strV).toArray 9 (0, 0))) (by repeat' (first | exact Take.here | apply Take.there)) hR).blk (fun h => tail_addr (w0 := w0) h)) hlW (fun w hw => hw2 w (List.mem_cons_of_mem _ hw)) many
  rintro _ _ ⟨oa, oc, out, rfl, ho1, ho2, rfl⟩
  refine g_pure (p_assign rfl) rfl ?_
  refine g_nil <| g_qt <| g_ret ?_
  exact g_postA (Ho := [OwnSl 3 1 oa W.length oc (out.map encI), Rd 73 p lb ls.length (numbersS W many s2)]) (rs := [.tmp 6]) rfl (.tmp rfl .nil) ⟨oa, oc, out, by rw [ho1]; rfl, ho1, ho2, by rw [ho1]⟩

theorem more_ok {ρ : Nat → Obj → Prop} {lb : Nat} {ls : List (List UInt8)} (hL : Lns ρ lb ls) (p : Nat) (s : RS) (hs : s.1 < ls.length) :
    Con Tryz.prog ρ 51 #[.pointer (some ⟨p, 0, none⟩)] [Rd 73 p lb ls.length s] (fun v H => v = .bool (moreS ls s) ∧ H = [Rd 73 p lb ls.length s]) := by
  obtain ⟨LT, lz, hlb⟩ := hL.mem
  have hll := hL.len
  obtain ⟨at', e⟩ := s
  dsimp only at hs
  have hx : (ls.map strV)[0 + (at' : Int).toNat * 1]? = some (.string (strB (ls.getD at' []))) := by rw [Int.toNat_natCast, Nat.mul_one, Nat.zero_add, List.getElem?_map, List.getD_eq_getElem?_getD, List.getElem?_eq_getElem hs]; rfl
  have hM : moreS ls (at', e) = (decide (e = 0) && (decide ((at' : Int) < ls.length - 1) || decide (ls.getD at' [] ≠ []))) := rfl
  generalize ls.getD at' [] = li at hx hM
  have hnil : strB li = ⟨#[]⟩ ↔ li = [] := strB_inj (b := [])
  unfold Rd
  dsimp only
  refine con_intro Tryz.func51 Tryz.call51 rfl Tryz.ntmps51 rfl (L := [(0, _)]) rfl fun w hh => ?_
  refine g_seq <| g_region ?_
  refine g_pure (p_assign rfl) rfl ?_
  refine g_nil <| g_qt <| g_seq ?_
  refine m_begin0 (.fl 0 0 (.fl 1 0 (.fl 2 0 (.fl 3 1 (.fl 4 0 (.fl 5 0 (.fl 6 0 (.fl 7 0 (.fl 8 0 (.fl 9 1 (.fl 10 0 (.fl 11 0 (.fl 12 0 (.fl 13 1 (.fl 14 0 (.fl 15 0 (.fl 16 0 (.fl 17 0 (.fl 18 0 (.fl 19 0 (.fl 20 0 (.fl 21 1 (.fl 22 0 (.fl 23 0 (.fl 24 0 (.fl 25 1 (.fl 26 0 (.fl 27 1 (.fl 28 0 (.fl 29 0 (.fl 30 0 (.fl 31 0 .done)))))))))))))))))))))))))))))))) (by kernel_rfl) (by kernel_rfl) ?_
  refine m_float0 rfl (fun _ _ => p_move rfl) rfl ?_
  refine m_float0 rfl (fun _ _ => p_nilCheck rfl) rfl ?_
  refine m_float0 rfl (fun _ _ => p_fieldAddr rfl) rfl ?_
  refine m_float rfl (p_loadA) rfl ?_
  refine m_float0 rfl (fun _ _ => p_eql rfl rfl) rfl ?_
  refine m_float0 rfl (fun _ _ => p_move rfl) rfl ?_
  refine m_splitd 5 rfl rfl (fun h1 => ?_) (fun h1 => ?_)
  · refine m_yes0 rfl rfl rfl (fun _ _ => p_move rfl) rfl ?_
    refine m_yes0 rfl rfl rfl (fun _ _ => p_nilCheck rfl) rfl ?_
    refine m_yes0 rfl rfl rfl (fun _ _ => p_fieldAddr rfl) rfl ?_
    refine m_yes rfl rfl rfl (p_loadA) rfl ?_
    refine m_yes0 rfl rfl rfl (fun _ _ => p_move rfl) rfl ?_
    refine m_yes0 rfl rfl rfl (fun _ _ => p_nilCheck rfl) rfl ?_
    refine m_yes0 rfl rfl rfl (fun _ _ => p_fieldAddr rfl) rfl ?_
    refine m_yes rfl rfl rfl (p_loadA) rfl ?_
    refine m_yes0 rfl rfl rfl (fun _ _ => p_len (by rfl) rfl) rfl ?_
    first | refine m_yes0 rfl rfl rfl (fun _ _ => p_subi rfl rfl (by omega)) rfl ?_ | refine m_yes0 rfl rfl rfl (fun _ _ => p_sub rfl rfl) rfl ?_
    refine m_yes0 rfl rfl rfl (fun _ _ => p_lss rfl rfl) rfl ?_
    refine m_yes0 rfl rfl rfl (fun _ _ => p_move rfl) rfl ?_
    refine m_splitd 17 rfl rfl (fun h2 => ?_) (fun h2 => ?_)
    · refine m_no0 rfl rfl rfl rfl rfl ?_
      refine m_no0 rfl rfl rfl rfl rfl ?_
      refine m_no0 rfl rfl rfl rfl rfl ?_
      refine m_no rfl rfl rfl rfl rfl ?_
      refine m_no0 rfl rfl rfl rfl rfl ?_
      refine m_no0 rfl rfl rfl rfl rfl ?_
      refine m_no0 rfl rfl rfl rfl rfl ?_
      refine m_no rfl rfl rfl rfl rfl ?_
      refine m_no0 rfl rfl rfl rfl rfl ?_
      refine m_no rfl rfl rfl rfl rfl ?_
      refine m_no0 rfl rfl rfl rfl rfl ?_
      first | refine m_yes0 rfl rfl rfl (fun _ _ => p_pickt rfl rfl) rfl ?_ | refine m_yes0 rfl rfl rfl (fun _ _ => p_pickf rfl rfl) rfl ?_
      first | refine m_float0 rfl (fun _ _ => p_pickt rfl rfl) rfl ?_ | refine m_float0 rfl (fun _ _ => p_pickf rfl rfl) rfl ?_
      refine m_float0 rfl (fun _ _ => p_assign rfl) rfl ?_
      refine m_nil ?_
      refine g_qt <| g_ret ?_
      first | exact g_postA (rs := [.tmp 2]) rfl (.tmp rfl .nil) ⟨show Value.bool false = _ by (rw [hM, decide_eq_false (p := e = 0) (by assumption)]; rfl), rfl⟩ | exact g_postA (rs := [.tmp 2]) rfl (.tmp rfl .nil) ⟨show Value.bool true = _ by (rw [hM, decide_eq_true (p := e = 0) (by assumption), decide_eq_true (p := (at' : Int) < ls.length - 1) (by assumption)]; rfl), rfl⟩ | exact g_postA (rs := [.tmp 2]) rfl (.tmp rfl .nil) ⟨show Value.bool (!decide (strB li = ⟨#[]⟩)) = _ by (rw [hM, decide_eq_true (p := e = 0) (by assumption), decide_eq_false (p := (at' : Int) < ls.length - 1) (by assumption), Bool.true_and, Bool.false_or, decide_not]; congr 2; exact decide_eq_decide.2 hnil), rfl⟩
    · refine m_yes0 rfl rfl rfl (fun _ _ => p_move rfl) rfl ?_
      refine m_yes0 rfl rfl rfl (fun _ _ => p_nilCheck rfl) rfl ?_
      refine m_yes0 rfl rfl rfl (fun _ _ => p_fieldAddr rfl) rfl ?_
      refine m_yes rfl rfl rfl (p_loadA) rfl ?_
      refine m_yes0 rfl rfl rfl (fun _ _ => p_move rfl) rfl ?_
      refine m_yes0 rfl rfl rfl (fun _ _ => p_nilCheck rfl) rfl ?_
      refine m_yes0 rfl rfl rfl (fun _ _ => p_fieldAddr rfl) rfl ?_
      refine m_yes rfl rfl rfl (p_loadA) rfl ?_
      refine m_yes0 rfl rfl rfl (fun _ _ => p_indexAddr rfl rfl (by omega) (fun _ => rfl)) rfl ?_
      refine m_yes rfl rfl rfl (p_load (by rfl) rfl (Has.ro hlb) hx) rfl ?_
      refine m_yes0 rfl rfl rfl (fun _ _ => p_neqs (i := strB li) (j := ⟨#[]⟩) (by rfl) rfl rfl) rfl ?_
      first | refine m_yes0 rfl rfl rfl (fun _ _ => p_pickt rfl rfl) rfl ?_ | refine m_yes0 rfl rfl rfl (fun _ _ => p_pickf rfl rfl) rfl ?_
      first | refine m_float0 rfl (fun _ _ => p_pickt rfl rfl) rfl ?_ | refine m_float0 rfl (fun _ _ => p_pickf rfl rfl) rfl ?_
      refine m_float0 rfl (fun _ _ => p_assign rfl) rfl ?_
      refine m_nil ?_
      refine g_qt <| g_ret ?_
      first | exact g_postA (rs := [.tmp 2]) rfl (.tmp rfl .nil) ⟨show Value.bool false = _ by (rw [hM, decide_eq_false (p := e = 0) (by assumption)]; rfl), rfl⟩ | exact g_postA (rs := [.tmp 2]) rfl (.tmp rfl .nil) ⟨show Value.bool true = _ by (rw [hM, decide_eq_true (p := e = 0) (by assumption), decide_eq_true (p := (at' : Int) < ls.length - 1) (by assumption)]; rfl), rfl⟩ | exact g_postA (rs := [.tmp 2]) rfl (.tmp rfl .nil) ⟨show Value.bool (!decide (strB li = ⟨#[]⟩)) = _ by (rw [hM, decide_eq_true (p := e = 0) (by assumption), decide_eq_false (p := (at' : Int) < ls.length - 1) (by assumption), Bool.true_and, Bool.false_or, decide_not]; congr 2; exact decide_eq_decide.2 hnil), rfl⟩
  · refine m_no0 rfl rfl rfl rfl rfl ?_
    refine m_no0 rfl rfl rfl rfl rfl ?_
    refine m_no0 rfl rfl rfl rfl rfl ?_
    refine m_no rfl rfl rfl rfl rfl ?_
    refine m_no0 rfl rfl rfl rfl rfl ?_
    refine m_no0 rfl rfl rfl rfl rfl ?_
    refine m_no0 rfl rfl rfl rfl rfl ?_
    refine m_no rfl rfl rfl rfl rfl ?_
    refine m_no0 rfl rfl rfl rfl rfl ?_
    refine m_no0 rfl rfl rfl rfl rfl ?_
    refine m_no0 rfl rfl rfl rfl rfl ?_
    refine m_no0 rfl rfl rfl rfl rfl ?_
    refine m_nou0 rfl rfl rfl rfl ?_
    refine m_nou0 rfl rfl rfl rfl ?_
    refine m_nou0 rfl rfl rfl rfl ?_
    refine m_nou rfl rfl rfl rfl ?_
    refine m_nou0 rfl rfl rfl rfl ?_
    refine m_nou0 rfl rfl rfl rfl ?_
    refine m_nou0 rfl rfl rfl rfl ?_
    refine m_nou rfl rfl rfl rfl ?_
    refine m_nou0 rfl rfl rfl rfl ?_
    refine m_nou rfl rfl rfl rfl ?_
    refine m_nou0 rfl rfl rfl rfl ?_
    refine m_no0 rfl rfl rfl rfl rfl ?_
    first | refine m_float0 rfl (fun _ _ => p_pickt rfl rfl) rfl ?_ | refine m_float0 rfl (fun _ _ => p_pickf rfl rfl) rfl ?_
    refine m_float0 rfl (fun _ _ => p_assign rfl) rfl ?_
    refine m_nil ?_
    refine g_qt <| g_ret ?_
    first | exact g_postA (rs := [.tmp 2]) rfl (.tmp rfl .nil) ⟨show Value.bool false = _ by (rw [hM, decide_eq_false (p := e = 0) (by assumption)]; rfl), rfl⟩ | exact g_postA (rs := [.tmp 2]) rfl (.tmp rfl .nil) ⟨show Value.bool true = _ by (rw [hM, decide_eq_true (p := e = 0) (by assumption), decide_eq_true (p := (at' : Int) < ls.length - 1) (by assumption)]; rfl), rfl⟩ | exact g_postA (rs := [.tmp 2]) rfl (.tmp rfl .nil) ⟨show Value.bool (!decide (strB li = ⟨#[]⟩)) = _ by (rw [hM, decide_eq_true (p := e = 0) (by assumption), decide_eq_false (p := (at' : Int) < ls.length - 1) (by assumption), Bool.true_and, Bool.false_or, decide_not]; congr 2; exact decide_eq_decide.2 hnil), rfl⟩
end Go.Proofs.YtcnfcoojmbjdlaaGreatDoor
/- Chapter 26: reading behind an error: an instruction, a routine. Conditions: what the library's variables hold (LibA). -/
namespace Go.Z
set_option maxRecDepth 8000
set_option linter.unusedVariables false
set_option linter.unusedSimpArgs false
set_option linter.unusedSectionVars false
open Go
section
variable {P : Program} {M : Mx} {n : Nat} {L : Fr} {H H' : List Assn} {x y : Operand} {t ty tz : TypeId} {ps : String} {af : Array Edge} {gd : Option (Nat × Bool)} {dd : Option Tmp}
theorem p_sliceArr0 {b m e : Nat} {yt ye : Ty} [ht : TyC P t yt] (hd : yt.d = .array m e) [he : TyC P e ye] (h1 : ev L x = some (.pointer (some ⟨b, 0, none⟩))) :
    Pur P M n L H ⟨dd, .slice t x none none none, ty, ps, af, gd⟩ (.slice (some ⟨b, 0, none⟩) m m) := fun a w ha _ => by
  have e6 : (Addr.mk b 0 none).add 0 = ⟨b, 0, none⟩ := by unfold Addr.add; split <;> simp_all
  simp [execOp, Instr.sliceAt, Instr.slice, Instr.sliceBounds, Instr.sliceBound, Instr.sureAddr, asIntOf, ha.ev h1, ht.run_u, hd, he.run_size, e6]
end
end Go.Z
namespace Go.Z.Asm
set_option maxRecDepth 8000
set_option linter.unusedVariables false
set_option linter.unusedSimpArgs false
set_option linter.unusedSectionVars false
open Go Go.Z Go.Lib Go.Z.Txt
theorem ops_row : ∀ k, k < 11 → ∃ w a b c d e, sub opsC (0 + k * 6) 6 = some [.string (strB w), .int .i64 a, .int .i64 b, .int .i64 c, .int .i64 d, .int .i64 e]
  | 0, _ => ⟨[], _, _, _, _, _, rfl⟩
  | 1, _ => ⟨[108, 111, 97, 100], _, _, _, _, _, rfl⟩
  | 2, _ => ⟨[109, 111, 118, 101], _, _, _, _, _, rfl⟩
  | 3, _ => ⟨[114, 101, 97, 100], _, _, _, _, _, rfl⟩
  | 4, _ => ⟨[119, 114, 105, 116, 101], _, _, _, _, _, rfl⟩
  | 5, _ => ⟨[117, 110, 97, 114, 121], _, _, _, _, _, rfl⟩
  | 6, _ => ⟨[97, 112, 112, 108, 121], _, _, _, _, _, rfl⟩
  | 7, _ => ⟨[106, 117, 109, 112], _, _, _, _, _, rfl⟩
  | 8, _ => ⟨[122, 101, 114, 111], _, _, _, _, _, rfl⟩
  | 9, _ => ⟨[99, 97, 108, 108], _, _, _, _, _, rfl⟩
  | 10, _ => ⟨[114, 101, 115, 101, 116], _, _, _, _, _, rfl⟩
  | k + 11, h => by omega
theorem failS_err {x : Int} {s : RS} (h : s.2 ≠ 0) : failS x s = s := by
  unfold failS
  rw [if_neg h]
theorem nextS_err {ls : List (List UInt8)} {s : RS} (h : s.2 ≠ 0) : nextS ls s = ([[]], s) := by
  unfold nextS
  have h1 : (if (ls.length : Int) - 1 ≤ s.1 then failS 4 s else s) = s := by split; exact failS_err h; rfl
  rw [h1]
  dsimp only
  rw [if_pos h]
theorem nextS_zero {ls : List (List UInt8)} {s : RS} (h : (nextS ls s).2.2 = 0) : (s.1 : Int) < ls.length - 1 ∧ s.2 = 0 := by
  by_cases h0 : s.2 = 0
  · refine ⟨?_, h0⟩
    unfold nextS at h
    dsimp only at h
    by_cases h1 : (ls.length : Int) - 1 ≤ s.1
    · rw [if_pos h1, if_pos (failS_ne (by decide) s)] at h
      exact absurd h (failS_ne (by decide) s)
    · omega
  · rw [nextS_err h0] at h; exact absurd h h0
theorem numbersS_pos {W : List (List UInt8)} {many : Int} {s : RS} (h : (numbersS W many s).1 ≠ s.1) : s.2 = 0 := by
  rw [numbersS_eq] at h
  by_cases h0 : s.2 = 0
  · exact h0
  · have h1 : badS W s = s := by unfold badS; split; exact failS_err h0; rfl
    rw [h1] at h
    have h2 : (if 0 ≤ many ∧ (W.length : Int) ≠ many then failS 5 s else s) = s := by split; exact failS_err h0; rfl
    rw [h2] at h
    unfold doneS at h
    rw [if_neg h0] at h
    exact absurd rfl h
theorem listS_lt {ls : List (List UInt8)} {s : RS} (word : List UInt8) (many : Int) (hs : s.1 < ls.length) : (listS ls word many s).1 < ls.length := by
  have hl : listS ls word many s = numbersS (nextS ls s).1.tail many (if (nextS ls s).1.headD [] ≠ word then failS 5 (nextS ls s).2 else (nextS ls s).2) := rfl
  have hat := nextS_at ls s
  have h1 : (if (nextS ls s).1.headD [] ≠ word then failS 5 (nextS ls s).2 else (nextS ls s).2).1 = s.1 := by split <;> exact hat
  have h2 := numbersS_at (nextS ls s).1.tail many (if (nextS ls s).1.headD [] ≠ word then failS 5 (nextS ls s).2 else (nextS ls s).2)
  by_cases h3 : (listS ls word many s).1 = s.1
  · omega
  · rw [hl] at h3 ⊢
    have h4 := numbersS_pos (W := (nextS ls s).1.tail) (many := many) (s := if (nextS ls s).1.headD [] ≠ word then failS 5 (nextS ls s).2 else (nextS ls s).2) (by omega)
    by_cases h5 : (nextS ls s).1.headD [] ≠ word
    · rw [if_pos h5] at h4; exact absurd h4 (failS_ne (by decide) _)
    · rw [if_neg h5] at h4
      have := nextS_zero h4
      omega
def inB : List UInt8 := [105, 110]
def outW : List UInt8 := [111, 117, 116]
def regsW : List UInt8 := [114, 101, 103, 115]
def initW : List UInt8 := [105, 110, 105, 116]
def routW : List UInt8 := [114, 111, 117, 116, 105, 110, 101]
def enumW : List UInt8 := [101, 110, 117, 109, 115]
/-- the first line of a routine -/
def headS (ls : List (List UInt8)) (s : RS) : RS := doneS (if (nextS ls s).1.headD [] ≠ routW ∨ (nextS ls s).1.length ≠ 2 then failS 5 (nextS ls s).2 else (nextS ls s).2)
/-- the lines of a routine ahead of its code -/
def foreS (ls : List (List UInt8)) (s : RS) : RS := listS ls initW (-1) (listS ls regsW 1 (listS ls outW (-1) (listS ls inB (-1) (headS ls s))))
theorem headS_lt {ls : List (List UInt8)} {s : RS} (hs : s.1 < ls.length) : (headS ls s).1 < ls.length := by
  unfold headS
  have hat := nextS_at ls s
  by_cases h : (nextS ls s).1.headD [] ≠ routW ∨ (nextS ls s).1.length ≠ 2
  · rw [if_pos h]
    unfold doneS
    rw [if_neg (failS_ne (by decide) _)]
    show (nextS ls s).2.1 < _
    omega
  · rw [if_neg h]
    unfold doneS
    split
    · rename_i h0
      have := nextS_zero h0
      dsimp only; omega
    · omega
end Go.Z.Asm
namespace Go.Proofs.YtcnfcoojmbjdlaaGreatDoor
set_option maxRecDepth 8000
set_option linter.unusedVariables false
set_option linter.unusedSimpArgs false
set_option linter.unusedSectionVars false
open Go Go.Z Go.Z.Asm Go.RowKit Go.Z.Txt

theorem ins1_ok {ρ : Nat → Obj → Prop} {b4 wb n1 c1 : Nat} {T T2 : TypeId} {fz fz2 : Nat × Nat} {l2 : List Value} (h4 : ρ b4 (.cells [.slice (some ⟨wb, 0, none⟩) 1 c1].toArray T fz)) (hw : ρ wb (.cells [.string ⟨#[]⟩].toArray T2 fz2)) (ow : ByteArray) (a b c d e : Int) :
    Con Tryz.prog ρ 107 #[.agg #[.string ow, .int .i64 a, .int .i64 b, .int .i64 c, .int .i64 d, .int .i64 e], .pointer (some ⟨b4, 0, none⟩)] [] (fun v H => v = .bool false ∧ H = []) := by
  refine con_intro Tryz.func107 Tryz.call107 rfl Tryz.ntmps107 rfl (L := [(0, _), (1, _)]) rfl fun w hh => ?_
  refine g_seq <| g_region ?_
  refine g_eff (e_box rfl (by rfl)) rfl (fun _ _ => ?_)
  rintro ⟨b2, rfl, rfl⟩
  refine g_pure (p_assign rfl) rfl ?_
  refine g_nil <| g_qt <| g_seq ?_
  refine m_begin0 (.fl 0 0 (.fl 1 1 (.fl 2 1 (.fl 3 0 (.fl 4 1 (.fl 5 0 (.fl 6 0 (.fl 7 1 (.fl 8 0 (.fl 9 1 (.fl 10 0 (.fl 11 0 (.fl 12 0 .done))))))))))))) (by kernel_rfl) (by kernel_rfl) ?_
  refine m_float0 rfl (fun _ _ => p_fieldAddr rfl) rfl ?_
  refine m_float rfl (p_loadA) rfl ?_
  refine m_float rfl (p_load (by rfl) rfl (Has.ro h4) (by rfl)) rfl ?_
  refine m_float0 rfl (fun _ _ => p_indexAddr rfl rfl (by omega) (fun _ => rfl)) rfl ?_
  refine m_float rfl (p_load (by rfl) rfl (Has.ro hw) (by rfl)) rfl ?_
  refine m_float0 rfl (fun _ _ => p_eqls (i := ow) (j := ⟨#[]⟩) (by rfl) rfl rfl) rfl ?_
  refine m_float0 rfl (fun _ _ => p_move rfl) rfl ?_
  refine m_splitd 6 rfl rfl (fun h1 => ?_) (fun h1 => ?_)
  · refine m_yes rfl rfl rfl (p_load (by rfl) rfl (Has.ro h4) (by rfl)) rfl ?_
    refine m_yes0 rfl rfl rfl (fun _ _ => p_indexAddr rfl rfl (by omega) (fun _ => rfl)) rfl ?_
    refine m_yes rfl rfl rfl (p_load (by rfl) rfl (Has.ro hw) (by rfl)) rfl ?_
    refine m_yes0 rfl rfl rfl (fun _ _ => p_neqsF (by rfl) rfl rfl rfl) rfl ?_
    first | refine m_float0 rfl (fun _ _ => p_pickt rfl rfl) rfl ?_ | refine m_float0 rfl (fun _ _ => p_pickf rfl rfl) rfl ?_
    refine m_float0 rfl (fun _ _ => p_assign rfl) rfl ?_
    refine m_nil ?_
    refine g_qt <| g_ret ?_
    exact g_postA (rs := [.tmp 3]) rfl (.tmp rfl .nil) ⟨rfl, rfl⟩
  · refine m_no rfl rfl rfl rfl rfl ?_
    refine m_no0 rfl rfl rfl rfl rfl ?_
    refine m_no rfl rfl rfl rfl rfl ?_
    refine m_no0 rfl rfl rfl rfl rfl ?_
    first | refine m_float0 rfl (fun _ _ => p_pickt rfl rfl) rfl ?_ | refine m_float0 rfl (fun _ _ => p_pickf rfl rfl) rfl ?_
    refine m_float0 rfl (fun _ _ => p_assign rfl) rfl ?_
    refine m_nil ?_
    refine g_qt <| g_ret ?_
    exact g_postA (rs := [.tmp 3]) rfl (.tmp rfl .nil) ⟨rfl, rfl⟩
theorem idxO_ok {ρ : Nat → Obj → Prop} (hO : OpsK ρ) {b4 wb c1 : Nat} {T T2 : TypeId} {fz fz2 : Nat × Nat} (h4 : ρ b4 (.cells [.slice (some ⟨wb, 0, none⟩) 1 c1].toArray T fz)) (hw : ρ wb (.cells [.string ⟨#[]⟩].toArray T2 fz2)) :
    Con Tryz.prog ρ 106 #[.slice (some ⟨0, 0, none⟩) 11 11, .func (.func 107) #[] #[.pointer (some ⟨b4, 0, none⟩)]] [] (fun v H => v = .int .i64 (-1) ∧ H = []) := by
  obtain ⟨OT, oz, hg⟩ := hO
  refine con_intro Tryz.func106 Tryz.call106 rfl Tryz.ntmps106 rfl (L := [(0, _), (1, _)]) rfl fun w hh => ?_
  refine g_seq <| g_region ?_
  refine g_pure (p_assign rfl) rfl ?_
  refine g_nil <| g_qt <| g_seq <| g_seq <| g_region ?_
  refine g_pure (p_move rfl) rfl ?_
  refine g_pure (p_len (by rfl) rfl) rfl ?_
  refine g_pure (p_move rfl) rfl ?_
  refine g_nil <| g_qt <| g_block ?_
  refine g_loop (fun k : Nat => [(0, .slice (some ⟨0, 0, none⟩) 11 11), (1, .func (.func 107) #[] #[.pointer (some ⟨b4, 0, none⟩)]), (7, .int .i64 11), (8, .int .i64 k)]) (fun _ => []) (fun k => k ≤ 11) (fun k => 11 - k) 0 (Nat.zero_le _) (by (repeat (first | exact trivial | refine ⟨by rfl, ?_⟩)); done) .nil ?_
  rintro k hk1
  refine g_seq <| g_region ?_
  refine g_pure (p_lss rfl rfl) rfl ?_
  refine g_nil <| g_qt <| g_seq ?_
  refine g_ifd rfl (fun q => ?_) (fun q => ?_)
  · obtain ⟨ow, oa, ob, oc, od, oe, hrow⟩ := ops_row k (by omega)
    refine g_skip <| g_qt <| g_seq <| g_block <| g_seq <| g_region ?_
    refine g_pure (p_move rfl) rfl ?_
    refine g_pure (p_assign rfl) rfl ?_
    refine g_nil <| g_qt <| g_seq <| g_region ?_
    refine g_pure (p_move rfl) rfl ?_
    refine g_pure (p_move rfl) rfl ?_
    refine g_pure (p_move rfl) rfl ?_
    refine g_pure (p_indexAddr rfl rfl (by omega) (fun _ => rfl)) rfl ?_
    refine g_pure (p_loadN (by rfl) rfl (Has.ro hg) (by rw [Int.toNat_natCast]; exact hrow)) rfl ?_
    refine g_call (Hin := []) (Hr := ?hr1) (R := ?rr1) rfl rfl rfl ?hin1 ?hc1 ?hk1
    case hin1 => repeat' (first | exact Cover.nil | exact Take.here | apply Cover.cons | apply Take.there)
    case hc1 => intro ρ' hρ hR; exact ins1_ok (n1 := 0) (l2 := []) (hρ _ _ h4) (hρ _ _ hw) (strB ow) oa ob oc od oe
    rintro _ _ ⟨rfl, rfl⟩
    refine g_nil <| g_qt ?_
    refine g_iff rfl ?_
    refine g_skip <| g_qb <| g_qt <| g_region ?_
    first | refine g_pure (p_addi rfl rfl (by omega)) rfl ?_ | refine g_pure (p_add rfl rfl) rfl ?_
    refine g_pure (p_move rfl) rfl ?_
    refine g_nil <| g_qn ?_
    exact g_next (k + 1) (by (repeat (first | exact trivial | refine ⟨by rfl, ?_⟩)); done) .nil (by omega) (by omega)
  · refine g_exit <| g_qt_exit <| g_qn_exit <| g_qb_exit <| g_qt <| g_seq <| g_region ?_
    refine g_pure (p_assign rfl) rfl ?_
    refine g_nil <| g_qt <| g_ret ?_
    exact g_post (rs := [.tmp 4]) rfl (.tmp rfl .nil) ⟨rfl, rfl⟩ .nil
theorem insE_ok {ρ : Nat → Obj → Prop} (hk : LibA ρ) {lb : Nat} {ls : List (List UInt8)} (hL : Lns ρ lb ls) (p : Nat) (s : RS) (hs : s.1 < ls.length) (he : s.2 ≠ 0) :
    Con Tryz.prog ρ 77 #[.pointer (some ⟨p, 0, none⟩)] [Rd 73 p lb ls.length s] (fun v H => v = .tuple #[.agg #[.int .i64 0, .int .i64 0, .int .i64 0, .int .i64 0, .int .i64 0], .bool false] ∧ H = [Rd 73 p lb ls.length s]) := by
  have hn := nextS_err (ls := ls) he
  have hnx := fun {ρ' : Nat → Obj → Prop} (hρ : ∀ b o, ρ b o → ρ' b o) => next_ok (hk.mono hρ) (hL.mono hρ) p s hs
  rw [hn] at hnx
  refine con_intro Tryz.func77 Tryz.call77 rfl Tryz.ntmps77 rfl (L := [(0, _)]) rfl fun w hh => ?_
  refine g_seq <| g_region ?_
  refine g_eff (e_alloc (by rfl)) rfl (fun _ _ => ?_)
  rintro ⟨b2, rfl, rfl⟩
  refine g_pure (p_assign rfl) rfl ?_
  refine g_nil <| g_qt <| g_seq <| g_region ?_
  refine g_pure (p_move rfl) rfl ?_
  refine g_call (Hin := [Rd 73 p lb ls.length s]) (Hr := ?hr2) (R := ?rr2) rfl rfl rfl ?hin2 ?hc2 ?hk2
  case hin2 => repeat' (first | exact Cover.nil | exact Take.here | apply Cover.cons | apply Take.there)
  case hc2 => intro ρ' hρ hR; exact hnx hρ
  rintro _ _ ⟨wb, rfl, rfl⟩
  refine g_eff (e_alloc (by rfl)) rfl (fun _ _ => ?_)
  rintro ⟨b4, rfl, rfl⟩
  first | refine g_eff0 (e_storeO rfl rfl (by rfl) (by rfl) (by rfl) (by repeat' (first | exact Take.here | apply Take.there)) (by rfl)) (fun _ _ => ?_) | refine g_eff0 (e_store1 (by rfl) rfl rfl rfl (by repeat' (first | exact Take.here | apply Take.there)) (by first | decide | (simp <;> omega) | omega)) (fun _ _ => ?_)
  rintro rfl
  refine g_nil <| g_qt <| g_seq <| g_seq <| g_region ?_
  refine g_pure (p_loadA) rfl ?_
  refine g_pure (p_indexAddr rfl rfl (by simp) (fun _ => rfl)) rfl ?_
  refine g_pure (p_load (v := .string ⟨#[]⟩) (by rfl) rfl (Has.own (by repeat' (first | exact Take.here | apply Take.there))) (by rfl)) rfl ?_
  refine g_pure (p_eqls (i := ⟨#[]⟩) (j := ⟨#[101, 110, 100]⟩) (by rfl) rfl rfl) rfl ?_
  refine g_nil <| g_qt ?_
  refine g_ifd rfl (fun h1 => ?_) (fun h1 => ?_)
  · exact absurd h1 (by decide)
  · refine g_skip <| g_qt <| g_seq <| g_region ?_
    refine g_pure (p_sliceArr0 (he := ty62) (by rfl) rfl) rfl ?_
    refine g_pure (p_makeFunc rfl rfl) rfl ?_
    refine g_call (Hin := []) (Hr := ?hr3) (R := ?rr3) rfl rfl rfl ?hin3 ?hc3 ?hk3
    case hin3 => repeat' (first | exact Cover.nil | exact Take.here | apply Cover.cons | apply Take.there)
    case hc3 => intro ρ' hρ hR; exact idxO_ok (hk.mono hρ).ops (Take.ro (A := Blk b4 (.cells [.slice (some ⟨wb, 0, none⟩) 1 1].toArray 70 (0, 0))) (by repeat' (first | exact Take.here | apply Take.there)) hR).blk (Take.ro (A := Blk wb (.cells [.string ⟨#[]⟩].toArray 9 (0, 0))) (by repeat' (first | exact Take.here | apply Take.there)) hR).blk
    rintro _ _ ⟨rfl, rfl⟩
    refine g_pure (p_assign rfl) rfl ?_
    refine g_nil <| g_qt <| g_seq <| g_seq <| g_region ?_
    refine g_pure (p_move rfl) rfl ?_
    refine g_pure (p_lss rfl rfl) rfl ?_
    refine g_nil <| g_qt ?_
    refine g_ift rfl ?_
    refine g_seq <| g_region ?_
    refine g_pure (p_move rfl) rfl ?_
    refine g_call (Hin := [Rd 73 p lb ls.length s]) (Hr := ?hr4) (R := ?rr4) rfl rfl rfl ?hin4 ?hc4 ?hk4
    case hin4 => repeat' (first | exact Cover.nil | exact Take.here | apply Cover.cons | apply Take.there)
    case hc4 => intro ρ' hρ hR; exact fail_ok p lb ls.length s 5
    rintro _ _ ⟨rfl, rfl⟩
    refine g_nil <| g_qt <| g_seq <| g_region ?_
    refine g_pure (p_build (by rfl) rfl (by rfl)) rfl ?_
    first | refine g_eff0 (e_storeO rfl rfl (by rfl) (by rfl) (by rfl) (by repeat' (first | exact Take.here | apply Take.there)) (by rfl)) (fun _ _ => ?_) | refine g_eff0 (e_storeN rfl rfl (by rfl) (by rfl) (by rfl) (by repeat' (first | exact Take.here | apply Take.there)) (by simp)) (fun _ _ => ?_)
    rintro rfl
    refine g_pure (p_assign rfl) rfl ?_
    refine g_nil <| g_qt <| g_ret <| g_qt_ret ?_
    rw [failS_err he]
    exact g_postA (rs := [.cell 2 32, .tmp 3]) rfl (Res.cellN (by rfl) rfl (Has.own (by repeat' (first | exact Take.here | apply Take.there))) (by rfl) (.tmp rfl .nil)) ⟨rfl, rfl⟩
end Go.Proofs.YtcnfcoojmbjdlaaGreatDoor
