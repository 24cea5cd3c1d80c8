/- Chapter 16: sampling. Conditions: none. -/
import Derived.Test.YtceecdjckhbncaaD6
namespace Go.Z.Val
set_option linter.unusedVariables false
set_option linter.unusedSimpArgs false
set_option linter.unusedSectionVars false
open Go Go.Z
def WhenF (a x : List Ce) (tag : Int) (t : Nat) : Ce := if (at0 x t).1 = 1 ∧ (at0 x t).2 = tag then cleanF (at0 a t) else (0, 0)
def WhenL (a x : List Ce) (tag : Int) : List Ce := (List.range (min a.length x.length)).map (WhenF a x tag)
theorem WhenL_len (a x : List Ce) (tag : Int) : (WhenL a x tag).length = min a.length x.length := by simp [WhenL]
def whenG (a x : List Ce) (tag : Int) (t : Nat) : Ce := if (cleanF (at0 x t)).1 = 1 ∧ (cleanF (at0 x t)).2 = tag then cleanF (at0 a t) else (0, 0)
theorem clean_one (u : Ce) (tag : Int) : ((cleanF u).1 = 1 ∧ (cleanF u).2 = tag) ↔ (u.1 = 1 ∧ u.2 = tag) := by
  unfold cleanF
  by_cases h1 : u.1 = 1
  · simp [h1]
  · by_cases h2 : u.1 = 2 <;> simp [h1, h2]
theorem whenG_eq (a x : List Ce) (tag : Int) (t : Nat) : whenG a x tag t = WhenF a x tag t := by
  unfold whenG WhenF
  by_cases h : (at0 x t).1 = 1 ∧ (at0 x t).2 = tag
  · rw [if_pos ((clean_one _ _).2 h), if_pos h]
  · rw [if_neg (fun h2 => h ((clean_one _ _).1 h2)), if_neg h]
theorem WhenF_clean (a x : List Ce) (tag : Int) (t : Nat) : cleanF (WhenF a x tag t) = WhenF a x tag t := by
  unfold WhenF; split; exact cleanF_idem _; rfl
theorem WhenF_not {a x : List Ce} {tag : Int} {t : Nat} (h : jointF [a, x] t = false) : WhenF a x tag t = (0, 0) := by
  unfold WhenF
  split
  · rename_i h1
    rw [joint2] at h
    have hx : thereB (at0 x t) = true := by unfold thereB; simp [h1.1]
    rw [hx, Bool.and_true] at h
    exact cleanF_not h
  · rfl
end Go.Z.Val
namespace Go.Proofs.Ytceecdjckhbncaa
open Go Go.Z Go.Z.Val

theorem when1_ok {ρ : Nat → Obj → Prop} {a x : List Ce} {tag : Int} {t p5 : Nat} (h5 : ρ p5 (.cells [.int .i64 tag].toArray 3 (0, 0))) {ca : Option Addr} {k : Nat} (ek : k = [a, x].length) (hc : RSl ρ 2 ca k ((cellsAt [a, x] t).flatMap encC)) :
    Con Try.prog ρ 48 #[.slice ca k k, .pointer (some ⟨p5, 0, none⟩)] [Al []] (fun v H => v = aggC (whenG a x tag t) ∧ H = [Al []]) := by
  obtain ⟨_, bl, ol, kl, Tl, fl, hl⟩ := hc
  obtain ⟨l1, l2, l3⟩ := hl (by rw [ek]; simp)
  obtain ⟨x0, -, -⟩ := cell_at l3 (k := 0) (by simp [cellsAt])
  obtain ⟨-, y1, y2⟩ := cell_at l3 (k := 1) (by simp [cellsAt])
  have x0' : sub kl (ol + (0 : Int).toNat * 2) 2 = some (encC (cleanF (at0 a t))) := x0
  have y1' : kl[ol + (1 : Int).toNat * 2]? = some (.int .i64 (cleanF (at0 x t)).1) := y1
  have y2' : kl[ol + (1 : Int).toNat * 2 + 1]? = some (.int .i64 (cleanF (at0 x t)).2) := y2
  clear x0 y1 y2
  unfold whenG
  generalize cleanF (at0 a t) = u at *
  generalize cleanF (at0 x t) = v at *
  obtain ⟨u1, u2⟩ := u
  obtain ⟨v1, v2⟩ := v
  subst ek
  refine con_intro Try.func48 Try.call48 rfl Try.ntmps48 rfl (L := [(0, _), (1, _)]) rfl fun w hh => ?_
  refine g_seq ?_
  refine g_region ?_
  refine g_eff (e_alloc (by rfl)) rfl (fun _ _ => ?_)
  rintro ⟨b3, rfl, rfl⟩
  refine g_nil ?_
  refine g_qt ?_
  refine g_seq ?_
  refine g_seq ?_
  refine m_begin0 (.fl 0 0 (.fl 1 0 (.fl 2 0 (.fl 3 1 (.fl 4 0 (.fl 5 0 (.fl 6 0 (.fl 7 0 (.fl 8 0 (.fl 9 1 (.fl 10 1 (.fl 11 0 (.fl 12 0 .done))))))))))))) (by kernel_rfl) (by kernel_rfl) ?_
  refine m_float0 rfl (fun _ _ => p_move rfl) rfl ?_
  refine m_float0 rfl (fun _ _ => p_indexAddr rfl rfl (by simp) (fun _ => l1)) rfl ?_
  refine m_float0 rfl (fun _ _ => p_fieldAddr rfl) rfl ?_
  refine m_float rfl (p_load (by rfl) rfl (Has.ro l2) y1') rfl ?_
  refine m_float0 rfl (fun _ _ => p_eql rfl rfl) rfl ?_
  refine m_float0 rfl (fun _ _ => p_move rfl) rfl ?_
  refine m_splitd 5 rfl rfl (fun h1 => ?_) (fun h1 => ?_)
  · refine m_yes0 rfl rfl rfl (fun _ _ => p_move rfl) rfl ?_
    refine m_yes0 rfl rfl rfl (fun _ _ => p_indexAddr rfl rfl (by simp) (fun _ => l1)) rfl ?_
    refine m_yes0 rfl rfl rfl (fun _ _ => p_fieldAddr rfl) rfl ?_
    refine m_yes rfl rfl rfl (p_load (by rfl) rfl (Has.ro l2) y2') rfl ?_
    refine m_yes rfl rfl rfl (p_load (by rfl) rfl (by first | (apply Has.own; (repeat' (first | exact Take.here | apply Take.there)); done) | exact Has.ro (by assumption)) (by first | rfl | assumption)) rfl ?_
    refine m_yes0 rfl rfl rfl (fun _ _ => p_eql rfl rfl) rfl ?_
    first | refine m_float0 rfl (fun _ _ => p_pickt rfl rfl) rfl ?_ | refine m_float0 rfl (fun _ _ => p_pickf rfl rfl) rfl ?_
    refine m_nil ?_
    refine g_qt ?_
    refine g_ifdL rfl (fun h2 => ?_) (fun h2 => ?_)
    · refine g_seq ?_
      refine g_region ?_
      refine g_pure (p_move rfl) rfl ?_
      refine g_pure (p_indexAddr rfl rfl (by simp) (fun _ => l1)) rfl ?_
      refine g_pure (p_loadN (by rfl) rfl (Has.ro l2) x0') rfl ?_
      first | refine g_eff0 (e_storeO rfl rfl (by rfl) (by rfl) (by rfl) (by repeat' (first | exact Take.here | apply Take.there)) (by rfl)) (fun _ _ => ?_) | refine g_eff0 (e_storeN rfl rfl (by rfl) (by rfl) (by rfl) (by repeat' (first | exact Take.here | apply Take.there)) (by simp)) (fun _ _ => ?_)
      rintro rfl
      refine g_nil ?_
      refine g_qt ?_
      refine g_ret ?_
      refine g_qt_ret ?_
      exact g_post (Ho := [Al []]) (rs := [.cell 3 31]) rfl (Res.cellN (by rfl) rfl (Has.own (by repeat' (first | exact Take.here | apply Take.there))) (by rfl) .nil) ⟨by dsimp only at *; first | (rw [if_pos (by omega)]; rfl) | (rw [if_neg (by omega)]; rfl), rfl⟩ (by repeat' (first | exact Cover.nil | exact Take.here | apply Cover.cons | apply Take.there))
    · refine g_skip ?_
      refine g_qt ?_
      refine g_seq ?_
      refine g_region ?_
      refine g_pure (p_build (by rfl) rfl (by rfl)) rfl ?_
      first | refine g_eff0 (e_storeO rfl rfl (by rfl) (by rfl) (by rfl) (by repeat' (first | exact Take.here | apply Take.there)) (by rfl)) (fun _ _ => ?_) | refine g_eff0 (e_storeN rfl rfl (by rfl) (by rfl) (by rfl) (by repeat' (first | exact Take.here | apply Take.there)) (by simp)) (fun _ _ => ?_)
      rintro rfl
      refine g_nil ?_
      refine g_qt ?_
      refine g_ret ?_
      exact g_post (Ho := [Al []]) (rs := [.cell 3 31]) rfl (Res.cellN (by rfl) rfl (Has.own (by repeat' (first | exact Take.here | apply Take.there))) (by rfl) .nil) ⟨by dsimp only at *; first | (rw [if_pos (by omega)]; rfl) | (rw [if_neg (by omega)]; rfl), rfl⟩ (by repeat' (first | exact Cover.nil | exact Take.here | apply Cover.cons | apply Take.there))
  · refine m_no0 rfl rfl rfl rfl rfl ?_
    refine m_no0 rfl rfl rfl rfl rfl ?_
    refine m_no0 rfl rfl rfl rfl rfl ?_
    refine m_no rfl rfl rfl rfl rfl ?_
    refine m_no rfl rfl rfl rfl rfl ?_
    refine m_no0 rfl rfl rfl rfl rfl ?_
    first | refine m_float0 rfl (fun _ _ => p_pickt rfl rfl) rfl ?_ | refine m_float0 rfl (fun _ _ => p_pickf rfl rfl) rfl ?_
    refine m_nil ?_
    refine g_qt ?_
    refine g_iff rfl ?_
    refine g_skip ?_
    refine g_qt ?_
    refine g_seq ?_
    refine g_region ?_
    refine g_pure (p_build (by rfl) rfl (by rfl)) rfl ?_
    first | refine g_eff0 (e_storeO rfl rfl (by rfl) (by rfl) (by rfl) (by repeat' (first | exact Take.here | apply Take.there)) (by rfl)) (fun _ _ => ?_) | refine g_eff0 (e_storeN rfl rfl (by rfl) (by rfl) (by rfl) (by repeat' (first | exact Take.here | apply Take.there)) (by simp)) (fun _ _ => ?_)
    rintro rfl
    refine g_nil ?_
    refine g_qt ?_
    refine g_ret ?_
    exact g_post (Ho := [Al []]) (rs := [.cell 3 31]) rfl (Res.cellN (by rfl) rfl (Has.own (by repeat' (first | exact Take.here | apply Take.there))) (by rfl) .nil) ⟨by dsimp only at *; first | (rw [if_pos (by omega)]; rfl) | (rw [if_neg (by omega)]; rfl), rfl⟩ (by repeat' (first | exact Cover.nil | exact Take.here | apply Cover.cons | apply Take.there))
theorem when_ok {ρ : Nat → Obj → Prop} {a x : List Ce} {tag : Int} {aa xa : Option Addr} {ac xc : Nat} (ha : RSl ρ 2 aa a.length (a.flatMap encC)) (hx : RSl ρ 2 xa x.length (x.flatMap encC)) (hl : a.length ≤ 1000000) :
    Con Try.prog ρ 25 #[.slice aa a.length ac, .slice xa x.length xc, .int .i64 tag] [] (StrP (WhenL a x tag)) := by
  have heq : (List.range (lenF [a, x])).map (outF true [a, x] (whenG a x tag)) = WhenL a x tag := outF_map (lenF2 a x) fun t _ => by
    rw [whenG_eq, WhenF_clean]
    split
    · rfl
    · exact WhenF_not (Bool.not_eq_true _ ▸ by assumption)
  have hlm : lenF [a, x] ≤ 1000000 := by rw [lenF2]; omega
  refine con_intro Try.func25 Try.call25 rfl Try.ntmps25 rfl (L := [(0, _), (1, _), (2, _)]) rfl fun w hh => ?_
  refine g_emp (A := Al []) rfl ?_
  refine g_seq ?_
  refine g_region ?_
  refine g_eff (e_box rfl (by rfl)) rfl (fun _ _ => ?_)
  rintro ⟨b5, rfl, rfl⟩
  refine g_pure (p_assign rfl) rfl ?_
  refine g_nil ?_
  refine g_qt ?_
  refine g_seq ?_
  refine g_region ?_
  refine g_pure (p_makeFunc rfl rfl) rfl ?_
  refine g_pure (p_build (by rfl) rfl (by rfl)) rfl ?_
  refine g_pure (p_move rfl) rfl ?_
  refine g_pure (p_move rfl) rfl ?_
  refine g_eff (e_bs (xs := [.tmp 9, .tmp 10]) rfl rfl rfl (by rfl) (by rfl) rfl (by rfl)) rfl (fun _ _ => ?_)
  rintro ⟨b11, rfl, rfl⟩
  refine g_call (Hin := [Al []]) (Hr := ?hr1) (R := ?rr1) rfl rfl rfl ?hin1 ?hc1 ?hk1
  case hin1 => repeat' (first | exact Cover.nil | exact Take.here | apply Cover.cons | apply Take.there)
  case hc1 => intro ρ' hρ hR; exact along_ok (l := [a, x]) (d := 48) (dcap := #[.pointer (some ⟨b5, 0, none⟩)]) (St := fun _ => Al []) (g := whenG a x tag) (SlS.of2 hR.1.blk (ha.mono hρ) (hx.mono hρ)) (by simp) hlm (fun t ht hj ρ2 h2 ca k hk hc => when1_ok (h2 _ _ hR.2.1.blk) hk hc) (fun t ht _ hj => rfl)
  rintro _ _ ⟨o, oc, rfl, rfl⟩
  rw [heq]
  refine g_pure (p_assign rfl) rfl ?_
  refine g_nil ?_
  refine g_qt ?_
  refine g_ret ?_
  exact g_post (rs := [.tmp 6]) rfl (.tmp rfl .nil) ⟨o, oc, rfl, rfl⟩ (by repeat' (first | exact Cover.nil | exact Take.here | apply Cover.cons | apply Take.there))

theorem dwhen_ok {ρ : Nat → Obj → Prop} {a x : List Ce} {tag : Int} {aa xa : Option Addr} {ac xc : Nat} (ha : RSl ρ 2 aa a.length (a.flatMap encC)) (hx : RSl ρ 2 xa x.length (x.flatMap encC)) (hlen : a.length ≤ 1000000) (hlen2 : x.length ≤ 1000000) :
    Con Try.prog ρ 32 #[.slice aa a.length ac, .slice xa x.length xc, .int .i64 tag] [] (StrP (WhenL a x tag)) := by
  obtain ⟨_, bl, ol, kl, Tl, fl, hl⟩ := id ha
  obtain ⟨_, bm, om, km, Tm, fm, hm0⟩ := id hx
  refine con_intro Try.func32 Try.call32 rfl Try.ntmps32 rfl (L := [(0, _), (1, _), (2, _)]) rfl fun w hh => ?_
  refine g_seq ?_
  refine g_region ?_
  refine g_pure (p_assign rfl) rfl ?_
  refine g_nil ?_
  refine g_qt ?_
  refine g_seq ?_
  refine g_region ?_
  refine g_pure (p_assign rfl) rfl ?_
  refine g_nil ?_
  refine g_qt ?_
  refine g_seq ?_
  refine g_seq ?_
  refine g_region ?_
  refine g_pure (p_assign rfl) rfl ?_
  refine g_nil ?_
  refine g_qt ?_
  refine g_block ?_
  refine g_ownnil (e := 31) (size := 2) ?_
  refine g_loop (fun q : Nat × Option Addr × Nat => [(0, .slice aa a.length ac), (1, .slice xa x.length xc), (2, .int .i64 tag), (7, .slice q.2.1 ((List.range q.1).map (WhenF a x tag)).length q.2.2), (8, .int .i64 q.1)]) (fun q => [OwnSl 31 2 q.2.1 ((List.range q.1).map (WhenF a x tag)).length q.2.2 (((List.range q.1).map (WhenF a x tag)).flatMap encC)]) (fun q => q.1 ≤ min a.length x.length) (fun q => min a.length x.length - q.1) (0, none, 0) (Nat.zero_le _) (by (repeat (first | exact trivial | refine ⟨by rfl, ?_⟩)); done) (by repeat' (first | exact Cover.nil | exact Take.here | apply Cover.cons | apply Take.there)) ?_
  rintro ⟨t, oa, oc⟩ ht
  dsimp only at ht ⊢
  have hil : ((List.range t).map (WhenF a x tag)).length = t := by simp
  have hend : min a.length x.length ≤ t → StrP (WhenL a x tag) (.slice oa ((List.range t).map (WhenF a x tag)).length oc) [OwnSl 31 2 oa ((List.range t).map (WhenF a x tag)).length oc (((List.range t).map (WhenF a x tag)).flatMap encC)] := fun h => by
    obtain rfl : t = min a.length x.length := by omega
    exact ⟨oa, oc, rfl, rfl⟩
  refine g_seq ?_
  refine g_seq ?_
  refine g_region ?_
  refine g_pure (p_move rfl) rfl ?_
  refine g_pure (p_move rfl) rfl ?_
  refine g_pure (p_len (by rfl) rfl) rfl ?_
  refine g_pure (p_lss rfl rfl) rfl ?_
  refine g_pure (p_move rfl) rfl ?_
  refine g_splitd rfl rfl (fun q => ?_) (fun q => ?_)
  · refine g_yes rfl rfl ?_
    refine g_pure (p_move rfl) rfl ?_
    refine g_yes rfl rfl ?_
    refine g_pure (p_move rfl) rfl ?_
    refine g_yes rfl rfl ?_
    refine g_pure (p_len (by rfl) rfl) rfl ?_
    refine g_yes rfl rfl ?_
    refine g_pure (p_lss rfl rfl) rfl ?_
    first | refine g_pure (p_pickt rfl rfl) rfl ?_ | refine g_pure (p_pickf rfl rfl) rfl ?_
    refine g_nil ?_
    refine g_qt ?_
    refine g_ifd rfl (fun q2 => ?_) (fun q2 => ?_)
    · have htl : t < a.length := by omega
      have htm : t < x.length := by omega
      obtain ⟨l1, l2, l3⟩ := hl (by omega)
      obtain ⟨m1, m2, m3⟩ := hm0 (by omega)
      obtain ⟨x0, -, -⟩ := cell_at l3 htl
      obtain ⟨-, y1, y2⟩ := cell_at m3 htm
      have x0' : sub kl (ol + (t : Int).toNat * 2) 2 = some (encC (at0 a t)) := by rw [at0_eq htl]; exact x0
      have y1' : km[om + (t : Int).toNat * 2]? = some (.int .i64 (at0 x t).1) := by rw [at0_eq htm]; exact y1
      have y2' : km[om + (t : Int).toNat * 2 + 1]? = some (.int .i64 (at0 x t).2) := by rw [at0_eq htm]; exact y2
      clear x0 y1 y2
      have hm : (List.range (t + 1)).map (WhenF a x tag) = (List.range t).map (WhenF a x tag) ++ [WhenF a x tag t] := by rw [List.range_succ, List.map_append]; rfl
      have hm1 : ((List.range t).map (WhenF a x tag)).length + 1 = ((List.range (t + 1)).map (WhenF a x tag)).length := by rw [hm]; simp
      have hm2 : ((List.range t).map (WhenF a x tag)).flatMap encC ++ encC (WhenF a x tag t) = ((List.range (t + 1)).map (WhenF a x tag)).flatMap encC := by rw [hm]; simp
      refine g_skip ?_
      refine g_qt ?_
      refine g_seq ?_
      refine g_block ?_
      refine g_seq ?_
      refine g_region ?_
      refine g_pure (p_build (by rfl) rfl (by rfl)) rfl ?_
      refine g_eff (e_alloc (by rfl)) rfl (fun _ _ => ?_)
      rintro ⟨b9, rfl, rfl⟩
      first | refine g_eff0 (e_storeO rfl rfl (by rfl) (by rfl) (by rfl) (by repeat' (first | exact Take.here | apply Take.there)) (by rfl)) (fun _ _ => ?_) | refine g_eff0 (e_storeN rfl rfl (by rfl) (by rfl) (by rfl) (by repeat' (first | exact Take.here | apply Take.there)) (by simp)) (fun _ _ => ?_)
      rintro rfl
      refine g_nil ?_
      refine g_qt ?_
      refine g_seq ?_
      refine g_seq ?_
      refine g_join (fun b : Bool => [(0, .slice aa a.length ac), (1, .slice xa x.length xc), (2, .int .i64 tag), (7, .slice oa ((List.range t).map (WhenF a x tag)).length oc), (8, .int .i64 t), (9, .pointer (some ⟨b9, 0, none⟩)), (37, .bool b)]) (fun _ => [Blk b9 (.cells [.int .i64 0, .int .i64 0].toArray 31 (0, 0)), OwnSl 31 2 oa ((List.range t).map (WhenF a x tag)).length oc (((List.range t).map (WhenF a x tag)).flatMap encC)]) (fun b => b = decide ((at0 x t).1 = 1 ∧ (at0 x t).2 = tag)) ?_ ?_
      · refine g_region ?_
        refine g_pure (p_move rfl) rfl ?_
        refine g_pure (p_move rfl) rfl ?_
        refine g_pure (p_indexAddr rfl rfl (by omega) (fun _ => m1)) rfl ?_
        refine g_pure (p_fieldAddr rfl) rfl ?_
        refine g_pure (p_load (by rfl) rfl (Has.ro m2) y1') rfl ?_
        refine g_pure (p_eql rfl rfl) rfl ?_
        refine g_pure (p_move rfl) rfl ?_
        refine g_splitd rfl rfl (fun g1 => ?_) (fun g1 => ?_)
        · refine g_yes rfl rfl ?_
          refine g_pure (p_move rfl) rfl ?_
          refine g_yes rfl rfl ?_
          refine g_pure (p_move rfl) rfl ?_
          refine g_yes rfl rfl ?_
          refine g_pure (p_indexAddr rfl rfl (by omega) (fun _ => m1)) rfl ?_
          refine g_yes rfl rfl ?_
          refine g_pure (p_fieldAddr rfl) rfl ?_
          refine g_yes rfl rfl ?_
          refine g_pure (p_load (by rfl) rfl (Has.ro m2) y2') rfl ?_
          refine g_yes rfl rfl ?_
          refine g_pure (p_move rfl) rfl ?_
          refine g_yes rfl rfl ?_
          refine g_pure (p_eql rfl rfl) rfl ?_
          first | refine g_pure (p_pickt rfl rfl) rfl ?_ | refine g_pure (p_pickf rfl rfl) rfl ?_
          refine g_nil ?_
          refine g_qn ?_
          exact g_joined (decide ((at0 x t).2 = tag)) (by (repeat (first | exact trivial | refine ⟨by rfl, ?_⟩)); done) (by repeat' (first | exact Cover.nil | exact Take.here | apply Cover.cons | apply Take.there)) (by simp [g1])
        · refine g_no rfl rfl rfl rfl ?_
          refine g_no rfl rfl rfl rfl ?_
          refine g_no rfl rfl rfl rfl ?_
          refine g_no rfl rfl rfl rfl ?_
          refine g_no rfl rfl rfl rfl ?_
          refine g_no rfl rfl rfl rfl ?_
          refine g_no rfl rfl rfl rfl ?_
          first | refine g_pure (p_pickt rfl rfl) rfl ?_ | refine g_pure (p_pickf rfl rfl) rfl ?_
          refine g_nil ?_
          refine g_qn ?_
          exact g_joined false (by (repeat (first | exact trivial | refine ⟨by rfl, ?_⟩)); done) (by repeat' (first | exact Cover.nil | exact Take.here | apply Cover.cons | apply Take.there)) (by simp [g1])
      rintro b hb
      refine g_qt ?_
      refine g_join (fun _ : Ce => [(0, .slice aa a.length ac), (1, .slice xa x.length xc), (2, .int .i64 tag), (7, .slice oa ((List.range t).map (WhenF a x tag)).length oc), (8, .int .i64 t), (9, .pointer (some ⟨b9, 0, none⟩))]) (fun y => [Blk b9 (.cells (encC y).toArray 31 (0, 0)), OwnSl 31 2 oa ((List.range t).map (WhenF a x tag)).length oc (((List.range t).map (WhenF a x tag)).flatMap encC)]) (fun y => y = WhenF a x tag t) ?_ ?_
      · refine g_if rfl (fun g1 => ?_) (fun g1 => ?_)
        · have g2 := of_decide_eq_true (hb.symm.trans g1)
          refine g_region ?_
          refine g_pure (p_move rfl) rfl ?_
          refine g_pure (p_move rfl) rfl ?_
          refine g_pure (p_indexAddr rfl rfl (by omega) (fun _ => l1)) rfl ?_
          refine g_pure (p_loadN (by rfl) rfl (Has.ro l2) x0') rfl ?_
          refine g_call (Hin := []) (Hr := ?hr2) (R := ?rr2) rfl rfl rfl ?hin2 ?hc2 ?hk2
          case hin2 => repeat' (first | exact Cover.nil | exact Take.here | apply Cover.cons | apply Take.there)
          case hc2 => intro ρ' hρ hR; exact plain_ok (at0 a t)
          rintro _ _ ⟨rfl, rfl⟩
          first | refine g_eff0 (e_storeO rfl rfl (by rfl) (by rfl) (by rfl) (by repeat' (first | exact Take.here | apply Take.there)) (by rfl)) (fun _ _ => ?_) | refine g_eff0 (e_storeN rfl rfl (by rfl) (by rfl) (by rfl) (by repeat' (first | exact Take.here | apply Take.there)) (by simp)) (fun _ _ => ?_)
          rintro rfl
          refine g_nil ?_
          refine g_qn ?_
          exact g_joined (cleanF (at0 a t)) (by (repeat (first | exact trivial | refine ⟨by rfl, ?_⟩)); done) (by repeat' (first | exact Cover.nil | exact Take.here | apply Cover.cons | apply Take.there)) (by unfold WhenF; rw [if_pos g2])
        · have g2 := of_decide_eq_false (hb.symm.trans g1)
          refine g_skip ?_
          refine g_qn ?_
          exact g_joined (0, 0) (by (repeat (first | exact trivial | refine ⟨by rfl, ?_⟩)); done) (by repeat' (first | exact Cover.nil | exact Take.here | apply Cover.cons | apply Take.there)) (by unfold WhenF; rw [if_neg g2])
      rintro u hu
      rw [← hu] at hm2
      obtain ⟨u1, u2⟩ := u
      show G _ _ _ [Blk b9 (.cells [.int .i64 u1, .int .i64 u2].toArray 31 (0, 0)), OwnSl 31 2 oa ((List.range t).map (WhenF a x tag)).length oc (((List.range t).map (WhenF a x tag)).flatMap encC)] _
      refine g_qt ?_
      refine g_region ?_
      refine g_pure (p_move rfl) rfl ?_
      first | refine g_pure (p_loadO (by rfl) rfl (by first | (apply Has.own; (repeat' (first | exact Take.here | apply Take.there)); done) | exact Has.ro (by assumption)) (by rfl)) rfl ?_ | refine g_pure (p_loadN (by rfl) rfl (by first | (apply Has.own; (repeat' (first | exact Take.here | apply Take.there)); done) | exact Has.ro (by assumption)) (by first | rfl | assumption)) rfl ?_
      refine g_eff (e_bs (xs := [.tmp 44]) rfl rfl rfl (by rfl) (by rfl) rfl (by rfl)) rfl (fun _ _ => ?_)
      rintro ⟨b45, rfl, rfl⟩
      refine g_eff (e_appendO (by rfl) (by rfl) rfl rfl (by first | (apply Has.own; (repeat' (first | exact Take.here | apply Take.there)); done) | exact Has.ro (by assumption)) (by rfl) (by rfl) (by repeat' (first | exact Take.here | apply Take.there)) (by omega) (by first | omega | (dsimp only; omega) | (simp <;> omega)) (by omega)) rfl (fun _ _ => ?_)
      rintro ⟨a46, c46, rfl, rfl⟩
      refine g_pure (p_assign rfl) rfl ?_
      refine g_nil ?_
      refine g_qb ?_
      refine g_qt ?_
      refine g_region ?_
      refine g_pure (p_move rfl) rfl ?_
      first | refine g_pure (p_addi rfl rfl (by omega)) rfl ?_ | refine g_pure (p_add rfl rfl) rfl ?_
      refine g_pure (p_assign rfl) rfl ?_
      refine g_nil ?_
      refine g_qn ?_
      rw [hm1]
      refine g_weak (A := OwnSl 31 2 a46 _ c46 (((List.range t).map (WhenF a x tag)).flatMap encC ++ encC (u1, u2))) (B := OwnSl 31 2 a46 ((List.range (t + 1)).map (WhenF a x tag)).length c46 (((List.range (t + 1)).map (WhenF a x tag)).flatMap encC)) (by repeat' (first | exact Take.here | apply Take.there)) (fun h hh => by rw [← hm2]; exact hh) ?_
      exact g_next (t + 1, a46, c46) (by (repeat (first | exact trivial | refine ⟨by rfl, ?_⟩)); done) (by repeat' (first | exact Cover.nil | exact Take.here | apply Cover.cons | apply Take.there)) (by dsimp only; omega) (by dsimp only; omega)
    · refine g_exit ?_
      refine g_qt_exit ?_
      refine g_qn_exit ?_
      refine g_qb_exit ?_
      refine g_qt ?_
      refine g_seq ?_
      refine g_region ?_
      refine g_pure (p_move rfl) rfl ?_
      refine g_pure (p_assign rfl) rfl ?_
      refine g_nil ?_
      refine g_qt ?_
      refine g_ret ?_
      exact g_post (rs := [.tmp 6]) rfl (.tmp rfl .nil) (hend (by omega)) (by repeat' (first | exact Cover.nil | exact Take.here | apply Cover.cons | apply Take.there))
  · refine g_no rfl rfl rfl rfl ?_
    refine g_no rfl rfl rfl rfl ?_
    refine g_no rfl rfl rfl rfl ?_
    refine g_no rfl rfl rfl rfl ?_
    first | refine g_pure (p_pickt rfl rfl) rfl ?_ | refine g_pure (p_pickf rfl rfl) rfl ?_
    refine g_nil ?_
    refine g_qt ?_
    refine g_iff rfl ?_
    refine g_exit ?_
    refine g_qt_exit ?_
    refine g_qn_exit ?_
    refine g_qb_exit ?_
    refine g_qt ?_
    refine g_seq ?_
    refine g_region ?_
    refine g_pure (p_move rfl) rfl ?_
    refine g_pure (p_assign rfl) rfl ?_
    refine g_nil ?_
    refine g_qt ?_
    refine g_ret ?_
    exact g_post (rs := [.tmp 6]) rfl (.tmp rfl .nil) (hend (by omega)) (by repeat' (first | exact Cover.nil | exact Take.here | apply Cover.cons | apply Take.there))
end Go.Proofs.Ytceecdjckhbncaa
