/- Chapter 16: StreamMerge. Conditions: none. -/
import Derived.Test.YtceecdjckhbncaaE0
import Derived.Test.YtceecdjckhbncaaZj
namespace Go.Z.Val
set_option linter.unusedVariables false
set_option linter.unusedSimpArgs false
set_option linter.unusedSectionVars false
open Go Go.Z
theorem lenF_all_eq {x : List Ce} {l : List (List Ce)} {m : Nat} (h0 : x.length = m) (h : ∀ y ∈ l, y.length = m) : lenF (x :: l) = m := by
  show l.foldl (fun n b => min n b.length) x.length = m
  rw [h0]
  induction l with
  | nil => rfl
  | cons y l ih => rw [List.foldl_cons, h y (by simp), Nat.min_self]; exact ih fun z hz => h z (by simp [hz])
def rowsW (A X : List Ce) (k : Nat) : List (List Ce) := (List.range k).map fun j : Nat => WhenL A X (j : Int)
theorem rowsW_len (A X : List Ce) (k : Nat) : (rowsW A X k).length = k := by simp [rowsW]
theorem rowsW_at {A X : List Ce} {k j : Nat} (h : j < k) : (rowsW A X k).getD j [] = WhenL A X (j : Int) := by
  unfold rowsW; rw [List.getD_eq_getElem?_getD, List.getElem?_map, List.getElem?_range h]; rfl
/-- merging the samplings yields the stream -/
theorem merge_when {A X : List Ce} {m k t : Nat} (hA : A.length = m) (hX : X.length = m) (ht : t < m) (hs : thereB (at0 A t) = thereB (at0 X t)) (h1 : (at0 X t).1 = 1) (h2 : 0 ≤ (at0 X t).2) (h3 : (at0 X t).2 < k) : at0 (MergeL X (rowsW A X k)) t = cleanF (at0 A t) := by
  have hl : lenF (X :: rowsW A X k) = m := lenF_all_eq hX fun y hy => by
    obtain ⟨j, _, rfl⟩ := List.mem_map.1 hy
    rw [WhenL_len]; omega
  have hx : thereB (at0 X t) = true := by unfold thereB; simp [h1]
  have hw : at0 ((rowsW A X k).getD (at0 X t).2.toNat []) t = cleanF (at0 A t) := by
    rw [rowsW_at (by omega), WhenL, at0_range _ (by omega)]
    unfold WhenF
    rw [if_pos ⟨h1, by omega⟩]
  unfold MergeL
  rw [hl, at0_range _ ht]
  unfold MergeF
  rw [if_pos hx, hw, rowsW_len, if_pos ⟨h1, h2, by omega, by rw [thereB_clean, hs]; exact hx⟩, cleanF_idem]
theorem MergeL_len {A X : List Ce} {m k : Nat} (hA : A.length = m) (hX : X.length = m) : (MergeL X (rowsW A X k)).length = m := by
  have hl : lenF (X :: rowsW A X k) = m := lenF_all_eq hX fun y hy => by
    obtain ⟨j, _, rfl⟩ := List.mem_map.1 hy
    rw [WhenL_len]; omega
  simp [MergeL, hl]
theorem clean_kind {c : Ce} (h : thereB c = true) : (cleanF c).1 = c.1 ∧ (c.1 = 1 → (cleanF c).2 = c.2) := by
  unfold thereB at h
  unfold cleanF
  by_cases h1 : c.1 = 1
  · simp [h1]
  · by_cases h2 : c.1 = 2
    · simp [h2]
    · simp [h1, h2] at h
def hdC (m : Nat) (hs : List (Option Addr × Nat)) : List Value := hs.map fun h => .slice h.1 m h.2
def inC (e : TypeId) (m : Nat) (A X : List Ce) (hs : List (Option Addr × Nat)) : List Assn := hs.mapIdx fun j h => OwnSl e 2 h.1 m h.2 ((WhenL A X (j : Int)).flatMap encC)
theorem rows_sls {ρ : Nat → Obj → Prop} {e1 e2 : TypeId} {m i oc : Nat} {A X : List Ce} {hs : List (Option Addr × Nat)} {oa : Option Addr} (hA : A.length = m) (hX : X.length = m) (hi : hs.length = i) (h1 : Ro ρ (OwnSl e1 1 oa i oc (hdC m hs))) (h2 : Ro ρ (Al (inC e2 m A X hs))) : SlS ρ oa (rowsW A X i) := by
  obtain ⟨hh, s, r⟩ := h2
  have h2 := ros_of_sat s r
  refine ⟨hdC m hs, by rw [rowsW_len]; simp [hdC, hi], fun j hj => ?_, ?_⟩
  · rw [rowsW_len] at hj
    have hj' : j < hs.length := by omega
    have := ros_at h2 j (by simp [inC]; omega)
    simp only [inC, List.getElem_mapIdx] at this
    have e : (rowsW A X i)[j]'(by rw [rowsW_len]; exact hj) = WhenL A X (j : Int) := by simp [rowsW]
    refine ⟨hs[j].1, hs[j].2, ?_, ?_⟩
    · rw [e, WhenL_len]
      unfold hdC
      rw [List.getElem?_map, List.getElem?_eq_getElem hj', show min A.length X.length = m by omega]; rfl
    · rw [e, WhenL_len, show min A.length X.length = m by omega]
      exact .of_own this
  · rw [rowsW_len]
    exact .of_own h1
end Go.Z.Val
namespace Go.Proofs.Ytceecdjckhbncaa
open Go Go.Z Go.Z.Val

theorem smerge_ok {ρ : Nat → Obj → Prop} {a x : List Ce} {n : Int} {aa xa : Option Addr} {ac xc : Nat} (ha : RSl ρ 2 aa a.length (a.flatMap encC)) (hx : RSl ρ 2 xa x.length (x.flatMap encC)) (hca : a.length ≤ ac) (hcx : x.length ≤ xc) (hn : 0 ≤ n ∧ n ≤ 255) :
    Con Try.prog ρ 7 #[.slice aa a.length ac, .slice xa x.length xc, .int .u8 n] [] (fun v _ => v = .bool true) := by
  refine con_intro Try.func7 Try.call7 rfl Try.ntmps7 rfl (L := [(0, _), (1, _), (2, _)]) rfl fun w hh => ?_
  refine g_seq ?_
  refine g_region ?_
  refine g_pure (p_assign rfl) rfl ?_
  refine g_nil ?_
  refine g_qt ?_
  refine g_seq ?_
  refine g_seq ?_
  refine g_region ?_
  refine g_pure (p_move rfl) rfl ?_
  refine g_pure (p_move rfl) rfl ?_
  refine g_eff (e_bs (xs := [.tmp 13, .tmp 14]) rfl rfl rfl (by rfl) (by rfl) rfl (by rfl)) rfl (fun _ _ => ?_)
  rintro ⟨b15, rfl, rfl⟩
  refine g_call (Hin := []) (Hr := ?hr1) (R := ?rr1) rfl rfl rfl ?hin1 ?hc1 ?hk1
  case hin1 => repeat' (first | exact Cover.nil | exact Take.here | apply Cover.cons | apply Take.there)
  case hc1 => intro ρ' hρ hR; exact long_ok (l := [a, x]) (SlS.of2 hR.1.blk (ha.mono hρ) (hx.mono hρ))
  rintro _ _ ⟨lg, rfl, rfl, hlg⟩
  refine g_nil ?_
  refine g_qt ?_
  cases lg with
  | true =>
    refine g_ift rfl ?_
    refine g_seq ?_
    refine g_region ?_
    refine g_call (Hin := []) (Hr := ?hr2) (R := ?rr2) rfl rfl rfl ?hin2 ?hc2 ?hk2
    case hin2 => repeat' (first | exact Cover.nil | exact Take.here | apply Cover.cons | apply Take.there)
    case hc2 => intro ρ' hρ hR; exact lives_ok
    rintro _ _ ⟨rfl, rfl⟩
    refine g_pure (p_assign rfl) rfl ?_
    refine g_nil ?_
    refine g_qt ?_
    refine g_ret ?_
    refine g_qt_ret ?_
    exact g_post (Ho := []) (rs := [.tmp 6]) rfl (.tmp rfl .nil) rfl .nil
  | false =>
    obtain ⟨-, hlens⟩ := hlg rfl
    have hla := hlens a (by simp)
    have hlx := hlens x (by simp)
    obtain ⟨m, hm⟩ : ∃ m, m = min a.length x.length := ⟨_, rfl⟩
    have hmi : min ((a.length : Nat) : Int) ((x.length : Nat) : Int) = (m : Int) := by omega
    have hA := ha.pre encC_len (m := m) (by omega)
    have hX := hx.pre encC_len (m := m) (by omega)
    have hAl : (a.take m).length = m := by rw [List.length_take]; omega
    have hXl : (x.take m).length = m := by rw [List.length_take]; omega
    generalize a.take m = A at *
    generalize x.take m = X at *
    have htm : (m : Int).toNat = m := by omega
    have hX' : RSl ρ 2 xa m (X.flatMap encC) := by rw [hXl] at hX; exact hX
    have hA' : RSl ρ 2 aa m (A.flatMap encC) := by rw [hAl] at hA; exact hA
    obtain ⟨_, b1, o1, k1, T1, f1, h1⟩ := id hA'
    obtain ⟨_, b2, o2, k2, T2, f2, h2⟩ := id hX'
    obtain ⟨K, hK⟩ : ∃ K : Nat, n % 8 = (K : Int) := ⟨(n % 8).toNat, by omega⟩
    have hK8 : K < 8 := by omega
    have hwh := fun (ρ' : Nat → Obj → Prop) (h1 : RSl ρ' 2 aa A.length (A.flatMap encC)) (h2 : RSl ρ' 2 xa X.length (X.flatMap encC)) (tag : Int) => when_ok (ac := ac) (xc := xc) (tag := tag) h1 h2 (by omega)
    rw [hAl, hXl] at hwh
    refine g_iff rfl ?_
    refine g_skip ?_
    refine g_qt ?_
    refine g_seq ?_
    refine g_region ?_
    refine g_pure (p_move rfl) rfl ?_
    refine g_pure (p_len (by rfl) rfl) rfl ?_
    refine g_pure (p_move rfl) rfl ?_
    refine g_pure (p_len (by rfl) rfl) rfl ?_
    refine g_pure (p_min rfl rfl) rfl ?_
    refine g_pure (p_assign rfl) rfl ?_
    refine g_nil ?_
    refine g_qt ?_
    refine g_seq ?_
    refine m_begin0 (.fl 0 0 (.fl 1 0 (.fl 2 0 (.fl 3 0 (.fl 4 0 (.fl 5 0 (.fl 6 0 (.fl 7 0 .done)))))))) (by kernel_rfl) (by kernel_rfl) ?_
    refine m_float0 rfl (fun _ _ => p_move rfl) rfl ?_
    refine m_float0 rfl (fun _ _ => p_move rfl) rfl ?_
    refine m_float0 rfl (fun _ _ => p_sliceh rfl rfl (by omega)) rfl ?_
    refine m_float0 rfl (fun _ _ => p_move rfl) rfl ?_
    refine m_float0 rfl (fun _ _ => p_move rfl) rfl ?_
    refine m_float0 rfl (fun _ _ => p_sliceh rfl rfl (by omega)) rfl ?_
    refine m_float0 rfl (fun _ _ => p_assign rfl) rfl ?_
    refine m_float0 rfl (fun _ _ => p_assign rfl) rfl ?_
    refine m_nil ?_
    refine g_qt ?_
    refine g_seq ?_
    refine g_region ?_
    refine g_pure (p_assign rfl) rfl ?_
    refine g_nil ?_
    refine g_qt ?_
    refine g_seq ?_
    refine g_seq ?_
    refine g_region ?_
    refine g_pure (p_assign rfl) rfl ?_
    refine g_nil ?_
    refine g_qt ?_
    refine g_block ?_
    rw [hmi, htm]
    refine g_ownnil (e := 22) (size := 1) ?_
    refine g_emp (A := Al []) rfl ?_
    refine g_loop (fun q : Nat × Option Addr × Nat × List (Option Addr × Nat) => [(0, .slice aa m ac), (1, .slice xa m xc), (2, .int .u8 n), (7, .int .i64 m), (8, .slice q.2.1 q.1 q.2.2.1), (9, .int .i64 q.1)]) (fun q => [OwnSl 22 1 q.2.1 q.1 q.2.2.1 (hdC m q.2.2.2), Al (inC 31 m A X q.2.2.2)]) (fun q => q.1 ≤ K + 1 ∧ q.2.2.2.length = q.1) (fun q => K + 1 - q.1) (0, none, 0, []) ⟨Nat.zero_le _, rfl⟩ (by (repeat (first | exact trivial | refine ⟨by rfl, ?_⟩)); done) (by repeat' (first | exact Cover.nil | exact Take.here | apply Cover.cons | apply Take.there)) ?_
    rintro ⟨i, oa, oc, hs⟩ ⟨hi, hsl⟩
    dsimp only at hi hsl ⊢
    refine g_seq ?_
    refine g_seq ?_
    refine g_region ?_
    refine g_pure (p_move rfl) rfl ?_
    refine g_pure (p_move rfl) rfl ?_
    refine g_pure (p_remn rfl rfl (by omega) (by omega)) rfl ?_
    first | refine g_pure (p_convi (by rfl) rfl (by omega)) rfl ?_ | refine g_pure (p_conv (by rfl) rfl) rfl ?_
    first | refine g_pure (p_addi rfl rfl (by omega)) rfl ?_ | refine g_pure (p_add rfl rfl) rfl ?_
    refine g_pure (p_lss rfl rfl) rfl ?_
    refine g_nil ?_
    refine g_qt ?_
    rw [hK]
    refine g_ifd rfl (fun q => ?_) (fun q => ?_)
    · refine g_skip ?_
      refine g_qt ?_
      refine g_seq ?_
      refine g_block ?_
      refine g_region ?_
      refine g_pure (p_move rfl) rfl ?_
      refine g_pure (p_move rfl) rfl ?_
      refine g_pure (p_move rfl) rfl ?_
      refine g_pure (p_move rfl) rfl ?_
      refine g_call (Hin := []) (Hr := ?hr3) (R := ?rr3) rfl rfl rfl ?hin3 ?hc3 ?hk3
      case hin3 => repeat' (first | exact Cover.nil | exact Take.here | apply Cover.cons | apply Take.there)
      case hc3 => intro ρ' hρ hR; exact hwh ρ' (hA'.mono hρ) (hX'.mono hρ) i
      rintro _ _ ⟨o3, c3, rfl, rfl⟩
      have hwl : (WhenL A X (i : Int)).length = m := by rw [WhenL_len]; omega
      rw [hwl]
      refine g_eff (e_bs (xs := [.tmp 41]) rfl rfl rfl (by rfl) (by rfl) rfl (by rfl)) rfl (fun _ _ => ?_)
      rintro ⟨b42, rfl, rfl⟩
      refine g_eff (e_appendO (by rfl) (by rfl) rfl rfl (by first | (apply Has.own; (repeat' (first | exact Take.here | apply Take.there)); done) | exact Has.ro (by assumption)) (by rfl) (by rfl) (by repeat' (first | exact Take.here | apply Take.there)) (by omega) (by first | omega | (dsimp only; omega) | (simp <;> omega)) (by omega)) rfl (fun _ _ => ?_)
      rintro ⟨a43, c43, rfl, rfl⟩
      refine g_pure (p_assign rfl) rfl ?_
      refine g_nil ?_
      refine g_qb ?_
      refine g_qt ?_
      refine g_region ?_
      refine g_pure (p_move rfl) rfl ?_
      first | refine g_pure (p_addi rfl rfl (by omega)) rfl ?_ | refine g_pure (p_add rfl rfl) rfl ?_
      refine g_pure (p_assign rfl) rfl ?_
      refine g_nil ?_
      refine g_qn ?_
      refine g_alpush (l := inC 31 m A X hs) (X := OwnSl 31 2 o3 m c3 ((WhenL A X (i : Int)).flatMap encC)) (by repeat' (first | exact Take.here | apply Take.there)) (by repeat' (first | exact Take.here | apply Take.there)) ?_
      have e1 : inC 31 m A X hs ++ [OwnSl 31 2 o3 m c3 ((WhenL A X (i : Int)).flatMap encC)] = inC 31 m A X (hs ++ [(o3, c3)]) := by
        unfold inC; rw [List.mapIdx_append, hsl]; simp [List.mapIdx_cons]
      have e2 : hdC m hs ++ [.slice o3 m c3] = hdC m (hs ++ [(o3, c3)]) := by simp [hdC]
      rw [e1, e2]
      exact g_next (i + 1, a43, c43, hs ++ [(o3, c3)]) (by (repeat (first | exact trivial | refine ⟨by rfl, ?_⟩)); done) (by repeat' (first | exact Cover.nil | exact Take.here | apply Cover.cons | apply Take.there)) ⟨by dsimp only; omega, by dsimp only; rw [List.length_append, hsl]; rfl⟩ (by dsimp only; omega)
    · obtain rfl : i = K + 1 := by omega
      have hmg := fun (ρ' : Nat → Obj → Prop) (h1 : RSl ρ' 2 xa X.length (X.flatMap encC)) (h2 : SlS ρ' oa (rowsW A X (K + 1))) => merge_ok (xc := xc) (lc := oc) h1 h2 (by rw [rowsW_len]; omega) (by omega)
      rw [hXl, rowsW_len] at hmg
      have hL := MergeL_len (k := K + 1) hAl hXl
      have hval := fun t (ht : t < m) => merge_when (k := K + 1) hAl hXl ht
      refine g_exit ?_
      refine g_qt_exit ?_
      refine g_qn_exit ?_
      refine g_qb_exit ?_
      refine g_qt ?_
      refine g_seq ?_
      refine g_region ?_
      refine g_pure (p_move rfl) rfl ?_
      refine g_pure (p_move rfl) rfl ?_
      refine g_call (Hin := []) (Hr := ?hr4) (R := ?rr4) rfl rfl rfl ?hin4 ?hc4 ?hk4
      case hin4 => repeat' (first | exact Cover.nil | exact Take.here | apply Cover.cons | apply Take.there)
      case hc4 => intro ρ' hρ hR; exact hmg ρ' (hX'.mono hρ) (rows_sls hAl hXl hsl hR.1 hR.2.1)
      rintro _ _ ⟨o4, c4, rfl, rfl⟩
      generalize MergeL X (rowsW A X (K + 1)) = R at *
      refine g_pure (p_assign rfl) rfl ?_
      refine g_nil ?_
      refine g_qt ?_
      refine g_seq ?_
      refine g_seq ?_
      refine g_region ?_
      refine g_pure (p_move rfl) rfl ?_
      refine g_pure (p_len (by rfl) rfl) rfl ?_
      refine g_pure (p_move rfl) rfl ?_
      refine g_pure (p_neqF rfl rfl (by omega)) rfl ?_
      refine g_nil ?_
      refine g_qt ?_
      refine g_iff rfl ?_
      refine g_skip ?_
      refine g_qt ?_
      refine g_seq ?_
      refine g_seq ?_
      refine g_region ?_
      refine g_pure (p_assign rfl) rfl ?_
      refine g_nil ?_
      refine g_qt ?_
      refine g_block ?_
      refine g_loop (fun i : Nat => [(0, .slice aa m ac), (1, .slice xa m xc), (7, .int .i64 m), (8, .slice oa (K + 1) oc), (10, .slice o4 R.length c4), (11, .int .i64 i)]) (fun _ => [OwnSl 31 2 o4 R.length c4 (R.flatMap encC)]) (fun i => i ≤ m) (fun i => m - i) 0 (Nat.zero_le _) (by (repeat (first | exact trivial | refine ⟨by rfl, ?_⟩)); done) (by repeat' (first | exact Cover.nil | exact Take.here | apply Cover.cons | apply Take.there)) ?_
      intro i hi
      refine g_seq ?_
      refine g_seq ?_
      refine g_region ?_
      refine g_pure (p_move rfl) rfl ?_
      refine g_pure (p_move rfl) rfl ?_
      refine g_pure (p_lss rfl rfl) rfl ?_
      refine g_nil ?_
      refine g_qt ?_
      refine g_ifd rfl (fun q => ?_) (fun q => ?_)
      · have hia : i < A.length := by omega
        have hix : i < X.length := by omega
        have hir : i < R.length := by omega
        obtain ⟨l1, l2, l3⟩ := h1 (by omega)
        obtain ⟨m1, m2, m3⟩ := h2 (by omega)
        obtain ⟨x0, x1, x2⟩ := cell_at l3 hia
        obtain ⟨y0, y1, y2⟩ := cell_at m3 hix
        have x0' : sub k1 (o1 + (i : Int).toNat * 2) 2 = some (encC (at0 A i)) := by rw [at0_eq hia]; exact x0
        have x1' : k1[o1 + (i : Int).toNat * 2]? = some (.int .i64 (at0 A i).1) := by rw [at0_eq hia]; exact x1
        have x2' : k1[o1 + (i : Int).toNat * 2 + 1]? = some (.int .i64 (at0 A i).2) := by rw [at0_eq hia]; exact x2
        have y0' : sub k2 (o2 + (i : Int).toNat * 2) 2 = some (encC (at0 X i)) := by rw [at0_eq hix]; exact y0
        have y1' : k2[o2 + (i : Int).toNat * 2]? = some (.int .i64 (at0 X i).1) := by rw [at0_eq hix]; exact y1
        have y2' : k2[o2 + (i : Int).toNat * 2 + 1]? = some (.int .i64 (at0 X i).2) := by rw [at0_eq hix]; exact y2
        clear x0 x1 x2 y0 y1 y2
        refine g_peek (o := o4) .here hir ?_
        rintro gp curp rfl p1 p2 p3 p4 hsub0
        have z1' : curp[0 + (i : Int).toNat * 2]? = some (.int .i64 (at0 R i).1) := (sub_spec hsub0).2 0 _ rfl
        have z2' : curp[0 + (i : Int).toNat * 2 + 1]? = some (.int .i64 (at0 R i).2) := (sub_spec hsub0).2 1 _ rfl
        have hv := hval i (by omega)
        refine g_skip ?_
        refine g_qt ?_
        refine g_seq ?_
        refine g_block ?_
        refine g_seq ?_
        refine g_seq ?_
        refine m_begin0 (.fl 0 0 (.fl 1 0 (.fl 2 0 (.fl 3 1 (.fl 5 0 (.fl 6 0 (.fl 7 0 (.fl 8 1 (.ef 4 (.ef 9 (.fl 10 0 .done))))))))))) (by kernel_rfl) (by kernel_rfl) ?_
        refine m_float0 rfl (fun _ _ => p_move rfl) rfl ?_
        refine m_float0 rfl (fun _ _ => p_move rfl) rfl ?_
        refine m_float0 rfl (fun _ _ => p_indexAddr rfl rfl (by omega) (fun _ => l1)) rfl ?_
        refine m_float rfl (p_loadN (by rfl) rfl (Has.ro l2) x0') rfl ?_
        refine m_float0 rfl (fun _ _ => p_move rfl) rfl ?_
        refine m_float0 rfl (fun _ _ => p_move rfl) rfl ?_
        refine m_float0 rfl (fun _ _ => p_indexAddr rfl rfl (by omega) (fun _ => m1)) rfl ?_
        refine m_float rfl (p_loadN (by rfl) rfl (Has.ro m2) y0') rfl ?_
        refine m_call (Hin := []) (Hr := ?hr5) (R := ?rr5) rfl wantedN rfl rfl rfl ?hin5 ?hc5 ?hk5
        case hin5 => repeat' (first | exact Cover.nil | exact Take.here | apply Cover.cons | apply Take.there)
        case hc5 => intro ρ' hρ hR; exact dthere_ok (at0 A i)
        rintro _ _ ⟨rfl, rfl⟩
        refine ⟨.some (by repeat' (first | exact Cover.nil | exact Take.here | apply Cover.cons | apply Take.there)), ?_⟩
        refine m_call (Hin := []) (Hr := ?hr6) (R := ?rr6) rfl wantedN rfl rfl rfl ?hin6 ?hc6 ?hk6
        case hin6 => repeat' (first | exact Cover.nil | exact Take.here | apply Cover.cons | apply Take.there)
        case hc6 => intro ρ' hρ hR; exact dthere_ok (at0 X i)
        rintro _ _ ⟨rfl, rfl⟩
        refine ⟨.none (by kernel_rfl), ?_⟩
        refine m_float0 rfl (fun _ _ => p_neqb (by rfl) rfl rfl) rfl ?_
        refine m_nil ?_
        refine g_qt ?_
        refine g_if rfl (fun r => ?_) (fun r => ?_)
        · refine g_seq ?_
          refine g_region ?_
          refine g_call (Hin := []) (Hr := ?hr7) (R := ?rr7) rfl rfl rfl ?hin7 ?hc7 ?hk7
          case hin7 => repeat' (first | exact Cover.nil | exact Take.here | apply Cover.cons | apply Take.there)
          case hc7 => intro ρ' hρ hR; exact lives_ok
          rintro _ _ ⟨rfl, rfl⟩
          refine g_pure (p_assign rfl) rfl ?_
          refine g_nil ?_
          refine g_qt ?_
          refine g_ret ?_
          refine g_qt_ret ?_
          refine g_qb_ret ?_
          refine g_qt_ret ?_
          refine g_qn_ret ?_
          refine g_qb_ret ?_
          refine g_qt_ret ?_
          exact g_post (Ho := []) (rs := [.tmp 6]) rfl (.tmp rfl .nil) rfl .nil
        · have hr : thereB (at0 A i) = thereB (at0 X i) := by simpa using r
          have hv := hv hr
          refine g_skip ?_
          refine g_qt ?_
          refine g_seq ?_
          refine g_join (fun b : Bool => [(0, .slice aa m ac), (1, .slice xa m xc), (7, .int .i64 m), (8, .slice oa (K + 1) oc), (10, .slice (some ⟨gp, 0, none⟩) R.length c4), (11, .int .i64 i), (12, .bool b)]) (fun _ => [Blk gp (.cells curp.toArray 31 (0, 0))]) (fun b => b = true → (at0 X i).1 = 1 ∧ 0 ≤ (at0 X i).2 ∧ (at0 X i).2 < ((K + 1 : Nat) : Int)) ?_ ?_
          · refine g_region ?_
            refine g_pure (p_move rfl) rfl ?_
            refine g_pure (p_move rfl) rfl ?_
            refine g_pure (p_indexAddr rfl rfl (by omega) (fun _ => m1)) rfl ?_
            refine g_pure (p_fieldAddr rfl) rfl ?_
            refine g_pure (p_load (by rfl) rfl (Has.ro m2) y1') rfl ?_
            refine g_pure (p_eql rfl rfl) rfl ?_
            refine g_pure (p_move rfl) rfl ?_
            refine g_splitd rfl rfl (fun g1 => ?_) (fun g1 => ?_)
            · refine g_yes rfl rfl ?_
              refine g_pure (p_move rfl) rfl ?_
              refine g_yes rfl rfl ?_
              refine g_pure (p_move rfl) rfl ?_
              refine g_yes rfl rfl ?_
              refine g_pure (p_indexAddr rfl rfl (by omega) (fun _ => m1)) rfl ?_
              refine g_yes rfl rfl ?_
              refine g_pure (p_fieldAddr rfl) rfl ?_
              refine g_yes rfl rfl ?_
              refine g_pure (p_load (by rfl) rfl (Has.ro m2) y2') rfl ?_
              refine g_yes rfl rfl ?_
              refine g_pure (p_geq rfl rfl) rfl ?_
              first | refine g_pure (p_pickt rfl rfl) rfl ?_ | refine g_pure (p_pickf rfl rfl) rfl ?_
              refine g_pure (p_move rfl) rfl ?_
              refine g_splitd rfl rfl (fun g2 => ?_) (fun g2 => ?_)
              · refine g_yes rfl rfl ?_
                refine g_pure (p_move rfl) rfl ?_
                refine g_yes rfl rfl ?_
                refine g_pure (p_move rfl) rfl ?_
                refine g_yes rfl rfl ?_
                refine g_pure (p_indexAddr rfl rfl (by omega) (fun _ => m1)) rfl ?_
                refine g_yes rfl rfl ?_
                refine g_pure (p_fieldAddr rfl) rfl ?_
                refine g_yes rfl rfl ?_
                refine g_pure (p_load (by rfl) rfl (Has.ro m2) y2') rfl ?_
                refine g_yes rfl rfl ?_
                refine g_pure (p_move rfl) rfl ?_
                refine g_yes rfl rfl ?_
                refine g_pure (p_len (by rfl) rfl) rfl ?_
                refine g_yes rfl rfl ?_
                refine g_pure (p_lss rfl rfl) rfl ?_
                first | refine g_pure (p_pickt rfl rfl) rfl ?_ | refine g_pure (p_pickf rfl rfl) rfl ?_
                refine g_pure (p_assign rfl) rfl ?_
                refine g_nil ?_
                refine g_qn ?_
                exact g_joined (decide ((at0 X i).2 < ((K + 1 : Nat) : Int))) (by (repeat (first | exact trivial | refine ⟨by rfl, ?_⟩)); done) (by repeat' (first | exact Cover.nil | exact Take.here | apply Cover.cons | apply Take.there)) (fun h => ⟨g1, by omega, of_decide_eq_true h⟩)
              · refine g_no rfl rfl rfl rfl ?_
                refine g_no rfl rfl rfl rfl ?_
                refine g_no rfl rfl rfl rfl ?_
                refine g_no rfl rfl rfl rfl ?_
                refine g_no rfl rfl rfl rfl ?_
                refine g_no rfl rfl rfl rfl ?_
                refine g_no rfl rfl rfl rfl ?_
                refine g_no rfl rfl rfl rfl ?_
                first | refine g_pure (p_pickt rfl rfl) rfl ?_ | refine g_pure (p_pickf rfl rfl) rfl ?_
                refine g_pure (p_assign rfl) rfl ?_
                refine g_nil ?_
                refine g_qn ?_
                exact g_joined false (by (repeat (first | exact trivial | refine ⟨by rfl, ?_⟩)); done) (by repeat' (first | exact Cover.nil | exact Take.here | apply Cover.cons | apply Take.there)) (fun h => by cases h)
            · refine g_no rfl rfl rfl rfl ?_
              refine g_no rfl rfl rfl rfl ?_
              refine g_no rfl rfl rfl rfl ?_
              refine g_no rfl rfl rfl rfl ?_
              refine g_no rfl rfl rfl rfl ?_
              refine g_no rfl rfl rfl rfl ?_
              first | refine g_pure (p_pickt rfl rfl) rfl ?_ | refine g_pure (p_pickf rfl rfl) rfl ?_
              refine g_pure (p_move rfl) rfl ?_
              refine g_no rfl rfl rfl rfl ?_
              refine g_no rfl rfl rfl rfl ?_
              refine g_no rfl rfl rfl rfl ?_
              refine g_no rfl rfl rfl rfl ?_
              refine g_no rfl rfl rfl rfl ?_
              refine g_no rfl rfl rfl rfl ?_
              refine g_no rfl rfl rfl rfl ?_
              refine g_no rfl rfl rfl rfl ?_
              first | refine g_pure (p_pickt rfl rfl) rfl ?_ | refine g_pure (p_pickf rfl rfl) rfl ?_
              refine g_pure (p_assign rfl) rfl ?_
              refine g_nil ?_
              refine g_qn ?_
              exact g_joined false (by (repeat (first | exact trivial | refine ⟨by rfl, ?_⟩)); done) (by repeat' (first | exact Cover.nil | exact Take.here | apply Cover.cons | apply Take.there)) (fun h => by cases h)
          rintro bb hb
          have hnext : ∀ b' : Bool, b' = false → True := fun _ _ => trivial
          refine g_qt ?_
          cases bb with
          | true =>
            obtain ⟨g1, g2, g3⟩ := hb rfl
            have hv := hv g1 g2 g3
            have hx : thereB (at0 A i) = true := by rw [hr]; unfold thereB; simp [g1]
            obtain ⟨hk1, hk2⟩ := clean_kind hx
            rw [← hv] at hk1 hk2
            refine g_seq ?_
            refine m_begin0 (.fl 0 0 (.fl 1 0 (.fl 2 0 (.fl 3 0 (.fl 4 0 (.fl 5 0 (.fl 6 1 (.fl 7 0 (.fl 8 0 (.fl 9 0 (.fl 10 0 (.fl 11 1 (.fl 12 0 (.fl 13 0 (.fl 14 0 (.fl 15 0 (.fl 16 0 (.fl 17 0 (.fl 18 1 (.fl 19 0 (.fl 20 0 (.fl 21 0 (.fl 22 0 (.fl 23 0 (.fl 24 0 (.fl 25 1 (.fl 26 0 (.fl 27 0 (.fl 28 0 (.fl 29 0 (.fl 30 1 (.fl 31 0 (.fl 32 0 (.fl 33 0 (.fl 34 0 .done))))))))))))))))))))))))))))))))))) (by kernel_rfl) (by kernel_rfl) ?_
            refine m_float0 rfl (fun _ _ => p_move rfl) rfl ?_
            refine m_float0 rfl (fun _ _ => p_move rfl) rfl ?_
            refine m_yes0 rfl rfl rfl (fun _ _ => p_move rfl) rfl ?_
            refine m_yes0 rfl rfl rfl (fun _ _ => p_move rfl) rfl ?_
            refine m_yes0 rfl rfl rfl (fun _ _ => p_indexAddr rfl rfl (by omega) (fun _ => rfl)) rfl ?_
            refine m_yes0 rfl rfl rfl (fun _ _ => p_fieldAddr rfl) rfl ?_
            refine m_yes rfl rfl rfl (p_load (by rfl) rfl (Has.own (by repeat' (first | exact Take.here | apply Take.there))) z1') rfl ?_
            refine m_yes0 rfl rfl rfl (fun _ _ => p_move rfl) rfl ?_
            refine m_yes0 rfl rfl rfl (fun _ _ => p_move rfl) rfl ?_
            refine m_yes0 rfl rfl rfl (fun _ _ => p_indexAddr rfl rfl (by omega) (fun _ => l1)) rfl ?_
            refine m_yes0 rfl rfl rfl (fun _ _ => p_fieldAddr rfl) rfl ?_
            refine m_yes rfl rfl rfl (p_load (by rfl) rfl (Has.ro l2) x1') rfl ?_
            refine m_yes0 rfl rfl rfl (fun _ _ => p_neqF rfl rfl hk1) rfl ?_
            refine m_yes0 rfl rfl rfl (fun _ _ => p_move rfl) rfl ?_
            refine m_yes0 rfl rfl rfl (fun _ _ => p_move rfl) rfl ?_
            refine m_yes0 rfl rfl rfl (fun _ _ => p_move rfl) rfl ?_
            refine m_yes0 rfl rfl rfl (fun _ _ => p_indexAddr rfl rfl (by omega) (fun _ => l1)) rfl ?_
            refine m_yes0 rfl rfl rfl (fun _ _ => p_fieldAddr rfl) rfl ?_
            refine m_yes rfl rfl rfl (p_load (by rfl) rfl (Has.ro l2) x1') rfl ?_
            refine m_yes0 rfl rfl rfl (fun _ _ => p_eql rfl rfl) rfl ?_
            refine m_yes0 rfl rfl rfl (fun _ _ => p_move rfl) rfl ?_
            refine m_splitd 20 rfl rfl (fun v => ?_) (fun v => ?_)
            · refine m_yes0 rfl rfl rfl (fun _ _ => p_move rfl) rfl ?_
              refine m_yes0 rfl rfl rfl (fun _ _ => p_move rfl) rfl ?_
              refine m_yes0 rfl rfl rfl (fun _ _ => p_indexAddr rfl rfl (by omega) (fun _ => rfl)) rfl ?_
              refine m_yes0 rfl rfl rfl (fun _ _ => p_fieldAddr rfl) rfl ?_
              refine m_yes rfl rfl rfl (p_load (by rfl) rfl (Has.own (by repeat' (first | exact Take.here | apply Take.there))) z2') rfl ?_
              refine m_yes0 rfl rfl rfl (fun _ _ => p_move rfl) rfl ?_
              refine m_yes0 rfl rfl rfl (fun _ _ => p_move rfl) rfl ?_
              refine m_yes0 rfl rfl rfl (fun _ _ => p_indexAddr rfl rfl (by omega) (fun _ => l1)) rfl ?_
              refine m_yes0 rfl rfl rfl (fun _ _ => p_fieldAddr rfl) rfl ?_
              refine m_yes rfl rfl rfl (p_load (by rfl) rfl (Has.ro l2) x2') rfl ?_
              refine m_yes0 rfl rfl rfl (fun _ _ => p_neqF rfl rfl (hk2 (by assumption))) rfl ?_
              first | refine m_yes0 rfl rfl rfl (fun _ _ => p_pickt rfl rfl) rfl ?_ | refine m_yes0 rfl rfl rfl (fun _ _ => p_pickf rfl rfl) rfl ?_
              first | refine m_yes0 rfl rfl rfl (fun _ _ => p_pickt rfl rfl) rfl ?_ | refine m_yes0 rfl rfl rfl (fun _ _ => p_pickf rfl rfl) rfl ?_
              first | refine m_float0 rfl (fun _ _ => p_pickt rfl rfl) rfl ?_ | refine m_float0 rfl (fun _ _ => p_pickf rfl rfl) rfl ?_
              refine m_nil ?_
              refine g_qt ?_
              refine g_iff rfl ?_
              refine g_skip ?_
              refine g_qb ?_
              refine g_qt ?_
              refine g_region ?_
              refine g_pure (p_move rfl) rfl ?_
              first | refine g_pure (p_addi rfl rfl (by omega)) rfl ?_ | refine g_pure (p_add rfl rfl) rfl ?_
              refine g_pure (p_assign rfl) rfl ?_
              refine g_nil ?_
              refine g_qn ?_
              refine g_fold (k := R.length) (cap := c4) (size := 2) (g := gp) (by repeat' (first | exact Take.here | apply Take.there)) p1 p2 p3 p4 ?_
              exact g_next (i + 1) (by (repeat (first | exact trivial | refine ⟨by rfl, ?_⟩)); done) (by repeat' (first | exact Cover.nil | exact Take.here | apply Cover.cons | apply Take.there)) (by omega) (by omega)
            · refine m_no0 rfl rfl rfl rfl rfl ?_
              refine m_no0 rfl rfl rfl rfl rfl ?_
              refine m_no0 rfl rfl rfl rfl rfl ?_
              refine m_no0 rfl rfl rfl rfl rfl ?_
              refine m_no rfl rfl rfl rfl rfl ?_
              refine m_no0 rfl rfl rfl rfl rfl ?_
              refine m_no0 rfl rfl rfl rfl rfl ?_
              refine m_no0 rfl rfl rfl rfl rfl ?_
              refine m_no0 rfl rfl rfl rfl rfl ?_
              refine m_no rfl rfl rfl rfl rfl ?_
              refine m_no0 rfl rfl rfl rfl rfl ?_
              first | refine m_yes0 rfl rfl rfl (fun _ _ => p_pickt rfl rfl) rfl ?_ | refine m_yes0 rfl rfl rfl (fun _ _ => p_pickf rfl rfl) rfl ?_
              first | refine m_yes0 rfl rfl rfl (fun _ _ => p_pickt rfl rfl) rfl ?_ | refine m_yes0 rfl rfl rfl (fun _ _ => p_pickf rfl rfl) rfl ?_
              first | refine m_float0 rfl (fun _ _ => p_pickt rfl rfl) rfl ?_ | refine m_float0 rfl (fun _ _ => p_pickf rfl rfl) rfl ?_
              refine m_nil ?_
              refine g_qt ?_
              refine g_iff rfl ?_
              refine g_skip ?_
              refine g_qb ?_
              refine g_qt ?_
              refine g_region ?_
              refine g_pure (p_move rfl) rfl ?_
              first | refine g_pure (p_addi rfl rfl (by omega)) rfl ?_ | refine g_pure (p_add rfl rfl) rfl ?_
              refine g_pure (p_assign rfl) rfl ?_
              refine g_nil ?_
              refine g_qn ?_
              refine g_fold (k := R.length) (cap := c4) (size := 2) (g := gp) (by repeat' (first | exact Take.here | apply Take.there)) p1 p2 p3 p4 ?_
              exact g_next (i + 1) (by (repeat (first | exact trivial | refine ⟨by rfl, ?_⟩)); done) (by repeat' (first | exact Cover.nil | exact Take.here | apply Cover.cons | apply Take.there)) (by omega) (by omega)
          | false =>
            refine g_seq ?_
            refine m_begin0 (.fl 0 0 (.fl 1 0 (.fl 2 0 (.fl 3 0 (.fl 4 0 (.fl 5 0 (.fl 6 1 (.fl 7 0 (.fl 8 0 (.fl 9 0 (.fl 10 0 (.fl 11 1 (.fl 12 0 (.fl 13 0 (.fl 14 0 (.fl 15 0 (.fl 16 0 (.fl 17 0 (.fl 18 1 (.fl 19 0 (.fl 20 0 (.fl 21 0 (.fl 22 0 (.fl 23 0 (.fl 24 0 (.fl 25 1 (.fl 26 0 (.fl 27 0 (.fl 28 0 (.fl 29 0 (.fl 30 1 (.fl 31 0 (.fl 32 0 (.fl 33 0 (.fl 34 0 .done))))))))))))))))))))))))))))))))))) (by kernel_rfl) (by kernel_rfl) ?_
            refine m_float0 rfl (fun _ _ => p_move rfl) rfl ?_
            refine m_float0 rfl (fun _ _ => p_move rfl) rfl ?_
            refine m_no0 rfl rfl rfl rfl rfl ?_
            refine m_no0 rfl rfl rfl rfl rfl ?_
            refine m_no0 rfl rfl rfl rfl rfl ?_
            refine m_no0 rfl rfl rfl rfl rfl ?_
            refine m_no rfl rfl rfl rfl rfl ?_
            refine m_no0 rfl rfl rfl rfl rfl ?_
            refine m_no0 rfl rfl rfl rfl rfl ?_
            refine m_no0 rfl rfl rfl rfl rfl ?_
            refine m_no0 rfl rfl rfl rfl rfl ?_
            refine m_no rfl rfl rfl rfl rfl ?_
            refine m_no0 rfl rfl rfl rfl rfl ?_
            refine m_no0 rfl rfl rfl rfl rfl ?_
            refine m_nou0 rfl rfl rfl rfl ?_
            refine m_nou0 rfl rfl rfl rfl ?_
            refine m_nou0 rfl rfl rfl rfl ?_
            refine m_nou0 rfl rfl rfl rfl ?_
            refine m_nou rfl rfl rfl rfl ?_
            refine m_nou0 rfl rfl rfl rfl ?_
            refine m_nou0 rfl rfl rfl rfl ?_
            refine m_nou0 rfl rfl rfl rfl ?_
            refine m_nou0 rfl rfl rfl rfl ?_
            refine m_nou0 rfl rfl rfl rfl ?_
            refine m_nou0 rfl rfl rfl rfl ?_
            refine m_nou rfl rfl rfl rfl ?_
            refine m_nou0 rfl rfl rfl rfl ?_
            refine m_nou0 rfl rfl rfl rfl ?_
            refine m_nou0 rfl rfl rfl rfl ?_
            refine m_nou0 rfl rfl rfl rfl ?_
            refine m_nou rfl rfl rfl rfl ?_
            refine m_nou0 rfl rfl rfl rfl ?_
            refine m_nou0 rfl rfl rfl rfl ?_
            refine m_no0 rfl rfl rfl rfl rfl ?_
            first | refine m_float0 rfl (fun _ _ => p_pickt rfl rfl) rfl ?_ | refine m_float0 rfl (fun _ _ => p_pickf rfl rfl) rfl ?_
            refine m_nil ?_
            refine g_qt ?_
            refine g_iff rfl ?_
            refine g_skip ?_
            refine g_qb ?_
            refine g_qt ?_
            refine g_region ?_
            refine g_pure (p_move rfl) rfl ?_
            first | refine g_pure (p_addi rfl rfl (by omega)) rfl ?_ | refine g_pure (p_add rfl rfl) rfl ?_
            refine g_pure (p_assign rfl) rfl ?_
            refine g_nil ?_
            refine g_qn ?_
            refine g_fold (k := R.length) (cap := c4) (size := 2) (g := gp) (by repeat' (first | exact Take.here | apply Take.there)) p1 p2 p3 p4 ?_
            exact g_next (i + 1) (by (repeat (first | exact trivial | refine ⟨by rfl, ?_⟩)); done) (by repeat' (first | exact Cover.nil | exact Take.here | apply Cover.cons | apply Take.there)) (by omega) (by omega)
      · refine g_exit ?_
        refine g_qt_exit ?_
        refine g_qn_exit ?_
        refine g_qb_exit ?_
        refine g_qt ?_
        refine g_seq ?_
        refine g_region ?_
        refine g_call (Hin := []) (Hr := ?hr8) (R := ?rr8) rfl rfl rfl ?hin8 ?hc8 ?hk8
        case hin8 => repeat' (first | exact Cover.nil | exact Take.here | apply Cover.cons | apply Take.there)
        case hc8 => intro ρ' hρ hR; exact lives_ok
        rintro _ _ ⟨rfl, rfl⟩
        refine g_pure (p_assign rfl) rfl ?_
        refine g_nil ?_
        refine g_qt ?_
        refine g_ret ?_
        exact g_post (Ho := []) (rs := [.tmp 6]) rfl (.tmp rfl .nil) rfl .nil
end Go.Proofs.Ytceecdjckhbncaa
