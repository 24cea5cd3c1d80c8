/- Chapter 38: products, quotients. Conditions: none. -/
import Derived.Test.YtkebblmmgcgjkaaJ4
namespace Go.Z.Bit
set_option maxRecDepth 8000
set_option linter.unusedVariables false
set_option linter.unusedSimpArgs false
set_option linter.unusedSectionVars false
open Go Go.Z Go.Z.Aig
def rowP (x : Bool) (b : List Bool) (i k n : Nat) : List Bool := List.replicate i false ++ (b.take (k - i)).map (x && ·) ++ List.replicate (n - k) false
theorem rowP_start (x : Bool) (b : List Bool) {i n : Nat} (h : i ≤ n) : rowP x b i i n = List.replicate n false := by
  unfold rowP
  rw [Nat.sub_self, List.take_zero, List.map_nil, List.append_nil, List.replicate_append_replicate]
  congr 1; omega
theorem rowP_end (x : Bool) (b : List Bool) (i n : Nat) : rowP x b i n n = rowF x b i n := by
  unfold rowP rowF
  rw [Nat.sub_self, List.replicate_zero, List.append_nil]
theorem rowP_step (x : Bool) {b : List Bool} {i k n : Nat} (hi : i ≤ k) (hk : k < n) (hb : b.length = n) : (rowP x b i k n).set k (x && b.getD (k - i) false) = rowP x b i (k + 1) n := by
  unfold rowP
  have hl : (List.replicate i false ++ (b.take (k - i)).map (x && ·)).length = k := by simp; omega
  rw [List.set_append_right _ _ (by omega), hl, Nat.sub_self, show k + 1 - i = (k - i) + 1 by omega, map_snoc (by omega), show n - k = (n - (k + 1)) + 1 by omega, List.replicate_succ, List.set_cons_zero, List.append_assoc, List.append_assoc, List.append_assoc]
  rfl
theorem quo_step {m : Nat} (qs : List Bool) (c : Bool) : (List.replicate (m + 1) false ++ qs).set m c = List.replicate m false ++ (c :: qs) := by
  rw [List.replicate_succ', List.append_assoc, List.set_append_right _ _ (by simp)]
  simp
theorem drop_getD {l : List Bool} {m : Nat} (h : m < l.length) : l.drop m = l.getD m false :: l.drop (m + 1) := by
  rw [List.drop_eq_getElem_cons h, List.getD_eq_getElem?_getD, List.getElem?_eq_getElem h]; rfl
theorem divF_step {b l : List Bool} {m : Nat} (h : m < l.length) : divF b (l.drop m) = ((addF (l.getD m false :: (divF b (l.drop (m + 1))).2.take b.length) ((b ++ [false]).map (!·)) true).2 :: (divF b (l.drop (m + 1))).1,
    muxF (addF (l.getD m false :: (divF b (l.drop (m + 1))).2.take b.length) ((b ++ [false]).map (!·)) true).2 (addF (l.getD m false :: (divF b (l.drop (m + 1))).2.take b.length) ((b ++ [false]).map (!·)) true).1 (l.getD m false :: (divF b (l.drop (m + 1))).2.take b.length)) := by
  have hl := (divF_len b (l.drop (m + 1))).2
  rw [drop_getD h, divF]
  rw [muxF_eq _ (addF_len _ (by simp [hl]))]
end Go.Z.Bit
namespace Go.Proofs.Ytkebblmmgcgjkaa
set_option maxRecDepth 8000
set_option linter.unusedVariables false
set_option linter.unusedSimpArgs false
set_option linter.unusedSectionVars false
open Go Go.Z Go.Z.Aig Go.Z.Bit

variable {ρ : Nat → Obj → Prop} {S : St} {a b c : Int} {fa fb fc : List Bool → Bool}
variable {al bl : Option Addr} {cl cm : Nat} {ls ms : List Int} {f g : List Bool → List Bool}
theorem product_ok (mb p : Nat) (hw : WF S) (hn : ls.length ≤ 64) (hl : S.length + ls.length * (10 * ls.length) < 131072) (hls : RSl ρ 1 al ls.length (ls.map encI)) (hms : RSl ρ 1 bl ms.length (ms.map encI)) (he : ls.length = ms.length) (d : DenL S ls f) (d' : DenL S ms g) :
    Con Try.prog ρ 98 #[.pointer (some ⟨mb, 0, none⟩), .slice al ls.length cl, .slice bl ms.length cm] [MkB mb p, Gr p S]
    (fun v H => ∃ a2 c2 out T, v = .slice a2 out.length c2 ∧ H = [OwnSl 27 1 a2 out.length c2 (out.map encI), MkB mb p, Gr p T] ∧ out.length = ls.length ∧ Up S T (ls.length * (10 * ls.length)) ∧ DenL T out (fun i => mulF (f i) (g i) ls.length ls.length)) := by
  obtain ⟨b1, o1, cs1, T1, fz1, hr⟩ := lrd hls
  obtain ⟨b2, o2, cs2, T2, fz2, hr2⟩ := lrd hms
  obtain ⟨n, hnl⟩ : ∃ n, n = ls.length := ⟨_, rfl⟩
  rw [← hnl] at hl hn ⊢
  have hz : ((bitsR n 0).map lit1).length = n := by rw [List.length_map, bitsR_len]
  have hzd : ∀ T : St, WF T → DenL T ((bitsR n 0).map lit1) (fun _ => List.replicate n false) := fun T h => (DenL.const h _).congr fun _ => bitsR_zero n
  refine con_intro Try.func98 Try.call98 rfl Try.ntmps98 rfl (L := [(0, _), (1, _), (2, _)]) rfl fun w hh => ?_
  refine g_seq ?_
  refine g_region ?_
  refine g_pure (p_assign rfl) rfl ?_
  refine g_nil ?_
  refine g_qt ?_
  refine g_seq ?_
  refine g_region ?_
  refine g_pure (p_move rfl) rfl ?_
  refine g_pure (p_len (by rfl) rfl) rfl ?_
  refine g_call (Hin := []) (Hr := ?hr1) (R := ?rr1) rfl rfl rfl ?hin1 ?hc1 ?hk1
  case hin1 => repeat' (first | exact Cover.nil | exact Take.here | apply Cover.cons | apply Take.there)
  case hc1 => intro ρ' hρ hR; exact constant_ok n 0 hn (by unfold I64; omega)
  rintro _ _ ⟨ka, kc, rfl, rfl⟩
  refine g_pure (p_assign rfl) rfl ?_
  refine g_nil ?_
  refine g_qt ?_
  refine g_seq ?_
  refine g_seq ?_
  refine g_region ?_
  refine g_pure (p_move rfl) rfl ?_
  refine g_pure (p_len (by rfl) rfl) rfl ?_
  refine g_pure (p_move rfl) rfl ?_
  refine g_nil ?_
  refine g_qt ?_
  refine g_block ?_
  refine g_loop (fun q : Nat × List Int × Option Addr × Nat × St => [(0, .pointer (some ⟨mb, 0, none⟩)), (1, .slice al n cl), (2, .slice bl ms.length cm), (7, .slice q.2.2.1 n q.2.2.2.1), (15, .int .i64 n), (16, .int .i64 q.1)])
    (fun q => [OwnSl 27 1 q.2.2.1 n q.2.2.2.1 (q.2.1.map encI), MkB mb p, Gr p q.2.2.2.2]) (fun q => q.1 ≤ n ∧ q.2.1.length = n ∧ Up S q.2.2.2.2 (q.1 * (10 * n)) ∧ DenL q.2.2.2.2 q.2.1 (fun i => mulF (f i) (g i) n q.1)) (fun q => n - q.1) (0, (bitsR n 0).map lit1, ka, kc, S) ⟨Nat.zero_le _, hz, by dsimp only; rw [Nat.zero_mul]; exact .refl hw, hzd S hw⟩ (by (repeat (first | exact trivial | refine ⟨by rfl, ?_⟩)); done) (by repeat' (first | exact Cover.nil | exact Take.here | apply Cover.cons | apply Take.there)) ?_
  rintro ⟨i, out, oa, oc, T⟩ ⟨hi, hol, u, dx⟩
  dsimp only at hi hol u dx ⊢
  refine g_seq ?_
  refine g_region ?_
  refine g_pure (p_lss rfl rfl) rfl ?_
  refine g_nil ?_
  refine g_qt ?_
  refine g_seq ?_
  refine g_ifd rfl (fun h => ?_) (fun h => ?_)
  · have hil : i < n := by omega
    have hkl : i < ls.length := by omega
    obtain ⟨r1, r2, r3⟩ := hr (by omega)
    obtain ⟨s1, s2, s3⟩ := hr2 (by omega)
    have hul := u.len
    have hmul : (i + 1) * (10 * n) ≤ n * (10 * n) := Nat.mul_le_mul_right _ hil
    rw [Nat.add_mul, Nat.one_mul] at hmul
    refine g_skip ?_
    refine g_qt ?_
    refine g_seq ?_
    refine g_block ?_
    refine g_seq ?_
    refine g_region ?_
    refine g_pure (p_move rfl) rfl ?_
    refine g_pure (p_assign rfl) rfl ?_
    refine g_nil ?_
    refine g_qt ?_
    refine g_seq ?_
    refine g_region ?_
    refine g_pure (p_move rfl) rfl ?_
    refine g_pure (p_len (by rfl) rfl) rfl ?_
    refine g_call (Hin := []) (Hr := ?hr2) (R := ?rr2) rfl rfl rfl ?hin2 ?hc2 ?hk2
    case hin2 => repeat' (first | exact Cover.nil | exact Take.here | apply Cover.cons | apply Take.there)
    case hc2 => intro ρ' hρ hR; exact constant_ok n 0 hn (by unfold I64; omega)
    rintro _ _ ⟨ra, rc, rfl, rfl⟩
    refine g_pure (p_assign rfl) rfl ?_
    refine g_nil ?_
    refine g_qt ?_
    refine g_seq ?_
    refine g_seq ?_
    refine g_region ?_
    refine g_pure (p_move rfl) rfl ?_
    refine g_pure (p_assign rfl) rfl ?_
    refine g_nil ?_
    refine g_qt ?_
    refine g_block ?_
    refine g_loop (fun q : Nat × List Int × St => [(0, .pointer (some ⟨mb, 0, none⟩)), (1, .slice al n cl), (2, .slice bl ms.length cm), (7, .slice oa n oc), (8, .int .i64 i), (9, .slice ra n rc), (10, .int .i64 q.1), (15, .int .i64 n), (16, .int .i64 i)])
      (fun q => [OwnSl 27 1 ra n rc (q.2.1.map encI), OwnSl 27 1 oa n oc (out.map encI), MkB mb p, Gr p q.2.2]) (fun q => i ≤ q.1 ∧ q.1 ≤ n ∧ q.2.1.length = n ∧ Up T q.2.2 (q.1 - i) ∧ DenL q.2.2 q.2.1 (fun j => rowP ((f j).getD i false) (g j) i q.1 n)) (fun q => n - q.1) (i, (bitsR n 0).map lit1, T) ⟨Nat.le_refl _, hi, hz, by dsimp only; rw [Nat.sub_self]; exact .refl u.wf, (hzd T u.wf).congr fun j => (rowP_start _ _ hi).symm⟩ (by (repeat (first | exact trivial | refine ⟨by rfl, ?_⟩)); done) (by repeat' (first | exact Cover.nil | exact Take.here | apply Cover.cons | apply Take.there)) ?_
    rintro ⟨k, row, U⟩ ⟨hik, hk, hrl, u1, d1⟩
    dsimp only at hik hk hrl u1 d1 ⊢
    have hul1 := u1.len
    refine g_seq ?_
    refine g_seq ?_
    refine g_region ?_
    refine g_pure (p_move rfl) rfl ?_
    refine g_pure (p_move rfl) rfl ?_
    refine g_pure (p_len (by rfl) rfl) rfl ?_
    refine g_pure (p_lss rfl rfl) rfl ?_
    refine g_nil ?_
    refine g_qt ?_
    refine g_ifd rfl (fun h2 => ?_) (fun h2 => ?_)
    · have hki : ((k : Int) - (i : Int)).toNat = k - i := by omega
      have hb : cs2[o2 + ((k : Int) - (i : Int)).toNat * 1]? = some (.int .i64 (ms[k - i]'(by omega))) := by rw [hki]; exact s3 _ _
      refine g_skip ?_
      refine g_qt ?_
      refine g_seq ?_
      refine g_block ?_
      refine g_own (e := 27) (a1 := ra) (k := n) (cap := rc) (xs := row.map encI) (by repeat' (first | exact Take.here | apply Take.there)) (fun _ h2 _ _ => absurd h2 (by omega)) ?_
      rintro gx curx rfl x1 x2 x3 x4 x5
      refine m_begin0 (.fl 0 0 (.fl 1 0 (.fl 2 0 (.fl 3 0 (.fl 4 0 (.fl 5 0 (.fl 6 1 (.fl 7 0 (.fl 8 0 (.fl 9 0 (.fl 10 0 (.fl 11 0 (.fl 12 1 (.ef 13 (.fl 14 0 (.ef 15 .done)))))))))))))))) (by kernel_rfl) (by kernel_rfl) ?_
      refine m_float0 rfl (fun _ _ => p_move rfl) rfl ?_
      refine m_float0 rfl (fun _ _ => p_move rfl) rfl ?_
      refine m_float0 rfl (fun _ _ => p_move rfl) rfl ?_
      refine m_float0 rfl (fun _ _ => p_move rfl) rfl ?_
      refine m_float0 rfl (fun _ _ => p_move rfl) rfl ?_
      refine m_float0 rfl (fun _ _ => p_indexAddr rfl rfl (by omega) (fun _ => r1)) rfl ?_
      refine m_float rfl (p_load (by rfl) rfl (Has.ro r2) (r3 _ hkl)) rfl ?_
      refine m_float0 rfl (fun _ _ => p_move rfl) rfl ?_
      refine m_float0 rfl (fun _ _ => p_move rfl) rfl ?_
      refine m_float0 rfl (fun _ _ => p_move rfl) rfl ?_
      first | refine m_float0 rfl (fun _ _ => p_subi rfl rfl (by omega)) rfl ?_ | refine m_float0 rfl (fun _ _ => p_sub rfl rfl) rfl ?_
      refine m_float0 rfl (fun _ _ => p_indexAddr rfl rfl (by omega) (fun _ => s1)) rfl ?_
      refine m_float rfl (p_load (by rfl) rfl (Has.ro s2) hb) rfl ?_
      refine m_call (Hin := ?hi3) (Hr := ?hr3) (R := ?rr3) rfl wantedN rfl rfl rfl ?hin3 ?hc3 ?hk3
      case hc3 => intro ρ' hρ hR; exact mand_ok mb p u1.wf (by omega) ((d.get hkl).up hw (u.trans u1 (Nat.le_refl _))) ((d'.get (show k - i < ms.length by omega)).up hw (u.trans u1 (Nat.le_refl _)))
      case hin3 => repeat' (first | exact Cover.nil | exact Take.here | apply Cover.cons | apply Take.there)
      rintro _ _ ⟨l, V, rfl, rfl, u2, d2⟩
      refine ⟨.none (by kernel_rfl), ?_⟩
      refine m_float0 rfl (fun _ _ => p_indexAddr rfl rfl (by omega) (fun _ => rfl)) rfl ?_
      refine m_eff0 rfl (e_store1 (by rfl) rfl rfl rfl (by repeat' (first | exact Take.here | apply Take.there)) (by show 0 + (k : Int).toNat * 1 < _; omega)) (fun _ _ => ?_)
      rintro rfl
      refine ⟨.none (by kernel_rfl), ?_⟩
      refine m_nil ?_
      refine g_qb ?_
      refine g_qt ?_
      refine g_region ?_
      refine g_pure (p_move rfl) rfl ?_
      first | refine g_pure (p_addi rfl rfl (by omega)) rfl ?_ | refine g_pure (p_add rfl rfl) rfl ?_
      refine g_pure (p_assign rfl) rfl ?_
      refine g_nil ?_
      refine g_qn ?_
      refine g_fold (e := 27) (g := gx) (k := n) (cap := rc) (size := 1) (xs := (row.set k l).map encI) (by repeat' (first | exact Take.here | apply Take.there)) x1 x2 (by rw [List.length_set]; exact x3) (set_own x4) ?_
      exact g_next (k + 1, row.set k l, V) (by (repeat (first | exact trivial | refine ⟨by rfl, ?_⟩)); done) (by repeat' (first | exact Cover.nil | exact Take.here | apply Cover.cons | apply Take.there)) ⟨by dsimp only; omega, by dsimp only; omega, by rw [List.length_set]; exact hrl, u1.trans u2 (by dsimp only; omega), ((d1.up u1.wf u2).set d2 k).congr fun j => rowP_step _ hik (by omega) (by rw [d'.len]; omega)⟩ (by dsimp only; omega)
    · have hkn : k = n := by omega
      subst hkn
      refine g_exit ?_
      refine g_qt_exit ?_
      refine g_qn_exit ?_
      refine g_qb_exit ?_
      refine g_qt ?_
      refine g_region ?_
      refine g_pure (p_move rfl) rfl ?_
      refine g_pure (p_move rfl) rfl ?_
      refine g_pure (p_move rfl) rfl ?_
      rw [show (Value.slice oa k oc) = .slice oa out.length oc by rw [hol], show (Value.slice ra k rc) = .slice ra row.length rc by rw [hrl], show OwnSl 27 1 oa k oc (out.map encI) = OwnSl 27 1 oa out.length oc (out.map encI) by rw [hol], show OwnSl 27 1 ra k rc (row.map encI) = OwnSl 27 1 ra row.length rc (row.map encI) by rw [hrl]]
      refine g_call (Hin := [MkB mb p, Gr p U]) (Hr := ?hr4) (R := ?rr4) rfl rfl rfl ?hin4 ?hc4 ?hk4
      case hin4 => repeat' (first | exact Cover.nil | exact Take.here | apply Cover.cons | apply Take.there)
      case hc4 => intro ρ' hρ hR; exact sum_ok mb p u1.wf (by omega) (RSl.of_own (Take.ro (A := OwnSl 27 1 oa out.length oc (out.map encI)) (by repeat' (first | exact Take.here | apply Take.there)) hR)) (RSl.of_own (Take.ro (A := OwnSl 27 1 ra row.length rc (row.map encI)) (by repeat' (first | exact Take.here | apply Take.there)) hR)) (by omega) (Den.zero u1.wf) (dx.up u.wf u1) d1
      rintro _ _ ⟨a2, c2, out2, co, V, rfl, rfl, h3, u2, d2, _⟩
      refine g_pure (p_move rfl) rfl ?_
      refine g_pure (p_extract rfl rfl) rfl ?_
      refine g_pure (p_extract rfl rfl) rfl ?_
      refine g_pure (p_assign rfl) rfl ?_
      refine g_nil ?_
      refine g_qb ?_
      refine g_qt ?_
      refine g_region ?_
      first | refine g_pure (p_addi rfl rfl (by omega)) rfl ?_ | refine g_pure (p_add rfl rfl) rfl ?_
      refine g_pure (p_move rfl) rfl ?_
      refine g_nil ?_
      refine g_qn ?_
      have h4 : out2.length = k := by omega
      refine g_next (i + 1, out2, a2, c2, V) (by rw [← h4]; exact (by (repeat (first | exact trivial | refine ⟨by rfl, ?_⟩)); done)) (by rw [← h4]; exact (by repeat' (first | exact Cover.nil | exact Take.here | apply Cover.cons | apply Take.there))) ⟨by dsimp only; omega, h4, ?_, d2.congr fun j => ?_⟩ (by dsimp only; omega)
      · refine (u.trans u1 (Nat.le_refl _)).trans u2 ?_
        dsimp only
        rw [Nat.add_mul, Nat.one_mul]; omega
      · rw [rowP_end]; rfl
  · have hke : i = n := by omega
    subst hke
    refine g_exit ?_
    refine g_qt_exit ?_
    refine g_qn_exit ?_
    refine g_qb_exit ?_
    refine g_qt ?_
    refine g_seq ?_
    refine g_region ?_
    refine g_pure (p_move rfl) rfl ?_
    refine g_pure (p_assign rfl) rfl ?_
    refine g_nil ?_
    refine g_qt ?_
    refine g_ret ?_
    exact g_post (rs := [.tmp 6]) rfl (.tmp rfl .nil) ⟨oa, oc, out, T, by rw [hol]; rfl, by rw [hol], hol, u, dx⟩ (by repeat' (first | exact Cover.nil | exact Take.here | apply Cover.cons | apply Take.there))

theorem sub_own {cur : List Value} {ls : List Int} {N n : Nat} (h : cur.take (N * 1) = ls.map encI) (hl : ls.length = N) (hn : n ≤ N) : sub cur 0 (n * 1) = some ((ls.take n).map encI) := by
  have h1 := congrArg List.length h
  rw [List.length_take, List.length_map] at h1
  unfold sub
  rw [if_pos (by omega), List.drop_zero, List.map_take, ← h, List.take_take, Nat.min_eq_left (by omega), Nat.mul_one]
theorem sum_n (mb p : Nat) (hw : WF S) {n : Nat} (h1 : ls.length = n) (h2 : ms.length = n) (hl : S.length + 9 * n < 131072) (hls : RSl ρ 1 al n (ls.map encI)) (hms : RSl ρ 1 bl n (ms.map encI)) (dc : Den S c fc) (d : DenL S ls f) (d' : DenL S ms g) :
    Con Try.prog ρ 97 #[.pointer (some ⟨mb, 0, none⟩), .slice al n cl, .slice bl n cm, .int .i64 c] [MkB mb p, Gr p S]
    (fun v H => ∃ a2 c2 out co T, v = .tuple #[.slice a2 n c2, .int .i64 co] ∧ H = [OwnSl 27 1 a2 n c2 (out.map encI), MkB mb p, Gr p T] ∧ out.length = n ∧ Up S T (9 * n) ∧ DenL T out (fun i => (addF (f i) (g i) (fc i)).1) ∧ Den T co (fun i => (addF (f i) (g i) (fc i)).2)) := by
  subst h1
  have := sum_ok (ρ := ρ) (cl := cl) (cm := cm) mb p hw hl hls (by rw [h2]; exact hms) h2.symm dc d d'
  rw [h2] at this
  refine this.mono ?_
  rintro _ _ ⟨a2, c2, out, co, T, rfl, rfl, h3, u, d1, d2⟩
  exact ⟨a2, c2, out, co, T, by rw [h3], by rw [h3], h3, u, d1, d2⟩
theorem nots_n {ρ : Nat → Obj → Prop} {al : Option Addr} {cl : Nat} {ls : List Int} {n : Nat} (h1 : ls.length = n) (hi : ∀ l ∈ ls, I64 l) (hn : n ≤ 100000) (hls : RSl ρ 1 al n (ls.map encI)) : Con Try.prog ρ 92 #[.slice al n cl] []
    (fun v H => ∃ a2 c2, v = .slice a2 n c2 ∧ H = [OwnSl 27 1 a2 n c2 ((ls.map nt).map encI)]) := by
  subst h1; exact bnots_ok hi hn hls
theorem muxes_n (mb p : Nat) (hw : WF S) {n : Nat} (h1 : ls.length = n) (h2 : ms.length = n) (hl : S.length + 3 * n < 131072) (hls : RSl ρ 1 al n (ls.map encI)) (hms : RSl ρ 1 bl n (ms.map encI)) (dc : Den S c fc) (d : DenL S ls f) (d' : DenL S ms g) :
    Con Try.prog ρ 69 #[.pointer (some ⟨mb, 0, none⟩), .int .i64 c, .slice al n cl, .slice bl n cm] [MkB mb p, Gr p S]
    (fun v H => ∃ a2 c2 out T, v = .slice a2 n c2 ∧ H = [OwnSl 27 1 a2 n c2 (out.map encI), MkB mb p, Gr p T] ∧ out.length = n ∧ Up S T (3 * n) ∧ DenL T out (fun i => muxF (fc i) (f i) (g i))) := by
  subst h1
  have := muxes_ok (ρ := ρ) (cl := cl) (cm := cm) mb p hw hl hls (by rw [h2]; exact hms) h2.symm dc d d'
  rw [h2] at this
  refine this.mono ?_
  rintro _ _ ⟨a2, c2, out, T, rfl, rfl, h3, u, d1⟩
  exact ⟨a2, c2, out, T, by rw [h3], by rw [h3], h3, u, d1⟩
theorem negate_n (mb p : Nat) (hw : WF S) {n : Nat} (h1 : ls.length = n) (hn : n ≤ 64) (hl : S.length + 12 * n < 131072) (hls : RSl ρ 1 al n (ls.map encI)) (dc : Den S c fc) (d : DenL S ls f) :
    Con Try.prog ρ 93 #[.pointer (some ⟨mb, 0, none⟩), .int .i64 c, .slice al n cl] [MkB mb p, Gr p S]
    (fun v H => ∃ a2 c2 out T, v = .slice a2 n c2 ∧ H = [OwnSl 27 1 a2 n c2 (out.map encI), MkB mb p, Gr p T] ∧ out.length = n ∧ Up S T (12 * n) ∧ DenL T out (fun i => negF (fc i) (f i))) := by
  subst h1
  refine (negate_ok (ρ := ρ) (cl := cl) mb p hw hn hl hls dc d).mono ?_
  rintro _ _ ⟨a2, c2, out, T, rfl, rfl, h3, u, d1⟩
  exact ⟨a2, c2, out, T, by rw [h3], by rw [h3], h3, u, d1⟩
theorem zero_n (mb p : Nat) (hw : WF S) {n : Nat} (h1 : ls.length = n) (hn : n ≤ 100000) (hl : S.length + n < 131072) (hls : RSl ρ 1 al n (ls.map encI)) (d : DenL S ls f) : Con Try.prog ρ 119 #[.pointer (some ⟨mb, 0, none⟩), .slice al n cl] [MkB mb p, Gr p S]
    (fun v H => ∃ l T, v = .int .i64 l ∧ H = [MkB mb p, Gr p T] ∧ Up S T n ∧ Den T l (fun i => zeroF (f i))) := by
  subst h1; exact zero_ok mb p hw hn hl hls d
theorem divide_ok (mb p : Nat) (hw : WF S) {n : Nat} (hn0 : 0 < n) (hnl : ls.length = n) (hml : ms.length = n) (hn : n ≤ 60) (hl : S.length + n * (12 * (n + 1)) < 131072) (hls : RSl ρ 1 al n (ls.map encI)) (hms : RSl ρ 1 bl n (ms.map encI)) (d : DenL S ls f) (d' : DenL S ms g) :
    Con Try.prog ρ 118 #[.pointer (some ⟨mb, 0, none⟩), .slice al n cl, .slice bl n cm] [MkB mb p, Gr p S]
    (fun v H => ∃ a2 c2 q a3 c3 r T, v = .tuple #[.slice a2 n c2, .slice a3 n c3] ∧ H = [OwnSl 27 1 a2 n c2 (q.map encI), OwnSl 27 1 a3 n c3 (r.map encI), MkB mb p, Gr p T] ∧ q.length = n ∧ r.length = n ∧ Up S T (n * (12 * (n + 1))) ∧ DenL T q (fun i => (divF (g i) (f i)).1) ∧ DenL T r (fun i => (divF (g i) (f i)).2.take n)) := by
  obtain ⟨b1, o1, cs1, T1, fz1, hr⟩ := lrd (ls := ls) (by rw [hnl]; exact hls)
  obtain ⟨r1, r2, r3⟩ := hr (by omega)
  have hz : ∀ k, ((bitsR k 0).map lit1).length = k := fun k => by rw [List.length_map, bitsR_len]
  have hzd : ∀ (T : St) k, WF T → DenL T ((bitsR k 0).map lit1) (fun _ => List.replicate k false) := fun T k h => (DenL.const h _).congr fun _ => bitsR_zero k
  have hfl : ∀ i, (f i).length = n := fun i => by rw [d.len]; exact hnl
  have hgl : ∀ i, (g i).length = n := fun i => by rw [d'.len]; exact hml
  refine con_intro Try.func118 Try.call118 rfl Try.ntmps118 rfl (L := [(0, _), (1, _), (2, _)]) rfl fun w hh => ?_
  refine g_seq ?_
  refine g_region ?_
  refine g_pure (p_assign rfl) rfl ?_
  refine g_pure (p_assign rfl) rfl ?_
  refine g_nil ?_
  refine g_qt ?_
  refine g_scope ?_
  refine g_seq ?_
  refine g_region ?_
  refine g_pure (p_move rfl) rfl ?_
  refine g_pure (p_len (by rfl) rfl) rfl ?_
  refine g_pure (p_assign rfl) rfl ?_
  refine g_nil ?_
  refine g_qt ?_
  refine g_seq ?_
  refine g_region ?_
  refine g_pure (p_move rfl) rfl ?_
  refine g_call (Hin := []) (Hr := ?hr5) (R := ?rr5) rfl rfl rfl ?hin5 ?hc5 ?hk5
  case hin5 => repeat' (first | exact Cover.nil | exact Take.here | apply Cover.cons | apply Take.there)
  case hc5 => intro ρ' hρ hR; exact constant_ok n 0 (by omega) (by unfold I64; omega)
  rintro _ _ ⟨qa, qc, rfl, rfl⟩
  refine g_pure (p_move rfl) rfl ?_
  first | refine g_pure (p_addi rfl rfl (by omega)) rfl ?_ | refine g_pure (p_add rfl rfl) rfl ?_
  refine g_call (Hin := []) (Hr := ?hr6) (R := ?rr6) rfl rfl rfl ?hin6 ?hc6 ?hk6
  case hin6 => repeat' (first | exact Cover.nil | exact Take.here | apply Cover.cons | apply Take.there)
  case hc6 => intro ρ' hρ hR; exact constant_ok (n + 1) 0 (by omega) (by unfold I64; omega)
  rintro _ _ ⟨ra, rc, rfl, rfl⟩
  refine g_pure (p_assign rfl) rfl ?_
  refine g_pure (p_assign rfl) rfl ?_
  refine g_nil ?_
  refine g_qt ?_
  refine g_seq ?_
  refine g_region ?_
  refine g_pure (p_move rfl) rfl ?_
  refine g_call (Hin := []) (Hr := ?hr7) (R := ?rr7) rfl rfl rfl ?hin7 ?hc7 ?hk7
  case hin7 => repeat' (first | exact Cover.nil | exact Take.here | apply Cover.cons | apply Take.there)
  case hc7 => intro ρ' hρ hR; exact clone_n hml (hms.mono hρ) (by omega)
  rintro _ _ ⟨wa, wc, rfl, rfl⟩
  refine g_eff (e_bs (xs := [.const (.int .i64 0)]) rfl rfl rfl (by rfl) (by rfl) rfl (by rfl)) rfl (fun _ _ => ?_)
  rintro ⟨b22, rfl, rfl⟩
  refine g_eff (e_appendO (by rfl) (by rfl) rfl rfl (by first | (apply Has.own; (repeat' (first | exact Take.here | apply Take.there)); done) | exact Has.ro (by assumption)) (by rfl) (by rfl) (by repeat' (first | exact Take.here | apply Take.there)) (by omega) (by first | omega | (dsimp only; omega) | (simp <;> omega)) (by omega)) rfl (fun _ _ => ?_)
  rintro ⟨a23, c23, rfl, rfl⟩
  refine g_pure (p_assign rfl) rfl ?_
  refine g_nil ?_
  refine g_qt ?_
  refine g_seq ?_
  refine g_label ?_
  refine g_qt ?_
  refine g_seq ?_
  refine g_seq ?_
  refine g_region ?_
  refine g_pure (p_move rfl) rfl ?_
  first | refine g_pure (p_subi rfl rfl (by omega)) rfl ?_ | refine g_pure (p_sub rfl rfl) rfl ?_
  refine g_pure (p_assign rfl) rfl ?_
  refine g_nil ?_
  refine g_qt ?_
  refine g_block ?_
  have ew : ms.map encI ++ [Value.int .i64 0] = (ms ++ [0]).map encI := by rw [List.map_append]; rfl
  rw [ew]
  have dw : ∀ T : St, ∀ k, Up S T k → DenL T (ms ++ [0]) (fun i => g i ++ [false]) := fun T k u => (d'.up hw u).snoc (Den.zero u.wf)
  have hwl : (ms ++ [(0 : Int)]).length = n + 1 := by simp [hml]
  generalize ms ++ [(0 : Int)] = wide at dw hwl ⊢
  refine g_loop (fun q : Nat × List Int × List Int × Option Addr × Nat × St => [(0, .pointer (some ⟨mb, 0, none⟩)), (1, .slice al n cl), (6, .slice qa n qc), (7, .slice q.2.2.2.1 (n + 1) q.2.2.2.2.1), (8, .int .i64 n), (9, .slice a23 (n + 1) c23), (10, .int .i64 ((q.1 : Int) - 1))])
    (fun q => [OwnSl 27 1 qa n qc (q.2.1.map encI), OwnSl 27 1 q.2.2.2.1 (n + 1) q.2.2.2.2.1 (q.2.2.1.map encI), OwnSl 27 1 a23 (n + 1) c23 (wide.map encI), MkB mb p, Gr p q.2.2.2.2.2])
    (fun q => q.1 ≤ n ∧ q.2.1.length = n ∧ q.2.2.1.length = n + 1 ∧ Up S q.2.2.2.2.2 ((n - q.1) * (12 * (n + 1))) ∧ DenL q.2.2.2.2.2 q.2.1 (fun i => List.replicate q.1 false ++ (divF (g i) ((f i).drop q.1)).1) ∧ DenL q.2.2.2.2.2 q.2.2.1 (fun i => (divF (g i) ((f i).drop q.1)).2)) (fun q => q.1)
    (n, (bitsR n 0).map lit1, (bitsR (n + 1) 0).map lit1, ra, rc, S) ⟨Nat.le_refl _, hz n, hz (n + 1), by dsimp only; rw [Nat.sub_self, Nat.zero_mul]; exact .refl hw, (hzd S n hw).congr fun i => ?_, (hzd S (n + 1) hw).congr fun i => ?_⟩ (by (repeat (first | exact trivial | refine ⟨by rfl, ?_⟩)); done) (by repeat' (first | exact Cover.nil | exact Take.here | apply Cover.cons | apply Take.there)) ?_
  · show List.replicate n false = List.replicate n false ++ (divF (g i) ((f i).drop n)).1
    rw [List.drop_of_length_le (by rw [hfl]; exact Nat.le_refl _), divF, List.append_nil]
  · show List.replicate (n + 1) false = (divF (g i) ((f i).drop n)).2
    rw [List.drop_of_length_le (by rw [hfl]; exact Nat.le_refl _), divF, hgl]
  rintro ⟨m, quo, rest, ra, rc, T⟩ ⟨hm, hql, hrl, u, dq, dr⟩
  dsimp only at hm hql hrl u dq dr ⊢
  have hul := u.len
  refine g_seq ?_
  refine g_block ?_
  refine g_seq ?_
  refine g_seq ?_
  refine g_region ?_
  refine g_pure (p_move rfl) rfl ?_
  refine g_pure (p_lss rfl rfl) rfl ?_
  refine g_nil ?_
  refine g_qt ?_
  refine g_ifd rfl (fun h => ?_) (fun h => ?_)
  · have hm0 : m = 0 := by omega
    subst hm0
    refine g_cap (e := 27) (a1 := ra) (k := n + 1) (cap := rc) (xs := rest.map encI) (size := 1) (by repeat' (first | exact Take.here | apply Take.there)) fun hcap _ => ?_
    refine g_exit ?_
    refine g_qt_exit ?_
    refine g_qb_other rfl ?_
    refine g_qt_exit ?_
    refine g_qn_exit ?_
    refine g_qb_exit ?_
    refine g_qt ?_
    refine g_seq ?_
    refine m_begin0 (.fl 0 0 (.fl 1 0 (.fl 2 0 (.fl 3 0 (.fl 4 0 (.fl 5 0 .done)))))) (by kernel_rfl) (by kernel_rfl) ?_
    refine m_float0 rfl (fun _ _ => p_move rfl) rfl ?_
    refine m_float0 rfl (fun _ _ => p_move rfl) rfl ?_
    refine m_float0 rfl (fun _ _ => p_move rfl) rfl ?_
    refine m_float0 rfl (fun _ _ => p_sliceh rfl rfl (by omega)) rfl ?_
    refine m_float0 rfl (fun _ _ => p_assign rfl) rfl ?_
    refine m_float0 rfl (fun _ _ => p_assign rfl) rfl ?_
    refine m_nil ?_
    refine g_qt ?_
    refine g_ret ?_
    refine g_qs_ret ?_
    refine g_weak (A := OwnSl 27 1 ra (n + 1) rc (rest.map encI)) (B := OwnSl 27 1 ra n rc ((rest.take n).map encI)) (by repeat' (first | exact Take.here | apply Take.there)) (fun h hh => by
      have := own_shrink (m := n) (by omega) h hh
      rwa [Nat.mul_one, ← List.map_take] at this) ?_
    exact g_post (rs := [.tmp 6, .tmp 7]) rfl (.tmp rfl (.tmp rfl .nil)) ⟨qa, qc, quo, ra, rc, rest.take n, T, rfl, rfl, hql, by rw [List.length_take]; omega, u, dq.congr fun i => by simp, (dr.take n).congr fun i => by simp⟩ (by repeat' (first | exact Cover.nil | exact Take.here | apply Cover.cons | apply Take.there))
  · obtain ⟨k, rfl⟩ : ∃ k, m = k + 1 := ⟨m - 1, by omega⟩
    have hkl : k < ls.length := by omega
    have hmul : (n - k) * (12 * (n + 1)) ≤ n * (12 * (n + 1)) := Nat.mul_le_mul_right _ (by omega)
    rw [show n - k = (n - (k + 1)) + 1 by omega, Nat.add_mul, Nat.one_mul] at hmul
    have hki : (((k + 1 : Nat) : Int) - 1).toNat = k := by omega
    have hb : cs1[o1 + (((k + 1 : Nat) : Int) - 1).toNat * 1]? = some (.int .i64 ls[k]) := by rw [hki]; exact r3 _ _
    refine g_skip ?_
    refine g_qt ?_
    refine g_seq ?_
    refine g_own (e := 27) (a1 := ra) (k := n + 1) (cap := rc) (xs := rest.map encI) (by repeat' (first | exact Take.here | apply Take.there)) (fun _ h2 _ _ => absurd h2 (by omega)) ?_
    rintro gx curx rfl x1 x2 x3 x4 x5
    have hsub : sub curx 0 ((n : Int).toNat * 1) = some ((rest.take n).map encI) := sub_own x4 hrl (by omega)
    have hone : one1 ((rest.take n).map encI) = true := by unfold one1; rw [List.all_eq_true]; intro v hv; obtain ⟨y, _, rfl⟩ := List.mem_map.1 hv; rfl
    refine m_begin0 (.fl 0 0 (.fl 1 0 (.fl 2 0 (.fl 3 1 (.fl 5 0 (.fl 6 0 (.fl 7 0 (.ef 4 (.ef 8 (.fl 9 0 .done)))))))))) (by kernel_rfl) (by kernel_rfl) ?_
    refine m_float0 rfl (fun _ _ => p_move rfl) rfl ?_
    refine m_float0 rfl (fun _ _ => p_move rfl) rfl ?_
    refine m_float0 rfl (fun _ _ => p_indexAddr rfl rfl (by omega) (fun _ => r1)) rfl ?_
    refine m_float rfl (p_load (by rfl) rfl (Has.ro r2) hb) rfl ?_
    refine m_float0 rfl (fun _ _ => p_move rfl) rfl ?_
    refine m_float0 rfl (fun _ _ => p_move rfl) rfl ?_
    refine m_float0 rfl (fun _ _ => p_sliceh rfl rfl (by omega)) rfl ?_
    refine m_eff rfl (e_bs (xs := [.tmp 33]) rfl rfl rfl (by rfl) (by rfl) rfl (by rfl)) rfl (fun _ _ => ?_)
    rintro ⟨b34, rfl, rfl⟩
    refine ⟨.none (by kernel_rfl), ?_⟩
    refine g_fold (e := 27) (g := b34) (k := 1) (cap := 1) (size := 1) (xs := [.int .i64 ls[k]]) (by repeat' (first | exact Take.here | apply Take.there)) (by omega) (by omega) rfl rfl ?_
    refine m_eff rfl (e_append rfl rfl rfl rfl (Has.own (b := gx) (by repeat' (first | exact Take.here | apply Take.there))) hsub hone (by repeat' (first | exact Take.here | apply Take.there)) (by omega) (by dsimp only; omega) (by omega)) rfl (fun _ _ => ?_)
    rintro ⟨a38, c38, rfl, rfl⟩
    refine ⟨.none (by kernel_rfl), ?_⟩
    refine m_float0 rfl (fun _ _ => p_assign rfl) rfl ?_
    refine m_nil ?_
    refine g_qt ?_
    refine g_seq ?_
    have er : [Value.int .i64 ls[k]] ++ (rest.take n).map encI = (ls[k] :: rest.take n).map encI := rfl
    rw [er, show 1 + (n : Int).toNat = n + 1 by omega]
    have hrl2 : (ls[k] :: rest.take n).length = n + 1 := by rw [List.length_cons, List.length_take]; omega
    have dr2 : DenL T (ls[k] :: rest.take n) (fun i => (f i).getD k false :: (divF (g i) ((f i).drop (k + 1))).2.take n) := .cons ((d.get hkl).up hw u) (dr.take n)
    have dwT := dw T _ u
    generalize ls[k] :: rest.take n = rest2 at hrl2 dr2 ⊢
    refine g_region ?_
    refine g_pure (p_move rfl) rfl ?_
    refine g_pure (p_move rfl) rfl ?_
    refine g_pure (p_move rfl) rfl ?_
    refine g_call (Hin := []) (Hr := ?hr8) (R := ?rr8) rfl rfl rfl ?hin8 ?hc8 ?hk8
    case hin8 => repeat' (first | exact Cover.nil | exact Take.here | apply Cover.cons | apply Take.there)
    case hc8 => intro ρ' hρ hR; exact nots_n hwl (i64_of u.wf dwT) (by omega) (RSl.of_own (Take.ro (A := OwnSl 27 1 a23 (n + 1) c23 (wide.map encI)) (by repeat' (first | exact Take.here | apply Take.there)) hR))
    rintro _ _ ⟨na, nc, rfl, rfl⟩
    refine g_call (Hin := [MkB mb p, Gr p T]) (Hr := ?hr9) (R := ?rr9) rfl rfl rfl ?hin9 ?hc9 ?hk9
    case hin9 => repeat' (first | exact Cover.nil | exact Take.here | apply Cover.cons | apply Take.there)
    case hc9 => intro ρ' hρ hR; exact sum_n mb p u.wf hrl2 (by rw [List.length_map]; exact hwl) (by omega) (RSl.of_own (Take.ro (A := OwnSl 27 1 a38 (n + 1) c38 (rest2.map encI)) (by repeat' (first | exact Take.here | apply Take.there)) hR)) (RSl.of_own (Take.ro (A := OwnSl 27 1 na (n + 1) nc ((wide.map nt).map encI)) (by repeat' (first | exact Take.here | apply Take.there)) hR)) (Den.one u.wf) dr2 dwT.not
    rintro _ _ ⟨la, lc, less, carry, U, rfl, rfl, hll, u1, d1, d2⟩
    refine g_pure (p_move rfl) rfl ?_
    refine g_pure (p_extract rfl rfl) rfl ?_
    refine g_pure (p_extract rfl rfl) rfl ?_
    refine g_pure (p_assign rfl) rfl ?_
    refine g_pure (p_assign rfl) rfl ?_
    refine g_nil ?_
    refine g_qt ?_
    refine g_seq ?_
    have hul1 := u1.len
    refine g_own (e := 27) (a1 := qa) (k := n) (cap := qc) (xs := quo.map encI) (by repeat' (first | exact Take.here | apply Take.there)) (fun _ h2 _ _ => absurd h2 (by omega)) ?_
    rintro gq curq rfl y1 y2 y3 y4 y5
    refine g_region ?_
    refine g_pure (p_move rfl) rfl ?_
    refine g_pure (p_move rfl) rfl ?_
    refine g_pure (p_move rfl) rfl ?_
    refine g_pure (p_indexAddr rfl rfl (by omega) (fun _ => rfl)) rfl ?_
    refine g_eff0 (e_store1 (by rfl) rfl rfl rfl (by repeat' (first | exact Take.here | apply Take.there)) (by show 0 + (((k + 1 : Nat) : Int) - 1).toNat * 1 < _; omega)) (fun _ _ => ?_)
    rintro rfl
    refine g_nil ?_
    refine g_qt ?_
    refine g_fold (e := 27) (g := gq) (k := n) (cap := qc) (size := 1) (xs := (quo.set k carry).map encI) (by repeat' (first | exact Take.here | apply Take.there)) y1 y2 (by rw [List.length_set]; exact y3) (by show List.take _ (List.set _ (0 + (((k + 1 : Nat) : Int) - 1).toNat * 1) _) = _; rw [hki]; exact set_own y4) ?_
    refine g_region ?_
    refine g_pure (p_move rfl) rfl ?_
    refine g_pure (p_move rfl) rfl ?_
    refine g_pure (p_move rfl) rfl ?_
    refine g_pure (p_move rfl) rfl ?_
    refine g_call (Hin := [MkB mb p, Gr p U]) (Hr := ?hr10) (R := ?rr10) rfl rfl rfl ?hin10 ?hc10 ?hk10
    case hin10 => repeat' (first | exact Cover.nil | exact Take.here | apply Cover.cons | apply Take.there)
    case hc10 => intro ρ' hρ hR; exact muxes_n mb p u1.wf hll hrl2 (by omega) (RSl.of_own (Take.ro (A := OwnSl 27 1 la (n + 1) lc (less.map encI)) (by repeat' (first | exact Take.here | apply Take.there)) hR)) (RSl.of_own (Take.ro (A := OwnSl 27 1 a38 (n + 1) c38 (rest2.map encI)) (by repeat' (first | exact Take.here | apply Take.there)) hR)) d2 d1 (dr2.up u.wf u1)
    rintro _ _ ⟨fa, fc, rest3, V, rfl, rfl, hfl3, u2, d3⟩
    refine g_pure (p_assign rfl) rfl ?_
    refine g_nil ?_
    refine g_qb ?_
    refine g_qt ?_
    refine g_region ?_
    refine g_pure (p_move rfl) rfl ?_
    first | refine g_pure (p_subi rfl rfl (by omega)) rfl ?_ | refine g_pure (p_sub rfl rfl) rfl ?_
    refine g_pure (p_assign rfl) rfl ?_
    refine g_nil ?_
    refine g_qn ?_
    have eI : ((k + 1 : Nat) : Int) - 1 - 1 = ((k : Nat) : Int) - 1 := by omega
    rw [eI]
    have u12 := u1.trans u2 (Nat.le_refl _)
    refine g_next (k, quo.set k carry, rest3, fa, fc, V) (by (repeat (first | exact trivial | refine ⟨by rfl, ?_⟩)); done) (by repeat' (first | exact Cover.nil | exact Take.here | apply Cover.cons | apply Take.there)) ⟨by dsimp only; omega, by rw [List.length_set]; exact hql, hfl3, ?_, ?_, ?_⟩ (by dsimp only; omega)
    · refine u.trans u12 ?_
      dsimp only
      rw [show n - k = (n - (k + 1)) + 1 by omega, Nat.add_mul, Nat.one_mul]; omega
    · refine (((dq.up u.wf u12).set (d2.up u1.wf u2) k)).congr fun i => ?_
      have hs := divF_step (b := g i) (l := f i) (m := k) (by rw [hfl]; omega)
      rw [hgl] at hs
      show _ = List.replicate k false ++ (divF (g i) ((f i).drop k)).1
      rw [quo_step, hs]
    · refine d3.congr fun i => ?_
      have hs := divF_step (b := g i) (l := f i) (m := k) (by rw [hfl]; omega)
      rw [hgl] at hs
      show _ = (divF (g i) ((f i).drop k)).2
      rw [hs]
end Go.Proofs.Ytkebblmmgcgjkaa
