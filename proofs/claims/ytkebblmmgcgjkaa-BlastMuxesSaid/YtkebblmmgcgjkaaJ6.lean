/- Chapter 38: division, comparisons, the operators. Conditions: none. -/
import Derived.Test.YtkebblmmgcgjkaaJ5
namespace Go.Proofs.Ytkebblmmgcgjkaa
set_option maxRecDepth 8000
set_option linter.unusedVariables false
set_option linter.unusedSimpArgs false
set_option linter.unusedSectionVars false
open Go Go.Z Go.Z.Aig Go.Z.Bit

variable {ρ : Nat → Obj → Prop} {S : St} {a b c : Int} {fa fb fc : List Bool → Bool}
variable {al bl : Option Addr} {cl cm : Nat} {ls ms : List Int} {f g : List Bool → List Bool}
theorem equal_n (mb p : Nat) (hw : WF S) {n : Nat} (h1 : ls.length = n) (h2 : ms.length = n) (hl : S.length + 4 * n < 131072) (hls : RSl ρ 1 al n (ls.map encI)) (hms : RSl ρ 1 bl n (ms.map encI)) (d : DenL S ls f) (d' : DenL S ms g) :
    Con Try.prog ρ 120 #[.pointer (some ⟨mb, 0, none⟩), .slice al n cl, .slice bl n cm] [MkB mb p, Gr p S]
    (fun v H => ∃ l T, v = .int .i64 l ∧ H = [MkB mb p, Gr p T] ∧ Up S T (4 * n) ∧ Den T l (fun i => equalF (f i) (g i))) := by
  subst h1
  have := equal_ok (ρ := ρ) (cl := cl) (cm := cm) mb p hw hl hls (by rw [h2]; exact hms) h2.symm d d'
  rwa [h2] at this
theorem product_n (mb p : Nat) (hw : WF S) {n : Nat} (h1 : ls.length = n) (h2 : ms.length = n) (hn : n ≤ 64) (hl : S.length + n * (10 * n) < 131072) (hls : RSl ρ 1 al n (ls.map encI)) (hms : RSl ρ 1 bl n (ms.map encI)) (d : DenL S ls f) (d' : DenL S ms g) :
    Con Try.prog ρ 98 #[.pointer (some ⟨mb, 0, none⟩), .slice al n cl, .slice bl n cm] [MkB mb p, Gr p S]
    (fun v H => ∃ a2 c2 out T, v = .slice a2 n c2 ∧ H = [OwnSl 27 1 a2 n c2 (out.map encI), MkB mb p, Gr p T] ∧ out.length = n ∧ Up S T (n * (10 * n)) ∧ DenL T out (fun i => mulF (f i) (g i) n n)) := by
  subst h1
  have := product_ok (ρ := ρ) (cl := cl) (cm := cm) mb p hw hn hl hls (by rw [h2]; exact hms) h2.symm d d'
  rw [h2] at this
  refine this.mono ?_
  rintro _ _ ⟨a2, c2, out, T, rfl, rfl, h3, u, d1⟩
  exact ⟨a2, c2, out, T, by rw [h3], by rw [h3], h3, u, d1⟩
set_option maxHeartbeats 1600000 in
theorem division_ok (mb p : Nat) (hw : WF S) (hnl : ls.length = 16) (hml : ms.length = 16) (hl : S.length + 5000 < 131072) (hls : RSl ρ 1 al 16 (ls.map encI)) (hms : RSl ρ 1 bl 16 (ms.map encI)) (d : DenL S ls f) (d' : DenL S ms g) :
    Con Try.prog ρ 99 #[.pointer (some ⟨mb, 0, none⟩), .slice al 16 cl, .slice bl 16 cm] [MkB mb p, Gr p S]
    (fun v H => ∃ a2 c2 q a3 c3 r T, v = .tuple #[.slice a2 16 c2, .slice a3 16 c3] ∧ H = [OwnSl 27 1 a2 16 c2 (q.map encI), OwnSl 27 1 a3 16 c3 (r.map encI), MkB mb p, Gr p T] ∧ q.length = 16 ∧ r.length = 16 ∧ Up S T 5000 ∧ DenL T q (fun i => (divisionF (f i) (g i)).1) ∧ DenL T r (fun i => (divisionF (f i) (g i)).2)) := by
  obtain ⟨b1, o1, cs1, T1, fz1, hr⟩ := lrd (ls := ls) (by rw [hnl]; exact hls)
  obtain ⟨r1, r2, r3⟩ := hr (by omega)
  obtain ⟨b2, o2, cs2, T2, fz2, hr2⟩ := lrd (ls := ms) (by rw [hml]; exact hms)
  obtain ⟨s1, s2, s3⟩ := hr2 (by omega)
  have hfl : ∀ i, (f i).length = 16 := fun i => by rw [d.len]; exact hnl
  have hgl : ∀ i, (g i).length = 16 := fun i => by rw [d'.len]; exact hml
  have da := d.get (show 15 < ls.length by omega)
  have db := d'.get (show 15 < ms.length by omega)
  have hz : ((bitsR 16 0).map lit1).length = 16 := by rw [List.length_map, bitsR_len]
  have hzd : ∀ (T : St), WF T → DenL T ((bitsR 16 0).map lit1) (fun _ => List.replicate 16 false) := fun T h => (DenL.const h _).congr fun _ => bitsR_zero 16
  refine con_intro Try.func99 Try.call99 rfl Try.ntmps99 rfl (L := [(0, _), (1, _), (2, _)]) rfl fun w hh => ?_
  refine g_seq ?_
  refine g_region ?_
  refine g_pure (p_assign rfl) rfl ?_
  refine g_pure (p_assign rfl) rfl ?_
  refine g_nil ?_
  refine g_qt ?_
  refine g_seq ?_
  refine g_region ?_
  refine g_pure (p_move rfl) rfl ?_
  refine g_pure (p_len (by rfl) rfl) rfl ?_
  first | refine g_pure (p_subi rfl rfl (by omega)) rfl ?_ | refine g_pure (p_sub rfl rfl) rfl ?_
  refine g_pure (p_assign rfl) rfl ?_
  refine g_nil ?_
  refine g_qt ?_
  refine g_seq ?_
  refine m_begin (.fl 0 0 (.fl 1 0 (.fl 2 0 (.fl 3 0 (.fl 4 0 (.fl 5 1 (.fl 6 0 (.fl 8 0 (.fl 9 0 (.fl 10 0 (.fl 11 0 (.fl 12 1 (.fl 13 0 (.ef 7 (.ef 14 (.ef 15 (.fl 16 0 (.fl 17 0 (.fl 18 0 (.fl 19 0 (.fl 20 0 .done))))))))))))))))))))) [] (by kernel_rfl) (by kernel_rfl) (by repeat' (first | exact Cover.nil | exact Take.here | apply Cover.cons | apply Take.there)) ?_
  refine m_float0 rfl (fun _ _ => p_move rfl) rfl ?_
  refine m_float0 rfl (fun _ _ => p_move rfl) rfl ?_
  refine m_float0 rfl (fun _ _ => p_move rfl) rfl ?_
  refine m_float0 rfl (fun _ _ => p_move rfl) rfl ?_
  refine m_float0 rfl (fun _ _ => p_indexAddr rfl rfl (by omega) (fun _ => r1)) rfl ?_
  refine m_float rfl (p_load (by rfl) rfl (Has.ro r2) (r3 15 (by omega))) rfl ?_
  refine m_float0 rfl (fun _ _ => p_move rfl) rfl ?_
  refine m_float0 rfl (fun _ _ => p_move rfl) rfl ?_
  refine m_float0 rfl (fun _ _ => p_move rfl) rfl ?_
  refine m_float0 rfl (fun _ _ => p_move rfl) rfl ?_
  refine m_float0 rfl (fun _ _ => p_indexAddr rfl rfl (by omega) (fun _ => s1)) rfl ?_
  refine m_float rfl (p_load (by rfl) rfl (Has.ro s2) (s3 15 (by omega))) rfl ?_
  refine m_float0 rfl (fun _ _ => p_move rfl) rfl ?_
  refine m_call (Hin := ?hi1) (Hr := ?hr1) (R := ?rr1) rfl wantedN rfl rfl rfl ?hin1 ?hc1 ?hk1
  case hc1 => intro ρ' hρ hR; exact negate_n mb p hw hnl (by omega) (by omega) (hls.mono hρ) da d
  case hin1 => repeat' (first | exact Cover.nil | exact Take.here | apply Cover.cons | apply Take.there)
  rintro _ _ ⟨na, nc, x1, V1, rfl, rfl, hx1, u1, d1⟩
  refine ⟨.some (by repeat' (first | exact Cover.nil | exact Take.here | apply Cover.cons | apply Take.there)), ?_⟩
  have l1 := u1.len
  refine m_call (Hin := ?hi2) (Hr := ?hr2) (R := ?rr2) rfl wantedN rfl rfl rfl ?hin2 ?hc2 ?hk2
  case hc2 => intro ρ' hρ hR; exact negate_n mb p u1.wf hml (by omega) (by omega) (hms.mono hρ) (db.up hw u1) (d'.up hw u1)
  case hin2 => repeat' (first | exact Cover.nil | exact Take.here | apply Cover.cons | apply Take.there)
  rintro _ _ ⟨ma, mc, y1, V2, rfl, rfl, hy1, u2, d2⟩
  refine ⟨.none (by kernel_rfl), ?_⟩
  have l2 := u2.len
  have u12 := u1.trans u2 (Nat.le_refl _)
  refine m_call (Hin := [MkB mb p, Gr p V2]) (Hr := ?hr3) (R := ?rr3) rfl wantedN rfl rfl rfl ?hin3 ?hc3 ?hk3
  case hin3 => repeat' (first | exact Cover.nil | exact Take.here | apply Cover.cons | apply Take.there)
  case hc3 => intro ρ' hρ hR; exact divide_ok mb p u2.wf (by omega) hx1 hy1 (by omega) (by omega) (RSl.of_own (Take.ro (A := OwnSl 27 1 na 16 nc (x1.map encI)) (by repeat' (first | exact Take.here | apply Take.there)) hR)) (RSl.of_own (Take.ro (A := OwnSl 27 1 ma 16 mc (y1.map encI)) (by repeat' (first | exact Take.here | apply Take.there)) hR)) (d1.up u1.wf u2) d2
  rintro _ _ ⟨qa, qc, q, ra, rc, r, V3, rfl, rfl, hq, hr', u3, d3, d4⟩
  refine ⟨.none (by kernel_rfl), ?_⟩
  refine m_float0 rfl (fun _ _ => p_move rfl) rfl ?_
  refine m_float0 rfl (fun _ _ => p_extract rfl rfl) rfl ?_
  refine m_float0 rfl (fun _ _ => p_extract rfl rfl) rfl ?_
  refine m_float0 rfl (fun _ _ => p_assign rfl) rfl ?_
  refine m_float0 rfl (fun _ _ => p_assign rfl) rfl ?_
  refine m_nil ?_
  refine g_qt ?_
  refine g_seq ?_
  refine m_begin (.fl 0 0 (.fl 1 0 (.fl 2 0 (.fl 3 0 (.fl 4 0 (.fl 5 1 (.fl 6 0 (.fl 7 0 (.fl 8 0 (.fl 9 1 (.fl 11 0 (.fl 13 0 (.fl 14 0 (.fl 15 0 (.fl 16 0 (.fl 17 1 (.fl 18 0 (.ef 10 (.ef 12 (.ef 19 (.fl 20 0 (.fl 21 0 .done)))))))))))))))))))))) [] (by kernel_rfl) (by kernel_rfl) (by repeat' (first | exact Cover.nil | exact Take.here | apply Cover.cons | apply Take.there)) ?_
  refine m_float0 rfl (fun _ _ => p_move rfl) rfl ?_
  refine m_float0 rfl (fun _ _ => p_move rfl) rfl ?_
  refine m_float0 rfl (fun _ _ => p_move rfl) rfl ?_
  refine m_float0 rfl (fun _ _ => p_move rfl) rfl ?_
  refine m_float0 rfl (fun _ _ => p_indexAddr rfl rfl (by omega) (fun _ => r1)) rfl ?_
  refine m_float rfl (p_load (by rfl) rfl (Has.ro r2) (r3 15 (by omega))) rfl ?_
  refine m_float0 rfl (fun _ _ => p_move rfl) rfl ?_
  refine m_float0 rfl (fun _ _ => p_move rfl) rfl ?_
  refine m_float0 rfl (fun _ _ => p_indexAddr rfl rfl (by omega) (fun _ => s1)) rfl ?_
  refine m_float rfl (p_load (by rfl) rfl (Has.ro s2) (s3 15 (by omega))) rfl ?_
  refine m_float0 rfl (fun _ _ => p_move rfl) rfl ?_
  refine m_float0 rfl (fun _ _ => p_move rfl) rfl ?_
  refine m_float0 rfl (fun _ _ => p_move rfl) rfl ?_
  refine m_float0 rfl (fun _ _ => p_move rfl) rfl ?_
  refine m_float0 rfl (fun _ _ => p_indexAddr rfl rfl (by omega) (fun _ => r1)) rfl ?_
  refine m_float rfl (p_load (by rfl) rfl (Has.ro r2) (r3 15 (by omega))) rfl ?_
  refine m_float0 rfl (fun _ _ => p_move rfl) rfl ?_
  have l3 := u3.len
  have u13 := u12.trans u3 (Nat.le_refl _)
  refine m_call (Hin := ?hi4) (Hr := ?hr4) (R := ?rr4) rfl wantedN rfl rfl rfl ?hin4 ?hc4 ?hk4
  case hc4 => intro ρ' hρ hR; exact mxor_ok mb p u3.wf (by omega) (da.up hw u13) (db.up hw u13)
  case hin4 => repeat' (first | exact Cover.nil | exact Take.here | apply Cover.cons | apply Take.there)
  rintro _ _ ⟨s, V4, rfl, rfl, u4, d5⟩
  refine ⟨.some (by repeat' (first | exact Cover.nil | exact Take.here | apply Cover.cons | apply Take.there)), ?_⟩
  have l4 := u4.len
  have u14 := u13.trans u4 (Nat.le_refl _)
  refine m_call (Hin := [MkB mb p, Gr p V4]) (Hr := ?hr5) (R := ?rr5) rfl wantedN rfl rfl rfl ?hin5 ?hc5 ?hk5
  case hin5 => repeat' (first | exact Cover.nil | exact Take.here | apply Cover.cons | apply Take.there)
  case hc5 => intro ρ' hρ hR; exact negate_n mb p u4.wf hq (by omega) (by omega) (RSl.of_own (Take.ro (A := OwnSl 27 1 qa 16 qc (q.map encI)) (by repeat' (first | exact Take.here | apply Take.there)) hR)) d5 (d3.up u3.wf u4)
  rintro _ _ ⟨q2a, q2c, q2, V5, rfl, rfl, hq2, u5, d6⟩
  refine ⟨.some (by repeat' (first | exact Cover.nil | exact Take.here | apply Cover.cons | apply Take.there)), ?_⟩
  have l5 := u5.len
  have u15 := u14.trans u5 (Nat.le_refl _)
  refine m_call (Hin := [MkB mb p, Gr p V5]) (Hr := ?hr6) (R := ?rr6) rfl wantedN rfl rfl rfl ?hin6 ?hc6 ?hk6
  case hin6 => repeat' (first | exact Cover.nil | exact Take.here | apply Cover.cons | apply Take.there)
  case hc6 => intro ρ' hρ hR; exact negate_n mb p u5.wf hr' (by omega) (by omega) (RSl.of_own (Take.ro (A := OwnSl 27 1 ra 16 rc (r.map encI)) (by repeat' (first | exact Take.here | apply Take.there)) hR)) (da.up hw u15) (d4.up u3.wf (u4.trans u5 (Nat.le_refl _)))
  rintro _ _ ⟨r2a, r2c, r2, V6, rfl, rfl, hr2', u6, d7⟩
  refine ⟨.none (by kernel_rfl), ?_⟩
  refine m_float0 rfl (fun _ _ => p_assign rfl) rfl ?_
  refine m_float0 rfl (fun _ _ => p_assign rfl) rfl ?_
  refine m_nil ?_
  refine g_qt ?_
  refine g_seq ?_
  refine g_region ?_
  refine g_pure (p_move rfl) rfl ?_
  refine g_pure (p_move rfl) rfl ?_
  have l6 := u6.len
  have u16 := u15.trans u6 (Nat.le_refl _)
  refine g_call (Hin := [MkB mb p, Gr p V6]) (Hr := ?hr7) (R := ?rr7) rfl rfl rfl ?hin7 ?hc7 ?hk7
  case hin7 => repeat' (first | exact Cover.nil | exact Take.here | apply Cover.cons | apply Take.there)
  case hc7 => intro ρ' hρ hR; exact zero_n mb p u6.wf hml (by omega) (by omega) (hms.mono hρ) (d'.up hw u16)
  rintro _ _ ⟨z, V7, rfl, rfl, u7, d8⟩
  refine g_pure (p_assign rfl) rfl ?_
  refine g_nil ?_
  refine g_qt ?_
  refine g_seq ?_
  refine g_region ?_
  refine g_pure (p_move rfl) rfl ?_
  refine g_pure (p_move rfl) rfl ?_
  refine g_pure (p_move rfl) rfl ?_
  first | refine g_pure (p_addi rfl rfl (by omega)) rfl ?_ | refine g_pure (p_add rfl rfl) rfl ?_
  have l7 := u7.len
  have u17 := u16.trans u7 (Nat.le_refl _)
  refine g_call (Hin := []) (Hr := ?hr8) (R := ?rr8) rfl rfl rfl ?hin8 ?hc8 ?hk8
  case hin8 => repeat' (first | exact Cover.nil | exact Take.here | apply Cover.cons | apply Take.there)
  case hc8 => intro ρ' hρ hR; exact constant_ok 16 0 (by omega) (by unfold I64; omega)
  rintro _ _ ⟨ka, kc, rfl, rfl⟩
  refine g_pure (p_move rfl) rfl ?_
  refine g_call (Hin := [MkB mb p, Gr p V7]) (Hr := ?hr9) (R := ?rr9) rfl rfl rfl ?hin9 ?hc9 ?hk9
  case hin9 => repeat' (first | exact Cover.nil | exact Take.here | apply Cover.cons | apply Take.there)
  case hc9 => intro ρ' hρ hR; exact muxes_n mb p u7.wf hz hq2 (by omega) (RSl.of_own (Take.ro (A := OwnSl 27 1 ka 16 kc (((bitsR 16 0).map lit1).map encI)) (by repeat' (first | exact Take.here | apply Take.there)) hR)) (RSl.of_own (Take.ro (A := OwnSl 27 1 q2a 16 q2c (q2.map encI)) (by repeat' (first | exact Take.here | apply Take.there)) hR)) d8 (hzd _ u7.wf) (d6.up u5.wf (u6.trans u7 (Nat.le_refl _)))
  rintro _ _ ⟨oa, oc, o1, V8, rfl, rfl, ho1, u8, d9⟩
  refine g_pure (p_move rfl) rfl ?_
  refine g_pure (p_move rfl) rfl ?_
  refine g_pure (p_move rfl) rfl ?_
  refine g_pure (p_move rfl) rfl ?_
  have l8 := u8.len
  have u18 := u17.trans u8 (Nat.le_refl _)
  refine g_call (Hin := [MkB mb p, Gr p V8]) (Hr := ?hr10) (R := ?rr10) rfl rfl rfl ?hin10 ?hc10 ?hk10
  case hin10 => repeat' (first | exact Cover.nil | exact Take.here | apply Cover.cons | apply Take.there)
  case hc10 => intro ρ' hρ hR; exact muxes_n mb p u8.wf hnl hr2' (by omega) (hls.mono hρ) (RSl.of_own (Take.ro (A := OwnSl 27 1 r2a 16 r2c (r2.map encI)) (by repeat' (first | exact Take.here | apply Take.there)) hR)) (d8.up u7.wf u8) (d.up hw u18) (d7.up u6.wf (u7.trans u8 (Nat.le_refl _)))
  rintro _ _ ⟨pa, pc, o2, V9, rfl, rfl, ho2, u9, d10⟩
  refine g_pure (p_assign rfl) rfl ?_
  refine g_pure (p_assign rfl) rfl ?_
  refine g_nil ?_
  refine g_qt ?_
  refine g_ret ?_
  refine g_post (rs := [.tmp 6, .tmp 7]) rfl (.tmp rfl (.tmp rfl .nil)) ⟨oa, oc, o1, pa, pc, o2, V9, rfl, rfl, ho1, ho2, u18.trans u9 (by omega), (d9.up u8.wf u9).congr fun i => ?_, d10.congr fun i => ?_⟩ (by repeat' (first | exact Cover.nil | exact Take.here | apply Cover.cons | apply Take.there))
  · unfold divisionF; simp only [hfl]
  · unfold divisionF; simp only [hfl]

theorem compare_ok (mb p : Nat) (hw : WF S) {n : Nat} {op : Int} (hop : 11 ≤ op ∧ op ≤ 16) (h0 : 0 < n) (hn : n ≤ 16) (h1 : ls.length = n) (h2 : ms.length = n) (hl : S.length + 5000 < 131072) (hls : RSl ρ 1 al n (ls.map encI)) (hms : RSl ρ 1 bl n (ms.map encI)) (d : DenL S ls f) (d' : DenL S ms g) :
    Con Try.prog ρ 100 #[.pointer (some ⟨mb, 0, none⟩), .int .i64 op, .slice al n cl, .slice bl n cm] [MkB mb p, Gr p S]
    (fun v H => ∃ l T, v = .int .i64 l ∧ H = [MkB mb p, Gr p T] ∧ Up S T (9 * n) ∧ Den T l (fun i => compareF op (f i) (g i))) := by
  refine con_intro Try.func100 Try.call100 rfl Try.ntmps100 rfl (L := [(0, _), (1, _), (2, _), (3, _)]) rfl fun w hh => ?_
  refine g_seq ?_
  refine g_region ?_
  refine g_pure (p_assign rfl) rfl ?_
  refine g_nil ?_
  refine g_qt ?_
  refine g_seq ?_
  refine g_seq ?_
  refine g_region ?_
  refine g_pure (p_move rfl) rfl ?_
  refine g_nil ?_
  refine g_qt ?_
  refine g_block ?_
  refine g_seq ?_
  refine g_region ?_
  refine g_pure (p_eql rfl rfl) rfl ?_
  refine g_pure (p_assign rfl) rfl ?_
  refine g_nil ?_
  refine g_qt ?_
  refine g_ifd rfl (fun a1 => ?_) (fun a1 => ?_)
  · subst a1
    refine g_seq ?_
    refine g_region ?_
    refine g_pure (p_move rfl) rfl ?_
    refine g_pure (p_move rfl) rfl ?_
    refine g_pure (p_move rfl) rfl ?_
    refine g_call (Hin := ?hi11) (Hr := ?hr11) (R := ?rr11) rfl rfl rfl ?hin11 ?hc11 ?hk11
    case hc11 => intro ρ' hρ hR; exact equal_n mb p hw h1 h2 (by omega) (hls.mono hρ) (hms.mono hρ) d d'
    case hin11 => repeat' (first | exact Cover.nil | exact Take.here | apply Cover.cons | apply Take.there)
    rintro _ _ ⟨l, T, rfl, rfl, u, d1⟩
    refine g_pure (p_assign rfl) rfl ?_
    refine g_nil ?_
    refine g_qt ?_
    refine g_ret ?_
    refine g_qb_ret ?_
    refine g_qt_ret ?_
    exact g_post (rs := [.tmp 8]) rfl (.tmp rfl .nil) ⟨l, T, rfl, rfl, ⟨u.wf, u.ext, by have := u.len; omega⟩, d1⟩ (by repeat' (first | exact Cover.nil | exact Take.here | apply Cover.cons | apply Take.there))
  · refine g_seq ?_
    refine g_region ?_
    refine g_pure (p_eql rfl rfl) rfl ?_
    refine g_pure (p_assign rfl) rfl ?_
    refine g_nil ?_
    refine g_qt ?_
    refine g_ifd rfl (fun a2 => ?_) (fun a2 => ?_)
    · subst a2
      refine g_seq ?_
      refine g_region ?_
      refine g_pure (p_move rfl) rfl ?_
      refine g_pure (p_move rfl) rfl ?_
      refine g_pure (p_move rfl) rfl ?_
      refine g_call (Hin := ?hi12) (Hr := ?hr12) (R := ?rr12) rfl rfl rfl ?hin12 ?hc12 ?hk12
      case hc12 => intro ρ' hρ hR; exact equal_n mb p hw h1 h2 (by omega) (hls.mono hρ) (hms.mono hρ) d d'
      case hin12 => repeat' (first | exact Cover.nil | exact Take.here | apply Cover.cons | apply Take.there)
      rintro _ _ ⟨l, T, rfl, rfl, u, d1⟩
      refine g_call (Hin := []) (Hr := ?hr13) (R := ?rr13) rfl rfl rfl ?hin13 ?hc13 ?hk13
      case hin13 => repeat' (first | exact Cover.nil | exact Take.here | apply Cover.cons | apply Take.there)
      case hc13 => intro ρ' hρ hR; exact bnot_ok (d1.i64 u.wf)
      rintro _ _ ⟨rfl, rfl⟩
      refine g_pure (p_assign rfl) rfl ?_
      refine g_nil ?_
      refine g_qt ?_
      refine g_ret ?_
      refine g_qb_ret ?_
      refine g_qt_ret ?_
      exact g_post (rs := [.tmp 8]) rfl (.tmp rfl .nil) ⟨nt l, T, rfl, rfl, ⟨u.wf, u.ext, by have := u.len; omega⟩, d1.not⟩ (by repeat' (first | exact Cover.nil | exact Take.here | apply Cover.cons | apply Take.there))
    · refine g_seq ?_
      refine g_region ?_
      refine g_pure (p_eql rfl rfl) rfl ?_
      refine g_pure (p_assign rfl) rfl ?_
      refine g_nil ?_
      refine g_qt ?_
      refine g_ifd rfl (fun a3 => ?_) (fun a3 => ?_)
      · subst a3
        refine g_seq ?_
        refine g_region ?_
        refine g_pure (p_move rfl) rfl ?_
        refine g_pure (p_move rfl) rfl ?_
        refine g_pure (p_move rfl) rfl ?_
        refine g_call (Hin := ?hi14) (Hr := ?hr14) (R := ?rr14) rfl rfl rfl ?hin14 ?hc14 ?hk14
        case hc14 => intro ρ' hρ hR; exact less_n mb p hw h1 h2 h0 (by omega) (by omega) (hls.mono hρ) (hms.mono hρ) d d'
        case hin14 => repeat' (first | exact Cover.nil | exact Take.here | apply Cover.cons | apply Take.there)
        rintro _ _ ⟨l, T, rfl, rfl, u, d1⟩
        refine g_pure (p_assign rfl) rfl ?_
        refine g_nil ?_
        refine g_qt ?_
        refine g_ret ?_
        refine g_qb_ret ?_
        refine g_qt_ret ?_
        exact g_post (rs := [.tmp 8]) rfl (.tmp rfl .nil) ⟨l, T, rfl, rfl, u, d1⟩ (by repeat' (first | exact Cover.nil | exact Take.here | apply Cover.cons | apply Take.there))
      · refine g_seq ?_
        refine g_region ?_
        refine g_pure (p_eql rfl rfl) rfl ?_
        refine g_pure (p_assign rfl) rfl ?_
        refine g_nil ?_
        refine g_qt ?_
        refine g_ifd rfl (fun a4 => ?_) (fun a4 => ?_)
        · subst a4
          refine g_seq ?_
          refine g_region ?_
          refine g_pure (p_move rfl) rfl ?_
          refine g_pure (p_move rfl) rfl ?_
          refine g_pure (p_move rfl) rfl ?_
          refine g_call (Hin := ?hi15) (Hr := ?hr15) (R := ?rr15) rfl rfl rfl ?hin15 ?hc15 ?hk15
          case hc15 => intro ρ' hρ hR; exact less_n mb p hw h2 h1 h0 (by omega) (by omega) (hms.mono hρ) (hls.mono hρ) d' d
          case hin15 => repeat' (first | exact Cover.nil | exact Take.here | apply Cover.cons | apply Take.there)
          rintro _ _ ⟨l, T, rfl, rfl, u, d1⟩
          refine g_call (Hin := []) (Hr := ?hr16) (R := ?rr16) rfl rfl rfl ?hin16 ?hc16 ?hk16
          case hin16 => repeat' (first | exact Cover.nil | exact Take.here | apply Cover.cons | apply Take.there)
          case hc16 => intro ρ' hρ hR; exact bnot_ok (d1.i64 u.wf)
          rintro _ _ ⟨rfl, rfl⟩
          refine g_pure (p_assign rfl) rfl ?_
          refine g_nil ?_
          refine g_qt ?_
          refine g_ret ?_
          refine g_qb_ret ?_
          refine g_qt_ret ?_
          exact g_post (rs := [.tmp 8]) rfl (.tmp rfl .nil) ⟨nt l, T, rfl, rfl, u, d1.not⟩ (by repeat' (first | exact Cover.nil | exact Take.here | apply Cover.cons | apply Take.there))
        · refine g_seq ?_
          refine g_region ?_
          refine g_pure (p_eql rfl rfl) rfl ?_
          refine g_pure (p_assign rfl) rfl ?_
          refine g_nil ?_
          refine g_qt ?_
          refine g_ifd rfl (fun a5 => ?_) (fun a5 => ?_)
          · subst a5
            refine g_seq ?_
            refine g_region ?_
            refine g_pure (p_move rfl) rfl ?_
            refine g_pure (p_move rfl) rfl ?_
            refine g_pure (p_move rfl) rfl ?_
            refine g_call (Hin := ?hi17) (Hr := ?hr17) (R := ?rr17) rfl rfl rfl ?hin17 ?hc17 ?hk17
            case hc17 => intro ρ' hρ hR; exact less_n mb p hw h2 h1 h0 (by omega) (by omega) (hms.mono hρ) (hls.mono hρ) d' d
            case hin17 => repeat' (first | exact Cover.nil | exact Take.here | apply Cover.cons | apply Take.there)
            rintro _ _ ⟨l, T, rfl, rfl, u, d1⟩
            refine g_pure (p_assign rfl) rfl ?_
            refine g_nil ?_
            refine g_qt ?_
            refine g_ret ?_
            refine g_qb_ret ?_
            refine g_qt_ret ?_
            exact g_post (rs := [.tmp 8]) rfl (.tmp rfl .nil) ⟨l, T, rfl, rfl, u, d1⟩ (by repeat' (first | exact Cover.nil | exact Take.here | apply Cover.cons | apply Take.there))
          · obtain rfl : op = 16 := by omega
            refine g_skip ?_
            refine g_qb ?_
            refine g_qt ?_
            refine g_seq ?_
            refine g_region ?_
            refine g_pure (p_move rfl) rfl ?_
            refine g_pure (p_move rfl) rfl ?_
            refine g_pure (p_move rfl) rfl ?_
            refine g_call (Hin := ?hi18) (Hr := ?hr18) (R := ?rr18) rfl rfl rfl ?hin18 ?hc18 ?hk18
            case hc18 => intro ρ' hρ hR; exact less_n mb p hw h1 h2 h0 (by omega) (by omega) (hls.mono hρ) (hms.mono hρ) d d'
            case hin18 => repeat' (first | exact Cover.nil | exact Take.here | apply Cover.cons | apply Take.there)
            rintro _ _ ⟨l, T, rfl, rfl, u, d1⟩
            refine g_call (Hin := []) (Hr := ?hr19) (R := ?rr19) rfl rfl rfl ?hin19 ?hc19 ?hk19
            case hin19 => repeat' (first | exact Cover.nil | exact Take.here | apply Cover.cons | apply Take.there)
            case hc19 => intro ρ' hρ hR; exact bnot_ok (d1.i64 u.wf)
            rintro _ _ ⟨rfl, rfl⟩
            refine g_pure (p_assign rfl) rfl ?_
            refine g_nil ?_
            refine g_qt ?_
            refine g_ret ?_
            exact g_post (rs := [.tmp 8]) rfl (.tmp rfl .nil) ⟨nt l, T, rfl, rfl, u, d1.not⟩ (by repeat' (first | exact Cover.nil | exact Take.here | apply Cover.cons | apply Take.there))
end Go.Proofs.Ytkebblmmgcgjkaa
