/- Chapter 38: constants, negation, comparisons. Conditions: none. -/
import Derived.Test.YtkebblmmgcgjkaaJ3
namespace Go.Z.Bit
set_option maxRecDepth 8000
set_option linter.unusedVariables false
set_option linter.unusedSimpArgs false
set_option linter.unusedSectionVars false
open Go Go.Z Go.Z.Aig
def lit1 (b : Bool) : Int := if b then 1 else 0
theorem bitsR_snoc : ∀ (k : Nat) (v : Int), bitsR (k + 1) v = bitsR k v ++ [decide (v / ((2 ^ k : Nat) : Int) % 2 = 1)]
  | 0, v => by simp [bitsR]
  | k + 1, v => by
    rw [bitsR, bitsR_snoc k, bitsR, List.cons_append]
    have e : v / 2 / ((2 ^ k : Nat) : Int) = v / ((2 ^ (k + 1) : Nat) : Int) := by
      rw [Int.ediv_ediv_of_nonneg (by decide), Nat.pow_succ, Int.natCast_mul, Int.mul_comm]; rfl
    rw [e]
theorem div_i64 {v : Int} (h : I64 v) (k : Nat) : I64 (v / ((2 ^ k : Nat) : Int)) := by
  have h1 : (1 : Int) ≤ ((2 ^ k : Nat) : Int) := by have := Nat.one_le_two_pow (n := k); omega
  generalize ((2 ^ k : Nat) : Int) = P at h1
  unfold I64 at *
  rcases Int.le_total 0 v with h0 | h0
  · have a1 := Int.ediv_nonneg h0 (show 0 ≤ P by omega)
    have a2 := Int.ediv_le_self P h0
    omega
  · have a1 : v / P ≤ 0 := by
      have := Int.ediv_le_ediv (c := P) (by omega) h0
      rwa [Int.zero_ediv] at this
    have a2 : v ≤ v / P := by
      refine Int.le_ediv_of_mul_le (by omega) ?_
      have := Int.mul_le_mul_of_nonpos_left h0 h1
      omega
    omega
theorem shr_i64 (v : Int) {k : Nat} (h : k ≤ 64) : v.fdiv (2 ^ (min ((k : Nat) : Int).toNat IntKind.i64.bits)) = v / ((2 ^ k : Nat) : Int) := by
  have e : min ((k : Nat) : Int).toNat IntKind.i64.bits = k := by rw [Int.toNat_natCast]; exact Nat.min_eq_left h
  rw [e, Int.fdiv_eq_ediv_of_nonneg _ (Int.pow_nonneg (by decide))]
  congr 1
theorem lit1_mod (v : Int) : v % 2 = lit1 (decide (v % 2 = 1)) := by
  unfold lit1
  rcases Int.emod_two_eq v with h | h <;> rw [h] <;> rfl
theorem DenL.const {T : St} (hw : WF T) : ∀ l : List Bool, DenL T (l.map lit1) (fun _ => l)
  | [] => .nil
  | true :: l => .cons (Den.one hw) (DenL.const hw l)
  | false :: l => .cons (Den.zero hw) (DenL.const hw l)
theorem bitsR_zero : ∀ n : Nat, bitsR n 0 = List.replicate n false
  | 0 => rfl
  | n + 1 => by rw [bitsR, List.replicate_succ]; congr 1; exact bitsR_zero n
theorem map_snoc {l : List Bool} {k : Nat} (hk : k < l.length) (h : Bool → Bool) : (l.take (k + 1)).map h = (l.take k).map h ++ [h (l.getD k false)] := by
  rw [take_succ' hk, List.map_append]; rfl
end Go.Z.Bit
namespace Go.Proofs.Ytkebblmmgcgjkaa
set_option maxRecDepth 8000
set_option linter.unusedVariables false
set_option linter.unusedSimpArgs false
set_option linter.unusedSectionVars false
open Go Go.Z Go.Z.Aig Go.Z.Bit

theorem constant_ok {ρ : Nat → Obj → Prop} (wd : Nat) (v : Int) (hw : wd ≤ 64) (hv : I64 v) : Con Try.prog ρ 56 #[.int .i64 wd, .int .i64 v] []
    (fun u H => ∃ a2 c2, u = .slice a2 wd c2 ∧ H = [OwnSl 27 1 a2 wd c2 (((bitsR wd v).map lit1).map encI)]) := by
  refine con_intro Try.func56 Try.call56 rfl Try.ntmps56 rfl (L := [(0, _), (1, _)]) rfl fun w hh => ?_
  refine g_seq ?_
  refine g_region ?_
  refine g_pure (p_assign rfl) rfl ?_
  refine g_nil ?_
  refine g_qt ?_
  refine g_seq ?_
  refine g_region ?_
  refine g_pure (p_assign rfl) rfl ?_
  refine g_nil ?_
  refine g_qt ?_
  refine g_seq ?_
  refine g_seq ?_
  refine g_region ?_
  refine g_pure (p_move rfl) rfl ?_
  refine g_pure (p_move rfl) rfl ?_
  refine g_nil ?_
  refine g_qt ?_
  refine g_block ?_
  refine g_ownnil (e := 27) (size := 1) ?_
  refine g_loop (fun q : Nat × Option Addr × Nat => [(1, .int .i64 v), (5, .slice q.2.1 q.1 q.2.2), (7, .int .i64 wd), (8, .int .i64 q.1)])
    (fun q => [OwnSl 27 1 q.2.1 q.1 q.2.2 (((bitsR q.1 v).map lit1).map encI)]) (fun q => q.1 ≤ wd) (fun q => wd - q.1) (0, none, 0) (Nat.zero_le _) (by (repeat (first | exact trivial | refine ⟨by rfl, ?_⟩)); done) (by repeat' (first | exact Cover.nil | exact Take.here | apply Cover.cons | apply Take.there)) ?_
  rintro ⟨k, oa, oc⟩ hk
  dsimp only at hk ⊢
  refine g_seq ?_
  refine g_region ?_
  refine g_pure (p_lss rfl rfl) rfl ?_
  refine g_nil ?_
  refine g_qt ?_
  refine g_seq ?_
  refine g_ifd rfl (fun h => ?_) (fun h => ?_)
  · refine g_skip ?_
    refine g_qt ?_
    refine g_seq ?_
    refine g_block ?_
    refine g_seq ?_
    refine g_region ?_
    refine g_pure (p_move rfl) rfl ?_
    refine g_pure (p_assign rfl) rfl ?_
    refine g_nil ?_
    refine g_qt ?_
    refine g_region ?_
    refine g_pure (p_move rfl) rfl ?_
    refine g_pure (p_move rfl) rfl ?_
    refine g_pure (p_move rfl) rfl ?_
    refine g_pure (p_shr rfl rfl (by omega)) rfl ?_
    refine g_pure (p_and rfl rfl) rfl ?_
    refine g_eff (e_bs (xs := [.tmp 15]) rfl rfl rfl (by rfl) (by rfl) rfl (by rfl)) rfl (fun _ _ => ?_)
    rintro ⟨b16, rfl, rfl⟩
    refine g_eff (e_appendO (by rfl) (by rfl) rfl rfl (by first | (apply Has.own; (repeat' (first | exact Take.here | apply Take.there)); done) | exact Has.ro (by assumption)) (by rfl) (by rfl) (by repeat' (first | exact Take.here | apply Take.there)) (by omega) (by first | omega | (dsimp only; omega) | (simp <;> omega)) (by omega)) rfl (fun _ _ => ?_)
    rintro ⟨a17, c17, rfl, rfl⟩
    refine g_pure (p_assign rfl) rfl ?_
    refine g_nil ?_
    refine g_qb ?_
    refine g_qt ?_
    refine g_region ?_
    first | refine g_pure (p_addi rfl rfl (by omega)) rfl ?_ | refine g_pure (p_add rfl rfl) rfl ?_
    refine g_pure (p_move rfl) rfl ?_
    refine g_nil ?_
    refine g_qn ?_
    rw [shr_i64 v (by omega), and1_i64 _ (div_i64 hv k), lit1_mod]
    have e : ((bitsR k v).map lit1).map encI ++ [Value.int .i64 (lit1 (decide (v / ((2 ^ k : Nat) : Int) % 2 = 1)))] = ((bitsR (k + 1) v).map lit1).map encI := by
      rw [bitsR_snoc, List.map_append, List.map_append]; rfl
    rw [e]
    exact g_next (k + 1, a17, c17) (by (repeat (first | exact trivial | refine ⟨by rfl, ?_⟩)); done) (by repeat' (first | exact Cover.nil | exact Take.here | apply Cover.cons | apply Take.there)) (by dsimp only; omega) (by dsimp only; omega)
  · have hke : k = wd := by omega
    subst hke
    refine g_exit ?_
    refine g_qt_exit ?_
    refine g_qn_exit ?_
    refine g_qb_exit ?_
    refine g_qt ?_
    refine g_seq ?_
    refine g_region ?_
    refine g_pure (p_move rfl) rfl ?_
    refine g_pure (p_assign rfl) rfl ?_
    refine g_nil ?_
    refine g_qt ?_
    refine g_ret ?_
    exact g_post (rs := [.tmp 4]) rfl (.tmp rfl .nil) ⟨oa, oc, rfl, rfl⟩ (by repeat' (first | exact Cover.nil | exact Take.here | apply Cover.cons | apply Take.there))

variable {ρ : Nat → Obj → Prop} {S : St} {a b c : Int} {fa fb fc : List Bool → Bool}
variable {al bl : Option Addr} {cl cm : Nat} {ls ms : List Int} {f g : List Bool → List Bool}
theorem i64_of (hw : WF S) (d : DenL S ls f) : ∀ l ∈ ls, I64 l := fun l hl => by
  have := hw.lim; have := (d.1 l hl).1; have := (d.1 l hl).2; unfold I64; omega
theorem set_own {cur : List Value} {ls : List Int} {n k : Nat} {x : Int} (h : cur.take (n * 1) = ls.map encI) : (cur.set (0 + k * 1) (.int .i64 x)).take (n * 1) = (ls.set k x).map encI := by
  rw [Nat.mul_one] at h
  rw [Nat.zero_add, Nat.mul_one, Nat.mul_one, List.take_set, h, List.map_set]; rfl
theorem negate_ok (mb p : Nat) (hw : WF S) (hn : ls.length ≤ 64) (hl : S.length + 12 * ls.length < 131072) (hls : RSl ρ 1 al ls.length (ls.map encI)) (dc : Den S c fc) (d : DenL S ls f) :
    Con Try.prog ρ 93 #[.pointer (some ⟨mb, 0, none⟩), .int .i64 c, .slice al ls.length cl] [MkB mb p, Gr p S]
    (fun v H => ∃ a2 c2 out T, v = .slice a2 out.length c2 ∧ H = [OwnSl 27 1 a2 out.length c2 (out.map encI), MkB mb p, Gr p T] ∧ out.length = ls.length ∧ Up S T (12 * ls.length) ∧ DenL T out (fun i => negF (fc i) (f i))) := by
  obtain ⟨b1, o1, cs1, T1, fz1, hr⟩ := lrd hls
  refine con_intro Try.func93 Try.call93 rfl Try.ntmps93 rfl (L := [(0, _), (1, _), (2, _)]) rfl fun w hh => ?_
  refine g_seq ?_
  refine g_region ?_
  refine g_pure (p_assign rfl) rfl ?_
  refine g_nil ?_
  refine g_qt ?_
  refine g_seq ?_
  refine g_region ?_
  refine g_pure (p_assign rfl) rfl ?_
  refine g_nil ?_
  refine g_qt ?_
  refine g_seq ?_
  refine g_seq ?_
  refine g_region ?_
  refine g_pure (p_move rfl) rfl ?_
  refine g_pure (p_len (by rfl) rfl) rfl ?_
  refine g_pure (p_move rfl) rfl ?_
  refine g_nil ?_
  refine g_qt ?_
  refine g_block ?_
  refine g_ownnil (e := 27) (size := 1) ?_
  refine g_loop (fun q : List Int × Option Addr × Nat × St => [(0, .pointer (some ⟨mb, 0, none⟩)), (1, .int .i64 c), (2, .slice al ls.length cl), (7, .slice q.2.1 q.1.length q.2.2.1), (12, .slice al ls.length cl), (13, .int .i64 ls.length), (14, .int .i64 q.1.length)])
    (fun q => [OwnSl 27 1 q.2.1 q.1.length q.2.2.1 (q.1.map encI), MkB mb p, Gr p q.2.2.2]) (fun q => q.1.length ≤ ls.length ∧ Up S q.2.2.2 (3 * q.1.length) ∧ DenL q.2.2.2 q.1 (fun i => ((f i).take q.1.length).map (fc i != ·))) (fun q => ls.length - q.1.length) ([], none, 0, S) ⟨Nat.zero_le _, .refl hw, .nil⟩ (by (repeat (first | exact trivial | refine ⟨by rfl, ?_⟩)); done) (by repeat' (first | exact Cover.nil | exact Take.here | apply Cover.cons | apply Take.there)) ?_
  rintro ⟨out, oa, oc, T⟩ ⟨hk, u, dx⟩
  dsimp only at hk u dx ⊢
  refine g_seq ?_
  refine g_region ?_
  refine g_pure (p_lss rfl rfl) rfl ?_
  refine g_nil ?_
  refine g_qt ?_
  refine g_seq ?_
  refine g_ifd rfl (fun h => ?_) (fun h => ?_)
  · have hkl : out.length < ls.length := by omega
    obtain ⟨r1, r2, r3⟩ := hr (by omega)
    have hul := u.len
    refine g_skip ?_
    refine g_qt ?_
    refine g_seq ?_
    refine g_block ?_
    refine g_seq ?_
    refine g_region ?_
    refine g_pure (p_indexAddr rfl rfl (by omega) (fun _ => r1)) rfl ?_
    refine g_pure (p_load (by rfl) rfl (Has.ro r2) (r3 _ hkl)) rfl ?_
    refine g_pure (p_assign rfl) rfl ?_
    refine g_nil ?_
    refine g_qt ?_
    refine g_region ?_
    refine g_pure (p_move rfl) rfl ?_
    refine g_pure (p_move rfl) rfl ?_
    refine g_pure (p_move rfl) rfl ?_
    refine g_pure (p_move rfl) rfl ?_
    refine g_call (Hin := ?hi1) (Hr := ?hr1) (R := ?rr1) rfl rfl rfl ?hin1 ?hc1 ?hk1
    case hc1 => intro ρ' hρ hR; exact mxor_ok mb p u.wf (by omega) (dc.up hw u) ((d.get hkl).up hw u)
    case hin1 => repeat' (first | exact Cover.nil | exact Take.here | apply Cover.cons | apply Take.there)
    rintro _ _ ⟨l, U, rfl, rfl, u2, d2⟩
    refine g_eff (e_bs (xs := [.tmp 22]) rfl rfl rfl (by rfl) (by rfl) rfl (by rfl)) rfl (fun _ _ => ?_)
    rintro ⟨b23, rfl, rfl⟩
    refine g_eff (e_appendO (by rfl) (by rfl) rfl rfl (by first | (apply Has.own; (repeat' (first | exact Take.here | apply Take.there)); done) | exact Has.ro (by assumption)) (by rfl) (by rfl) (by repeat' (first | exact Take.here | apply Take.there)) (by omega) (by first | omega | (dsimp only; omega) | (simp <;> omega)) (by omega)) rfl (fun _ _ => ?_)
    rintro ⟨a24, c24, rfl, rfl⟩
    refine g_pure (p_assign rfl) rfl ?_
    refine g_nil ?_
    refine g_qb ?_
    refine g_qt ?_
    refine g_region ?_
    first | refine g_pure (p_addi rfl rfl (by omega)) rfl ?_ | refine g_pure (p_add rfl rfl) rfl ?_
    refine g_pure (p_move rfl) rfl ?_
    refine g_nil ?_
    refine g_qn ?_
    have e' : out.map encI ++ [Value.int .i64 l] = (out ++ [l]).map encI := by rw [List.map_append]; rfl
    have e2 : out.length + 1 = (out ++ [l]).length := by simp
    rw [e']
    refine g_next (out ++ [l], a24, c24, U) (by rw [← e2]; exact (by (repeat (first | exact trivial | refine ⟨by rfl, ?_⟩)); done)) (by rw [← e2]; exact (by repeat' (first | exact Cover.nil | exact Take.here | apply Cover.cons | apply Take.there))) ⟨by rw [← e2]; omega, u.trans u2 (by rw [← e2]; omega), ?_⟩ (by rw [← e2]; omega)
    refine ((dx.up u.wf u2).snoc d2).congr fun i => ?_
    rw [← e2, map_snoc (by rw [d.len]; exact hkl)]
  · have hke : out.length = ls.length := by omega
    have hul := u.len
    refine g_exit ?_
    refine g_qt_exit ?_
    refine g_qn_exit ?_
    refine g_qb_exit ?_
    refine g_qt ?_
    refine g_seq ?_
    refine g_region ?_
    refine g_pure (p_move rfl) rfl ?_
    refine g_pure (p_move rfl) rfl ?_
    refine g_pure (p_move rfl) rfl ?_
    refine g_pure (p_len (by rfl) rfl) rfl ?_
    refine g_call (Hin := []) (Hr := ?hr2) (R := ?rr2) rfl rfl rfl ?hin2 ?hc2 ?hk2
    case hin2 => repeat' (first | exact Cover.nil | exact Take.here | apply Cover.cons | apply Take.there)
    case hc2 => intro ρ' hρ hR; exact constant_ok ls.length 0 hn (by unfold I64; omega)
    rintro _ _ ⟨ka, kc, rfl, rfl⟩
    refine g_pure (p_move rfl) rfl ?_
    have hbz : ls.length = ((bitsR ls.length 0).map lit1).length := by rw [List.length_map, bitsR_len]
    have dz : DenL T ((bitsR ls.length 0).map lit1) (fun _ => bitsR ls.length 0) := .const u.wf _
    generalize hzz : (bitsR ls.length 0).map lit1 = zz at hbz dz ⊢
    rw [show (Value.slice ka ls.length kc) = .slice ka zz.length kc by rw [← hbz], show OwnSl 27 1 ka ls.length kc (zz.map encI) = OwnSl 27 1 ka zz.length kc (zz.map encI) by rw [← hbz]]
    refine g_call (Hin := [MkB mb p, Gr p T]) (Hr := ?hr3) (R := ?rr3) rfl rfl rfl ?hin3 ?hc3 ?hk3
    case hin3 => repeat' (first | exact Cover.nil | exact Take.here | apply Cover.cons | apply Take.there)
    case hc3 => intro ρ' hρ hR; exact sum_ok mb p u.wf (by omega) (RSl.of_own (Take.ro (A := OwnSl 27 1 oa out.length oc (out.map encI)) (by repeat' (first | exact Take.here | apply Take.there)) hR)) (RSl.of_own (Take.ro (A := OwnSl 27 1 ka zz.length kc (zz.map encI)) (by repeat' (first | exact Take.here | apply Take.there)) hR)) (by omega) (dc.up hw u) dx dz
    rintro _ _ ⟨a2, c2, out2, co, U, rfl, rfl, h2, u2, d2, _⟩
    refine g_pure (p_move rfl) rfl ?_
    refine g_pure (p_extract rfl rfl) rfl ?_
    refine g_pure (p_extract rfl rfl) rfl ?_
    refine g_pure (p_assign rfl) rfl ?_
    refine g_pure (p_assign rfl) rfl ?_
    refine g_nil ?_
    refine g_qt ?_
    refine g_seq ?_
    refine g_region ?_
    refine g_pure (p_move rfl) rfl ?_
    refine g_pure (p_assign rfl) rfl ?_
    refine g_nil ?_
    refine g_qt ?_
    refine g_ret ?_
    refine g_post (rs := [.tmp 6]) rfl (.tmp rfl .nil) ⟨a2, c2, out2, U, rfl, rfl, by omega, u.trans u2 (by omega), d2.congr fun i => ?_⟩ (by repeat' (first | exact Cover.nil | exact Take.here | apply Cover.cons | apply Take.there))
    unfold negF
    rw [List.take_of_length_le (by rw [d.len]; omega), d.len, bitsR_zero]

theorem zero_ok (mb p : Nat) (hw : WF S) (hn : ls.length ≤ 100000) (hl : S.length + ls.length < 131072) (hls : RSl ρ 1 al ls.length (ls.map encI)) (d : DenL S ls f) : Con Try.prog ρ 119 #[.pointer (some ⟨mb, 0, none⟩), .slice al ls.length cl] [MkB mb p, Gr p S]
    (fun v H => ∃ l T, v = .int .i64 l ∧ H = [MkB mb p, Gr p T] ∧ Up S T ls.length ∧ Den T l (fun i => zeroF (f i))) := by
  refine con_intro Try.func119 Try.call119 rfl Try.ntmps119 rfl (L := [(0, _), (1, _)]) rfl fun w hh => ?_
  refine g_seq ?_
  refine g_region ?_
  refine g_pure (p_assign rfl) rfl ?_
  refine g_nil ?_
  refine g_qt ?_
  refine g_seq ?_
  refine g_region ?_
  refine g_pure (p_move rfl) rfl ?_
  refine g_pure (p_move rfl) rfl ?_
  refine g_call (Hin := []) (Hr := ?hr4) (R := ?rr4) rfl rfl rfl ?hin4 ?hc4 ?hk4
  case hin4 => repeat' (first | exact Cover.nil | exact Take.here | apply Cover.cons | apply Take.there)
  case hc4 => intro ρ' hρ hR; exact bnots_ok (i64_of hw d) hn (hls.mono hρ)
  rintro _ _ ⟨a2, c2, rfl, rfl⟩
  have e : ls.length = (ls.map nt).length := (List.length_map _).symm
  rw [show (Value.slice a2 ls.length c2) = .slice a2 (ls.map nt).length c2 by rw [← e], show OwnSl 27 1 a2 ls.length c2 ((ls.map nt).map encI) = OwnSl 27 1 a2 (ls.map nt).length c2 ((ls.map nt).map encI) by rw [← e]]
  refine g_call (Hin := [MkB mb p, Gr p S]) (Hr := ?hr5) (R := ?rr5) rfl rfl rfl ?hin5 ?hc5 ?hk5
  case hin5 => repeat' (first | exact Cover.nil | exact Take.here | apply Cover.cons | apply Take.there)
  case hc5 => intro ρ' hρ hR; exact all_ok mb p hw (by rw [← e]; omega) (RSl.of_own (Take.ro (A := OwnSl 27 1 a2 (ls.map nt).length c2 ((ls.map nt).map encI)) (by repeat' (first | exact Take.here | apply Take.there)) hR)) d.not
  rintro _ _ ⟨l, T, rfl, rfl, u, d2⟩
  refine g_pure (p_assign rfl) rfl ?_
  refine g_nil ?_
  refine g_qt ?_
  refine g_ret ?_
  exact g_post (rs := [.tmp 4]) rfl (.tmp rfl .nil) ⟨l, T, rfl, rfl, by rw [e]; exact u, d2⟩ (by repeat' (first | exact Cover.nil | exact Take.here | apply Cover.cons | apply Take.there))

theorem equal_ok (mb p : Nat) (hw : WF S) (hl : S.length + 4 * ls.length < 131072) (hls : RSl ρ 1 al ls.length (ls.map encI)) (hms : RSl ρ 1 bl ms.length (ms.map encI)) (he : ls.length = ms.length) (d : DenL S ls f) (d' : DenL S ms g) :
    Con Try.prog ρ 120 #[.pointer (some ⟨mb, 0, none⟩), .slice al ls.length cl, .slice bl ms.length cm] [MkB mb p, Gr p S]
    (fun v H => ∃ l T, v = .int .i64 l ∧ H = [MkB mb p, Gr p T] ∧ Up S T (4 * ls.length) ∧ Den T l (fun i => equalF (f i) (g i))) := by
  obtain ⟨b1, o1, cs1, T1, fz1, hr⟩ := lrd hls
  obtain ⟨b2, o2, cs2, T2, fz2, hr2⟩ := lrd hms
  refine con_intro Try.func120 Try.call120 rfl Try.ntmps120 rfl (L := [(0, _), (1, _), (2, _)]) rfl fun w hh => ?_
  refine g_seq ?_
  refine g_region ?_
  refine g_pure (p_assign rfl) rfl ?_
  refine g_nil ?_
  refine g_qt ?_
  refine g_seq ?_
  refine g_region ?_
  refine g_pure (p_assign rfl) rfl ?_
  refine g_nil ?_
  refine g_qt ?_
  refine g_seq ?_
  refine g_seq ?_
  refine g_region ?_
  refine g_pure (p_move rfl) rfl ?_
  refine g_pure (p_len (by rfl) rfl) rfl ?_
  refine g_pure (p_move rfl) rfl ?_
  refine g_nil ?_
  refine g_qt ?_
  refine g_block ?_
  refine g_ownnil (e := 27) (size := 1) ?_
  refine g_loop (fun q : List Int × Option Addr × Nat × St => [(0, .pointer (some ⟨mb, 0, none⟩)), (1, .slice al ls.length cl), (2, .slice bl ms.length cm), (7, .slice q.2.1 q.1.length q.2.2.1), (10, .int .i64 ls.length), (11, .int .i64 q.1.length)])
    (fun q => [OwnSl 27 1 q.2.1 q.1.length q.2.2.1 (q.1.map encI), MkB mb p, Gr p q.2.2.2]) (fun q => q.1.length ≤ ls.length ∧ Up S q.2.2.2 (3 * q.1.length) ∧ DenL q.2.2.2 q.1 (fun i => List.zipWith (fun x y => !(x != y)) ((f i).take q.1.length) ((g i).take q.1.length))) (fun q => ls.length - q.1.length) ([], none, 0, S) ⟨Nat.zero_le _, .refl hw, .nil⟩ (by (repeat (first | exact trivial | refine ⟨by rfl, ?_⟩)); done) (by repeat' (first | exact Cover.nil | exact Take.here | apply Cover.cons | apply Take.there)) ?_
  rintro ⟨out, oa, oc, T⟩ ⟨hk, u, dx⟩
  dsimp only at hk u dx ⊢
  refine g_seq ?_
  refine g_region ?_
  refine g_pure (p_lss rfl rfl) rfl ?_
  refine g_nil ?_
  refine g_qt ?_
  refine g_seq ?_
  refine g_ifd rfl (fun h => ?_) (fun h => ?_)
  · have hkl : out.length < ls.length := by omega
    have hkm : out.length < ms.length := by omega
    obtain ⟨r1, r2, r3⟩ := hr (by omega)
    obtain ⟨s1, s2, s3⟩ := hr2 (by omega)
    have hul := u.len
    refine g_skip ?_
    refine g_qt ?_
    refine g_seq ?_
    refine g_block ?_
    refine g_seq ?_
    refine g_region ?_
    refine g_pure (p_move rfl) rfl ?_
    refine g_pure (p_assign rfl) rfl ?_
    refine g_nil ?_
    refine g_qt ?_
    refine m_begin0 (.fl 0 0 (.fl 1 0 (.fl 2 0 (.fl 3 0 (.fl 4 0 (.fl 5 1 (.fl 6 0 (.fl 7 0 (.fl 8 0 (.fl 9 1 (.ef 10 (.ef 11 (.ef 12 (.ef 13 (.fl 14 0 .done))))))))))))))) (by kernel_rfl) (by kernel_rfl) ?_
    refine m_float0 rfl (fun _ _ => p_move rfl) rfl ?_
    refine m_float0 rfl (fun _ _ => p_move rfl) rfl ?_
    refine m_float0 rfl (fun _ _ => p_move rfl) rfl ?_
    refine m_float0 rfl (fun _ _ => p_move rfl) rfl ?_
    refine m_float0 rfl (fun _ _ => p_indexAddr rfl rfl (by omega) (fun _ => r1)) rfl ?_
    refine m_float rfl (p_load (by rfl) rfl (Has.ro r2) (r3 _ hkl)) rfl ?_
    refine m_float0 rfl (fun _ _ => p_move rfl) rfl ?_
    refine m_float0 rfl (fun _ _ => p_move rfl) rfl ?_
    refine m_float0 rfl (fun _ _ => p_indexAddr rfl rfl (by omega) (fun _ => s1)) rfl ?_
    refine m_float rfl (p_load (by rfl) rfl (Has.ro s2) (s3 _ hkm)) rfl ?_
    refine m_call (Hin := ?hi6) (Hr := ?hr6) (R := ?rr6) rfl wantedN rfl rfl rfl ?hin6 ?hc6 ?hk6
    case hc6 => intro ρ' hρ hR; exact mxor_ok mb p u.wf (by omega) ((d.get hkl).up hw u) ((d'.get hkm).up hw u)
    case hin6 => repeat' (first | exact Cover.nil | exact Take.here | apply Cover.cons | apply Take.there)
    rintro _ _ ⟨l, U, rfl, rfl, u2, d2⟩
    refine ⟨.none (by kernel_rfl), ?_⟩
    refine m_call (Hin := []) (Hr := ?hr7) (R := ?rr7) rfl wantedN rfl rfl rfl ?hin7 ?hc7 ?hk7
    case hin7 => repeat' (first | exact Cover.nil | exact Take.here | apply Cover.cons | apply Take.there)
    case hc7 => intro ρ' hρ hR; exact bnot_ok (d2.i64 u2.wf)
    rintro _ _ ⟨rfl, rfl⟩
    refine ⟨.none (by kernel_rfl), ?_⟩
    refine m_eff rfl (e_bs (xs := [.tmp 25]) rfl rfl rfl (by rfl) (by rfl) rfl (by rfl)) rfl (fun _ _ => ?_)
    rintro ⟨b26, rfl, rfl⟩
    refine ⟨.none (by kernel_rfl), ?_⟩
    refine m_eff rfl (e_appendO (by rfl) (by rfl) rfl rfl (by first | (apply Has.own; (repeat' (first | exact Take.here | apply Take.there)); done) | exact Has.ro (by assumption)) (by rfl) (by rfl) (by repeat' (first | exact Take.here | apply Take.there)) (by omega) (by first | omega | (dsimp only; omega) | (simp <;> omega)) (by omega)) rfl (fun _ _ => ?_)
    rintro ⟨a27, c27, rfl, rfl⟩
    refine ⟨.none (by kernel_rfl), ?_⟩
    refine m_float0 rfl (fun _ _ => p_assign rfl) rfl ?_
    refine m_nil ?_
    refine g_qb ?_
    refine g_qt ?_
    refine g_region ?_
    first | refine g_pure (p_addi rfl rfl (by omega)) rfl ?_ | refine g_pure (p_add rfl rfl) rfl ?_
    refine g_pure (p_move rfl) rfl ?_
    refine g_nil ?_
    refine g_qn ?_
    have e' : out.map encI ++ [Value.int .i64 (nt l)] = (out ++ [nt l]).map encI := by rw [List.map_append]; rfl
    have e2 : out.length + 1 = (out ++ [nt l]).length := by simp
    rw [e']
    refine g_next (out ++ [nt l], a27, c27, U) (by rw [← e2]; exact (by (repeat (first | exact trivial | refine ⟨by rfl, ?_⟩)); done)) (by rw [← e2]; exact (by repeat' (first | exact Cover.nil | exact Take.here | apply Cover.cons | apply Take.there))) ⟨by rw [← e2]; omega, u.trans u2 (by rw [← e2]; omega), ?_⟩ (by rw [← e2]; omega)
    refine ((dx.up u.wf u2).snoc d2.not).congr fun i => ?_
    rw [← e2, xnor_step (by rw [d.len]; exact hkl) (by rw [d'.len]; exact hkm)]
  · have hke : out.length = ls.length := by omega
    have hul := u.len
    refine g_exit ?_
    refine g_qt_exit ?_
    refine g_qn_exit ?_
    refine g_qb_exit ?_
    refine g_qt ?_
    refine g_seq ?_
    refine g_region ?_
    refine g_pure (p_move rfl) rfl ?_
    refine g_pure (p_move rfl) rfl ?_
    refine g_call (Hin := [MkB mb p, Gr p T]) (Hr := ?hr8) (R := ?rr8) rfl rfl rfl ?hin8 ?hc8 ?hk8
    case hin8 => repeat' (first | exact Cover.nil | exact Take.here | apply Cover.cons | apply Take.there)
    case hc8 => intro ρ' hρ hR; exact all_ok mb p u.wf (by omega) (RSl.of_own (Take.ro (A := OwnSl 27 1 oa out.length oc (out.map encI)) (by repeat' (first | exact Take.here | apply Take.there)) hR)) dx
    rintro _ _ ⟨l, U, rfl, rfl, u2, d2⟩
    refine g_pure (p_assign rfl) rfl ?_
    refine g_nil ?_
    refine g_qt ?_
    refine g_ret ?_
    refine g_post (rs := [.tmp 6]) rfl (.tmp rfl .nil) ⟨l, U, rfl, rfl, u.trans u2 (by omega), d2.congr fun i => ?_⟩ (by repeat' (first | exact Cover.nil | exact Take.here | apply Cover.cons | apply Take.there))
    unfold equalF
    rw [List.take_of_length_le (by rw [d.len]; omega), List.take_of_length_le (by rw [d'.len]; omega)]

theorem below_ok (mb p : Nat) (hw : WF S) (hn : ls.length ≤ 100000) (hl : S.length + 9 * ls.length < 131072) (hls : RSl ρ 1 al ls.length (ls.map encI)) (hms : RSl ρ 1 bl ms.length (ms.map encI)) (he : ls.length = ms.length) (d : DenL S ls f) (d' : DenL S ms g) :
    Con Try.prog ρ 71 #[.pointer (some ⟨mb, 0, none⟩), .slice al ls.length cl, .slice bl ms.length cm] [MkB mb p, Gr p S]
    (fun v H => ∃ l T, v = .int .i64 l ∧ H = [MkB mb p, Gr p T] ∧ Up S T (9 * ls.length) ∧ Den T l (fun i => belowF (f i) (g i))) := by
  refine con_intro Try.func71 Try.call71 rfl Try.ntmps71 rfl (L := [(0, _), (1, _), (2, _)]) rfl fun w hh => ?_
  refine g_seq ?_
  refine g_region ?_
  refine g_pure (p_assign rfl) rfl ?_
  refine g_nil ?_
  refine g_qt ?_
  refine g_seq ?_
  refine g_region ?_
  refine g_pure (p_move rfl) rfl ?_
  refine g_pure (p_move rfl) rfl ?_
  refine g_pure (p_move rfl) rfl ?_
  refine g_call (Hin := []) (Hr := ?hr9) (R := ?rr9) rfl rfl rfl ?hin9 ?hc9 ?hk9
  case hin9 => repeat' (first | exact Cover.nil | exact Take.here | apply Cover.cons | apply Take.there)
  case hc9 => intro ρ' hρ hR; exact bnots_ok (i64_of hw d') (by omega) (hms.mono hρ)
  rintro _ _ ⟨a2, c2, rfl, rfl⟩
  have e : ms.length = (ms.map nt).length := (List.length_map _).symm
  rw [show (Value.slice a2 ms.length c2) = .slice a2 (ms.map nt).length c2 by rw [← e], show OwnSl 27 1 a2 ms.length c2 ((ms.map nt).map encI) = OwnSl 27 1 a2 (ms.map nt).length c2 ((ms.map nt).map encI) by rw [← e]]
  refine g_call (Hin := [MkB mb p, Gr p S]) (Hr := ?hr10) (R := ?rr10) rfl rfl rfl ?hin10 ?hc10 ?hk10
  case hin10 => repeat' (first | exact Cover.nil | exact Take.here | apply Cover.cons | apply Take.there)
  case hc10 => intro ρ' hρ hR; exact sum_ok mb p hw (by omega) (hls.mono hρ) (RSl.of_own (Take.ro (A := OwnSl 27 1 a2 (ms.map nt).length c2 ((ms.map nt).map encI)) (by repeat' (first | exact Take.here | apply Take.there)) hR)) (by omega) (Den.one hw) d d'.not
  rintro _ _ ⟨a3, c3, out, co, U, rfl, rfl, h2, u2, _, d2⟩
  refine g_pure (p_move rfl) rfl ?_
  refine g_pure (p_extract rfl rfl) rfl ?_
  refine g_pure (p_extract rfl rfl) rfl ?_
  refine g_pure (p_assign rfl) rfl ?_
  refine g_pure (p_assign rfl) rfl ?_
  refine g_nil ?_
  refine g_qt ?_
  refine g_seq ?_
  refine g_region ?_
  refine g_pure (p_move rfl) rfl ?_
  refine g_call (Hin := []) (Hr := ?hr11) (R := ?rr11) rfl rfl rfl ?hin11 ?hc11 ?hk11
  case hin11 => repeat' (first | exact Cover.nil | exact Take.here | apply Cover.cons | apply Take.there)
  case hc11 => intro ρ' hρ hR; exact bnot_ok (d2.i64 u2.wf)
  rintro _ _ ⟨rfl, rfl⟩
  refine g_pure (p_assign rfl) rfl ?_
  refine g_nil ?_
  refine g_qt ?_
  refine g_ret ?_
  exact g_post (rs := [.tmp 6]) rfl (.tmp rfl .nil) ⟨nt co, U, rfl, rfl, u2, d2.not⟩ (by repeat' (first | exact Cover.nil | exact Take.here | apply Cover.cons | apply Take.there))

theorem clone_n {ρ : Nat → Obj → Prop} {al : Option Addr} {cl : Nat} {ls : List Int} {n : Nat} (h1 : ls.length = n) (hl : RSl ρ 1 al n (ls.map encI)) (hlen : n ≤ 10000000000) :
    Con Try.prog ρ 133 #[.slice al n cl] [] (fun v H => ∃ a c, v = .slice a n c ∧ H = [OwnSl 27 1 a n c (ls.map encI)]) := by
  subst h1; exact clone_ok al cl ls hl hlen

theorem below_n (mb p : Nat) (hw : WF S) {n : Nat} (h1 : ls.length = n) (h2 : ms.length = n) (hn : n ≤ 100000) (hl : S.length + 9 * n < 131072) (hls : RSl ρ 1 al n (ls.map encI)) (hms : RSl ρ 1 bl n (ms.map encI)) (d : DenL S ls f) (d' : DenL S ms g) :
    Con Try.prog ρ 71 #[.pointer (some ⟨mb, 0, none⟩), .slice al n cl, .slice bl n cm] [MkB mb p, Gr p S]
    (fun v H => ∃ l T, v = .int .i64 l ∧ H = [MkB mb p, Gr p T] ∧ Up S T (9 * n) ∧ Den T l (fun i => belowF (f i) (g i))) := by
  subst h1
  have := below_ok (ρ := ρ) (cl := cl) (cm := cm) mb p hw hn hl hls (by rw [h2]; exact hms) h2.symm d d'
  rwa [h2] at this

theorem less_n (mb p : Nat) (hw : WF S) {N : Nat} (h1 : ls.length = N) (h2 : ms.length = N) (h0 : 0 < N) (hn : N ≤ 100000) (hl : S.length + 9 * N < 131072) (hls : RSl ρ 1 al N (ls.map encI)) (hms : RSl ρ 1 bl N (ms.map encI)) (d : DenL S ls f) (d' : DenL S ms g) :
    Con Try.prog ρ 121 #[.pointer (some ⟨mb, 0, none⟩), .slice al N cl, .slice bl N cm] [MkB mb p, Gr p S]
    (fun v H => ∃ l T, v = .int .i64 l ∧ H = [MkB mb p, Gr p T] ∧ Up S T (9 * N) ∧ Den T l (fun i => lessF (f i) (g i))) := by
  obtain ⟨n, rfl⟩ : ∃ n : Nat, N = n + 1 := ⟨N - 1, by omega⟩
  refine con_intro Try.func121 Try.call121 rfl Try.ntmps121 rfl (L := [(0, _), (1, _), (2, _)]) rfl fun w hh => ?_
  refine g_seq ?_
  refine g_region ?_
  refine g_pure (p_assign rfl) rfl ?_
  refine g_nil ?_
  refine g_qt ?_
  refine g_seq ?_
  refine g_region ?_
  refine g_pure (p_move rfl) rfl ?_
  refine g_call (Hin := []) (Hr := ?hr12) (R := ?rr12) rfl rfl rfl ?hin12 ?hc12 ?hk12
  case hin12 => repeat' (first | exact Cover.nil | exact Take.here | apply Cover.cons | apply Take.there)
  case hc12 => intro ρ' hρ hR; exact clone_n h1 (hls.mono hρ) (by omega)
  rintro _ _ ⟨xa, xc, rfl, rfl⟩
  refine g_pure (p_move rfl) rfl ?_
  refine g_call (Hin := []) (Hr := ?hr13) (R := ?rr13) rfl rfl rfl ?hin13 ?hc13 ?hk13
  case hin13 => repeat' (first | exact Cover.nil | exact Take.here | apply Cover.cons | apply Take.there)
  case hc13 => intro ρ' hρ hR; exact clone_n h2 (hms.mono hρ) (by omega)
  rintro _ _ ⟨ya, yc, rfl, rfl⟩
  refine g_pure (p_assign rfl) rfl ?_
  refine g_pure (p_assign rfl) rfl ?_
  refine g_nil ?_
  refine g_qt ?_
  refine g_seq ?_
  refine g_region ?_
  refine g_pure (p_move rfl) rfl ?_
  refine g_pure (p_len (by rfl) rfl) rfl ?_
  first | refine g_pure (p_subi rfl rfl (by omega)) rfl ?_ | refine g_pure (p_sub rfl rfl) rfl ?_
  refine g_pure (p_assign rfl) rfl ?_
  refine g_nil ?_
  refine g_qt ?_
  refine g_seq ?_
  refine g_own (e := 27) (a1 := xa) (k := n + 1) (cap := xc) (xs := ls.map encI) (by repeat' (first | exact Take.here | apply Take.there)) (fun _ h2 _ _ => absurd h2 (by omega)) ?_
  rintro gx curx rfl x1 x2 x3 x4 x5
  refine g_own (e := 27) (a1 := ya) (k := n + 1) (cap := yc) (xs := ms.map encI) (by repeat' (first | exact Take.here | apply Take.there)) (fun _ h2 _ _ => absurd h2 (by omega)) ?_
  rintro gy cury rfl y1 y2 y3 y4 y5
  have hi : (((n + 1 : Nat) : Int) - 1).toNat = n := by omega
  have hx : curx[0 + (((n + 1 : Nat) : Int) - 1).toNat * 1]? = some (.int .i64 (ls[n]'(by omega))) := own_at x4 (by rw [hi]) (by rw [List.getElem?_map, List.getElem?_eq_getElem (by omega)]; rfl)
  have hy : cury[0 + (((n + 1 : Nat) : Int) - 1).toNat * 1]? = some (.int .i64 (ms[n]'(by omega))) := own_at y4 (by rw [hi]) (by rw [List.getElem?_map, List.getElem?_eq_getElem (by omega)]; rfl)
  refine m_begin0 (.fl 0 0 (.fl 1 0 (.fl 2 0 (.fl 3 0 (.fl 4 0 (.fl 5 0 (.fl 6 0 (.fl 7 1 (.fl 9 0 (.fl 10 0 (.fl 11 0 (.fl 12 1 (.ef 8 (.ef 13 (.fl 14 0 (.ef 15 (.fl 16 0 (.ef 17 .done)))))))))))))))))) (by kernel_rfl) (by kernel_rfl) ?_
  refine m_float0 rfl (fun _ _ => p_move rfl) rfl ?_
  refine m_float0 rfl (fun _ _ => p_move rfl) rfl ?_
  refine m_float0 rfl (fun _ _ => p_move rfl) rfl ?_
  refine m_float0 rfl (fun _ _ => p_move rfl) rfl ?_
  refine m_float0 rfl (fun _ _ => p_move rfl) rfl ?_
  refine m_float0 rfl (fun _ _ => p_move rfl) rfl ?_
  refine m_float0 rfl (fun _ _ => p_indexAddr rfl rfl (by omega) (fun _ => rfl)) rfl ?_
  refine m_float rfl (p_load (by rfl) rfl (Has.own (by repeat' (first | exact Take.here | apply Take.there))) hx) rfl ?_
  refine m_float0 rfl (fun _ _ => p_move rfl) rfl ?_
  refine m_float0 rfl (fun _ _ => p_move rfl) rfl ?_
  refine m_float0 rfl (fun _ _ => p_indexAddr rfl rfl (by omega) (fun _ => rfl)) rfl ?_
  refine m_float rfl (p_load (by rfl) rfl (Has.own (by repeat' (first | exact Take.here | apply Take.there))) hy) rfl ?_
  refine m_call (Hin := []) (Hr := ?hr14) (R := ?rr14) rfl wantedN rfl rfl rfl ?hin14 ?hc14 ?hk14
  case hin14 => repeat' (first | exact Cover.nil | exact Take.here | apply Cover.cons | apply Take.there)
  case hc14 => intro ρ' hρ hR; exact bnot_ok (i64_of hw d _ (List.getElem_mem _))
  rintro _ _ ⟨rfl, rfl⟩
  refine ⟨.some (by repeat' (first | exact Cover.nil | exact Take.here | apply Cover.cons | apply Take.there)), ?_⟩
  refine m_call (Hin := []) (Hr := ?hr15) (R := ?rr15) rfl wantedN rfl rfl rfl ?hin15 ?hc15 ?hk15
  case hin15 => repeat' (first | exact Cover.nil | exact Take.here | apply Cover.cons | apply Take.there)
  case hc15 => intro ρ' hρ hR; exact bnot_ok (i64_of hw d' _ (List.getElem_mem _))
  rintro _ _ ⟨rfl, rfl⟩
  refine ⟨.none (by kernel_rfl), ?_⟩
  refine m_float0 rfl (fun _ _ => p_indexAddr rfl rfl (by omega) (fun _ => rfl)) rfl ?_
  refine m_eff0 rfl (e_store1 (by rfl) rfl rfl rfl (by repeat' (first | exact Take.here | apply Take.there)) (by show 0 + (((n + 1 : Nat) : Int) - 1).toNat * 1 < _; omega)) (fun _ _ => ?_)
  rintro rfl
  refine ⟨.none (by kernel_rfl), ?_⟩
  refine m_float0 rfl (fun _ _ => p_indexAddr rfl rfl (by omega) (fun _ => rfl)) rfl ?_
  refine m_eff0 rfl (e_store1 (by rfl) rfl rfl rfl (by repeat' (first | exact Take.here | apply Take.there)) (by show 0 + (((n + 1 : Nat) : Int) - 1).toNat * 1 < _; omega)) (fun _ _ => ?_)
  rintro rfl
  refine ⟨.none (by kernel_rfl), ?_⟩
  refine m_nil ?_
  refine g_qt ?_
  refine g_seq ?_
  refine g_region ?_
  refine g_pure (p_move rfl) rfl ?_
  refine g_pure (p_move rfl) rfl ?_
  refine g_pure (p_move rfl) rfl ?_
  have dx := d.set (d.get (show n < ls.length by omega)).not n
  have dy := d'.set (d'.get (show n < ms.length by omega)).not n
  refine g_fold (e := 27) (g := gx) (k := n + 1) (cap := xc) (size := 1) (xs := (ls.set n (nt (ls[n]'(by omega)))).map encI) (by repeat' (first | exact Take.here | apply Take.there)) x1 x2 (by rw [List.length_set]; exact x3) (by show List.take _ (List.set _ (0 + (((n + 1 : Nat) : Int) - 1).toNat * 1) _) = _; rw [hi]; exact set_own x4) ?_
  refine g_fold (e := 27) (g := gy) (k := n + 1) (cap := yc) (size := 1) (xs := (ms.set n (nt (ms[n]'(by omega)))).map encI) (by repeat' (first | exact Take.here | apply Take.there)) y1 y2 (by rw [List.length_set]; exact y3) (by show List.take _ (List.set _ (0 + (((n + 1 : Nat) : Int) - 1).toNat * 1) _) = _; rw [hi]; exact set_own y4) ?_
  have ex : (ls.set n (nt (ls[n]'(by omega)))).length = n + 1 := by rw [List.length_set]; exact h1
  have ey : (ms.set n (nt (ms[n]'(by omega)))).length = n + 1 := by rw [List.length_set]; exact h2
  refine g_call (Hin := [MkB mb p, Gr p S]) (Hr := ?hr16) (R := ?rr16) rfl rfl rfl ?hin16 ?hc16 ?hk16
  case hin16 => repeat' (first | exact Cover.nil | exact Take.here | apply Cover.cons | apply Take.there)
  case hc16 => intro ρ' hρ hR; exact below_n mb p hw ex ey (by omega) (by omega) (RSl.of_own (Take.ro (A := OwnSl 27 1 (some ⟨gx, 0, none⟩) (n + 1) xc ((ls.set n (nt (ls[n]'(by omega)))).map encI)) (by repeat' (first | exact Take.here | apply Take.there)) hR)) (RSl.of_own (Take.ro (A := OwnSl 27 1 (some ⟨gy, 0, none⟩) (n + 1) yc ((ms.set n (nt (ms[n]'(by omega)))).map encI)) (by repeat' (first | exact Take.here | apply Take.there)) hR)) dx dy
  rintro _ _ ⟨l, T, rfl, rfl, u, d2⟩
  refine g_pure (p_assign rfl) rfl ?_
  refine g_nil ?_
  refine g_qt ?_
  refine g_ret ?_
  refine g_post (rs := [.tmp 6]) rfl (.tmp rfl .nil) ⟨l, T, rfl, rfl, u, d2.congr fun i => ?_⟩ (by repeat' (first | exact Cover.nil | exact Take.here | apply Cover.cons | apply Take.there))
  unfold lessF flipF
  rw [d.len, show ls.length - 1 = n by omega]
end Go.Proofs.Ytkebblmmgcgjkaa
