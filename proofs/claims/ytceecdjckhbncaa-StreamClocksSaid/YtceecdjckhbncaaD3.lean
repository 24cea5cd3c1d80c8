/- Chapter 16: StreamFby, StreamPresence. Conditions: none. -/
import Derived.Test.YtceecdjckhbncaaD2
namespace Go.Z.Val
set_option linter.unusedVariables false
set_option linter.unusedSimpArgs false
set_option linter.unusedSectionVars false
open Go Go.Z
theorem there_clean {c : Ce} (h : thereB c = true) : thereB (cleanF c) = true := by rw [thereB_clean]; exact h
theorem lastF_there (a : List Ce) : ∀ t, thereB (lastF a t) = true
  | 0 => rfl
  | t + 1 => by
    unfold lastF
    split
    · exact there_clean (by assumption)
    · exact lastF_there a t
theorem PreF_there (a : List Ce) (t : Nat) : thereB (PreF a t) = thereB (at0 a t) := by
  unfold PreF
  split
  · rw [lastF_there]; exact (by assumption : thereB (at0 a t) = true).symm
  · have h : ¬ thereB (at0 a t) = true := by assumption
    rw [Bool.not_eq_true] at h; rw [h]; rfl
theorem at0_range (f : Nat → Ce) {n t : Nat} (h : t < n) : at0 ((List.range n).map f) t = f t := by
  unfold at0; rw [List.getD_eq_getElem?_getD, List.getElem?_map, List.getElem?_range h]; rfl
theorem lastB_there (a b : List Ce) : ∀ t, firstF a b t = false → thereB (lastB a b t) = true
  | 0 => fun h => by cases h
  | t + 1 => fun h => by
    cases hj : jointF [a, b] t with
    | true =>
      rw [lastB_go hj]
      rw [joint2, Bool.and_eq_true] at hj
      exact there_clean hj.2
    | false =>
      rw [lastB_skip hj]
      rw [firstF_skip hj] at h
      exact lastB_there a b t h
theorem FbyF_there (a b : List Ce) (t : Nat) : thereB (FbyF a b t) = jointF [a, b] t := by
  unfold FbyF
  cases hj : jointF [a, b] t with
  | false => rfl
  | true =>
    rw [if_pos rfl]
    cases hf : firstF a b t with
    | true =>
      rw [joint2, Bool.and_eq_true] at hj
      rw [if_pos rfl]; exact there_clean hj.1
    | false => rw [if_neg (by simp)]; exact lastB_there a b t hf
theorem ArrowF_there (a b : List Ce) (t : Nat) : thereB (ArrowF a b t) = jointF [a, b] t := by
  unfold ArrowF
  cases hj : jointF [a, b] t with
  | false => rfl
  | true =>
    rw [joint2, Bool.and_eq_true] at hj
    rw [if_pos rfl]
    split
    · exact there_clean hj.1
    · exact there_clean hj.2
theorem LiftG_there (op : Int) (l : List (List Ce)) (t : Nat) : thereB (LiftG op l t) = jointF l t := by
  unfold LiftG
  cases hj : jointF l t with
  | false => rfl
  | true =>
    rw [if_pos rfl]
    unfold liftF
    rw [cellsAt_all, hj, if_pos rfl]
    split <;> rfl
/-- a delay with an initial value is an initial value in front of a delay -/
theorem fby_arrow {a b : List Ce} (hn : a.length = b.length) (hs : ∀ t, t < a.length → thereB (at0 a t) = thereB (at0 b t)) : FbyL a b = ArrowL a (PreL b) := by
  have hl : (PreL b).length = b.length := by simp [PreL]
  have hat : ∀ t, t < b.length → at0 (PreL b) t = PreF b t := fun t ht => at0_range _ ht
  have hj : ∀ t, t < b.length → jointF [a, PreL b] t = jointF [a, b] t := fun t ht => by
    rw [joint2, joint2, hat t ht, PreF_there]
  have hf : ∀ t, t ≤ b.length → firstF a (PreL b) t = firstF a b t := by
    intro t
    induction t with
    | zero => intro _; rfl
    | succ t ih =>
      intro ht
      show (_ && _) = (_ && _)
      rw [ih (by omega), hj t (by omega)]
  have hlb : ∀ t, t ≤ b.length → firstF a b t = false → lastB a b t = lastF b t := by
    intro t
    induction t with
    | zero => intro _ h; cases h
    | succ t ih =>
      intro ht h
      have hsame := hs t (by omega)
      cases hjt : jointF [a, b] t with
      | true =>
        have h2 := hjt
        rw [joint2, Bool.and_eq_true] at h2
        rw [lastB_go hjt]
        show _ = (if _ then _ else _)
        rw [if_pos h2.2]
      | false =>
        have h2 := hjt
        rw [joint2, hsame, Bool.and_self] at h2
        rw [lastB_skip hjt]
        rw [firstF_skip hjt] at h
        show _ = (if _ then _ else _)
        rw [if_neg (by rw [h2]; simp)]
        exact ih (by omega) h
  unfold FbyL ArrowL
  rw [hl]
  refine List.map_congr_left fun t ht => ?_
  have ht := List.mem_range.1 ht
  have htb : t < b.length := by omega
  unfold FbyF ArrowF
  rw [hj t htb, hf t (by omega), hat t htb]
  cases hjt : jointF [a, b] t with
  | false => rfl
  | true =>
    rw [joint2, Bool.and_eq_true] at hjt
    have hp : PreF b t = lastF b t := by unfold PreF; rw [if_pos hjt.2]
    rw [hp, lastF_clean]
    cases hft : firstF a b t with
    | true => rfl
    | false => rw [if_pos rfl, if_pos rfl, if_neg (by simp), if_neg (by simp)]; exact hlb t (by omega) hft
theorem g_peek {M : Mx} {n : Nat} {L : Fr} {H H' : List Assn} {T : Act → World → Prop} {e : TypeId} {o : Option Addr} {c : Nat} {xs : List Ce} (tk : Take H (OwnSl e 2 o xs.length c (xs.flatMap encC)) H') {i : Nat} (hi : i < xs.length)
    (k : ∀ (g : Nat) (cur : List Value), o = some ⟨g, 0, none⟩ → xs.length ≤ c → c ≤ 9223372036854775807 → cur.length = c * 2 → cur.take (xs.length * 2) = xs.flatMap encC → sub cur (0 + (i : Int).toNat * 2) 2 = some (encC (at0 xs i)) → G M n L (Blk g (.cells cur.toArray e (0, 0)) :: H') T) : G M n L H T := by
  refine g_own tk (fun _ h _ _ => absurd h (by omega)) fun g cur p1 p2 p3 p4 p5 p6 => k g cur p1 p2 p3 p4 p5 ?_
  rw [at0_eq hi]
  have := rows_at encC 2 encC_len xs i hi
  have h2 := sub_of (cs := xs.flatMap encC) (xs := xs.flatMap encC) (o := 0) (i := i * 2) (k := 2) (fun j v h => by rw [Nat.zero_add]; exact h) (by omega) this.2
  rw [this.1] at h2
  exact sub_take (N := xs.length * 2) (by rw [p5]; simpa using h2)
end Go.Z.Val
namespace Go.Proofs.Ytceecdjckhbncaa
open Go Go.Z Go.Z.Val

theorem dthere_at {ρ : Nat → Obj → Prop} {c : Ce} {x : Bool} (h : thereB c = x) : Con Try.prog ρ 18 #[aggC c] [] (fun v H => v = .bool x ∧ H = []) := by
  have := dthere_ok (ρ := ρ) c
  rw [h] at this; exact this

theorem sfby_ok {ρ : Nat → Obj → Prop} {a b : List Ce} {aa ba : Option Addr} {ac bc : Nat} (ha : RSl ρ 2 aa a.length (a.flatMap encC)) (hb : RSl ρ 2 ba b.length (b.flatMap encC)) (hca : a.length ≤ ac) (hcb : b.length ≤ bc) :
    Con Try.prog ρ 4 #[.slice aa a.length ac, .slice ba b.length bc] [] (fun v _ => v = .bool true) := by
  refine con_intro Try.func4 Try.call4 rfl Try.ntmps4 rfl (L := [(0, _), (1, _)]) rfl fun w hh => ?_
  refine g_seq ?_
  refine g_region ?_
  refine g_pure (p_assign rfl) rfl ?_
  refine g_nil ?_
  refine g_qt ?_
  refine g_seq ?_
  refine g_seq ?_
  refine g_region ?_
  refine g_pure (p_move rfl) rfl ?_
  refine g_pure (p_move rfl) rfl ?_
  refine g_eff (e_bs (xs := [.tmp 7, .tmp 8]) rfl rfl rfl (by rfl) (by rfl) rfl (by rfl)) rfl (fun _ _ => ?_)
  rintro ⟨b9, rfl, rfl⟩
  refine g_call (Hin := []) (Hr := ?hr1) (R := ?rr1) rfl rfl rfl ?hin1 ?hc1 ?hk1
  case hin1 => repeat' (first | exact Cover.nil | exact Take.here | apply Cover.cons | apply Take.there)
  case hc1 => intro ρ' hρ hR; exact long_ok (l := [a, b]) (SlS.of2 hR.1.blk (ha.mono hρ) (hb.mono hρ))
  rintro _ _ ⟨lg, rfl, rfl, hlg⟩
  refine g_nil ?_
  refine g_qt ?_
  cases lg with
  | true =>
    refine g_ift rfl ?_
    refine g_seq ?_
    refine g_region ?_
    refine g_call (Hin := []) (Hr := ?hr2) (R := ?rr2) rfl rfl rfl ?hin2 ?hc2 ?hk2
    case hin2 => repeat' (first | exact Cover.nil | exact Take.here | apply Cover.cons | apply Take.there)
    case hc2 => intro ρ' hρ hR; exact lives_ok
    rintro _ _ ⟨rfl, rfl⟩
    refine g_pure (p_assign rfl) rfl ?_
    refine g_nil ?_
    refine g_qt ?_
    refine g_ret ?_
    refine g_qt_ret ?_
    exact g_post (Ho := []) (rs := [.tmp 4]) rfl (.tmp rfl .nil) rfl .nil
  | false =>
    obtain ⟨-, hlens⟩ := hlg rfl
    have hla := hlens a (by simp)
    have hlb := hlens b (by simp)
    obtain ⟨n, hn⟩ : ∃ n, n = min a.length b.length := ⟨_, rfl⟩
    have hni : min ((a.length : Nat) : Int) ((b.length : Nat) : Int) = (n : Int) := by omega
    have hA := ha.pre encC_len (m := n) (by omega)
    have hB := hb.pre encC_len (m := n) (by omega)
    have hAl : (a.take n).length = n := by rw [List.length_take]; omega
    have hBl : (b.take n).length = n := by rw [List.length_take]; omega
    generalize a.take n = A at *
    generalize b.take n = B at *
    have htn : (n : Int).toNat = n := by omega
    have hB' : RSl ρ 2 ba n (B.flatMap encC) := by rw [hBl] at hB; exact hB
    have hA' : RSl ρ 2 aa n (A.flatMap encC) := by rw [hAl] at hA; exact hA
    obtain ⟨_, b1, o1, k1, T1, f1, h1⟩ := id hA'
    obtain ⟨_, b2, o2, k2, T2, f2, h2⟩ := id hB'
    refine g_iff rfl ?_
    refine g_skip ?_
    refine g_qt ?_
    refine g_seq ?_
    refine g_region ?_
    refine g_pure (p_move rfl) rfl ?_
    refine g_pure (p_len (by rfl) rfl) rfl ?_
    refine g_pure (p_move rfl) rfl ?_
    refine g_pure (p_len (by rfl) rfl) rfl ?_
    refine g_pure (p_min rfl rfl) rfl ?_
    refine g_pure (p_assign rfl) rfl ?_
    refine g_nil ?_
    refine g_qt ?_
    refine g_seq ?_
    refine m_begin0 (.fl 0 0 (.fl 1 0 (.fl 2 0 (.fl 3 0 (.fl 4 0 (.fl 5 0 (.fl 6 0 (.fl 7 0 .done)))))))) (by kernel_rfl) (by kernel_rfl) ?_
    refine m_float0 rfl (fun _ _ => p_move rfl) rfl ?_
    refine m_float0 rfl (fun _ _ => p_move rfl) rfl ?_
    refine m_float0 rfl (fun _ _ => p_sliceh rfl rfl (by omega)) rfl ?_
    refine m_float0 rfl (fun _ _ => p_move rfl) rfl ?_
    refine m_float0 rfl (fun _ _ => p_move rfl) rfl ?_
    refine m_float0 rfl (fun _ _ => p_sliceh rfl rfl (by omega)) rfl ?_
    refine m_float0 rfl (fun _ _ => p_assign rfl) rfl ?_
    refine m_float0 rfl (fun _ _ => p_assign rfl) rfl ?_
    refine m_nil ?_
    refine g_qt ?_
    refine g_seq ?_
    refine g_seq ?_
    refine g_region ?_
    refine g_pure (p_assign rfl) rfl ?_
    refine g_nil ?_
    refine g_qt ?_
    refine g_block ?_
    rw [hni, htn]
    refine g_loop (fun i : Nat => [(0, .slice aa n ac), (1, .slice ba n bc), (5, .int .i64 n), (6, .int .i64 i)]) (fun _ => []) (fun i => i ≤ n ∧ ∀ t, t < i → thereB (at0 A t) = thereB (at0 B t)) (fun i => n - i) 0 ⟨Nat.zero_le _, fun t h => absurd h (Nat.not_lt_zero t)⟩ (by (repeat (first | exact trivial | refine ⟨by rfl, ?_⟩)); done) (by repeat' (first | exact Cover.nil | exact Take.here | apply Cover.cons | apply Take.there)) ?_
    rintro i ⟨hi, hall⟩
    refine g_seq ?_
    refine g_seq ?_
    refine g_region ?_
    refine g_pure (p_move rfl) rfl ?_
    refine g_pure (p_move rfl) rfl ?_
    refine g_pure (p_lss rfl rfl) rfl ?_
    refine g_nil ?_
    refine g_qt ?_
    refine g_ifd rfl (fun q => ?_) (fun q => ?_)
    · have hia : i < A.length := by omega
      have hib : i < B.length := by omega
      obtain ⟨l1, l2, l3⟩ := h1 (by omega)
      obtain ⟨m1, m2, m3⟩ := h2 (by omega)
      obtain ⟨x0, -, -⟩ := cell_at l3 hia
      obtain ⟨y0, -, -⟩ := cell_at m3 hib
      have x0' : sub k1 (o1 + (i : Int).toNat * 2) 2 = some (encC (at0 A i)) := by rw [at0_eq hia]; exact x0
      have y0' : sub k2 (o2 + (i : Int).toNat * 2) 2 = some (encC (at0 B i)) := by rw [at0_eq hib]; exact y0
      clear x0 y0
      refine g_skip ?_
      refine g_qt ?_
      refine g_seq ?_
      refine g_block ?_
      refine g_seq ?_
      refine m_begin0 (.fl 0 0 (.fl 1 0 (.fl 2 0 (.fl 3 1 (.fl 5 0 (.fl 6 0 (.fl 7 0 (.fl 8 1 (.ef 4 (.ef 9 (.fl 10 0 .done))))))))))) (by kernel_rfl) (by kernel_rfl) ?_
      refine m_float0 rfl (fun _ _ => p_move rfl) rfl ?_
      refine m_float0 rfl (fun _ _ => p_move rfl) rfl ?_
      refine m_float0 rfl (fun _ _ => p_indexAddr rfl rfl (by omega) (fun _ => l1)) rfl ?_
      refine m_float rfl (p_loadN (by rfl) rfl (Has.ro l2) x0') rfl ?_
      refine m_float0 rfl (fun _ _ => p_move rfl) rfl ?_
      refine m_float0 rfl (fun _ _ => p_move rfl) rfl ?_
      refine m_float0 rfl (fun _ _ => p_indexAddr rfl rfl (by omega) (fun _ => m1)) rfl ?_
      refine m_float rfl (p_loadN (by rfl) rfl (Has.ro m2) y0') rfl ?_
      refine m_call (Hin := []) (Hr := ?hr3) (R := ?rr3) rfl wantedN rfl rfl rfl ?hin3 ?hc3 ?hk3
      case hin3 => repeat' (first | exact Cover.nil | exact Take.here | apply Cover.cons | apply Take.there)
      case hc3 => intro ρ' hρ hR; exact dthere_ok (at0 A i)
      rintro _ _ ⟨rfl, rfl⟩
      refine ⟨.some (by repeat' (first | exact Cover.nil | exact Take.here | apply Cover.cons | apply Take.there)), ?_⟩
      refine m_call (Hin := []) (Hr := ?hr4) (R := ?rr4) rfl wantedN rfl rfl rfl ?hin4 ?hc4 ?hk4
      case hin4 => repeat' (first | exact Cover.nil | exact Take.here | apply Cover.cons | apply Take.there)
      case hc4 => intro ρ' hρ hR; exact dthere_ok (at0 B i)
      rintro _ _ ⟨rfl, rfl⟩
      refine ⟨.none (by kernel_rfl), ?_⟩
      refine m_float0 rfl (fun _ _ => p_neqb (by rfl) rfl rfl) rfl ?_
      refine m_nil ?_
      refine g_qt ?_
      refine g_if rfl (fun r => ?_) (fun r => ?_)
      · refine g_seq ?_
        refine g_region ?_
        refine g_call (Hin := []) (Hr := ?hr5) (R := ?rr5) rfl rfl rfl ?hin5 ?hc5 ?hk5
        case hin5 => repeat' (first | exact Cover.nil | exact Take.here | apply Cover.cons | apply Take.there)
        case hc5 => intro ρ' hρ hR; exact lives_ok
        rintro _ _ ⟨rfl, rfl⟩
        refine g_pure (p_assign rfl) rfl ?_
        refine g_nil ?_
        refine g_qt ?_
        refine g_ret ?_
        refine g_qb_ret ?_
        refine g_qt_ret ?_
        refine g_qn_ret ?_
        refine g_qb_ret ?_
        refine g_qt_ret ?_
        exact g_post (Ho := []) (rs := [.tmp 4]) rfl (.tmp rfl .nil) rfl .nil
      · have hr : thereB (at0 A i) = thereB (at0 B i) := by simpa using r
        refine g_skip ?_
        refine g_qb ?_
        refine g_qt ?_
        refine g_region ?_
        refine g_pure (p_move rfl) rfl ?_
        first | refine g_pure (p_addi rfl rfl (by omega)) rfl ?_ | refine g_pure (p_add rfl rfl) rfl ?_
        refine g_pure (p_assign rfl) rfl ?_
        refine g_nil ?_
        refine g_qn ?_
        refine g_next (i + 1) (by (repeat (first | exact trivial | refine ⟨by rfl, ?_⟩)); done) (by repeat' (first | exact Cover.nil | exact Take.here | apply Cover.cons | apply Take.there)) ⟨by omega, fun t ht => ?_⟩ (by omega)
        by_cases e : t = i
        · rw [e]; exact hr
        · exact hall t (by omega)
    · obtain rfl : i = n := by omega
      have hfa := fby_arrow (a := A) (b := B) (by omega) (fun t ht => hall t (by omega))
      have hp : (PreL B).length = B.length := by simp [PreL]
      have hf : (FbyL A B).length ≤ 1000000 := by simp [FbyL]; omega
      have hfby := fun (ρ' : Nat → Obj → Prop) (h1 : RSl ρ' 2 aa A.length (A.flatMap encC)) (h2 : RSl ρ' 2 ba B.length (B.flatMap encC)) => fby_ok (ac := ac) (bc := bc) h1 h2 (by omega)
      have hpre := fun (ρ' : Nat → Obj → Prop) (h2 : RSl ρ' 2 ba B.length (B.flatMap encC)) => pre_ok (ac := bc) h2 (by omega)
      have harr := fun (ρ' : Nat → Obj → Prop) (h1 : RSl ρ' 2 aa A.length (A.flatMap encC)) (o : Option Addr) (c : Nat) (h2 : RSl ρ' 2 o (PreL B).length ((PreL B).flatMap encC)) => arrow_ok (ac := ac) (bc := c) h1 h2 (by omega)
      rw [hAl] at hfby harr
      rw [hBl] at hfby hpre
      refine g_exit ?_
      refine g_qt_exit ?_
      refine g_qn_exit ?_
      refine g_qb_exit ?_
      refine g_qt ?_
      refine g_seq ?_
      refine g_region ?_
      refine g_pure (p_move rfl) rfl ?_
      refine g_pure (p_move rfl) rfl ?_
      refine g_call (Hin := []) (Hr := ?hr6) (R := ?rr6) rfl rfl rfl ?hin6 ?hc6 ?hk6
      case hin6 => repeat' (first | exact Cover.nil | exact Take.here | apply Cover.cons | apply Take.there)
      case hc6 => intro ρ' hρ hR; exact hfby ρ' (hA'.mono hρ) (hB'.mono hρ)
      rintro _ _ ⟨o1, c1, rfl, rfl⟩
      refine g_pure (p_move rfl) rfl ?_
      refine g_pure (p_move rfl) rfl ?_
      refine g_call (Hin := []) (Hr := ?hr7) (R := ?rr7) rfl rfl rfl ?hin7 ?hc7 ?hk7
      case hin7 => repeat' (first | exact Cover.nil | exact Take.here | apply Cover.cons | apply Take.there)
      case hc7 => intro ρ' hρ hR; exact hpre ρ' (hB'.mono hρ)
      rintro _ _ ⟨o2, c2, rfl, rfl⟩
      refine g_call (Hin := []) (Hr := ?hr8) (R := ?rr8) rfl rfl rfl ?hin8 ?hc8 ?hk8
      case hin8 => repeat' (first | exact Cover.nil | exact Take.here | apply Cover.cons | apply Take.there)
      case hc8 => intro ρ' hρ hR; exact harr ρ' (hA'.mono hρ) o2 c2 (RSl.of_own hR.1)
      rintro _ _ ⟨o3, c3, rfl, rfl⟩
      rw [← hfa]
      refine g_call (Hin := []) (Hr := ?hr9) (R := ?rr9) rfl rfl rfl ?hin9 ?hc9 ?hk9
      case hin9 => repeat' (first | exact Cover.nil | exact Take.here | apply Cover.cons | apply Take.there)
      case hc9 => intro ρ' hρ hR; exact same_ok (xs := FbyL A B) (ys := FbyL A B) rfl rfl (RSl.of_own hR.2.2.1) (RSl.of_own hR.1) hf hf
      rintro _ _ ⟨rfl, rfl⟩
      rw [decide_eq_true rfl]
      refine g_pure (p_move rfl) rfl ?_
      refine g_yes rfl rfl ?_
      refine g_call (Hin := []) (Hr := ?hr10) (R := ?rr10) rfl rfl rfl ?hin10 ?hc10 ?hk10
      case hin10 => repeat' (first | exact Cover.nil | exact Take.here | apply Cover.cons | apply Take.there)
      case hc10 => intro ρ' hρ hR; exact lives_ok
      rintro _ _ ⟨rfl, rfl⟩
      first | refine g_pure (p_pickt rfl rfl) rfl ?_ | refine g_pure (p_pickf rfl rfl) rfl ?_
      refine g_pure (p_assign rfl) rfl ?_
      refine g_nil ?_
      refine g_qt ?_
      refine g_ret ?_
      exact g_post (Ho := []) (rs := [.tmp 4]) rfl (.tmp rfl .nil) rfl .nil

theorem spresence_ok {ρ : Nat → Obj → Prop} {a b : List Ce} {aa ba : Option Addr} {ac bc : Nat} (ha : RSl ρ 2 aa a.length (a.flatMap encC)) (hb : RSl ρ 2 ba b.length (b.flatMap encC)) :
    Con Try.prog ρ 5 #[.slice aa a.length ac, .slice ba b.length bc] [] (fun v _ => v = .bool true) := by
  obtain ⟨_, ba1, oa1, ka1, Ta1, fa1, hha⟩ := id ha
  obtain ⟨_, bb1, ob1, kb1, Tb1, fb1, hhb⟩ := id hb
  refine con_intro Try.func5 Try.call5 rfl Try.ntmps5 rfl (L := [(0, _), (1, _)]) rfl fun w hh => ?_
  refine g_seq ?_
  refine g_region ?_
  refine g_pure (p_assign rfl) rfl ?_
  refine g_nil ?_
  refine g_qt ?_
  refine g_seq ?_
  refine g_seq ?_
  refine g_region ?_
  refine g_pure (p_move rfl) rfl ?_
  refine g_pure (p_move rfl) rfl ?_
  refine g_eff (e_bs (xs := [.tmp 13, .tmp 14]) rfl rfl rfl (by rfl) (by rfl) rfl (by rfl)) rfl (fun _ _ => ?_)
  rintro ⟨b15, rfl, rfl⟩
  refine g_call (Hin := []) (Hr := ?hr11) (R := ?rr11) rfl rfl rfl ?hin11 ?hc11 ?hk11
  case hin11 => repeat' (first | exact Cover.nil | exact Take.here | apply Cover.cons | apply Take.there)
  case hc11 => intro ρ' hρ hR; exact long_ok (l := [a, b]) (SlS.of2 hR.1.blk (ha.mono hρ) (hb.mono hρ))
  rintro _ _ ⟨lg, rfl, rfl, hlg⟩
  refine g_nil ?_
  refine g_qt ?_
  cases lg with
  | true =>
    refine g_ift rfl ?_
    refine g_seq ?_
    refine g_region ?_
    refine g_call (Hin := []) (Hr := ?hr12) (R := ?rr12) rfl rfl rfl ?hin12 ?hc12 ?hk12
    case hin12 => repeat' (first | exact Cover.nil | exact Take.here | apply Cover.cons | apply Take.there)
    case hc12 => intro ρ' hρ hR; exact lives_ok
    rintro _ _ ⟨rfl, rfl⟩
    refine g_pure (p_assign rfl) rfl ?_
    refine g_nil ?_
    refine g_qt ?_
    refine g_ret ?_
    refine g_qt_ret ?_
    exact g_post (Ho := []) (rs := [.tmp 4]) rfl (.tmp rfl .nil) rfl .nil
  | false =>
    obtain ⟨-, hlens⟩ := hlg rfl
    have hla := hlens a (by simp)
    have hlb := hlens b (by simp)
    have hlm := lenF2 a b
    have hP : (PreL a).length = a.length := by simp [PreL]
    have hFl : (FbyL a b).length = min a.length b.length := by simp [FbyL]
    have hAl : (ArrowL a b).length = min a.length b.length := by simp [ArrowL]
    have hLl : (LiftL 6 [a, b]).length = min a.length b.length := by simp [LiftL, hlm]
    have hPa : ∀ t, t < a.length → thereB (at0 (PreL a) t) = thereB (at0 a t) := fun t ht => by rw [PreL, at0_range _ ht, PreF_there]
    have hFa : ∀ t, t < min a.length b.length → thereB (at0 (FbyL a b) t) = jointF [a, b] t := fun t ht => by rw [FbyL, at0_range _ ht, FbyF_there]
    have hAa : ∀ t, t < min a.length b.length → thereB (at0 (ArrowL a b) t) = jointF [a, b] t := fun t ht => by rw [ArrowL, at0_range _ ht, ArrowF_there]
    have hLa : ∀ t, t < min a.length b.length → thereB (at0 (LiftL 6 [a, b]) t) = jointF [a, b] t := fun t ht => by rw [LiftL, at0_range _ (by rw [hlm]; exact ht), LiftG_there]
    obtain ⟨n, hn⟩ : ∃ n, n = min a.length b.length := ⟨_, rfl⟩
    have hni : min ((a.length : Nat) : Int) ((b.length : Nat) : Int) = (n : Int) := by omega
    rw [← hn] at hFl hAl hLl hFa hAa hLa
    refine g_iff rfl ?_
    refine g_skip ?_
    refine g_qt ?_
    refine g_seq ?_
    refine g_region ?_
    refine g_pure (p_move rfl) rfl ?_
    refine g_call (Hin := []) (Hr := ?hr13) (R := ?rr13) rfl rfl rfl ?hin13 ?hc13 ?hk13
    case hin13 => repeat' (first | exact Cover.nil | exact Take.here | apply Cover.cons | apply Take.there)
    case hc13 => intro ρ' hρ hR; exact pre_ok (a := a) (ha.mono hρ) (by omega)
    rintro _ _ ⟨o1, c1, rfl, rfl⟩
    refine g_pure (p_assign rfl) rfl ?_
    refine g_nil ?_
    refine g_qt ?_
    refine g_seq ?_
    refine g_region ?_
    refine g_pure (p_move rfl) rfl ?_
    refine g_pure (p_move rfl) rfl ?_
    refine g_call (Hin := []) (Hr := ?hr14) (R := ?rr14) rfl rfl rfl ?hin14 ?hc14 ?hk14
    case hin14 => repeat' (first | exact Cover.nil | exact Take.here | apply Cover.cons | apply Take.there)
    case hc14 => intro ρ' hρ hR; exact fby_ok (a := a) (b := b) (ha.mono hρ) (hb.mono hρ) (by omega)
    rintro _ _ ⟨o2, c2, rfl, rfl⟩
    refine g_pure (p_move rfl) rfl ?_
    refine g_pure (p_move rfl) rfl ?_
    refine g_call (Hin := []) (Hr := ?hr15) (R := ?rr15) rfl rfl rfl ?hin15 ?hc15 ?hk15
    case hin15 => repeat' (first | exact Cover.nil | exact Take.here | apply Cover.cons | apply Take.there)
    case hc15 => intro ρ' hρ hR; exact arrow_ok (a := a) (b := b) (ha.mono hρ) (hb.mono hρ) (by omega)
    rintro _ _ ⟨o3, c3, rfl, rfl⟩
    refine g_pure (p_move rfl) rfl ?_
    refine g_pure (p_move rfl) rfl ?_
    refine g_eff (e_bs (xs := [.tmp 26, .tmp 27]) rfl rfl rfl (by rfl) (by rfl) rfl (by rfl)) rfl (fun _ _ => ?_)
    rintro ⟨b28, rfl, rfl⟩
    refine g_call (Hin := []) (Hr := ?hr16) (R := ?rr16) rfl rfl rfl ?hin16 ?hc16 ?hk16
    case hin16 => repeat' (first | exact Cover.nil | exact Take.here | apply Cover.cons | apply Take.there)
    case hc16 => intro ρ' hρ hR; exact slift_ok (op := 6) (l := [a, b]) (SlS.of2 hR.1.blk (ha.mono hρ) (hb.mono hρ)) (by simp) (by rw [hlm]; omega)
    rintro _ _ ⟨o4, c4, rfl, rfl⟩
    generalize PreL a = P at *
    generalize FbyL a b = Fb at *
    generalize ArrowL a b = Ar at *
    generalize LiftL 6 [a, b] = Li at *
    refine g_pure (p_assign rfl) rfl ?_
    refine g_pure (p_assign rfl) rfl ?_
    refine g_pure (p_assign rfl) rfl ?_
    refine g_nil ?_
    refine g_qt ?_
    refine g_seq ?_
    refine g_region ?_
    refine g_pure (p_move rfl) rfl ?_
    refine g_pure (p_len (by rfl) rfl) rfl ?_
    refine g_pure (p_move rfl) rfl ?_
    refine g_pure (p_len (by rfl) rfl) rfl ?_
    refine g_pure (p_min rfl rfl) rfl ?_
    refine g_pure (p_assign rfl) rfl ?_
    refine g_nil ?_
    refine g_qt ?_
    refine g_seq ?_
    refine g_seq ?_
    refine g_region ?_
    refine g_pure (p_move rfl) rfl ?_
    refine g_pure (p_len (by rfl) rfl) rfl ?_
    refine g_pure (p_move rfl) rfl ?_
    refine g_pure (p_len (by rfl) rfl) rfl ?_
    refine g_pure (p_neqF rfl rfl (by omega)) rfl ?_
    refine g_pure (p_move rfl) rfl ?_
    refine g_yes rfl rfl ?_
    refine g_pure (p_move rfl) rfl ?_
    refine g_yes rfl rfl ?_
    refine g_pure (p_len (by rfl) rfl) rfl ?_
    refine g_yes rfl rfl ?_
    refine g_pure (p_move rfl) rfl ?_
    refine g_yes rfl rfl ?_
    refine g_pure (p_neqF rfl rfl (by omega)) rfl ?_
    first | refine g_pure (p_pickt rfl rfl) rfl ?_ | refine g_pure (p_pickf rfl rfl) rfl ?_
    refine g_pure (p_move rfl) rfl ?_
    refine g_yes rfl rfl ?_
    refine g_pure (p_move rfl) rfl ?_
    refine g_yes rfl rfl ?_
    refine g_pure (p_len (by rfl) rfl) rfl ?_
    refine g_yes rfl rfl ?_
    refine g_pure (p_move rfl) rfl ?_
    refine g_yes rfl rfl ?_
    refine g_pure (p_neqF rfl rfl (by omega)) rfl ?_
    first | refine g_pure (p_pickt rfl rfl) rfl ?_ | refine g_pure (p_pickf rfl rfl) rfl ?_
    refine g_pure (p_move rfl) rfl ?_
    refine g_yes rfl rfl ?_
    refine g_pure (p_move rfl) rfl ?_
    refine g_yes rfl rfl ?_
    refine g_pure (p_len (by rfl) rfl) rfl ?_
    refine g_yes rfl rfl ?_
    refine g_pure (p_move rfl) rfl ?_
    refine g_yes rfl rfl ?_
    refine g_pure (p_neqF rfl rfl (by omega)) rfl ?_
    first | refine g_pure (p_pickt rfl rfl) rfl ?_ | refine g_pure (p_pickf rfl rfl) rfl ?_
    refine g_nil ?_
    refine g_qt ?_
    refine g_iff rfl ?_
    refine g_skip ?_
    refine g_qt ?_
    refine g_seq ?_
    refine g_seq ?_
    refine g_region ?_
    refine g_pure (p_assign rfl) rfl ?_
    refine g_nil ?_
    refine g_qt ?_
    refine g_block ?_
    rw [hni]
    refine g_loop (fun i : Nat => [(0, .slice aa a.length ac), (1, .slice ba b.length bc), (5, .slice o1 P.length c1), (6, .slice o2 Fb.length c2), (7, .slice o3 Ar.length c3), (8, .slice o4 Li.length c4), (9, .int .i64 n), (10, .int .i64 i)])
      (fun _ => [OwnSl 31 2 o1 P.length c1 (P.flatMap encC), OwnSl 31 2 o2 Fb.length c2 (Fb.flatMap encC), OwnSl 31 2 o3 Ar.length c3 (Ar.flatMap encC), OwnSl 31 2 o4 Li.length c4 (Li.flatMap encC)]) (fun i => i ≤ a.length) (fun i => a.length - i) 0 (Nat.zero_le _) (by (repeat (first | exact trivial | refine ⟨by rfl, ?_⟩)); done) (by repeat' (first | exact Cover.nil | exact Take.here | apply Cover.cons | apply Take.there)) ?_
    intro i hi
    refine g_seq ?_
    refine g_seq ?_
    refine g_region ?_
    refine g_pure (p_move rfl) rfl ?_
    refine g_pure (p_move rfl) rfl ?_
    refine g_pure (p_len (by rfl) rfl) rfl ?_
    refine g_pure (p_lss rfl rfl) rfl ?_
    refine g_nil ?_
    refine g_qt ?_
    refine g_ifd rfl (fun q => ?_) (fun q => ?_)
    · have hil : i < a.length := by omega
      have hilp : i < P.length := by omega
      refine g_peek (o := o1) .here hilp ?_
      rintro gp curp rfl p1 p2 p3 p4 hsub0
      obtain ⟨l1, l2, l3⟩ := hha (by omega)
      obtain ⟨x0, -, -⟩ := cell_at l3 hil
      have x0' : sub ka1 (oa1 + (i : Int).toNat * 2) 2 = some (encC (at0 a i)) := by rw [at0_eq hil]; exact x0
      clear x0
      have hpt := hPa i hil
      obtain ⟨y, hy⟩ : ∃ y, thereB (at0 a i) = y := ⟨_, rfl⟩
      rw [hy] at hpt
      refine g_skip ?_
      refine g_qt ?_
      refine g_seq ?_
      refine g_block ?_
      refine g_seq ?_
      refine m_begin0 (.fl 0 0 (.fl 1 0 (.fl 2 0 (.fl 3 1 (.fl 5 0 (.fl 6 0 (.fl 7 0 (.fl 8 1 (.ef 4 (.ef 9 (.fl 10 0 .done))))))))))) (by kernel_rfl) (by kernel_rfl) ?_
      refine m_float0 rfl (fun _ _ => p_move rfl) rfl ?_
      refine m_float0 rfl (fun _ _ => p_move rfl) rfl ?_
      refine m_float0 rfl (fun _ _ => p_indexAddr rfl rfl (by omega) (fun _ => rfl)) rfl ?_
      refine m_float rfl (p_loadN (by rfl) rfl (Has.own (by repeat' (first | exact Take.here | apply Take.there))) hsub0) rfl ?_
      refine m_float0 rfl (fun _ _ => p_move rfl) rfl ?_
      refine m_float0 rfl (fun _ _ => p_move rfl) rfl ?_
      refine m_float0 rfl (fun _ _ => p_indexAddr rfl rfl (by omega) (fun _ => l1)) rfl ?_
      refine m_float rfl (p_loadN (by rfl) rfl (Has.ro l2) x0') rfl ?_
      refine m_call (Hin := []) (Hr := ?hr17) (R := ?rr17) rfl wantedN rfl rfl rfl ?hin17 ?hc17 ?hk17
      case hin17 => repeat' (first | exact Cover.nil | exact Take.here | apply Cover.cons | apply Take.there)
      case hc17 => intro ρ' hρ hR; exact dthere_at (c := at0 P i) hpt
      rintro _ _ ⟨rfl, rfl⟩
      refine ⟨.some (by repeat' (first | exact Cover.nil | exact Take.here | apply Cover.cons | apply Take.there)), ?_⟩
      refine m_call (Hin := []) (Hr := ?hr18) (R := ?rr18) rfl wantedN rfl rfl rfl ?hin18 ?hc18 ?hk18
      case hin18 => repeat' (first | exact Cover.nil | exact Take.here | apply Cover.cons | apply Take.there)
      case hc18 => intro ρ' hρ hR; exact dthere_at (c := at0 a i) hy
      rintro _ _ ⟨rfl, rfl⟩
      refine ⟨.none (by kernel_rfl), ?_⟩
      refine m_float0 rfl (fun _ _ => p_neqb (by rfl) rfl rfl) rfl ?_
      refine m_nil ?_
      refine g_qt ?_
      refine g_if rfl (fun r => ?_) (fun r => ?_)
      · exfalso; simp at r
      · refine g_fold (k := P.length) (cap := c1) (size := 2) (g := gp) (by repeat' (first | exact Take.here | apply Take.there)) p1 p2 p3 p4 ?_
        refine g_skip ?_
        refine g_qb ?_
        refine g_qt ?_
        refine g_region ?_
        refine g_pure (p_move rfl) rfl ?_
        first | refine g_pure (p_addi rfl rfl (by omega)) rfl ?_ | refine g_pure (p_add rfl rfl) rfl ?_
        refine g_pure (p_assign rfl) rfl ?_
        refine g_nil ?_
        refine g_qn ?_
        exact g_next (i + 1) (by (repeat (first | exact trivial | refine ⟨by rfl, ?_⟩)); done) (by repeat' (first | exact Cover.nil | exact Take.here | apply Cover.cons | apply Take.there)) (by omega) (by omega)
    · refine g_exit ?_
      refine g_qt_exit ?_
      refine g_qn_exit ?_
      refine g_qb_exit ?_
      refine g_qt ?_
      refine g_seq ?_
      refine g_seq ?_
      refine g_region ?_
      refine g_pure (p_assign rfl) rfl ?_
      refine g_nil ?_
      refine g_qt ?_
      refine g_block ?_
      refine g_loop (fun i : Nat => [(0, .slice aa a.length ac), (1, .slice ba b.length bc), (6, .slice o2 Fb.length c2), (7, .slice o3 Ar.length c3), (8, .slice o4 Li.length c4), (9, .int .i64 n), (11, .int .i64 i)])
        (fun _ => [OwnSl 31 2 o2 Fb.length c2 (Fb.flatMap encC), OwnSl 31 2 o3 Ar.length c3 (Ar.flatMap encC), OwnSl 31 2 o4 Li.length c4 (Li.flatMap encC)]) (fun i => i ≤ n) (fun i => n - i) 0 (Nat.zero_le _) (by (repeat (first | exact trivial | refine ⟨by rfl, ?_⟩)); done) (by repeat' (first | exact Cover.nil | exact Take.here | apply Cover.cons | apply Take.there)) ?_
      intro i hi
      refine g_seq ?_
      refine g_seq ?_
      refine g_region ?_
      refine g_pure (p_move rfl) rfl ?_
      refine g_pure (p_move rfl) rfl ?_
      refine g_pure (p_lss rfl rfl) rfl ?_
      refine g_nil ?_
      refine g_qt ?_
      refine g_ifd rfl (fun s => ?_) (fun s => ?_)
      · have hia : i < a.length := by omega
        have hib : i < b.length := by omega
        obtain ⟨l1, l2, l3⟩ := hha (by omega)
        obtain ⟨m1, m2, m3⟩ := hhb (by omega)
        obtain ⟨x0, -, -⟩ := cell_at l3 hia
        obtain ⟨y0, -, -⟩ := cell_at m3 hib
        have x0' : sub ka1 (oa1 + (i : Int).toNat * 2) 2 = some (encC (at0 a i)) := by rw [at0_eq hia]; exact x0
        have y0' : sub kb1 (ob1 + (i : Int).toNat * 2) 2 = some (encC (at0 b i)) := by rw [at0_eq hib]; exact y0
        clear x0 y0
        have hF1 := hFa i (by omega)
        have hA1 := hAa i (by omega)
        have hL1 := hLa i (by omega)
        rw [joint2] at hF1 hA1 hL1
        refine g_peek (o := o2) .here (i := i) (by omega) ?_
        rintro gf curf rfl f1 f2 f3 f4 f5
        refine g_peek (o := o3) (.there .here) (i := i) (by omega) ?_
        rintro ga cura rfl r1 r2 r3 r4 r5
        refine g_peek (o := o4) (.there (.there .here)) (i := i) (by omega) ?_
        rintro gl curl rfl s1 s2 s3 s4 s5
        cases h1 : thereB (at0 a i) with
        | false =>
          rw [h1, Bool.false_and] at hF1 hA1 hL1
          refine g_skip ?_
          refine g_qt ?_
          refine g_seq ?_
          refine g_block ?_
          refine g_seq ?_
          refine g_region ?_
          refine g_pure (p_move rfl) rfl ?_
          refine g_pure (p_move rfl) rfl ?_
          refine g_pure (p_indexAddr rfl rfl (by omega) (fun _ => l1)) rfl ?_
          refine g_pure (p_loadN (by rfl) rfl (Has.ro l2) x0') rfl ?_
          refine g_call (Hin := []) (Hr := ?hr19) (R := ?rr19) rfl rfl rfl ?hin19 ?hc19 ?hk19
          case hin19 => repeat' (first | exact Cover.nil | exact Take.here | apply Cover.cons | apply Take.there)
          case hc19 => intro ρ' hρ hR; exact dthere_at (c := at0 a i) h1
          rintro _ _ ⟨rfl, rfl⟩
          refine g_pure (p_move rfl) rfl ?_
          refine g_no rfl rfl rfl rfl ?_
          refine g_no rfl rfl rfl rfl ?_
          refine g_no rfl rfl rfl rfl ?_
          refine g_no rfl rfl rfl rfl ?_
          refine g_no rfl rfl rfl rfl ?_
          first | refine g_pure (p_pickt rfl rfl) rfl ?_ | refine g_pure (p_pickf rfl rfl) rfl ?_
          refine g_pure (p_assign rfl) rfl ?_
          refine g_nil ?_
          refine g_qt ?_
          refine g_seq ?_
          refine g_region ?_
          refine g_pure (p_move rfl) rfl ?_
          refine g_pure (p_move rfl) rfl ?_
          refine g_pure (p_indexAddr rfl rfl (by omega) (fun _ => rfl)) rfl ?_
          refine g_pure (p_loadN (by rfl) rfl (Has.own (by repeat' (first | exact Take.here | apply Take.there))) f5) rfl ?_
          refine g_call (Hin := []) (Hr := ?hr20) (R := ?rr20) rfl rfl rfl ?hin20 ?hc20 ?hk20
          case hin20 => repeat' (first | exact Cover.nil | exact Take.here | apply Cover.cons | apply Take.there)
          case hc20 => intro ρ' hρ hR; exact dthere_at (c := at0 Fb i) hF1
          rintro _ _ ⟨rfl, rfl⟩
          refine g_pure (p_move rfl) rfl ?_
          refine g_pure (p_neqb (by rfl) rfl rfl) rfl ?_
          refine g_pure (p_move rfl) rfl ?_
          refine g_yes rfl rfl ?_
          refine g_pure (p_move rfl) rfl ?_
          refine g_yes rfl rfl ?_
          refine g_pure (p_move rfl) rfl ?_
          refine g_yes rfl rfl ?_
          refine g_pure (p_indexAddr rfl rfl (by omega) (fun _ => rfl)) rfl ?_
          refine g_yes rfl rfl ?_
          refine g_pure (p_loadN (by rfl) rfl (Has.own (by repeat' (first | exact Take.here | apply Take.there))) r5) rfl ?_
          refine g_yes rfl rfl ?_
          refine g_call (Hin := []) (Hr := ?hr21) (R := ?rr21) rfl rfl rfl ?hin21 ?hc21 ?hk21
          case hin21 => repeat' (first | exact Cover.nil | exact Take.here | apply Cover.cons | apply Take.there)
          case hc21 => intro ρ' hρ hR; exact dthere_at (c := at0 Ar i) hA1
          rintro _ _ ⟨rfl, rfl⟩
          refine g_yes rfl rfl ?_
          refine g_pure (p_move rfl) rfl ?_
          refine g_yes rfl rfl ?_
          refine g_pure (p_neqb (by rfl) rfl rfl) rfl ?_
          first | refine g_pure (p_pickt rfl rfl) rfl ?_ | refine g_pure (p_pickf rfl rfl) rfl ?_
          refine g_pure (p_move rfl) rfl ?_
          refine g_yes rfl rfl ?_
          refine g_pure (p_move rfl) rfl ?_
          refine g_yes rfl rfl ?_
          refine g_pure (p_move rfl) rfl ?_
          refine g_yes rfl rfl ?_
          refine g_pure (p_indexAddr rfl rfl (by omega) (fun _ => rfl)) rfl ?_
          refine g_yes rfl rfl ?_
          refine g_pure (p_loadN (by rfl) rfl (Has.own (by repeat' (first | exact Take.here | apply Take.there))) s5) rfl ?_
          refine g_yes rfl rfl ?_
          refine g_call (Hin := []) (Hr := ?hr22) (R := ?rr22) rfl rfl rfl ?hin22 ?hc22 ?hk22
          case hin22 => repeat' (first | exact Cover.nil | exact Take.here | apply Cover.cons | apply Take.there)
          case hc22 => intro ρ' hρ hR; exact dthere_at (c := at0 Li i) hL1
          rintro _ _ ⟨rfl, rfl⟩
          refine g_yes rfl rfl ?_
          refine g_pure (p_move rfl) rfl ?_
          refine g_yes rfl rfl ?_
          refine g_pure (p_neqb (by rfl) rfl rfl) rfl ?_
          first | refine g_pure (p_pickt rfl rfl) rfl ?_ | refine g_pure (p_pickf rfl rfl) rfl ?_
          refine g_nil ?_
          refine g_qt ?_
          refine g_iff rfl ?_
          refine g_skip ?_
          refine g_qb ?_
          refine g_qt ?_
          refine g_region ?_
          refine g_pure (p_move rfl) rfl ?_
          first | refine g_pure (p_addi rfl rfl (by omega)) rfl ?_ | refine g_pure (p_add rfl rfl) rfl ?_
          refine g_pure (p_assign rfl) rfl ?_
          refine g_nil ?_
          refine g_qn ?_
          refine g_fold (k := Fb.length) (cap := c2) (size := 2) (g := gf) (by repeat' (first | exact Take.here | apply Take.there)) f1 f2 f3 f4 ?_
          refine g_fold (k := Ar.length) (cap := c3) (size := 2) (g := ga) (by repeat' (first | exact Take.here | apply Take.there)) r1 r2 r3 r4 ?_
          refine g_fold (k := Li.length) (cap := c4) (size := 2) (g := gl) (by repeat' (first | exact Take.here | apply Take.there)) s1 s2 s3 s4 ?_
          exact g_next (i + 1) (by (repeat (first | exact trivial | refine ⟨by rfl, ?_⟩)); done) (by repeat' (first | exact Cover.nil | exact Take.here | apply Cover.cons | apply Take.there)) (by omega) (by omega)
        | true =>
          rw [h1, Bool.true_and] at hF1 hA1 hL1
          obtain ⟨y, hy⟩ : ∃ y, thereB (at0 b i) = y := ⟨_, rfl⟩
          rw [hy] at hF1 hA1 hL1
          refine g_skip ?_
          refine g_qt ?_
          refine g_seq ?_
          refine g_block ?_
          refine g_seq ?_
          refine g_region ?_
          refine g_pure (p_move rfl) rfl ?_
          refine g_pure (p_move rfl) rfl ?_
          refine g_pure (p_indexAddr rfl rfl (by omega) (fun _ => l1)) rfl ?_
          refine g_pure (p_loadN (by rfl) rfl (Has.ro l2) x0') rfl ?_
          refine g_call (Hin := []) (Hr := ?hr23) (R := ?rr23) rfl rfl rfl ?hin23 ?hc23 ?hk23
          case hin23 => repeat' (first | exact Cover.nil | exact Take.here | apply Cover.cons | apply Take.there)
          case hc23 => intro ρ' hρ hR; exact dthere_at (c := at0 a i) h1
          rintro _ _ ⟨rfl, rfl⟩
          refine g_pure (p_move rfl) rfl ?_
          refine g_yes rfl rfl ?_
          refine g_pure (p_move rfl) rfl ?_
          refine g_yes rfl rfl ?_
          refine g_pure (p_move rfl) rfl ?_
          refine g_yes rfl rfl ?_
          refine g_pure (p_indexAddr rfl rfl (by omega) (fun _ => m1)) rfl ?_
          refine g_yes rfl rfl ?_
          refine g_pure (p_loadN (by rfl) rfl (Has.ro m2) y0') rfl ?_
          refine g_yes rfl rfl ?_
          refine g_call (Hin := []) (Hr := ?hr24) (R := ?rr24) rfl rfl rfl ?hin24 ?hc24 ?hk24
          case hin24 => repeat' (first | exact Cover.nil | exact Take.here | apply Cover.cons | apply Take.there)
          case hc24 => intro ρ' hρ hR; exact dthere_at (c := at0 b i) hy
          rintro _ _ ⟨rfl, rfl⟩
          first | refine g_pure (p_pickt rfl rfl) rfl ?_ | refine g_pure (p_pickf rfl rfl) rfl ?_
          refine g_pure (p_assign rfl) rfl ?_
          refine g_nil ?_
          refine g_qt ?_
          refine g_seq ?_
          refine g_region ?_
          refine g_pure (p_move rfl) rfl ?_
          refine g_pure (p_move rfl) rfl ?_
          refine g_pure (p_indexAddr rfl rfl (by omega) (fun _ => rfl)) rfl ?_
          refine g_pure (p_loadN (by rfl) rfl (Has.own (by repeat' (first | exact Take.here | apply Take.there))) f5) rfl ?_
          refine g_call (Hin := []) (Hr := ?hr25) (R := ?rr25) rfl rfl rfl ?hin25 ?hc25 ?hk25
          case hin25 => repeat' (first | exact Cover.nil | exact Take.here | apply Cover.cons | apply Take.there)
          case hc25 => intro ρ' hρ hR; exact dthere_at (c := at0 Fb i) hF1
          rintro _ _ ⟨rfl, rfl⟩
          refine g_pure (p_move rfl) rfl ?_
          refine g_pure (p_neqb (by rfl) rfl rfl) rfl ?_
          refine g_pure (p_move rfl) rfl ?_
          cases y with
          | false =>
            refine g_yes rfl rfl ?_
            refine g_pure (p_move rfl) rfl ?_
            refine g_yes rfl rfl ?_
            refine g_pure (p_move rfl) rfl ?_
            refine g_yes rfl rfl ?_
            refine g_pure (p_indexAddr rfl rfl (by omega) (fun _ => rfl)) rfl ?_
            refine g_yes rfl rfl ?_
            refine g_pure (p_loadN (by rfl) rfl (Has.own (by repeat' (first | exact Take.here | apply Take.there))) r5) rfl ?_
            refine g_yes rfl rfl ?_
            refine g_call (Hin := []) (Hr := ?hr26) (R := ?rr26) rfl rfl rfl ?hin26 ?hc26 ?hk26
            case hin26 => repeat' (first | exact Cover.nil | exact Take.here | apply Cover.cons | apply Take.there)
            case hc26 => intro ρ' hρ hR; exact dthere_at (c := at0 Ar i) hA1
            rintro _ _ ⟨rfl, rfl⟩
            refine g_yes rfl rfl ?_
            refine g_pure (p_move rfl) rfl ?_
            refine g_yes rfl rfl ?_
            refine g_pure (p_neqb (by rfl) rfl rfl) rfl ?_
            first | refine g_pure (p_pickt rfl rfl) rfl ?_ | refine g_pure (p_pickf rfl rfl) rfl ?_
            refine g_pure (p_move rfl) rfl ?_
            refine g_yes rfl rfl ?_
            refine g_pure (p_move rfl) rfl ?_
            refine g_yes rfl rfl ?_
            refine g_pure (p_move rfl) rfl ?_
            refine g_yes rfl rfl ?_
            refine g_pure (p_indexAddr rfl rfl (by omega) (fun _ => rfl)) rfl ?_
            refine g_yes rfl rfl ?_
            refine g_pure (p_loadN (by rfl) rfl (Has.own (by repeat' (first | exact Take.here | apply Take.there))) s5) rfl ?_
            refine g_yes rfl rfl ?_
            refine g_call (Hin := []) (Hr := ?hr27) (R := ?rr27) rfl rfl rfl ?hin27 ?hc27 ?hk27
            case hin27 => repeat' (first | exact Cover.nil | exact Take.here | apply Cover.cons | apply Take.there)
            case hc27 => intro ρ' hρ hR; exact dthere_at (c := at0 Li i) hL1
            rintro _ _ ⟨rfl, rfl⟩
            refine g_yes rfl rfl ?_
            refine g_pure (p_move rfl) rfl ?_
            refine g_yes rfl rfl ?_
            refine g_pure (p_neqb (by rfl) rfl rfl) rfl ?_
            first | refine g_pure (p_pickt rfl rfl) rfl ?_ | refine g_pure (p_pickf rfl rfl) rfl ?_
            refine g_nil ?_
            refine g_qt ?_
            refine g_iff rfl ?_
            refine g_skip ?_
            refine g_qb ?_
            refine g_qt ?_
            refine g_region ?_
            refine g_pure (p_move rfl) rfl ?_
            first | refine g_pure (p_addi rfl rfl (by omega)) rfl ?_ | refine g_pure (p_add rfl rfl) rfl ?_
            refine g_pure (p_assign rfl) rfl ?_
            refine g_nil ?_
            refine g_qn ?_
            refine g_fold (k := Fb.length) (cap := c2) (size := 2) (g := gf) (by repeat' (first | exact Take.here | apply Take.there)) f1 f2 f3 f4 ?_
            refine g_fold (k := Ar.length) (cap := c3) (size := 2) (g := ga) (by repeat' (first | exact Take.here | apply Take.there)) r1 r2 r3 r4 ?_
            refine g_fold (k := Li.length) (cap := c4) (size := 2) (g := gl) (by repeat' (first | exact Take.here | apply Take.there)) s1 s2 s3 s4 ?_
            exact g_next (i + 1) (by (repeat (first | exact trivial | refine ⟨by rfl, ?_⟩)); done) (by repeat' (first | exact Cover.nil | exact Take.here | apply Cover.cons | apply Take.there)) (by omega) (by omega)
          | true =>
            refine g_yes rfl rfl ?_
            refine g_pure (p_move rfl) rfl ?_
            refine g_yes rfl rfl ?_
            refine g_pure (p_move rfl) rfl ?_
            refine g_yes rfl rfl ?_
            refine g_pure (p_indexAddr rfl rfl (by omega) (fun _ => rfl)) rfl ?_
            refine g_yes rfl rfl ?_
            refine g_pure (p_loadN (by rfl) rfl (Has.own (by repeat' (first | exact Take.here | apply Take.there))) r5) rfl ?_
            refine g_yes rfl rfl ?_
            refine g_call (Hin := []) (Hr := ?hr28) (R := ?rr28) rfl rfl rfl ?hin28 ?hc28 ?hk28
            case hin28 => repeat' (first | exact Cover.nil | exact Take.here | apply Cover.cons | apply Take.there)
            case hc28 => intro ρ' hρ hR; exact dthere_at (c := at0 Ar i) hA1
            rintro _ _ ⟨rfl, rfl⟩
            refine g_yes rfl rfl ?_
            refine g_pure (p_move rfl) rfl ?_
            refine g_yes rfl rfl ?_
            refine g_pure (p_neqb (by rfl) rfl rfl) rfl ?_
            first | refine g_pure (p_pickt rfl rfl) rfl ?_ | refine g_pure (p_pickf rfl rfl) rfl ?_
            refine g_pure (p_move rfl) rfl ?_
            refine g_yes rfl rfl ?_
            refine g_pure (p_move rfl) rfl ?_
            refine g_yes rfl rfl ?_
            refine g_pure (p_move rfl) rfl ?_
            refine g_yes rfl rfl ?_
            refine g_pure (p_indexAddr rfl rfl (by omega) (fun _ => rfl)) rfl ?_
            refine g_yes rfl rfl ?_
            refine g_pure (p_loadN (by rfl) rfl (Has.own (by repeat' (first | exact Take.here | apply Take.there))) s5) rfl ?_
            refine g_yes rfl rfl ?_
            refine g_call (Hin := []) (Hr := ?hr29) (R := ?rr29) rfl rfl rfl ?hin29 ?hc29 ?hk29
            case hin29 => repeat' (first | exact Cover.nil | exact Take.here | apply Cover.cons | apply Take.there)
            case hc29 => intro ρ' hρ hR; exact dthere_at (c := at0 Li i) hL1
            rintro _ _ ⟨rfl, rfl⟩
            refine g_yes rfl rfl ?_
            refine g_pure (p_move rfl) rfl ?_
            refine g_yes rfl rfl ?_
            refine g_pure (p_neqb (by rfl) rfl rfl) rfl ?_
            first | refine g_pure (p_pickt rfl rfl) rfl ?_ | refine g_pure (p_pickf rfl rfl) rfl ?_
            refine g_nil ?_
            refine g_qt ?_
            refine g_iff rfl ?_
            refine g_skip ?_
            refine g_qb ?_
            refine g_qt ?_
            refine g_region ?_
            refine g_pure (p_move rfl) rfl ?_
            first | refine g_pure (p_addi rfl rfl (by omega)) rfl ?_ | refine g_pure (p_add rfl rfl) rfl ?_
            refine g_pure (p_assign rfl) rfl ?_
            refine g_nil ?_
            refine g_qn ?_
            refine g_fold (k := Fb.length) (cap := c2) (size := 2) (g := gf) (by repeat' (first | exact Take.here | apply Take.there)) f1 f2 f3 f4 ?_
            refine g_fold (k := Ar.length) (cap := c3) (size := 2) (g := ga) (by repeat' (first | exact Take.here | apply Take.there)) r1 r2 r3 r4 ?_
            refine g_fold (k := Li.length) (cap := c4) (size := 2) (g := gl) (by repeat' (first | exact Take.here | apply Take.there)) s1 s2 s3 s4 ?_
            exact g_next (i + 1) (by (repeat (first | exact trivial | refine ⟨by rfl, ?_⟩)); done) (by repeat' (first | exact Cover.nil | exact Take.here | apply Cover.cons | apply Take.there)) (by omega) (by omega)
      · refine g_exit ?_
        refine g_qt_exit ?_
        refine g_qn_exit ?_
        refine g_qb_exit ?_
        refine g_qt ?_
        refine g_seq ?_
        refine g_region ?_
        refine g_call (Hin := []) (Hr := ?hr30) (R := ?rr30) rfl rfl rfl ?hin30 ?hc30 ?hk30
        case hin30 => repeat' (first | exact Cover.nil | exact Take.here | apply Cover.cons | apply Take.there)
        case hc30 => intro ρ' hρ hR; exact lives_ok
        rintro _ _ ⟨rfl, rfl⟩
        refine g_pure (p_assign rfl) rfl ?_
        refine g_nil ?_
        refine g_qt ?_
        refine g_ret ?_
        exact g_post (Ho := []) (rs := [.tmp 4]) rfl (.tmp rfl .nil) rfl .nil
end Go.Proofs.Ytceecdjckhbncaa
