/- Chapter 05: texts, read back; any text. Conditions: what the library's variables hold (LibK). -/
import Derived.Test.YtkbofpcnhjopaaaDoorH8
import Derived.Test.YtkbofpcnhjopaaaDoorHp
import Derived.Test.YtkbofpcnhjopaaaDoorHq
namespace Go.Proofs.YtkbofpcnhjopaaaDoor
set_option maxRecDepth 8000
set_option linter.unusedVariables false
set_option linter.unusedSimpArgs false
set_option linter.unusedSectionVars false
open Go Go.Z Go.Z.Val

theorem strOf_append (a b : List UInt8) : strOf a ++ strOf b = strOf (a ++ b) := by
  unfold strOf
  apply ByteArray.ext
  simp
theorem strOf_size (a : List UInt8) : (strOf a).size = a.length := rfl
theorem strOf_inj {a : List UInt8} {s : ByteArray} (h : strOf a = s) : s.data.toList = a := by subst h; rfl
theorem strOf_eta (s : ByteArray) : strOf s.data.toList = s := by obtain ⟨⟨l⟩⟩ := s; rfl

/-! ### the document's numerals -/
theorem decimal_nat (u : Nat) : u ≤ 32768 → ∀ (ρ : Nat → Obj → Prop) (n : Int), n = u → Con Tryd.prog ρ 44 #[.int .i64 n] [] (fun v H => v = .string (strOf (Lib.decDigits u)) ∧ H = []) := by
  refine dec_ind (p := fun u => u ≤ 32768 → ∀ (ρ : Nat → Obj → Prop) (n : Int), n = u → Con Tryd.prog ρ 44 #[.int .i64 n] [] (fun v H => v = .string (strOf (Lib.decDigits u)) ∧ H = [])) (fun u hu _ ρ n hn => ?_) (fun u hu ih hb ρ n hn => ?_) u
  · have hw : IntKind.u8.wrap (48 + n) = 48 + n := IntWalk.u8_in _ (by omega)
    have hr : (⟨#[UInt8.ofNat (48 + n).toNat]⟩ : ByteArray) = strOf (Lib.decDigits u) := by
      rw [dec_small hu, show (48 + n).toNat = 48 + u by omega]; rfl
    refine con_intro Tryd.func44 Tryd.call44 rfl Tryd.ntmps44 rfl (L := [(0, _)]) rfl fun w hh => ?_
    refine g_seq ?_
    refine g_region ?_
    refine g_pure (p_assign rfl) rfl ?_
    refine g_nil ?_
    refine g_qt ?_
    refine g_seq ?_
    refine g_seq ?_
    refine g_region ?_
    refine g_pure (p_move rfl) rfl ?_
    refine g_pure (p_lss rfl rfl) rfl ?_
    refine g_nil ?_
    refine g_qt ?_
    refine g_ifd rfl (fun h1 => ?_) (fun h1 => ?_)
    · exfalso; omega
    · refine g_skip ?_
      refine g_qt ?_
      refine g_seq ?_
      refine g_seq ?_
      refine g_region ?_
      refine g_pure (p_move rfl) rfl ?_
      refine g_pure (p_lss rfl rfl) rfl ?_
      refine g_nil ?_
      refine g_qt ?_
      refine g_ifd rfl (fun h2 => ?_) (fun h2 => ?_)
      · refine g_seq ?_
        refine g_region ?_
        refine g_pure (p_move rfl) rfl ?_
        first | refine g_pure (p_addi rfl rfl (by omega)) rfl ?_ | refine g_pure (p_add rfl rfl) rfl ?_
        refine g_pure (p_conv (by rfl) rfl) rfl ?_
        rw [hw]
        refine g_eff (e_bs (xs := [.tmp 13]) rfl rfl rfl (by rfl) (by rfl) rfl (by rfl)) rfl (fun _ _ => ?_)
        rintro ⟨b14, rfl, rfl⟩
        refine g_pure (p_bts1 (by rfl) (by rfl) rfl (Has.own (by repeat' (first | exact Take.here | apply Take.there)))) rfl ?_
        refine g_pure (p_assign rfl) rfl ?_
        refine g_nil ?_
        refine g_qt ?_
        refine g_ret ?_
        refine g_qt_ret ?_
        exact g_post (Ho := []) (rs := [.tmp 2]) rfl (.tmp rfl .nil) ⟨by rw [← hr]; rfl, rfl⟩ (by repeat' (first | exact Cover.nil | exact Take.here | apply Cover.cons | apply Take.there))
      · exfalso; omega
  · have ih' := ih (by omega)
    have hw : IntKind.u8.wrap (48 + n % 10) = 48 + n % 10 := IntWalk.u8_in _ (by omega)
    have hl := dec_len (k := 4) (u / 10) (by omega)
    have hr : strOf (Lib.decDigits (u / 10)) ++ (⟨#[UInt8.ofNat (IntKind.u8.wrap (48 + n % 10)).toNat]⟩ : ByteArray) = strOf (Lib.decDigits u) := by
      rw [dec_big hu, ← strOf_append, hw, show (48 + n % 10).toNat = 48 + u % 10 by omega]; rfl
    have hz : (strOf (Lib.decDigits (u / 10))).size + (⟨#[UInt8.ofNat (IntKind.u8.wrap (48 + n % 10)).toNat]⟩ : ByteArray).size ≤ 9223372036854775807 := by rw [strOf_size]; show _ + 1 ≤ _; omega
    refine con_intro Tryd.func44 Tryd.call44 rfl Tryd.ntmps44 rfl (L := [(0, _)]) rfl fun w hh => ?_
    refine g_seq ?_
    refine g_region ?_
    refine g_pure (p_assign rfl) rfl ?_
    refine g_nil ?_
    refine g_qt ?_
    refine g_seq ?_
    refine g_seq ?_
    refine g_region ?_
    refine g_pure (p_move rfl) rfl ?_
    refine g_pure (p_lss rfl rfl) rfl ?_
    refine g_nil ?_
    refine g_qt ?_
    refine g_ifd rfl (fun h1 => ?_) (fun h1 => ?_)
    · exfalso; omega
    · refine g_skip ?_
      refine g_qt ?_
      refine g_seq ?_
      refine g_seq ?_
      refine g_region ?_
      refine g_pure (p_move rfl) rfl ?_
      refine g_pure (p_lss rfl rfl) rfl ?_
      refine g_nil ?_
      refine g_qt ?_
      refine g_ifd rfl (fun h2 => ?_) (fun h2 => ?_)
      · exfalso; omega
      · refine g_skip ?_
        refine g_qt ?_
        refine g_seq ?_
        refine g_join (fun _ : Unit => [(2, .string (strOf (Lib.decDigits u)))]) (fun _ => []) (fun _ => True) ?_ ?_
        · refine m_begin0 (.fl 0 0 (.fl 1 0 (.fl 3 0 (.fl 4 0 (.fl 5 0 (.fl 6 0 (.or (.ef 2 (.ef 7 (.ef 8 (.fl 9 0 (.fl 10 0 .done))))) (.ef 7 (.or (.ef 2 (.ef 8 (.fl 9 0 (.fl 10 0 .done)))) (.ef 8 (.ef 2 (.fl 9 0 (.fl 10 0 .done))))))))))))) (by kernel_rfl) (by kernel_rfl) ?_
          refine m_float0 rfl (fun _ _ => p_move rfl) rfl ?_
          first | refine m_float0 rfl (fun _ _ => p_quon rfl rfl (by omega) (by omega)) rfl ?_ | refine m_float0 rfl (fun _ _ => p_quoi rfl rfl (by omega) (by omega)) rfl ?_ | refine m_float0 rfl (fun _ _ => p_quo rfl rfl (by omega)) rfl ?_
          refine m_float0 rfl (fun _ _ => p_move rfl) rfl ?_
          first | refine m_float0 rfl (fun _ _ => p_remn rfl rfl (by omega) (by omega)) rfl ?_ | refine m_float0 rfl (fun _ _ => p_rem rfl rfl (by omega)) rfl ?_
          first | refine m_float0 rfl (fun _ _ => p_addi rfl rfl (by omega)) rfl ?_ | refine m_float0 rfl (fun _ _ => p_add rfl rfl) rfl ?_
          refine m_float0 rfl (fun _ _ => p_conv (by rfl) rfl) rfl ?_
          refine m_or ?_ ?_
          · refine m_call (Hin := []) (Hr := ?hr1) (R := ?rr1) rfl wantedN rfl rfl rfl ?hin1 ?hc1 ?hk1
            case hin1 => repeat' (first | exact Cover.nil | exact Take.here | apply Cover.cons | apply Take.there)
            case hc1 => intro ρ' hρ hR; exact ih' _ (n / 10) (by omega)
            rintro _ _ ⟨rfl, rfl⟩
            refine ⟨.none (by kernel_rfl), ?_⟩
            refine m_eff rfl (e_bs (xs := [.tmp 22]) rfl rfl rfl (by rfl) (by rfl) rfl (by rfl)) rfl (fun _ _ => ?_)
            rintro ⟨b23, rfl, rfl⟩
            refine ⟨.none (by kernel_rfl), ?_⟩
            refine m_eff rfl ((p_bts1 (by rfl) (by rfl) rfl (Has.own (by repeat' (first | exact Take.here | apply Take.there)))).eff) rfl (fun _ _ => ?_)
            rintro ⟨rfl, rfl⟩
            refine ⟨.none (by kernel_rfl), ?_⟩
            refine m_float0 rfl (fun _ _ => p_adds (by rfl) rfl rfl hz) rfl ?_
            refine m_float0 rfl (fun _ _ => p_assign rfl) rfl ?_
            refine m_nil ?_
            refine g_qn ?_
            (rw [hr]; exact g_joined () (by (repeat (first | exact trivial | refine ⟨by rfl, ?_⟩)); done) .nil trivial)
          refine m_eff rfl (e_bs (xs := [.tmp 22]) rfl rfl rfl (by rfl) (by rfl) rfl (by rfl)) rfl (fun _ _ => ?_)
          rintro ⟨b23, rfl, rfl⟩
          refine ⟨.none (by kernel_rfl), ?_⟩
          refine m_or ?_ ?_
          · refine m_call (Hin := []) (Hr := ?hr2) (R := ?rr2) rfl wantedN rfl rfl rfl ?hin2 ?hc2 ?hk2
            case hin2 => repeat' (first | exact Cover.nil | exact Take.here | apply Cover.cons | apply Take.there)
            case hc2 => intro ρ' hρ hR; exact ih' _ (n / 10) (by omega)
            rintro _ _ ⟨rfl, rfl⟩
            refine ⟨.none (by kernel_rfl), ?_⟩
            refine m_eff rfl ((p_bts1 (by rfl) (by rfl) rfl (Has.own (by repeat' (first | exact Take.here | apply Take.there)))).eff) rfl (fun _ _ => ?_)
            rintro ⟨rfl, rfl⟩
            refine ⟨.none (by kernel_rfl), ?_⟩
            refine m_float0 rfl (fun _ _ => p_adds (by rfl) rfl rfl hz) rfl ?_
            refine m_float0 rfl (fun _ _ => p_assign rfl) rfl ?_
            refine m_nil ?_
            refine g_qn ?_
            (rw [hr]; exact g_joined () (by (repeat (first | exact trivial | refine ⟨by rfl, ?_⟩)); done) .nil trivial)
          refine m_eff rfl ((p_bts1 (by rfl) (by rfl) rfl (Has.own (by repeat' (first | exact Take.here | apply Take.there)))).eff) rfl (fun _ _ => ?_)
          rintro ⟨rfl, rfl⟩
          refine ⟨.none (by kernel_rfl), ?_⟩
          refine m_call (Hin := []) (Hr := ?hr3) (R := ?rr3) rfl wantedN rfl rfl rfl ?hin3 ?hc3 ?hk3
          case hin3 => repeat' (first | exact Cover.nil | exact Take.here | apply Cover.cons | apply Take.there)
          case hc3 => intro ρ' hρ hR; exact ih' _ (n / 10) (by omega)
          rintro _ _ ⟨rfl, rfl⟩
          refine ⟨.none (by kernel_rfl), ?_⟩
          refine m_float0 rfl (fun _ _ => p_adds (by rfl) rfl rfl hz) rfl ?_
          refine m_float0 rfl (fun _ _ => p_assign rfl) rfl ?_
          refine m_nil ?_
          refine g_qn ?_
          (rw [hr]; exact g_joined () (by (repeat (first | exact trivial | refine ⟨by rfl, ?_⟩)); done) .nil trivial)
        rintro ⟨⟩ -
        refine g_qt ?_
        refine g_ret ?_
        exact g_post (Ho := []) (rs := [.tmp 2]) rfl (.tmp rfl .nil) ⟨rfl, rfl⟩ (by repeat' (first | exact Cover.nil | exact Take.here | apply Cover.cons | apply Take.there))
theorem decimal_ok {ρ : Nat → Obj → Prop} (n : Int) (h : -32768 ≤ n ∧ n ≤ 32767) : Con Tryd.prog ρ 44 #[.int .i64 n] [] (fun v H => v = .string (strOf (Lib.itoa n)) ∧ H = []) := by
  by_cases hn : n < 0
  · have hr : (⟨#[45]⟩ : ByteArray) ++ strOf (Lib.decDigits n.natAbs) = strOf (Lib.itoa n) := by rw [itoa_neg hn]; exact strOf_append [45] _
    have hl := dec_len (k := 4) n.natAbs (by omega)
    have hz : (⟨#[45]⟩ : ByteArray).size + (strOf (Lib.decDigits n.natAbs)).size ≤ 9223372036854775807 := by rw [strOf_size]; show 1 + _ ≤ _; omega
    refine con_intro Tryd.func44 Tryd.call44 rfl Tryd.ntmps44 rfl (L := [(0, _)]) rfl fun w hh => ?_
    refine g_seq ?_
    refine g_region ?_
    refine g_pure (p_assign rfl) rfl ?_
    refine g_nil ?_
    refine g_qt ?_
    refine g_seq ?_
    refine g_seq ?_
    refine g_region ?_
    refine g_pure (p_move rfl) rfl ?_
    refine g_pure (p_lss rfl rfl) rfl ?_
    refine g_nil ?_
    refine g_qt ?_
    refine g_ifd rfl (fun h1 => ?_) (fun h1 => ?_)
    · refine g_seq ?_
      refine g_region ?_
      refine g_pure (p_move rfl) rfl ?_
      first | refine g_pure (p_negi rfl (by omega)) rfl ?_ | refine g_pure (p_neg rfl) rfl ?_
      refine g_call (Hin := []) (Hr := ?hr4) (R := ?rr4) rfl rfl rfl ?hin4 ?hc4 ?hk4
      case hin4 => repeat' (first | exact Cover.nil | exact Take.here | apply Cover.cons | apply Take.there)
      case hc4 => intro ρ' hρ hR; exact decimal_nat n.natAbs (by omega) _ (-n) (by omega)
      rintro _ _ ⟨rfl, rfl⟩
      refine g_pure (p_adds (by rfl) rfl rfl hz) rfl ?_
      refine g_pure (p_assign rfl) rfl ?_
      refine g_nil ?_
      refine g_qt ?_
      refine g_ret ?_
      refine g_qt_ret ?_
      rw [hr]
      exact g_post (Ho := []) (rs := [.tmp 2]) rfl (.tmp rfl .nil) ⟨rfl, rfl⟩ (by repeat' (first | exact Cover.nil | exact Take.here | apply Cover.cons | apply Take.there))
    · exfalso; omega
  · rw [itoa_pos hn]
    exact decimal_nat n.toNat (by omega) ρ n (by omega)

def foldD (l : List UInt8) : Int := l.foldl (fun (a : Int) c => 10 * a + (c.toNat : Int) - 48) 0
def negB (l : List UInt8) : Bool := decide (l.head? = some 45)
def fromN (l : List UInt8) : Nat := if negB l = true then 1 else 0
def valD (l : List UInt8) : Int := if negB l = true then -foldD (l.drop 1) else foldD l
theorem numF_some {s : ByteArray} {m : Int} (h : numF s = some m) : (-32768 ≤ m ∧ m ≤ 32767) ∧ strOf (Lib.itoa m) = s := by
  unfold numF at h
  split at h
  · split at h
    · rename_i h1
      cases h; exact h1
    · cases h
  · cases h
theorem numF_of {s : ByteArray} {m : Int} (h : -32768 ≤ m ∧ m ≤ 32767) (e : strOf (Lib.itoa m) = s) : numF s = some m := by
  unfold numF
  rw [strOf_inj e, atoi_itoa h]
  dsimp only
  rw [if_pos ⟨h, e⟩]
/-- what a numeral looks like -/
theorem numF_form {s : ByteArray} {m : Int} (h : numF s = some m) : s.data.toList.length ≤ 6 ∧ s.data.toList.length ≠ fromN s.data.toList ∧ (∀ c ∈ s.data.toList.drop (fromN s.data.toList), 48 ≤ c.toNat ∧ c.toNat ≤ 57) ∧ valD s.data.toList = m := by
  obtain ⟨h1, h2⟩ := numF_some h
  obtain ⟨k1, ds, k2, k3, k4⟩ := itoa_form h1
  rw [strOf_inj h2]
  rcases k4 with ⟨j1, j2, j3⟩ | ⟨j1, j2, j3⟩
  · have hn : negB (Lib.itoa m) = true := by rw [j2]; rfl
    have hf : fromN (Lib.itoa m) = 1 := by unfold fromN; rw [if_pos hn]
    refine ⟨k1, ?_, ?_, ?_⟩
    · rw [hf, j2, List.length_cons]
      have := List.length_pos_iff.2 k2
      omega
    · rw [hf, j2]; exact k3
    · unfold valD
      rw [if_pos hn, j2]
      show -foldD ds = m
      unfold foldD
      rw [j3]; omega
  · have hn : ¬ negB (Lib.itoa m) = true := by
      rw [j2]
      cases ds with
      | nil => exact absurd rfl k2
      | cons c r =>
        have := k3 c (by simp)
        unfold negB
        intro hh
        have h45 := of_decide_eq_true hh
        simp at h45
        subst h45
        exact absurd this.1 (by decide)
    have hf : fromN (Lib.itoa m) = 0 := by unfold fromN; rw [if_neg hn]
    refine ⟨k1, ?_, ?_, ?_⟩
    · rw [hf, j2]
      have := List.length_pos_iff.2 k2
      omega
    · rw [hf, j2]; exact k3
    · unfold valD
      rw [if_neg hn, j2]
      exact j3
def NumP (s : ByteArray) (v : Value) : Prop := ∃ n ok, v = .tuple #[.int .i64 n, .bool ok] ∧ (ok = true → numF s = some n) ∧ (ok = false → numF s = none)
theorem tens (j : Nat) (h : j ≤ 5) : (10 : Int) ^ (j + 1) = 10 * 10 ^ j ∧ (10 : Int) ^ j ≤ 1000000 ∧ (10 : Int) ^ (j + 1) ≤ 1000000 ∧ 1 ≤ (10 : Int) ^ j := by
  have key : ∀ j : Fin 6, (10 : Int) ^ (j.val + 1) = 10 * 10 ^ j.val ∧ (10 : Int) ^ j.val ≤ 1000000 ∧ (10 : Int) ^ (j.val + 1) ≤ 1000000 ∧ 1 ≤ (10 : Int) ^ j.val := by decide
  exact key ⟨j, by omega⟩
theorem tens6 (j : Nat) (h : j ≤ 6) : (10 : Int) ^ j ≤ 1000000 := by
  have key : ∀ j : Fin 7, (10 : Int) ^ j.val ≤ 1000000 := by decide
  exact key ⟨j, by omega⟩
theorem num_none {s : ByteArray} (h : ∀ m, numF s ≠ some m) : numF s = none := by
  cases e : numF s with
  | none => rfl
  | some m => exact absurd e (h m)

set_option maxHeartbeats 1600000 in
theorem number_ok {ρ : Nat → Obj → Prop} (s : ByteArray) (hs : s.size ≤ maxLen) : Con Tryd.prog ρ 47 #[.string s] [] (fun v H => NumP s v ∧ H = []) := by
  have eM : maxLen = 9223372036854775807 := rfl
  obtain ⟨l, hl⟩ : ∃ l, s.data.toList = l := ⟨_, rfl⟩
  have hsz : s.size = l.length := by rw [← hl]; exact Array.length_toList.symm
  have hform : ∀ m, numF s = some m → l.length ≤ 6 ∧ l.length ≠ fromN l ∧ (∀ c ∈ l.drop (fromN l), 48 ≤ c.toNat ∧ c.toNat ≤ 57) ∧ valD l = m := fun m hm => by rw [← hl]; exact numF_form hm
  have hfrom : fromN l ≤ 1 := by unfold fromN; split <;> omega
  refine con_intro Tryd.func47 Tryd.call47 rfl Tryd.ntmps47 rfl (L := [(0, _)]) rfl fun w hh => ?_
  refine g_seq ?_
  refine g_region ?_
  refine g_pure (p_assign rfl) rfl ?_
  refine g_pure (p_assign rfl) rfl ?_
  refine g_nil ?_
  refine g_qt ?_
  refine g_seq ?_
  refine g_region ?_
  refine g_pure (p_assign rfl) rfl ?_
  refine g_nil ?_
  refine g_qt ?_
  refine g_seq ?_
  refine g_region ?_
  refine g_pure (p_assign rfl) rfl ?_
  refine g_nil ?_
  refine g_qt ?_
  refine g_seq ?_
  refine g_seq ?_
  refine g_join (fun b : Bool => [(0, .string s), (4, .int .i64 0), (5, .int .i64 0), (14, .bool b)]) (fun _ => []) (fun b => b = negB l) ?_ ?_
  · refine g_region ?_
    refine g_pure (p_move rfl) rfl ?_
    refine g_pure ((hsz ▸ p_lens (by rfl) rfl)) rfl ?_
    refine g_pure (p_gtr rfl rfl) rfl ?_
    refine g_pure (p_move rfl) rfl ?_
    refine g_splitd rfl rfl (fun q1 => ?_) (fun q1 => ?_)
    · obtain ⟨c, r, hcr⟩ : ∃ c r, l = c :: r := by
        cases hh : l with
        | nil => rw [hh] at q1; simp at q1
        | cons c r => exact ⟨c, r, rfl⟩
      have hc0 : s.data.toList[(0 : Int).toNat]? = some c := by rw [hl, hcr]; rfl
      have hneg : negB l = decide ((c.toNat : Int) = 45) := by
        rw [hcr]
        unfold negB
        rw [decide_eq_decide]
        simp only [List.head?_cons, Option.some.injEq]
        constructor
        · rintro rfl; rfl
        · intro h; exact UInt8.toNat_inj.1 (by show c.toNat = 45; omega)
      refine g_yes rfl rfl ?_
      refine g_pure (p_move rfl) rfl ?_
      refine g_yes rfl rfl ?_
      refine g_pure (p_indexs (by rfl) rfl rfl (by decide) hc0) rfl ?_
      refine g_yes rfl rfl ?_
      refine g_pure (p_eql rfl rfl) rfl ?_
      first | refine g_pure (p_pickt rfl rfl) rfl ?_ | refine g_pure (p_pickf rfl rfl) rfl ?_
      refine g_nil ?_
      refine g_qn ?_
      exact g_joined (decide ((c.toNat : Int) = 45)) (by (repeat (first | exact trivial | refine ⟨by rfl, ?_⟩)); done) .nil hneg.symm
    · have hnil : l = [] := by
        cases hh : l with
        | nil => rfl
        | cons c r => rw [hh] at q1; simp at q1
      refine g_no rfl rfl rfl rfl ?_
      refine g_no rfl rfl rfl rfl ?_
      refine g_no rfl rfl rfl rfl ?_
      first | refine g_pure (p_pickt rfl rfl) rfl ?_ | refine g_pure (p_pickf rfl rfl) rfl ?_
      refine g_nil ?_
      refine g_qn ?_
      exact g_joined false (by (repeat (first | exact trivial | refine ⟨by rfl, ?_⟩)); done) .nil (by rw [hnil]; rfl)
  rintro b hb
  subst hb
  refine g_qt ?_
  refine g_join (fun f : Nat => [(0, .string s), (4, .int .i64 0), (5, .int .i64 f)]) (fun _ => []) (fun f => f = fromN l) ?_ ?_
  · refine g_if rfl (fun q1 => ?_) (fun q1 => ?_)
    · refine g_region ?_
      refine g_pure (p_assign rfl) rfl ?_
      refine g_nil ?_
      refine g_qn ?_
      exact g_joined 1 (by (repeat (first | exact trivial | refine ⟨by rfl, ?_⟩)); done) .nil (by unfold fromN; rw [if_pos q1])
    · refine g_skip ?_
      refine g_qn ?_
      exact g_joined 0 (by (repeat (first | exact trivial | refine ⟨by rfl, ?_⟩)); done) .nil (by unfold fromN; rw [if_neg (by simpa using q1)])
  rintro f hf
  rw [← hf] at hform hfrom
  refine g_qt ?_
  refine g_seq ?_
  refine g_seq ?_
  refine g_region ?_
  refine g_pure (p_move rfl) rfl ?_
  refine g_pure ((hsz ▸ p_lens (by rfl) rfl)) rfl ?_
  refine g_pure (p_move rfl) rfl ?_
  refine g_pure (p_eql rfl rfl) rfl ?_
  refine g_pure (p_move rfl) rfl ?_
  refine g_splitd rfl rfl (fun g1 => ?_) (fun g1 => ?_)
  · refine g_no rfl rfl rfl rfl ?_
    refine g_no rfl rfl rfl rfl ?_
    refine g_no rfl rfl rfl rfl ?_
    first | refine g_pure (p_pickt rfl rfl) rfl ?_ | refine g_pure (p_pickf rfl rfl) rfl ?_
    refine g_nil ?_
    refine g_qt ?_
    refine g_ift rfl ?_
    refine g_seq ?_
    refine g_region ?_
    refine g_pure (p_assign rfl) rfl ?_
    refine g_pure (p_assign rfl) rfl ?_
    refine g_nil ?_
    refine g_qt ?_
    refine g_ret ?_
    refine g_qt_ret ?_
    exact g_post (Ho := []) (rs := [.tmp 2, .tmp 3]) rfl (.tmp rfl (.tmp rfl .nil)) ⟨⟨_, _, rfl, fun h => (by cases h), fun _ => num_none fun m hm => (hform m hm).2.1 (by omega)⟩, rfl⟩ (by repeat' (first | exact Cover.nil | exact Take.here | apply Cover.cons | apply Take.there))
  · refine g_yes rfl rfl ?_
    refine g_pure (p_move rfl) rfl ?_
    refine g_yes rfl rfl ?_
    refine g_pure ((hsz ▸ p_lens (by rfl) rfl)) rfl ?_
    refine g_yes rfl rfl ?_
    refine g_pure (p_gtr rfl rfl) rfl ?_
    first | refine g_pure (p_pickt rfl rfl) rfl ?_ | refine g_pure (p_pickf rfl rfl) rfl ?_
    refine g_nil ?_
    refine g_qt ?_
    refine g_ifd rfl (fun g2 => ?_) (fun g2 => ?_)
    · refine g_seq ?_
      refine g_region ?_
      refine g_pure (p_assign rfl) rfl ?_
      refine g_pure (p_assign rfl) rfl ?_
      refine g_nil ?_
      refine g_qt ?_
      refine g_ret ?_
      refine g_qt_ret ?_
      exact g_post (Ho := []) (rs := [.tmp 2, .tmp 3]) rfl (.tmp rfl (.tmp rfl .nil)) ⟨⟨_, _, rfl, fun h => (by cases h), fun _ => num_none fun m hm => absurd (hform m hm).1 (by omega)⟩, rfl⟩ (by repeat' (first | exact Cover.nil | exact Take.here | apply Cover.cons | apply Take.there))
    · have hfl : f ≤ l.length := by
        by_cases h0 : 0 < l.length
        · omega
        · have hnil : l = [] := List.length_eq_zero_iff.1 (by omega)
          have : f = 0 := by rw [hf, hnil]; rfl
          omega
      refine g_skip ?_
      refine g_qt ?_
      refine g_seq ?_
      refine g_seq ?_
      refine g_region ?_
      refine g_pure (p_move rfl) rfl ?_
      refine g_pure (p_assign rfl) rfl ?_
      refine g_nil ?_
      refine g_qt ?_
      refine g_block ?_
      refine g_loop (fun q : Nat × Int => [(0, .string s), (4, .int .i64 q.2), (5, .int .i64 f), (6, .int .i64 ((f + q.1 : Nat) : Int))]) (fun _ => []) (fun q => f + q.1 ≤ l.length ∧ (0 ≤ q.2 ∧ q.2 < 10 ^ q.1) ∧ q.2 = foldD ((l.drop f).take q.1) ∧ ∀ c ∈ (l.drop f).take q.1, 48 ≤ c.toNat ∧ c.toNat ≤ 57) (fun q => l.length - q.1) (0, 0) ⟨by dsimp only; omega, ⟨by decide, by decide⟩, rfl, by simp⟩ (by (repeat (first | exact trivial | refine ⟨by rfl, ?_⟩)); done) .nil ?_
      rintro ⟨j, n⟩ ⟨hj, ⟨hn0, hn1⟩, hnf, hdig⟩
      dsimp only at hj hn0 hn1 hnf hdig ⊢
      refine g_seq ?_
      refine g_seq ?_
      refine g_region ?_
      refine g_pure (p_move rfl) rfl ?_
      refine g_pure (p_move rfl) rfl ?_
      refine g_pure ((hsz ▸ p_lens (by rfl) rfl)) rfl ?_
      refine g_pure (p_lss rfl rfl) rfl ?_
      refine g_nil ?_
      refine g_qt ?_
      refine g_ifd rfl (fun h3 => ?_) (fun h3 => ?_)
      · have hk' : f + j < l.length := by omega
        have hd' : j < (l.drop f).length := by rw [List.length_drop]; omega
        obtain ⟨c, hc⟩ : ∃ c, (l.drop f)[j] = c := ⟨_, rfl⟩
        have hcl : s.data.toList[((f + j : Nat) : Int).toNat]? = some c := by
          rw [hl, show ((f + j : Nat) : Int).toNat = f + j by omega, List.getElem?_eq_getElem hk', ← hc, List.getElem_drop]
        have htk : (l.drop f).take (j + 1) = (l.drop f).take j ++ [c] := by rw [List.take_add_one, List.getElem?_eq_getElem hd', hc]; rfl
        have hmem : c ∈ l.drop f := by rw [← hc]; exact List.getElem_mem hd'
        have hj5 : j ≤ 5 := by omega
        obtain ⟨p1, p2, p3, p4⟩ := tens j hj5
        have hfold : foldD ((l.drop f).take (j + 1)) = 10 * n + (c.toNat : Int) - 48 := by
          rw [htk]; unfold foldD; rw [List.foldl_append]
          show 10 * foldD ((l.drop f).take j) + _ - 48 = _
          rw [← hnf]
        refine g_skip ?_
        refine g_qt ?_
        refine g_seq ?_
        refine g_block ?_
        refine g_seq ?_
        refine g_seq ?_
        refine g_region ?_
        refine g_pure (p_move rfl) rfl ?_
        refine g_pure (p_move rfl) rfl ?_
        refine g_pure (p_indexs (by rfl) rfl rfl (by omega) hcl) rfl ?_
        refine g_pure (p_lss rfl rfl) rfl ?_
        refine g_pure (p_move rfl) rfl ?_
        refine g_splitd rfl rfl (fun g3 => ?_) (fun g3 => ?_)
        · refine g_no rfl rfl rfl rfl ?_
          refine g_no rfl rfl rfl rfl ?_
          refine g_no rfl rfl rfl rfl ?_
          refine g_no rfl rfl rfl rfl ?_
          first | refine g_pure (p_pickt rfl rfl) rfl ?_ | refine g_pure (p_pickf rfl rfl) rfl ?_
          refine g_nil ?_
          refine g_qt ?_
          refine g_ift rfl ?_
          refine g_seq ?_
          refine g_region ?_
          refine g_pure (p_assign rfl) rfl ?_
          refine g_pure (p_assign rfl) rfl ?_
          refine g_nil ?_
          refine g_qt ?_
          refine g_ret ?_
          refine g_qt_ret ?_
          refine g_qb_ret ?_
          refine g_qt_ret ?_
          refine g_qn_ret ?_
          refine g_qb_ret ?_
          refine g_qt_ret ?_
          exact g_post (Ho := []) (rs := [.tmp 2, .tmp 3]) rfl (.tmp rfl (.tmp rfl .nil)) ⟨⟨_, _, rfl, fun h => (by cases h), fun _ => num_none fun m hm => absurd ((hform m hm).2.2.1 c hmem).1 (by omega)⟩, rfl⟩ (by repeat' (first | exact Cover.nil | exact Take.here | apply Cover.cons | apply Take.there))
        · refine g_yes rfl rfl ?_
          refine g_pure (p_move rfl) rfl ?_
          refine g_yes rfl rfl ?_
          refine g_pure (p_move rfl) rfl ?_
          refine g_yes rfl rfl ?_
          refine g_pure (p_indexs (by rfl) rfl rfl (by omega) hcl) rfl ?_
          refine g_yes rfl rfl ?_
          refine g_pure (p_gtr rfl rfl) rfl ?_
          first | refine g_pure (p_pickt rfl rfl) rfl ?_ | refine g_pure (p_pickf rfl rfl) rfl ?_
          refine g_nil ?_
          refine g_qt ?_
          refine g_ifd rfl (fun g4 => ?_) (fun g4 => ?_)
          · refine g_seq ?_
            refine g_region ?_
            refine g_pure (p_assign rfl) rfl ?_
            refine g_pure (p_assign rfl) rfl ?_
            refine g_nil ?_
            refine g_qt ?_
            refine g_ret ?_
            refine g_qt_ret ?_
            refine g_qb_ret ?_
            refine g_qt_ret ?_
            refine g_qn_ret ?_
            refine g_qb_ret ?_
            refine g_qt_ret ?_
            exact g_post (Ho := []) (rs := [.tmp 2, .tmp 3]) rfl (.tmp rfl (.tmp rfl .nil)) ⟨⟨_, _, rfl, fun h => (by cases h), fun _ => num_none fun m hm => absurd ((hform m hm).2.2.1 c hmem).2 (by omega)⟩, rfl⟩ (by repeat' (first | exact Cover.nil | exact Take.here | apply Cover.cons | apply Take.there))
          · refine g_skip ?_
            refine g_qt ?_
            refine g_region ?_
            refine g_pure (p_move rfl) rfl ?_
            first | refine g_pure (p_muli rfl rfl (by omega)) rfl ?_ | refine g_pure (p_mul rfl rfl) rfl ?_
            refine g_pure (p_move rfl) rfl ?_
            refine g_pure (p_move rfl) rfl ?_
            refine g_pure (p_indexs (by rfl) rfl rfl (by omega) hcl) rfl ?_
            first | refine g_pure (p_convi (by rfl) rfl (by omega)) rfl ?_ | refine g_pure (p_conv (by rfl) rfl) rfl ?_
            first | refine g_pure (p_addi rfl rfl (by omega)) rfl ?_ | refine g_pure (p_add rfl rfl) rfl ?_
            first | refine g_pure (p_subi rfl rfl (by omega)) rfl ?_ | refine g_pure (p_sub rfl rfl) rfl ?_
            refine g_pure (p_assign rfl) rfl ?_
            refine g_nil ?_
            refine g_qb ?_
            refine g_qt ?_
            refine g_region ?_
            refine g_pure (p_move rfl) rfl ?_
            first | refine g_pure (p_addi rfl rfl (by omega)) rfl ?_ | refine g_pure (p_add rfl rfl) rfl ?_
            refine g_pure (p_assign rfl) rfl ?_
            refine g_nil ?_
            refine g_qn ?_
            exact g_next (j + 1, 10 * n + (c.toNat : Int) - 48) (by (repeat (first | exact trivial | refine ⟨by rfl, ?_⟩)); done) .nil ⟨by dsimp only; omega, ⟨by dsimp only; omega, by dsimp only; rw [p1]; omega⟩, hfold.symm, fun x hx => by
              rw [htk] at hx
              rcases List.mem_append.1 hx with hx | hx
              · exact hdig x hx
              · obtain rfl := List.mem_singleton.1 hx
                omega⟩ (by dsimp only; omega)
      · have hjl : f + j = l.length := by omega
        have h6 := tens6 j (by omega)
        rw [List.take_of_length_le (by rw [List.length_drop]; omega)] at hnf
        have hval : (if f = 1 then -n else n) = valD l := by
          unfold valD
          by_cases hb : negB l = true
          · have : f = 1 := by rw [hf]; unfold fromN; rw [if_pos hb]
            rw [if_pos hb, if_pos this, hnf, this]
          · have : f = 0 := by rw [hf]; unfold fromN; rw [if_neg hb]
            rw [if_neg hb, if_neg (by omega), hnf, this]; rfl
        refine g_exit ?_
        refine g_qt_exit ?_
        refine g_qn_exit ?_
        refine g_qb_exit ?_
        refine g_qt ?_
        refine g_seq ?_
        refine g_seq ?_
        refine g_region ?_
        refine g_pure (p_move rfl) rfl ?_
        refine g_pure (p_eql rfl rfl) rfl ?_
        refine g_nil ?_
        refine g_qt ?_
        refine g_join (fun m : Int => [(0, .string s), (4, .int .i64 m)]) (fun _ => []) (fun m => m = valD l ∧ -1000000 ≤ m ∧ m ≤ 1000000) ?_ ?_
        · refine g_ifd rfl (fun g5 => ?_) (fun g5 => ?_)
          · refine g_region ?_
            refine g_pure (p_move rfl) rfl ?_
            first | refine g_pure (p_negi rfl (by omega)) rfl ?_ | refine g_pure (p_neg rfl) rfl ?_
            refine g_pure (p_assign rfl) rfl ?_
            refine g_nil ?_
            refine g_qn ?_
            exact g_joined (-n) (by (repeat (first | exact trivial | refine ⟨by rfl, ?_⟩)); done) .nil ⟨by rw [← hval, if_pos (by omega)], by omega, by omega⟩
          · refine g_skip ?_
            refine g_qn ?_
            exact g_joined n (by (repeat (first | exact trivial | refine ⟨by rfl, ?_⟩)); done) .nil ⟨by rw [← hval, if_neg (by omega)], by omega, by omega⟩
        rintro m ⟨hm, hm1, hm2⟩
        refine g_qt ?_
        have hm' : ∀ k, numF s = some k → k = m := fun k hk => by rw [hm]; exact (hform k hk).2.2.2.symm
        refine g_seq ?_
        refine g_region ?_
        refine g_pure (p_move rfl) rfl ?_
        refine g_pure (p_move rfl) rfl ?_
        refine g_pure (p_geq rfl rfl) rfl ?_
        refine g_pure (p_move rfl) rfl ?_
        refine g_splitd rfl rfl (fun h1 => ?_) (fun h1 => ?_)
        · refine g_yes rfl rfl ?_
          refine g_pure (p_move rfl) rfl ?_
          refine g_yes rfl rfl ?_
          refine g_pure (p_leq rfl rfl) rfl ?_
          first | refine g_pure (p_pickt rfl rfl) rfl ?_ | refine g_pure (p_pickf rfl rfl) rfl ?_
          refine g_pure (p_move rfl) rfl ?_
          refine g_splitd rfl rfl (fun h2 => ?_) (fun h2 => ?_)
          · refine g_yes rfl rfl ?_
            refine g_pure (p_move rfl) rfl ?_
            refine g_yes rfl rfl ?_
            refine g_call (Hin := []) (Hr := ?hr5) (R := ?rr5) rfl rfl rfl ?hin5 ?hc5 ?hk5
            case hin5 => repeat' (first | exact Cover.nil | exact Take.here | apply Cover.cons | apply Take.there)
            case hc5 => intro ρ' hρ hR; exact decimal_ok m (by omega)
            rintro _ _ ⟨rfl, rfl⟩
            refine g_yes rfl rfl ?_
            refine g_pure (p_move rfl) rfl ?_
            refine g_yes rfl rfl ?_
            refine g_pure (p_eqls (by rfl) rfl rfl) rfl ?_
            first | refine g_pure (p_pickt rfl rfl) rfl ?_ | refine g_pure (p_pickf rfl rfl) rfl ?_
            refine g_pure (p_assign rfl) rfl ?_
            refine g_pure (p_assign rfl) rfl ?_
            refine g_nil ?_
            refine g_qt ?_
            refine g_ret ?_
            first | exact g_post (Ho := []) (rs := [.tmp 2, .tmp 3]) rfl (.tmp rfl (.tmp rfl .nil)) ⟨⟨_, _, rfl, fun h => (by cases h), fun h => num_none fun k hk => absurd (numF_some hk).1 (by rw [hm' k hk]; omega)⟩, rfl⟩ (by repeat' (first | exact Cover.nil | exact Take.here | apply Cover.cons | apply Take.there)) | exact g_post (Ho := []) (rs := [.tmp 2, .tmp 3]) rfl (.tmp rfl (.tmp rfl .nil)) ⟨⟨_, _, rfl, fun h => numF_of (by omega) (of_decide_eq_true h), fun h => num_none fun k hk => absurd (numF_some hk).2 (by rw [hm' k hk]; exact of_decide_eq_false h)⟩, rfl⟩ (by repeat' (first | exact Cover.nil | exact Take.here | apply Cover.cons | apply Take.there))
          · refine g_no rfl rfl rfl rfl ?_
            refine g_no rfl rfl rfl rfl ?_
            refine g_no rfl rfl rfl rfl ?_
            refine g_no rfl rfl rfl rfl ?_
            first | refine g_pure (p_pickt rfl rfl) rfl ?_ | refine g_pure (p_pickf rfl rfl) rfl ?_
            refine g_pure (p_assign rfl) rfl ?_
            refine g_pure (p_assign rfl) rfl ?_
            refine g_nil ?_
            refine g_qt ?_
            refine g_ret ?_
            first | exact g_post (Ho := []) (rs := [.tmp 2, .tmp 3]) rfl (.tmp rfl (.tmp rfl .nil)) ⟨⟨_, _, rfl, fun h => (by cases h), fun h => num_none fun k hk => absurd (numF_some hk).1 (by rw [hm' k hk]; omega)⟩, rfl⟩ (by repeat' (first | exact Cover.nil | exact Take.here | apply Cover.cons | apply Take.there)) | exact g_post (Ho := []) (rs := [.tmp 2, .tmp 3]) rfl (.tmp rfl (.tmp rfl .nil)) ⟨⟨_, _, rfl, fun h => numF_of (by omega) (of_decide_eq_true h), fun h => num_none fun k hk => absurd (numF_some hk).2 (by rw [hm' k hk]; exact of_decide_eq_false h)⟩, rfl⟩ (by repeat' (first | exact Cover.nil | exact Take.here | apply Cover.cons | apply Take.there))
        · refine g_no rfl rfl rfl rfl ?_
          refine g_no rfl rfl rfl rfl ?_
          first | refine g_pure (p_pickt rfl rfl) rfl ?_ | refine g_pure (p_pickf rfl rfl) rfl ?_
          refine g_pure (p_move rfl) rfl ?_
          refine g_no rfl rfl rfl rfl ?_
          refine g_no rfl rfl rfl rfl ?_
          refine g_no rfl rfl rfl rfl ?_
          refine g_no rfl rfl rfl rfl ?_
          first | refine g_pure (p_pickt rfl rfl) rfl ?_ | refine g_pure (p_pickf rfl rfl) rfl ?_
          refine g_pure (p_assign rfl) rfl ?_
          refine g_pure (p_assign rfl) rfl ?_
          refine g_nil ?_
          refine g_qt ?_
          refine g_ret ?_
          first | exact g_post (Ho := []) (rs := [.tmp 2, .tmp 3]) rfl (.tmp rfl (.tmp rfl .nil)) ⟨⟨_, _, rfl, fun h => (by cases h), fun h => num_none fun k hk => absurd (numF_some hk).1 (by rw [hm' k hk]; omega)⟩, rfl⟩ (by repeat' (first | exact Cover.nil | exact Take.here | apply Cover.cons | apply Take.there)) | exact g_post (Ho := []) (rs := [.tmp 2, .tmp 3]) rfl (.tmp rfl (.tmp rfl .nil)) ⟨⟨_, _, rfl, fun h => numF_of (by omega) (of_decide_eq_true h), fun h => num_none fun k hk => absurd (numF_some hk).2 (by rw [hm' k hk]; exact of_decide_eq_false h)⟩, rfl⟩ (by repeat' (first | exact Cover.nil | exact Take.here | apply Cover.cons | apply Take.there))
end Go.Proofs.YtkbofpcnhjopaaaDoor
