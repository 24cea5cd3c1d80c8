/- Chapter 35: the small case, negations. Conditions: none. -/
import Derived.Test.YtmdmffpfnijahaaA5
import Derived.Test.YtmdmffpfnijahaaZh
namespace Go.Proofs.Ytmdmffpfnijahaa
set_option linter.unusedVariables false
set_option linter.unusedSimpArgs false
set_option linter.unusedSectionVars false
open Go Go.Z Go.Z.Aig

def L0 : St := [(0, 0, false)]
def L2 : St := [(0, 0, false), (0, 0, true), (0, 0, true)]
def L5 : St := [(0, 0, false), (0, 0, true), (0, 0, true), (2, 5, false), (3, 4, false), (7, 9, false)]
def L6 : St := [(0, 0, false), (0, 0, true), (0, 0, true), (2, 5, false), (3, 4, false), (7, 9, false), (2, 4, false)]

theorem lives_in1 : input1 L0 = (2, 0, [(0, 0, false), (0, 0, true)]) := by decide
theorem lives_in2 : input1 [(0, 0, false), (0, 0, true)] = (4, 0, L2) := by decide
theorem lives_xor : xor1 L2 2 4 = (11, 0, L5) := by decide
theorem lives_and : and1 L5 4 2 = (12, 0, L6) := by decide
theorem lives_and2 : and1 L6 2 4 = (12, 0, L6) := by decide
theorem lives_eval : eval1 L6 [true, false] [11, 12, 1, 3] = ([true, false, true, false], 0) := by decide

theorem input_at {ρ : Nat → Obj → Prop} {p : Nat} {S : St} {a e : Int} {T : St} (h : input1 S = (a, e, T)) :
    Con Try.prog ρ 22 #[.pointer (some ⟨p, 0, none⟩)] [Gr p S] (fun v H => v = .tuple #[.int .i64 a, .int .i64 e] ∧ H = [Gr p T]) := by
  have := input_ok (ρ := ρ) p S; rw [h] at this; exact this
theorem and_at {ρ : Nat → Obj → Prop} {p : Nat} {S : St} {x y a e : Int} {T : St} (h : and1 S x y = (a, e, T)) (hx : I64 x) (hy : I64 y) :
    Con Try.prog ρ 15 #[.pointer (some ⟨p, 0, none⟩), .int .i64 x, .int .i64 y] [Gr p S] (fun v H => v = .tuple #[.int .i64 a, .int .i64 e] ∧ H = [Gr p T]) := by
  have := and_ok (ρ := ρ) p S x y hx hy; rw [h] at this; exact this
theorem or_at {ρ : Nat → Obj → Prop} {p : Nat} {S : St} {x y a e : Int} {T : St} (h : or1 S x y = (a, e, T)) (hx : I64 x) (hy : I64 y) :
    Con Try.prog ρ 16 #[.pointer (some ⟨p, 0, none⟩), .int .i64 x, .int .i64 y] [Gr p S] (fun v H => v = .tuple #[.int .i64 a, .int .i64 e] ∧ H = [Gr p T]) := by
  have := or_ok (ρ := ρ) p S x y hx hy; rw [h] at this; exact this
theorem xor_at {ρ : Nat → Obj → Prop} {p : Nat} {S : St} {x y a e : Int} {T : St} (h : xor1 S x y = (a, e, T)) (hx : I64 x) (hy : I64 y) :
    Con Try.prog ρ 17 #[.pointer (some ⟨p, 0, none⟩), .int .i64 x, .int .i64 y] [Gr p S] (fun v H => v = .tuple #[.int .i64 a, .int .i64 e] ∧ H = [Gr p T]) := by
  have := xor_ok (ρ := ρ) p S x y hx hy; rw [h] at this; exact this
theorem mux_at {ρ : Nat → Obj → Prop} {p : Nat} {S : St} {c x y a e : Int} {T : St} (h : mux1 S c x y = (a, e, T)) (hc : I64 c) (hx : I64 x) (hy : I64 y) :
    Con Try.prog ρ 18 #[.pointer (some ⟨p, 0, none⟩), .int .i64 c, .int .i64 x, .int .i64 y] [Gr p S] (fun v H => v = .tuple #[.int .i64 a, .int .i64 e] ∧ H = [Gr p T]) := by
  have := mux_ok (ρ := ρ) p S c x y hc hx hy; rw [h] at this; exact this
theorem eval_at {ρ : Nat → Obj → Prop} {p : Nat} {S : St} {ia : Option Addr} {ic : Nat} {inp : List Bool} {al : Option Addr} {cl : Nat} {ls : List Int} {vs : List Bool} {e : Int} (h : eval1 S inp ls = (vs, e)) (hin : RSl ρ 1 ia inp.length (inp.map encB)) (hl : RSl ρ 1 al ls.length (ls.map encI)) (hlen : ls.length ≤ 10000000000) (hilen : inp.length ≤ 9223372036854775807)
    (hr : ∀ l ∈ ls, -9223372036854775808 ≤ l ∧ l ≤ 9223372036854775807) (hg : Ro ρ (Gr p S)) :
    Con Try.prog ρ 12 #[.pointer (some ⟨p, 0, none⟩), .slice ia inp.length ic, .slice al ls.length cl] []
      (fun v H => ∃ a c, v = .tuple #[.slice a vs.length c, .int .i64 e] ∧ H = [OwnSl 4 1 a vs.length c (vs.map encB)]) := by
  have := eval_ok (ρ := ρ) p S ia ic inp hin al cl ls hl hlen hilen hr hg; rw [h] at this; exact this

theorem i64_lit {a : Int} (h : (decide (-9223372036854775808 ≤ a) && decide (a ≤ 9223372036854775807)) = true) : I64 a := by simpa [I64] using h

theorem lives_ok {ρ : Nat → Obj → Prop} : Con Try.prog ρ 10 #[] [] (fun v H => v = .bool true ∧ H = []) := by
  refine con_intro Try.func10 Try.call10 rfl Try.ntmps10 rfl (L := []) rfl fun w hh => ?_
  refine g_seq ?_
  refine g_region ?_
  refine g_pure (p_assign rfl) rfl ?_
  refine g_nil ?_
  refine g_qt ?_
  refine g_seq ?_
  refine g_region ?_
  refine g_call (Hin := []) (Hr := ?hr1) (R := ?rr1) rfl rfl rfl ?hin1 ?hc1 ?hk1
  case hin1 => repeat' (first | exact Cover.nil | exact Take.here | apply Cover.cons | apply Take.there)
  case hc1 => intro ρ' hρ hR; exact new_ok
  rintro _ _ ⟨p, rfl, rfl⟩
  refine g_pure (p_assign rfl) rfl ?_
  refine g_nil ?_
  refine g_qt ?_
  refine g_seq ?_
  refine g_seq ?_
  refine g_region ?_
  refine g_pure (p_move rfl) rfl ?_
  refine g_pure (p_eqnil (by rfl) rfl rfl) rfl ?_
  refine g_nil ?_
  refine g_qt ?_
  refine g_iff rfl ?_
  refine g_skip ?_
  refine g_qt ?_
  refine g_seq ?_
  refine g_region ?_
  refine g_pure (p_move rfl) rfl ?_
  refine g_call (Hin := ?hi2) (Hr := ?hr2) (R := ?rr2) rfl rfl rfl ?hin2 ?hc2 ?hk2
  case hc2 => intro ρ' hρ hR; exact input_at lives_in1
  case hin2 => repeat' (first | exact Cover.nil | exact Take.here | apply Cover.cons | apply Take.there)
  rintro _ _ ⟨rfl, rfl⟩
  refine g_pure (p_move rfl) rfl ?_
  refine g_pure (p_extract rfl rfl) rfl ?_
  refine g_pure (p_extract rfl rfl) rfl ?_
  refine g_pure (p_assign rfl) rfl ?_
  refine g_pure (p_assign rfl) rfl ?_
  refine g_nil ?_
  refine g_qt ?_
  refine g_seq ?_
  refine g_region ?_
  refine g_pure (p_move rfl) rfl ?_
  refine g_call (Hin := ?hi3) (Hr := ?hr3) (R := ?rr3) rfl rfl rfl ?hin3 ?hc3 ?hk3
  case hc3 => intro ρ' hρ hR; exact input_at lives_in2
  case hin3 => repeat' (first | exact Cover.nil | exact Take.here | apply Cover.cons | apply Take.there)
  rintro _ _ ⟨rfl, rfl⟩
  refine g_pure (p_move rfl) rfl ?_
  refine g_pure (p_extract rfl rfl) rfl ?_
  refine g_pure (p_extract rfl rfl) rfl ?_
  refine g_pure (p_assign rfl) rfl ?_
  refine g_pure (p_assign rfl) rfl ?_
  refine g_nil ?_
  refine g_qt ?_
  refine g_seq ?_
  refine g_region ?_
  refine g_pure (p_move rfl) rfl ?_
  refine g_pure (p_move rfl) rfl ?_
  refine g_pure (p_move rfl) rfl ?_
  refine g_call (Hin := ?hi4) (Hr := ?hr4) (R := ?rr4) rfl rfl rfl ?hin4 ?hc4 ?hk4
  case hc4 => intro ρ' hρ hR; exact xor_at lives_xor (i64_lit rfl) (i64_lit rfl)
  case hin4 => repeat' (first | exact Cover.nil | exact Take.here | apply Cover.cons | apply Take.there)
  rintro _ _ ⟨rfl, rfl⟩
  refine g_pure (p_move rfl) rfl ?_
  refine g_pure (p_extract rfl rfl) rfl ?_
  refine g_pure (p_extract rfl rfl) rfl ?_
  refine g_pure (p_assign rfl) rfl ?_
  refine g_pure (p_assign rfl) rfl ?_
  refine g_nil ?_
  refine g_qt ?_
  refine g_seq ?_
  refine g_region ?_
  refine g_pure (p_move rfl) rfl ?_
  refine g_pure (p_move rfl) rfl ?_
  refine g_pure (p_move rfl) rfl ?_
  refine g_call (Hin := ?hi5) (Hr := ?hr5) (R := ?rr5) rfl rfl rfl ?hin5 ?hc5 ?hk5
  case hc5 => intro ρ' hρ hR; exact and_at lives_and (i64_lit rfl) (i64_lit rfl)
  case hin5 => repeat' (first | exact Cover.nil | exact Take.here | apply Cover.cons | apply Take.there)
  rintro _ _ ⟨rfl, rfl⟩
  refine g_pure (p_move rfl) rfl ?_
  refine g_pure (p_extract rfl rfl) rfl ?_
  refine g_pure (p_extract rfl rfl) rfl ?_
  refine g_pure (p_assign rfl) rfl ?_
  refine g_pure (p_assign rfl) rfl ?_
  refine g_nil ?_
  refine g_qt ?_
  refine g_seq ?_
  refine g_region ?_
  refine g_pure (p_move rfl) rfl ?_
  refine g_pure (p_move rfl) rfl ?_
  refine g_pure (p_move rfl) rfl ?_
  refine g_call (Hin := ?hi6) (Hr := ?hr6) (R := ?rr6) rfl rfl rfl ?hin6 ?hc6 ?hk6
  case hc6 => intro ρ' hρ hR; exact and_at lives_and2 (i64_lit rfl) (i64_lit rfl)
  case hin6 => repeat' (first | exact Cover.nil | exact Take.here | apply Cover.cons | apply Take.there)
  rintro _ _ ⟨rfl, rfl⟩
  refine g_pure (p_move rfl) rfl ?_
  refine g_pure (p_extract rfl rfl) rfl ?_
  refine g_pure (p_extract rfl rfl) rfl ?_
  refine g_pure (p_assign rfl) rfl ?_
  refine g_pure (p_assign rfl) rfl ?_
  refine g_nil ?_
  refine g_qt ?_
  refine g_seq ?_
  refine g_region ?_
  refine g_pure (p_move rfl) rfl ?_
  refine g_eff (e_bs (xs := [.const (.bool true), .const (.bool false)]) rfl rfl rfl (by rfl) (by rfl) rfl (by rfl)) rfl (fun _ _ => ?_)
  rintro ⟨b50, rfl, rfl⟩
  refine g_pure (p_move rfl) rfl ?_
  refine g_pure (p_move rfl) rfl ?_
  refine g_eff (e_bs (xs := [.tmp 51, .tmp 52, .const (.int .i64 1), .const (.int .i64 3)]) rfl rfl rfl (by rfl) (by rfl) rfl (by rfl)) rfl (fun _ _ => ?_)
  rintro ⟨b53, rfl, rfl⟩
  refine g_call (Hin := []) (Hr := ?hr7) (R := ?rr7) rfl rfl rfl ?hin7 ?hc7 ?hk7
  case hin7 => repeat' (first | exact Cover.nil | exact Take.here | apply Cover.cons | apply Take.there)
  case hc7 => intro ρ' hρ hR; exact eval_at (inp := [true, false]) (ls := [11, 12, 1, 3]) lives_eval (.of_blk hR.2.1.blk (by simp)) (.of_blk hR.1.blk (by simp)) (by simp) (by simp) (by simp) hR.2.2.1
  rintro _ _ ⟨a, c, rfl, rfl⟩
  refine g_own (.here) (fun _ h _ _ => absurd h (by decide)) (fun g cur e1 _ _ hcl htk _ => ?_)
  subst e1
  have hc4 : cur.length = c := by simpa using hcl
  have hx : ∀ i v, (([true, false, true, false] : List Bool).map encB)[i]? = some v → cur[0 + i]? = some v := fun i v hv => by
    rw [← htk, List.getElem?_take] at hv
    split at hv
    · simpa using hv
    · cases hv
  have x0 := hx 0 _ rfl
  have x1 := hx 1 _ rfl
  have x2 := hx 2 _ rfl
  have x3 := hx 3 _ rfl
  refine g_pure (p_move rfl) rfl ?_
  refine g_pure (p_extract rfl rfl) rfl ?_
  refine g_pure (p_extract rfl rfl) rfl ?_
  refine g_pure (p_assign rfl) rfl ?_
  refine g_pure (p_assign rfl) rfl ?_
  refine g_nil ?_
  refine g_qt ?_
  refine g_seq ?_
  refine g_region ?_
  refine g_pure (p_move rfl) rfl ?_
  refine g_pure (p_eql rfl rfl) rfl ?_
  refine g_pure (p_move rfl) rfl ?_
  refine g_yes rfl rfl ?_
  refine g_pure (p_move rfl) rfl ?_
  refine g_yes rfl rfl ?_
  refine g_pure (p_eql rfl rfl) rfl ?_
  first | refine g_pure (p_pickt rfl rfl) rfl ?_ | refine g_pure (p_pickf rfl rfl) rfl ?_
  refine g_pure (p_move rfl) rfl ?_
  refine g_yes rfl rfl ?_
  refine g_pure (p_move rfl) rfl ?_
  refine g_yes rfl rfl ?_
  refine g_pure (p_eql rfl rfl) rfl ?_
  first | refine g_pure (p_pickt rfl rfl) rfl ?_ | refine g_pure (p_pickf rfl rfl) rfl ?_
  refine g_pure (p_move rfl) rfl ?_
  refine g_yes rfl rfl ?_
  refine g_pure (p_move rfl) rfl ?_
  refine g_yes rfl rfl ?_
  refine g_pure (p_eql rfl rfl) rfl ?_
  first | refine g_pure (p_pickt rfl rfl) rfl ?_ | refine g_pure (p_pickf rfl rfl) rfl ?_
  refine g_pure (p_move rfl) rfl ?_
  refine g_yes rfl rfl ?_
  refine g_pure (p_move rfl) rfl ?_
  refine g_yes rfl rfl ?_
  refine g_pure (p_eql rfl rfl) rfl ?_
  first | refine g_pure (p_pickt rfl rfl) rfl ?_ | refine g_pure (p_pickf rfl rfl) rfl ?_
  refine g_pure (p_move rfl) rfl ?_
  refine g_yes rfl rfl ?_
  refine g_pure (p_move rfl) rfl ?_
  refine g_yes rfl rfl ?_
  refine g_pure (p_eql rfl rfl) rfl ?_
  first | refine g_pure (p_pickt rfl rfl) rfl ?_ | refine g_pure (p_pickf rfl rfl) rfl ?_
  refine g_pure (p_move rfl) rfl ?_
  refine g_yes rfl rfl ?_
  refine g_pure (p_move rfl) rfl ?_
  refine g_yes rfl rfl ?_
  refine g_pure (p_eql rfl rfl) rfl ?_
  first | refine g_pure (p_pickt rfl rfl) rfl ?_ | refine g_pure (p_pickf rfl rfl) rfl ?_
  refine g_pure (p_move rfl) rfl ?_
  refine g_yes rfl rfl ?_
  refine g_pure (p_move rfl) rfl ?_
  refine g_yes rfl rfl ?_
  refine g_pure (p_eql rfl rfl) rfl ?_
  first | refine g_pure (p_pickt rfl rfl) rfl ?_ | refine g_pure (p_pickf rfl rfl) rfl ?_
  refine g_pure (p_move rfl) rfl ?_
  refine g_yes rfl rfl ?_
  refine g_pure (p_move rfl) rfl ?_
  refine g_yes rfl rfl ?_
  refine g_pure (p_eql rfl rfl) rfl ?_
  first | refine g_pure (p_pickt rfl rfl) rfl ?_ | refine g_pure (p_pickf rfl rfl) rfl ?_
  refine g_pure (p_move rfl) rfl ?_
  refine g_yes rfl rfl ?_
  refine g_pure (p_move rfl) rfl ?_
  refine g_yes rfl rfl ?_
  refine g_pure (p_move rfl) rfl ?_
  refine g_yes rfl rfl ?_
  refine g_pure (p_eql rfl rfl) rfl ?_
  first | refine g_pure (p_pickt rfl rfl) rfl ?_ | refine g_pure (p_pickf rfl rfl) rfl ?_
  refine g_pure (p_move rfl) rfl ?_
  refine g_yes rfl rfl ?_
  refine g_pure (p_move rfl) rfl ?_
  refine g_yes rfl rfl ?_
  refine g_pure (p_eql rfl rfl) rfl ?_
  first | refine g_pure (p_pickt rfl rfl) rfl ?_ | refine g_pure (p_pickf rfl rfl) rfl ?_
  refine g_pure (p_move rfl) rfl ?_
  refine g_yes rfl rfl ?_
  refine g_pure (p_move rfl) rfl ?_
  refine g_yes rfl rfl ?_
  refine g_pure (p_len (by rfl) rfl) rfl ?_
  refine g_yes rfl rfl ?_
  refine g_pure (p_eql rfl rfl) rfl ?_
  first | refine g_pure (p_pickt rfl rfl) rfl ?_ | refine g_pure (p_pickf rfl rfl) rfl ?_
  refine g_pure (p_move rfl) rfl ?_
  refine g_yes rfl rfl ?_
  refine g_pure (p_move rfl) rfl ?_
  refine g_yes rfl rfl ?_
  refine g_pure (p_indexAddr rfl rfl (by simp) (fun _ => rfl)) rfl ?_
  refine g_yes rfl rfl ?_
  refine g_pure (p_load (by rfl) rfl (Has.own (by repeat' (first | exact Take.here | apply Take.there))) x0) rfl ?_
  first | refine g_pure (p_pickt rfl rfl) rfl ?_ | refine g_pure (p_pickf rfl rfl) rfl ?_
  refine g_pure (p_move rfl) rfl ?_
  refine g_yes rfl rfl ?_
  refine g_pure (p_move rfl) rfl ?_
  refine g_yes rfl rfl ?_
  refine g_pure (p_indexAddr rfl rfl (by simp) (fun _ => rfl)) rfl ?_
  refine g_yes rfl rfl ?_
  refine g_pure (p_load (by rfl) rfl (Has.own (by repeat' (first | exact Take.here | apply Take.there))) x1) rfl ?_
  refine g_yes rfl rfl ?_
  refine g_pure (p_not rfl) rfl ?_
  first | refine g_pure (p_pickt rfl rfl) rfl ?_ | refine g_pure (p_pickf rfl rfl) rfl ?_
  refine g_pure (p_move rfl) rfl ?_
  refine g_yes rfl rfl ?_
  refine g_pure (p_move rfl) rfl ?_
  refine g_yes rfl rfl ?_
  refine g_pure (p_indexAddr rfl rfl (by simp) (fun _ => rfl)) rfl ?_
  refine g_yes rfl rfl ?_
  refine g_pure (p_load (by rfl) rfl (Has.own (by repeat' (first | exact Take.here | apply Take.there))) x2) rfl ?_
  first | refine g_pure (p_pickt rfl rfl) rfl ?_ | refine g_pure (p_pickf rfl rfl) rfl ?_
  refine g_pure (p_move rfl) rfl ?_
  refine g_yes rfl rfl ?_
  refine g_pure (p_move rfl) rfl ?_
  refine g_yes rfl rfl ?_
  refine g_pure (p_indexAddr rfl rfl (by simp) (fun _ => rfl)) rfl ?_
  refine g_yes rfl rfl ?_
  refine g_pure (p_load (by rfl) rfl (Has.own (by repeat' (first | exact Take.here | apply Take.there))) x3) rfl ?_
  refine g_yes rfl rfl ?_
  refine g_pure (p_not rfl) rfl ?_
  first | refine g_pure (p_pickt rfl rfl) rfl ?_ | refine g_pure (p_pickf rfl rfl) rfl ?_
  refine g_pure (p_move rfl) rfl ?_
  refine g_yes rfl rfl ?_
  refine g_pure (p_move rfl) rfl ?_
  refine g_yes rfl rfl ?_
  refine g_call (Hin := []) (Hr := ?hr8) (R := ?rr8) rfl rfl rfl ?hin8 ?hc8 ?hk8
  case hin8 => repeat' (first | exact Cover.nil | exact Take.here | apply Cover.cons | apply Take.there)
  case hc8 => intro ρ' hρ hR; exact glen_ok p L6 hR.2.2.2.1
  rintro _ _ ⟨rfl, rfl⟩
  refine g_yes rfl rfl ?_
  refine g_pure (p_eql rfl rfl) rfl ?_
  first | refine g_pure (p_pickt rfl rfl) rfl ?_ | refine g_pure (p_pickf rfl rfl) rfl ?_
  refine g_pure (p_assign rfl) rfl ?_
  refine g_nil ?_
  refine g_qt ?_
  refine g_ret ?_
  exact g_post (rs := [.tmp 0]) rfl (.tmp rfl .nil) ⟨rfl, rfl⟩ .nil

/-- the negation inverts the lowest bit; twice it changes nothing -/
theorem nots_ok {ρ : Nat → Obj → Prop} (a : Int) (ha : I64 a) : Con Try.prog ρ 3 #[.int .i64 a] [] (fun v _ => v = .bool true) := by
  have e1 := nt_xor a ha
  have hn : I64 (nt a) := by unfold I64 nt at *; split <;> omega
  have e2 := nt_xor (nt a) hn
  have e3 : nt (nt a) = a := by unfold nt; split <;> split <;> omega
  refine con_intro Try.func3 Try.call3 rfl Try.ntmps3 rfl (L := [(0, _)]) rfl fun w hh => ?_
  refine g_seq ?_
  refine g_region ?_
  refine g_pure (p_assign rfl) rfl ?_
  refine g_nil ?_
  refine g_qt ?_
  refine g_seq ?_
  refine g_region ?_
  refine g_pure (p_move rfl) rfl ?_
  refine g_call (Hin := []) (Hr := ?hr9) (R := ?rr9) rfl rfl rfl ?hin9 ?hc9 ?hk9
  case hin9 => repeat' (first | exact Cover.nil | exact Take.here | apply Cover.cons | apply Take.there)
  case hc9 => intro ρ' hρ hR; exact not_ok a
  rintro _ _ ⟨rfl, rfl⟩
  refine g_pure (p_assign rfl) rfl ?_
  refine g_nil ?_
  refine g_qt ?_
  refine g_seq ?_
  refine g_region ?_
  refine g_pure (p_move rfl) rfl ?_
  refine g_pure (p_move rfl) rfl ?_
  refine g_pure (p_xor rfl rfl) rfl ?_
  refine g_pure (p_eql rfl rfl) rfl ?_
  refine g_pure (p_move rfl) rfl ?_
  rw [show decide (bitV .xor .i64 a 1 = bitV .xor .i64 a 1) = true from decide_eq_true rfl]
  refine g_yes rfl rfl ?_
  refine g_pure (p_move rfl) rfl ?_
  refine g_yes rfl rfl ?_
  refine g_call (Hin := []) (Hr := ?hr10) (R := ?rr10) rfl rfl rfl ?hin10 ?hc10 ?hk10
  case hin10 => repeat' (first | exact Cover.nil | exact Take.here | apply Cover.cons | apply Take.there)
  case hc10 => intro ρ' hρ hR; exact not_ok _
  rintro _ _ ⟨rfl, rfl⟩
  refine g_yes rfl rfl ?_
  refine g_pure (p_move rfl) rfl ?_
  refine g_yes rfl rfl ?_
  refine g_pure (p_eql rfl rfl) rfl ?_
  first | refine g_pure (p_pickt rfl rfl) rfl ?_ | refine g_pure (p_pickf rfl rfl) rfl ?_
  refine g_pure (p_move rfl) rfl ?_
  rw [e1, e2, e3, show decide (a = a) = true from decide_eq_true rfl]
  refine g_yes rfl rfl ?_
  refine g_call (Hin := []) (Hr := ?hr11) (R := ?rr11) rfl rfl rfl ?hin11 ?hc11 ?hk11
  case hin11 => repeat' (first | exact Cover.nil | exact Take.here | apply Cover.cons | apply Take.there)
  case hc11 => intro ρ' hρ hR; exact lives_ok
  rintro _ _ ⟨rfl, rfl⟩
  first | refine g_pure (p_pickt rfl rfl) rfl ?_ | refine g_pure (p_pickf rfl rfl) rfl ?_
  refine g_pure (p_assign rfl) rfl ?_
  refine g_nil ?_
  refine g_qt ?_
  refine g_ret ?_
  exact g_post (rs := [.tmp 2]) rfl (.tmp rfl .nil) rfl .nil
end Go.Proofs.Ytmdmffpfnijahaa
