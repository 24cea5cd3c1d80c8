/- Chapter 38: gates, sums. Conditions: none. -/
import Derived.Test.YtkebblmmgcgjkaaJ2
import Derived.Test.YtkebblmmgcgjkaaZj
namespace Go.Proofs.Ytkebblmmgcgjkaa
set_option maxRecDepth 8000
set_option linter.unusedVariables false
set_option linter.unusedSimpArgs false
set_option linter.unusedSectionVars false
open Go Go.Z Go.Z.Aig Go.Z.Bit

abbrev MkB (mb p : Nat) : Assn := Blk mb (.cells [.pointer (some ⟨p, 0, none⟩), .int .i64 0].toArray 146 (0, 0))
theorem lrd {ρ : Nat → Obj → Prop} {al : Option Addr} {ls : List Int} (h : RSl ρ 1 al ls.length (ls.map encI)) : ∃ b off cs T fz, 0 < ls.length → al = some ⟨b, off, none⟩ ∧ ρ b (.cells (cs : List Value).toArray T fz) ∧ ∀ i (hi : i < ls.length), cs[off + i * 1]? = some (.int .i64 ls[i]) := by
  obtain ⟨h1, b, off, cs, T, fz, h2⟩ := h
  refine ⟨b, off, cs, T, fz, fun h0 => ⟨(h2 h0).1, (h2 h0).2.1, fun i hi => (h2 h0).2.2 _ _ ?_⟩⟩
  rw [Nat.mul_one, List.getElem?_map, List.getElem?_eq_getElem hi]; rfl
theorem map_take_succ {ls : List Int} {k : Nat} (hk : k < ls.length) (f : Int → Value) : (ls.take k).map f ++ [f ls[k]] = (ls.take (k + 1)).map f := by
  rw [List.take_add_one, List.getElem?_eq_getElem hk, Option.toList_some, List.map_append]; rfl

theorem bnot_ok {ρ : Nat → Obj → Prop} {a : Int} (ha : I64 a) : Con Try.prog ρ 13 #[.int .i64 a] [] (fun v H => v = .int .i64 (nt a) ∧ H = []) := by
  have := not_ok (ρ := ρ) a
  rwa [nt_xor a ha] at this
theorem keep_ok {ρ : Nat → Obj → Prop} (mb p : Nat) (l : Int) : Con Try.prog ρ 116 #[.pointer (some ⟨mb, 0, none⟩), .int .i64 l, .int .i64 0] [MkB mb p] (fun v H => v = .int .i64 l ∧ H = [MkB mb p]) := by
  refine con_intro Try.func116 Try.call116 rfl Try.ntmps116 rfl (L := [(0, _), (1, _), (2, _)]) rfl fun w hh => ?_
  refine g_seq ?_
  refine g_region ?_
  refine g_pure (p_assign rfl) rfl ?_
  refine g_nil ?_
  refine g_qt ?_
  refine g_seq ?_
  refine g_seq ?_
  refine g_region ?_
  refine g_pure (p_move rfl) rfl ?_
  refine g_pure (p_nilCheck rfl) rfl ?_
  refine g_pure (p_fieldAddr rfl) rfl ?_
  refine g_pure (p_load (by rfl) rfl (by first | (apply Has.own; (repeat' (first | exact Take.here | apply Take.there)); done) | exact Has.ro (by assumption)) (by first | rfl | assumption)) rfl ?_
  refine g_pure (p_eqlT rfl rfl rfl) rfl ?_
  refine g_nil ?_
  refine g_qt ?_
  refine g_ift rfl ?_
  refine g_region ?_
  refine g_pure (p_move rfl) rfl ?_
  refine g_pure (p_move rfl) rfl ?_
  refine g_pure (p_nilCheck rfl) rfl ?_
  refine g_pure (p_fieldAddr rfl) rfl ?_
  first | refine g_eff0 (e_storeO rfl rfl (by rfl) (by rfl) (by rfl) (by repeat' (first | exact Take.here | apply Take.there)) (by rfl)) (fun _ _ => ?_) | refine g_eff0 (e_store1 (by rfl) rfl rfl rfl (by repeat' (first | exact Take.here | apply Take.there)) (by first | decide | (simp <;> omega) | omega)) (fun _ _ => ?_)
  rintro rfl
  refine g_nil ?_
  refine g_qt ?_
  refine g_seq ?_
  refine g_region ?_
  refine g_pure (p_move rfl) rfl ?_
  refine g_pure (p_assign rfl) rfl ?_
  refine g_nil ?_
  refine g_qt ?_
  refine g_ret ?_
  exact g_post (rs := [.tmp 6]) rfl (.tmp rfl .nil) ⟨rfl, rfl⟩ (by repeat' (first | exact Cover.nil | exact Take.here | apply Cover.cons | apply Take.there))
theorem and_c {ρ : Nat → Obj → Prop} {p : Nat} {S T : St} {a b l : Int} (e : and1 S a b = (l, 0, T)) (ha : I64 a) (hb : I64 b) : Con Try.prog ρ 14 #[.pointer (some ⟨p, 0, none⟩), .int .i64 a, .int .i64 b] [Gr p S]
    (fun v H => v = .tuple #[.int .i64 l, .int .i64 0] ∧ H = [Gr p T]) := by have := and_ok (ρ := ρ) p S a b ha hb; rwa [e] at this
theorem xor_c {ρ : Nat → Obj → Prop} {p : Nat} {S T : St} {a b l : Int} (e : xor1 S a b = (l, 0, T)) (ha : I64 a) (hb : I64 b) : Con Try.prog ρ 117 #[.pointer (some ⟨p, 0, none⟩), .int .i64 a, .int .i64 b] [Gr p S]
    (fun v H => v = .tuple #[.int .i64 l, .int .i64 0] ∧ H = [Gr p T]) := by have := xor_ok (ρ := ρ) p S a b ha hb; rwa [e] at this
theorem mux_c {ρ : Nat → Obj → Prop} {p : Nat} {S T : St} {c a b l : Int} (e : mux1 S c a b = (l, 0, T)) (hc : I64 c) (ha : I64 a) (hb : I64 b) : Con Try.prog ρ 129 #[.pointer (some ⟨p, 0, none⟩), .int .i64 c, .int .i64 a, .int .i64 b] [Gr p S]
    (fun v H => v = .tuple #[.int .i64 l, .int .i64 0] ∧ H = [Gr p T]) := by have := mux_ok (ρ := ρ) p S c a b hc ha hb; rwa [e] at this

variable {ρ : Nat → Obj → Prop} {S : St} {a b c : Int} {fa fb fc : List Bool → Bool}
theorem mand_ok (mb p : Nat) (hw : WF S) (hl : S.length < 131072) (ha : Den S a fa) (hb : Den S b fb) : Con Try.prog ρ 94 #[.pointer (some ⟨mb, 0, none⟩), .int .i64 a, .int .i64 b] [MkB mb p, Gr p S]
    (fun v H => ∃ l T, v = .int .i64 l ∧ H = [MkB mb p, Gr p T] ∧ Up S T 1 ∧ Den T l (fun i => fa i && fb i)) := by
  obtain ⟨l, T, e, u, d⟩ := and_den hw hl ha hb
  refine con_intro Try.func94 Try.call94 rfl Try.ntmps94 rfl (L := [(0, _), (1, _), (2, _)]) rfl fun w hh => ?_
  refine g_seq ?_
  refine g_region ?_
  refine g_pure (p_assign rfl) rfl ?_
  refine g_nil ?_
  refine g_qt ?_
  refine g_seq ?_
  refine g_seq ?_
  refine g_region ?_
  refine g_pure (p_move rfl) rfl ?_
  refine g_pure (p_nilCheck rfl) rfl ?_
  refine g_pure (p_fieldAddr rfl) rfl ?_
  refine g_pure (p_load (by rfl) rfl (by first | (apply Has.own; (repeat' (first | exact Take.here | apply Take.there)); done) | exact Has.ro (by assumption)) (by first | rfl | assumption)) rfl ?_
  refine g_pure (p_neqF rfl rfl rfl) rfl ?_
  refine g_nil ?_
  refine g_qt ?_
  refine g_iff rfl ?_
  refine g_skip ?_
  refine g_qt ?_
  refine g_seq ?_
  refine g_region ?_
  refine g_pure (p_move rfl) rfl ?_
  refine g_pure (p_move rfl) rfl ?_
  refine g_pure (p_nilCheck rfl) rfl ?_
  refine g_pure (p_fieldAddr rfl) rfl ?_
  refine g_pure (p_load (by rfl) rfl (by first | (apply Has.own; (repeat' (first | exact Take.here | apply Take.there)); done) | exact Has.ro (by assumption)) (by first | rfl | assumption)) rfl ?_
  refine g_pure (p_move rfl) rfl ?_
  refine g_pure (p_move rfl) rfl ?_
  refine g_call (Hin := ?hi1) (Hr := ?hr1) (R := ?rr1) rfl rfl rfl ?hin1 ?hc1 ?hk1
  case hc1 => intro ρ' hρ hR; exact and_c e (ha.i64 hw) (hb.i64 hw)
  case hin1 => repeat' (first | exact Cover.nil | exact Take.here | apply Cover.cons | apply Take.there)
  rintro _ _ ⟨rfl, rfl⟩
  refine g_pure (p_extract rfl rfl) rfl ?_
  refine g_pure (p_extract rfl rfl) rfl ?_
  refine g_call (Hin := ?hi2) (Hr := ?hr2) (R := ?rr2) rfl rfl rfl ?hin2 ?hc2 ?hk2
  case hc2 => intro ρ' hρ hR; exact keep_ok mb p l
  case hin2 => repeat' (first | exact Cover.nil | exact Take.here | apply Cover.cons | apply Take.there)
  rintro _ _ ⟨rfl, rfl⟩
  refine g_pure (p_assign rfl) rfl ?_
  refine g_nil ?_
  refine g_qt ?_
  refine g_ret ?_
  exact g_post (rs := [.tmp 6]) rfl (.tmp rfl .nil) ⟨l, T, rfl, rfl, u, d⟩ (by repeat' (first | exact Cover.nil | exact Take.here | apply Cover.cons | apply Take.there))
theorem mxor_ok (mb p : Nat) (hw : WF S) (hl : S.length + 2 < 131072) (ha : Den S a fa) (hb : Den S b fb) : Con Try.prog ρ 96 #[.pointer (some ⟨mb, 0, none⟩), .int .i64 a, .int .i64 b] [MkB mb p, Gr p S]
    (fun v H => ∃ l T, v = .int .i64 l ∧ H = [MkB mb p, Gr p T] ∧ Up S T 3 ∧ Den T l (fun i => fa i != fb i)) := by
  obtain ⟨l, T, e, u, d⟩ := xor_den hw hl ha hb
  refine con_intro Try.func96 Try.call96 rfl Try.ntmps96 rfl (L := [(0, _), (1, _), (2, _)]) rfl fun w hh => ?_
  refine g_seq ?_
  refine g_region ?_
  refine g_pure (p_assign rfl) rfl ?_
  refine g_nil ?_
  refine g_qt ?_
  refine g_seq ?_
  refine g_seq ?_
  refine g_region ?_
  refine g_pure (p_move rfl) rfl ?_
  refine g_pure (p_nilCheck rfl) rfl ?_
  refine g_pure (p_fieldAddr rfl) rfl ?_
  refine g_pure (p_load (by rfl) rfl (by first | (apply Has.own; (repeat' (first | exact Take.here | apply Take.there)); done) | exact Has.ro (by assumption)) (by first | rfl | assumption)) rfl ?_
  refine g_pure (p_neqF rfl rfl rfl) rfl ?_
  refine g_nil ?_
  refine g_qt ?_
  refine g_iff rfl ?_
  refine g_skip ?_
  refine g_qt ?_
  refine g_seq ?_
  refine g_region ?_
  refine g_pure (p_move rfl) rfl ?_
  refine g_pure (p_move rfl) rfl ?_
  refine g_pure (p_nilCheck rfl) rfl ?_
  refine g_pure (p_fieldAddr rfl) rfl ?_
  refine g_pure (p_load (by rfl) rfl (by first | (apply Has.own; (repeat' (first | exact Take.here | apply Take.there)); done) | exact Has.ro (by assumption)) (by first | rfl | assumption)) rfl ?_
  refine g_pure (p_move rfl) rfl ?_
  refine g_pure (p_move rfl) rfl ?_
  refine g_call (Hin := ?hi3) (Hr := ?hr3) (R := ?rr3) rfl rfl rfl ?hin3 ?hc3 ?hk3
  case hc3 => intro ρ' hρ hR; exact xor_c e (ha.i64 hw) (hb.i64 hw)
  case hin3 => repeat' (first | exact Cover.nil | exact Take.here | apply Cover.cons | apply Take.there)
  rintro _ _ ⟨rfl, rfl⟩
  refine g_pure (p_extract rfl rfl) rfl ?_
  refine g_pure (p_extract rfl rfl) rfl ?_
  refine g_call (Hin := ?hi4) (Hr := ?hr4) (R := ?rr4) rfl rfl rfl ?hin4 ?hc4 ?hk4
  case hc4 => intro ρ' hρ hR; exact keep_ok mb p l
  case hin4 => repeat' (first | exact Cover.nil | exact Take.here | apply Cover.cons | apply Take.there)
  rintro _ _ ⟨rfl, rfl⟩
  refine g_pure (p_assign rfl) rfl ?_
  refine g_nil ?_
  refine g_qt ?_
  refine g_ret ?_
  exact g_post (rs := [.tmp 6]) rfl (.tmp rfl .nil) ⟨l, T, rfl, rfl, u, d⟩ (by repeat' (first | exact Cover.nil | exact Take.here | apply Cover.cons | apply Take.there))
theorem mmux_ok (mb p : Nat) (hw : WF S) (hl : S.length + 2 < 131072) (hc : Den S c fc) (ha : Den S a fa) (hb : Den S b fb) : Con Try.prog ρ 106 #[.pointer (some ⟨mb, 0, none⟩), .int .i64 c, .int .i64 a, .int .i64 b] [MkB mb p, Gr p S]
    (fun v H => ∃ l T, v = .int .i64 l ∧ H = [MkB mb p, Gr p T] ∧ Up S T 3 ∧ Den T l (fun i => if fc i then fa i else fb i)) := by
  obtain ⟨l, T, e, u, d⟩ := mux_den hw hl hc ha hb
  refine con_intro Try.func106 Try.call106 rfl Try.ntmps106 rfl (L := [(0, _), (1, _), (2, _), (3, _)]) rfl fun w hh => ?_
  refine g_seq ?_
  refine g_region ?_
  refine g_pure (p_assign rfl) rfl ?_
  refine g_nil ?_
  refine g_qt ?_
  refine g_seq ?_
  refine g_seq ?_
  refine g_region ?_
  refine g_pure (p_move rfl) rfl ?_
  refine g_pure (p_nilCheck rfl) rfl ?_
  refine g_pure (p_fieldAddr rfl) rfl ?_
  refine g_pure (p_load (by rfl) rfl (by first | (apply Has.own; (repeat' (first | exact Take.here | apply Take.there)); done) | exact Has.ro (by assumption)) (by first | rfl | assumption)) rfl ?_
  refine g_pure (p_neqF rfl rfl rfl) rfl ?_
  refine g_nil ?_
  refine g_qt ?_
  refine g_iff rfl ?_
  refine g_skip ?_
  refine g_qt ?_
  refine g_seq ?_
  refine g_region ?_
  refine g_pure (p_move rfl) rfl ?_
  refine g_pure (p_move rfl) rfl ?_
  refine g_pure (p_nilCheck rfl) rfl ?_
  refine g_pure (p_fieldAddr rfl) rfl ?_
  refine g_pure (p_load (by rfl) rfl (by first | (apply Has.own; (repeat' (first | exact Take.here | apply Take.there)); done) | exact Has.ro (by assumption)) (by first | rfl | assumption)) rfl ?_
  refine g_pure (p_move rfl) rfl ?_
  refine g_pure (p_move rfl) rfl ?_
  refine g_pure (p_move rfl) rfl ?_
  refine g_call (Hin := ?hi5) (Hr := ?hr5) (R := ?rr5) rfl rfl rfl ?hin5 ?hc5 ?hk5
  case hc5 => intro ρ' hρ hR; exact mux_c e (hc.i64 hw) (ha.i64 hw) (hb.i64 hw)
  case hin5 => repeat' (first | exact Cover.nil | exact Take.here | apply Cover.cons | apply Take.there)
  rintro _ _ ⟨rfl, rfl⟩
  refine g_pure (p_extract rfl rfl) rfl ?_
  refine g_pure (p_extract rfl rfl) rfl ?_
  refine g_call (Hin := ?hi6) (Hr := ?hr6) (R := ?rr6) rfl rfl rfl ?hin6 ?hc6 ?hk6
  case hc6 => intro ρ' hρ hR; exact keep_ok mb p l
  case hin6 => repeat' (first | exact Cover.nil | exact Take.here | apply Cover.cons | apply Take.there)
  rintro _ _ ⟨rfl, rfl⟩
  refine g_pure (p_assign rfl) rfl ?_
  refine g_nil ?_
  refine g_qt ?_
  refine g_ret ?_
  exact g_post (rs := [.tmp 8]) rfl (.tmp rfl .nil) ⟨l, T, rfl, rfl, u, d⟩ (by repeat' (first | exact Cover.nil | exact Take.here | apply Cover.cons | apply Take.there))
theorem mor_ok (mb p : Nat) (hw : WF S) (hl : S.length < 131072) (ha : Den S a fa) (hb : Den S b fb) : Con Try.prog ρ 95 #[.pointer (some ⟨mb, 0, none⟩), .int .i64 a, .int .i64 b] [MkB mb p, Gr p S]
    (fun v H => ∃ l T, v = .int .i64 l ∧ H = [MkB mb p, Gr p T] ∧ Up S T 1 ∧ Den T l (fun i => fa i || fb i)) := by
  refine con_intro Try.func95 Try.call95 rfl Try.ntmps95 rfl (L := [(0, _), (1, _), (2, _)]) rfl fun w hh => ?_
  refine g_seq ?_
  refine g_region ?_
  refine g_pure (p_assign rfl) rfl ?_
  refine g_nil ?_
  refine g_qt ?_
  refine g_seq ?_
  refine g_region ?_
  refine g_pure (p_move rfl) rfl ?_
  refine g_pure (p_move rfl) rfl ?_
  refine g_call (Hin := []) (Hr := ?hr7) (R := ?rr7) rfl rfl rfl ?hin7 ?hc7 ?hk7
  case hin7 => repeat' (first | exact Cover.nil | exact Take.here | apply Cover.cons | apply Take.there)
  case hc7 => intro ρ' hρ hR; exact bnot_ok (ha.i64 hw)
  rintro _ _ ⟨rfl, rfl⟩
  refine g_pure (p_move rfl) rfl ?_
  refine g_call (Hin := []) (Hr := ?hr8) (R := ?rr8) rfl rfl rfl ?hin8 ?hc8 ?hk8
  case hin8 => repeat' (first | exact Cover.nil | exact Take.here | apply Cover.cons | apply Take.there)
  case hc8 => intro ρ' hρ hR; exact bnot_ok (hb.i64 hw)
  rintro _ _ ⟨rfl, rfl⟩
  refine g_call (Hin := ?hi9) (Hr := ?hr9) (R := ?rr9) rfl rfl rfl ?hin9 ?hc9 ?hk9
  case hc9 => intro ρ' hρ hR; exact mand_ok mb p hw hl ha.not hb.not
  case hin9 => repeat' (first | exact Cover.nil | exact Take.here | apply Cover.cons | apply Take.there)
  rintro _ _ ⟨l, T, rfl, rfl, u, d⟩
  refine g_call (Hin := []) (Hr := ?hr10) (R := ?rr10) rfl rfl rfl ?hin10 ?hc10 ?hk10
  case hin10 => repeat' (first | exact Cover.nil | exact Take.here | apply Cover.cons | apply Take.there)
  case hc10 => intro ρ' hρ hR; exact bnot_ok (d.i64 u.wf)
  rintro _ _ ⟨rfl, rfl⟩
  refine g_pure (p_assign rfl) rfl ?_
  refine g_nil ?_
  refine g_qt ?_
  refine g_ret ?_
  exact g_post (rs := [.tmp 6]) rfl (.tmp rfl .nil) ⟨nt l, T, rfl, rfl, u, d.not.congr fun i => by cases fa i <;> cases fb i <;> rfl⟩ (by repeat' (first | exact Cover.nil | exact Take.here | apply Cover.cons | apply Take.there))

variable {al bl : Option Addr} {cl cm : Nat} {ls ms : List Int} {f g : List Bool → List Bool}
theorem all_ok (mb p : Nat) (hw : WF S) (hl : S.length + ls.length < 131072) (hls : RSl ρ 1 al ls.length (ls.map encI)) (d : DenL S ls f) : Con Try.prog ρ 134 #[.pointer (some ⟨mb, 0, none⟩), .slice al ls.length cl] [MkB mb p, Gr p S]
    (fun v H => ∃ l T, v = .int .i64 l ∧ H = [MkB mb p, Gr p T] ∧ Up S T ls.length ∧ Den T l (fun i => allF (f i))) := by
  obtain ⟨b, off, cs, Tz, fz, hr⟩ := lrd hls
  refine con_intro Try.func134 Try.call134 rfl Try.ntmps134 rfl (L := [(0, _), (1, _)]) rfl fun w hh => ?_
  refine g_seq ?_
  refine g_region ?_
  refine g_pure (p_assign rfl) rfl ?_
  refine g_nil ?_
  refine g_qt ?_
  refine g_seq ?_
  refine g_region ?_
  refine g_pure (p_assign rfl) rfl ?_
  refine g_nil ?_
  refine g_qt ?_
  refine g_seq ?_
  refine g_seq ?_
  refine g_region ?_
  refine g_pure (p_move rfl) rfl ?_
  refine g_pure (p_len (by rfl) rfl) rfl ?_
  refine g_pure (p_move rfl) rfl ?_
  refine g_nil ?_
  refine g_qt ?_
  refine g_block ?_
  refine g_loop (fun q : Nat × Int × St => [(0, .pointer (some ⟨mb, 0, none⟩)), (5, .int .i64 q.2.1), (8, .slice al ls.length cl), (9, .int .i64 ls.length), (10, .int .i64 q.1)])
    (fun q => [MkB mb p, Gr p q.2.2]) (fun q => q.1 ≤ ls.length ∧ Up S q.2.2 q.1 ∧ Den q.2.2 q.2.1 (fun i => allF ((f i).take q.1))) (fun q => ls.length - q.1) (0, 1, S) ⟨Nat.zero_le _, .refl hw, (Den.one hw).congr fun i => rfl⟩ (by (repeat (first | exact trivial | refine ⟨by rfl, ?_⟩)); done) (by repeat' (first | exact Cover.nil | exact Take.here | apply Cover.cons | apply Take.there)) ?_
  rintro ⟨k, x, T⟩ ⟨hk, u, dx⟩
  dsimp only at hk u dx ⊢
  refine g_seq ?_
  refine g_region ?_
  refine g_pure (p_lss rfl rfl) rfl ?_
  refine g_nil ?_
  refine g_qt ?_
  refine g_seq ?_
  refine g_ifd rfl (fun h => ?_) (fun h => ?_)
  · have hkl : k < ls.length := by omega
    obtain ⟨r1, r2, r3⟩ := hr (by omega)
    have hul := u.len
    refine g_skip ?_
    refine g_qt ?_
    refine g_seq ?_
    refine g_block ?_
    refine g_seq ?_
    refine g_region ?_
    refine g_pure (p_indexAddr rfl rfl (by omega) (fun _ => r1)) rfl ?_
    refine g_pure (p_load (by rfl) rfl (Has.ro r2) (r3 k hkl)) rfl ?_
    refine g_pure (p_assign rfl) rfl ?_
    refine g_nil ?_
    refine g_qt ?_
    refine g_region ?_
    refine g_pure (p_move rfl) rfl ?_
    refine g_pure (p_move rfl) rfl ?_
    refine g_pure (p_move rfl) rfl ?_
    refine g_call (Hin := ?hi11) (Hr := ?hr11) (R := ?rr11) rfl rfl rfl ?hin11 ?hc11 ?hk11
    case hc11 => intro ρ' hρ hR; exact mand_ok mb p u.wf (by omega) dx ((d.get hkl).up hw u)
    case hin11 => repeat' (first | exact Cover.nil | exact Take.here | apply Cover.cons | apply Take.there)
    rintro _ _ ⟨l, U, rfl, rfl, u2, d2⟩
    refine g_pure (p_assign rfl) rfl ?_
    refine g_nil ?_
    refine g_qb ?_
    refine g_qt ?_
    refine g_region ?_
    first | refine g_pure (p_addi rfl rfl (by omega)) rfl ?_ | refine g_pure (p_add rfl rfl) rfl ?_
    refine g_pure (p_move rfl) rfl ?_
    refine g_nil ?_
    refine g_qn ?_
    exact g_next (k + 1, l, U) (by (repeat (first | exact trivial | refine ⟨by rfl, ?_⟩)); done) (by repeat' (first | exact Cover.nil | exact Take.here | apply Cover.cons | apply Take.there)) ⟨by dsimp only; omega, u.trans u2 (Nat.le_refl _), d2.congr fun i => by rw [take_succ' (by rw [d.len]; exact hkl), allF_snoc]⟩ (by dsimp only; omega)
  · have hke : k = ls.length := by omega
    subst hke
    refine g_exit ?_
    refine g_qt_exit ?_
    refine g_qn_exit ?_
    refine g_qb_exit ?_
    refine g_qt ?_
    refine g_seq ?_
    refine g_region ?_
    refine g_pure (p_move rfl) rfl ?_
    refine g_pure (p_assign rfl) rfl ?_
    refine g_nil ?_
    refine g_qt ?_
    refine g_ret ?_
    exact g_post (rs := [.tmp 4]) rfl (.tmp rfl .nil) ⟨x, T, rfl, rfl, u, dx.congr fun i => by rw [List.take_of_length_le (by rw [d.len]; exact Nat.le_refl _)]⟩ (by repeat' (first | exact Cover.nil | exact Take.here | apply Cover.cons | apply Take.there))

theorem bnots_ok {ρ : Nat → Obj → Prop} {al : Option Addr} {cl : Nat} {ls : List Int} (hi : ∀ l ∈ ls, I64 l) (hn : ls.length ≤ 100000) (hls : RSl ρ 1 al ls.length (ls.map encI)) : Con Try.prog ρ 92 #[.slice al ls.length cl] []
    (fun v H => ∃ a2 c2, v = .slice a2 ls.length c2 ∧ H = [OwnSl 27 1 a2 ls.length c2 ((ls.map nt).map encI)]) := by
  obtain ⟨b, off, cs, Tz, fz, hr⟩ := lrd hls
  refine con_intro Try.func92 Try.call92 rfl Try.ntmps92 rfl (L := [(0, _)]) rfl fun w hh => ?_
  refine g_seq ?_
  refine g_region ?_
  refine g_pure (p_assign rfl) rfl ?_
  refine g_nil ?_
  refine g_qt ?_
  refine g_seq ?_
  refine g_region ?_
  refine g_pure (p_assign rfl) rfl ?_
  refine g_nil ?_
  refine g_qt ?_
  refine g_seq ?_
  refine g_seq ?_
  refine g_region ?_
  refine g_pure (p_move rfl) rfl ?_
  refine g_pure (p_len (by rfl) rfl) rfl ?_
  refine g_pure (p_move rfl) rfl ?_
  refine g_nil ?_
  refine g_qt ?_
  refine g_block ?_
  refine g_ownnil (e := 27) (size := 1) ?_
  refine g_loop (fun q : Nat × Option Addr × Nat => [(3, .slice q.2.1 q.1 q.2.2), (6, .slice al ls.length cl), (7, .int .i64 ls.length), (8, .int .i64 q.1)])
    (fun q => [OwnSl 27 1 q.2.1 q.1 q.2.2 (((ls.map nt).take q.1).map encI)]) (fun q => q.1 ≤ ls.length) (fun q => ls.length - q.1) (0, none, 0) (Nat.zero_le _) (by (repeat (first | exact trivial | refine ⟨by rfl, ?_⟩)); done) (by repeat' (first | exact Cover.nil | exact Take.here | apply Cover.cons | apply Take.there)) ?_
  rintro ⟨k, oa, oc⟩ hk
  dsimp only at hk ⊢
  refine g_seq ?_
  refine g_region ?_
  refine g_pure (p_lss rfl rfl) rfl ?_
  refine g_nil ?_
  refine g_qt ?_
  refine g_seq ?_
  refine g_ifd rfl (fun h => ?_) (fun h => ?_)
  · have hkl : k < ls.length := by omega
    obtain ⟨r1, r2, r3⟩ := hr (by omega)
    refine g_skip ?_
    refine g_qt ?_
    refine g_seq ?_
    refine g_block ?_
    refine g_seq ?_
    refine g_region ?_
    refine g_pure (p_indexAddr rfl rfl (by omega) (fun _ => r1)) rfl ?_
    refine g_pure (p_load (by rfl) rfl (Has.ro r2) (r3 k hkl)) rfl ?_
    refine g_pure (p_assign rfl) rfl ?_
    refine g_nil ?_
    refine g_qt ?_
    refine g_region ?_
    refine g_pure (p_move rfl) rfl ?_
    refine g_pure (p_move rfl) rfl ?_
    refine g_call (Hin := []) (Hr := ?hr12) (R := ?rr12) rfl rfl rfl ?hin12 ?hc12 ?hk12
    case hin12 => repeat' (first | exact Cover.nil | exact Take.here | apply Cover.cons | apply Take.there)
    case hc12 => intro ρ' hρ hR; exact bnot_ok (hi _ (List.getElem_mem hkl))
    rintro _ _ ⟨rfl, rfl⟩
    refine g_eff (e_bs (xs := [.tmp 14]) rfl rfl rfl (by rfl) (by rfl) rfl (by rfl)) rfl (fun _ _ => ?_)
    rintro ⟨b15, rfl, rfl⟩
    refine g_eff (e_appendO (by rfl) (by rfl) rfl rfl (by first | (apply Has.own; (repeat' (first | exact Take.here | apply Take.there)); done) | exact Has.ro (by assumption)) (by rfl) (by rfl) (by repeat' (first | exact Take.here | apply Take.there)) (by omega) (by first | omega | (dsimp only; omega) | (simp <;> omega)) (by omega)) rfl (fun _ _ => ?_)
    rintro ⟨a16, c16, rfl, rfl⟩
    refine g_pure (p_assign rfl) rfl ?_
    refine g_nil ?_
    refine g_qb ?_
    refine g_qt ?_
    refine g_region ?_
    first | refine g_pure (p_addi rfl rfl (by omega)) rfl ?_ | refine g_pure (p_add rfl rfl) rfl ?_
    refine g_pure (p_move rfl) rfl ?_
    refine g_nil ?_
    refine g_qn ?_
    have e := map_take_succ (ls := ls.map nt) (k := k) (by simpa using hkl) encI
    rw [List.getElem_map] at e
    have e' : ((ls.map nt).take k).map encI ++ [Value.int .i64 (nt ls[k])] = ((ls.map nt).take (k + 1)).map encI := e
    rw [e']
    exact g_next (k + 1, a16, c16) (by (repeat (first | exact trivial | refine ⟨by rfl, ?_⟩)); done) (by repeat' (first | exact Cover.nil | exact Take.here | apply Cover.cons | apply Take.there)) (by dsimp only; omega) (by dsimp only; omega)
  · have hke : k = ls.length := by omega
    subst hke
    refine g_exit ?_
    refine g_qt_exit ?_
    refine g_qn_exit ?_
    refine g_qb_exit ?_
    refine g_qt ?_
    refine g_seq ?_
    refine g_region ?_
    refine g_pure (p_move rfl) rfl ?_
    refine g_pure (p_assign rfl) rfl ?_
    refine g_nil ?_
    refine g_qt ?_
    refine g_ret ?_
    rw [List.take_of_length_le (by simp)]
    exact g_post (rs := [.tmp 2]) rfl (.tmp rfl .nil) ⟨oa, oc, rfl, rfl⟩ (by repeat' (first | exact Cover.nil | exact Take.here | apply Cover.cons | apply Take.there))

theorem muxes_ok (mb p : Nat) (hw : WF S) (hl : S.length + 3 * ls.length < 131072) (hls : RSl ρ 1 al ls.length (ls.map encI)) (hms : RSl ρ 1 bl ms.length (ms.map encI)) (he : ls.length = ms.length) (dc : Den S c fc) (d : DenL S ls f) (d' : DenL S ms g) :
    Con Try.prog ρ 69 #[.pointer (some ⟨mb, 0, none⟩), .int .i64 c, .slice al ls.length cl, .slice bl ms.length cm] [MkB mb p, Gr p S]
    (fun v H => ∃ a2 c2 out T, v = .slice a2 out.length c2 ∧ H = [OwnSl 27 1 a2 out.length c2 (out.map encI), MkB mb p, Gr p T] ∧ out.length = ls.length ∧ Up S T (3 * ls.length) ∧ DenL T out (fun i => muxF (fc i) (f i) (g i))) := by
  obtain ⟨b1, o1, cs1, T1, fz1, hr⟩ := lrd hls
  obtain ⟨b2, o2, cs2, T2, fz2, hr2⟩ := lrd hms
  refine con_intro Try.func69 Try.call69 rfl Try.ntmps69 rfl (L := [(0, _), (1, _), (2, _), (3, _)]) rfl fun w hh => ?_
  refine g_seq ?_
  refine g_region ?_
  refine g_pure (p_assign rfl) rfl ?_
  refine g_nil ?_
  refine g_qt ?_
  refine g_seq ?_
  refine g_region ?_
  refine g_pure (p_assign rfl) rfl ?_
  refine g_nil ?_
  refine g_qt ?_
  refine g_seq ?_
  refine g_seq ?_
  refine g_region ?_
  refine g_pure (p_move rfl) rfl ?_
  refine g_pure (p_len (by rfl) rfl) rfl ?_
  refine g_pure (p_move rfl) rfl ?_
  refine g_nil ?_
  refine g_qt ?_
  refine g_block ?_
  refine g_ownnil (e := 27) (size := 1) ?_
  refine g_loop (fun q : List Int × Option Addr × Nat × St => [(0, .pointer (some ⟨mb, 0, none⟩)), (1, .int .i64 c), (2, .slice al ls.length cl), (3, .slice bl ms.length cm), (9, .slice q.2.1 q.1.length q.2.2.1), (12, .int .i64 ls.length), (13, .int .i64 q.1.length)])
    (fun q => [OwnSl 27 1 q.2.1 q.1.length q.2.2.1 (q.1.map encI), MkB mb p, Gr p q.2.2.2]) (fun q => q.1.length ≤ ls.length ∧ Up S q.2.2.2 (3 * q.1.length) ∧ DenL q.2.2.2 q.1 (fun i => muxF (fc i) ((f i).take q.1.length) ((g i).take q.1.length))) (fun q => ls.length - q.1.length) ([], none, 0, S) ⟨Nat.zero_le _, .refl hw, .nil⟩ (by (repeat (first | exact trivial | refine ⟨by rfl, ?_⟩)); done) (by repeat' (first | exact Cover.nil | exact Take.here | apply Cover.cons | apply Take.there)) ?_
  rintro ⟨out, oa, oc, T⟩ ⟨hk, u, dx⟩
  dsimp only at hk u dx ⊢
  refine g_seq ?_
  refine g_region ?_
  refine g_pure (p_lss rfl rfl) rfl ?_
  refine g_nil ?_
  refine g_qt ?_
  refine g_seq ?_
  refine g_ifd rfl (fun h => ?_) (fun h => ?_)
  · have hkl : out.length < ls.length := by omega
    have hkm : out.length < ms.length := by omega
    obtain ⟨r1, r2, r3⟩ := hr (by omega)
    obtain ⟨s1, s2, s3⟩ := hr2 (by omega)
    have hul := u.len
    refine g_skip ?_
    refine g_qt ?_
    refine g_seq ?_
    refine g_block ?_
    refine g_seq ?_
    refine g_region ?_
    refine g_pure (p_move rfl) rfl ?_
    refine g_pure (p_assign rfl) rfl ?_
    refine g_nil ?_
    refine g_qt ?_
    refine m_begin0 (.fl 0 0 (.fl 1 0 (.fl 2 0 (.fl 3 0 (.fl 4 0 (.fl 5 0 (.fl 6 1 (.fl 7 0 (.fl 8 0 (.fl 9 0 (.fl 10 1 (.ef 11 (.ef 12 (.ef 13 (.fl 14 0 .done))))))))))))))) (by kernel_rfl) (by kernel_rfl) ?_
    refine m_float0 rfl (fun _ _ => p_move rfl) rfl ?_
    refine m_float0 rfl (fun _ _ => p_move rfl) rfl ?_
    refine m_float0 rfl (fun _ _ => p_move rfl) rfl ?_
    refine m_float0 rfl (fun _ _ => p_move rfl) rfl ?_
    refine m_float0 rfl (fun _ _ => p_move rfl) rfl ?_
    refine m_float0 rfl (fun _ _ => p_indexAddr rfl rfl (by omega) (fun _ => r1)) rfl ?_
    refine m_float rfl (p_load (by rfl) rfl (Has.ro r2) (r3 _ hkl)) rfl ?_
    refine m_float0 rfl (fun _ _ => p_move rfl) rfl ?_
    refine m_float0 rfl (fun _ _ => p_move rfl) rfl ?_
    refine m_float0 rfl (fun _ _ => p_indexAddr rfl rfl (by omega) (fun _ => s1)) rfl ?_
    refine m_float rfl (p_load (by rfl) rfl (Has.ro s2) (s3 _ hkm)) rfl ?_
    refine m_call (Hin := ?hi13) (Hr := ?hr13) (R := ?rr13) rfl wantedN rfl rfl rfl ?hin13 ?hc13 ?hk13
    case hc13 => intro ρ' hρ hR; exact mmux_ok mb p u.wf (by omega) (dc.up hw u) ((d.get hkl).up hw u) ((d'.get hkm).up hw u)
    case hin13 => repeat' (first | exact Cover.nil | exact Take.here | apply Cover.cons | apply Take.there)
    rintro _ _ ⟨l, U, rfl, rfl, u2, d2⟩
    refine ⟨.none (by kernel_rfl), ?_⟩
    refine m_eff rfl (e_bs (xs := [.tmp 27]) rfl rfl rfl (by rfl) (by rfl) rfl (by rfl)) rfl (fun _ _ => ?_)
    rintro ⟨b28, rfl, rfl⟩
    refine ⟨.none (by kernel_rfl), ?_⟩
    refine m_eff rfl (e_appendO (by rfl) (by rfl) rfl rfl (by first | (apply Has.own; (repeat' (first | exact Take.here | apply Take.there)); done) | exact Has.ro (by assumption)) (by rfl) (by rfl) (by repeat' (first | exact Take.here | apply Take.there)) (by omega) (by first | omega | (dsimp only; omega) | (simp <;> omega)) (by omega)) rfl (fun _ _ => ?_)
    rintro ⟨a29, c29, rfl, rfl⟩
    refine ⟨.none (by kernel_rfl), ?_⟩
    refine m_float0 rfl (fun _ _ => p_assign rfl) rfl ?_
    refine m_nil ?_
    refine g_qb ?_
    refine g_qt ?_
    refine g_region ?_
    first | refine g_pure (p_addi rfl rfl (by omega)) rfl ?_ | refine g_pure (p_add rfl rfl) rfl ?_
    refine g_pure (p_move rfl) rfl ?_
    refine g_nil ?_
    refine g_qn ?_
    have e' : out.map encI ++ [Value.int .i64 l] = (out ++ [l]).map encI := by rw [List.map_append]; rfl
    have e2 : out.length + 1 = (out ++ [l]).length := by simp
    rw [e']
    refine g_next (out ++ [l], a29, c29, U) (by rw [← e2]; exact (by (repeat (first | exact trivial | refine ⟨by rfl, ?_⟩)); done)) (by rw [← e2]; exact (by repeat' (first | exact Cover.nil | exact Take.here | apply Cover.cons | apply Take.there))) ⟨by rw [← e2]; omega, u.trans u2 (by rw [← e2]; omega), ?_⟩ (by rw [← e2]; omega)
    refine ((dx.up u.wf u2).snoc d2).congr fun i => ?_
    rw [← e2, muxF_step _ (by rw [d.len]; exact hkl) (by rw [d'.len]; exact hkm)]
  · have hke : out.length = ls.length := by omega
    refine g_exit ?_
    refine g_qt_exit ?_
    refine g_qn_exit ?_
    refine g_qb_exit ?_
    refine g_qt ?_
    refine g_seq ?_
    refine g_region ?_
    refine g_pure (p_move rfl) rfl ?_
    refine g_pure (p_assign rfl) rfl ?_
    refine g_nil ?_
    refine g_qt ?_
    refine g_ret ?_
    refine g_post (rs := [.tmp 8]) rfl (.tmp rfl .nil) ⟨oa, oc, out, T, rfl, rfl, hke, by rw [← hke]; exact u, dx.congr fun i => ?_⟩ (by repeat' (first | exact Cover.nil | exact Take.here | apply Cover.cons | apply Take.there))
    rw [List.take_of_length_le (by rw [d.len]; omega), List.take_of_length_le (by rw [d'.len]; omega)]

theorem sum_ok (mb p : Nat) (hw : WF S) (hl : S.length + 9 * ls.length < 131072) (hls : RSl ρ 1 al ls.length (ls.map encI)) (hms : RSl ρ 1 bl ms.length (ms.map encI)) (he : ls.length = ms.length) (dc : Den S c fc) (d : DenL S ls f) (d' : DenL S ms g) :
    Con Try.prog ρ 97 #[.pointer (some ⟨mb, 0, none⟩), .slice al ls.length cl, .slice bl ms.length cm, .int .i64 c] [MkB mb p, Gr p S]
    (fun v H => ∃ a2 c2 out co T, v = .tuple #[.slice a2 out.length c2, .int .i64 co] ∧ H = [OwnSl 27 1 a2 out.length c2 (out.map encI), MkB mb p, Gr p T] ∧ out.length = ls.length ∧ Up S T (9 * ls.length) ∧ DenL T out (fun i => (addF (f i) (g i) (fc i)).1) ∧ Den T co (fun i => (addF (f i) (g i) (fc i)).2)) := by
  obtain ⟨b1, o1, cs1, T1, fz1, hr⟩ := lrd hls
  obtain ⟨b2, o2, cs2, T2, fz2, hr2⟩ := lrd hms
  refine con_intro Try.func97 Try.call97 rfl Try.ntmps97 rfl (L := [(0, _), (1, _), (2, _), (3, _)]) rfl fun w hh => ?_
  refine g_seq ?_
  refine g_region ?_
  refine g_pure (p_assign rfl) rfl ?_
  refine g_pure (p_assign rfl) rfl ?_
  refine g_nil ?_
  refine g_qt ?_
  refine g_seq ?_
  refine g_region ?_
  refine g_pure (p_assign rfl) rfl ?_
  refine g_nil ?_
  refine g_qt ?_
  refine g_seq ?_
  refine g_seq ?_
  refine g_region ?_
  refine g_pure (p_move rfl) rfl ?_
  refine g_pure (p_len (by rfl) rfl) rfl ?_
  refine g_pure (p_move rfl) rfl ?_
  refine g_nil ?_
  refine g_qt ?_
  refine g_block ?_
  refine g_ownnil (e := 27) (size := 1) ?_
  refine g_loop (fun q : List Int × Option Addr × Nat × Int × St => [(0, .pointer (some ⟨mb, 0, none⟩)), (1, .slice al ls.length cl), (2, .slice bl ms.length cm), (3, .int .i64 q.2.2.2.1), (10, .slice q.2.1 q.1.length q.2.2.1), (14, .int .i64 ls.length), (15, .int .i64 q.1.length)])
    (fun q => [OwnSl 27 1 q.2.1 q.1.length q.2.2.1 (q.1.map encI), MkB mb p, Gr p q.2.2.2.2]) (fun q => q.1.length ≤ ls.length ∧ Up S q.2.2.2.2 (9 * q.1.length) ∧ DenL q.2.2.2.2 q.1 (fun i => (addF ((f i).take q.1.length) ((g i).take q.1.length) (fc i)).1) ∧ Den q.2.2.2.2 q.2.2.2.1 (fun i => (addF ((f i).take q.1.length) ((g i).take q.1.length) (fc i)).2)) (fun q => ls.length - q.1.length) ([], none, 0, c, S) ⟨Nat.zero_le _, .refl hw, .nil, dc⟩ (by (repeat (first | exact trivial | refine ⟨by rfl, ?_⟩)); done) (by repeat' (first | exact Cover.nil | exact Take.here | apply Cover.cons | apply Take.there)) ?_
  rintro ⟨out, oa, oc, c, T⟩ ⟨hk, u, dx, dy⟩
  dsimp only at hk u dx dy ⊢
  refine g_seq ?_
  refine g_region ?_
  refine g_pure (p_lss rfl rfl) rfl ?_
  refine g_nil ?_
  refine g_qt ?_
  refine g_seq ?_
  refine g_ifd rfl (fun h => ?_) (fun h => ?_)
  · have hkl : out.length < ls.length := by omega
    have hkm : out.length < ms.length := by omega
    obtain ⟨r1, r2, r3⟩ := hr (by omega)
    obtain ⟨s1, s2, s3⟩ := hr2 (by omega)
    have hul := u.len
    refine g_skip ?_
    refine g_qt ?_
    refine g_seq ?_
    refine g_block ?_
    refine g_seq ?_
    refine g_region ?_
    refine g_pure (p_move rfl) rfl ?_
    refine g_pure (p_assign rfl) rfl ?_
    refine g_nil ?_
    refine g_qt ?_
    refine g_seq ?_
    refine m_begin0 (.fl 0 0 (.fl 1 0 (.fl 2 0 (.fl 3 0 (.fl 4 1 (.fl 5 0 (.fl 6 0 (.fl 7 0 (.fl 8 1 (.ef 9 (.fl 10 0 .done))))))))))) (by kernel_rfl) (by kernel_rfl) ?_
    refine m_float0 rfl (fun _ _ => p_move rfl) rfl ?_
    refine m_float0 rfl (fun _ _ => p_move rfl) rfl ?_
    refine m_float0 rfl (fun _ _ => p_move rfl) rfl ?_
    refine m_float0 rfl (fun _ _ => p_indexAddr rfl rfl (by omega) (fun _ => r1)) rfl ?_
    refine m_float rfl (p_load (by rfl) rfl (Has.ro r2) (r3 _ hkl)) rfl ?_
    refine m_float0 rfl (fun _ _ => p_move rfl) rfl ?_
    refine m_float0 rfl (fun _ _ => p_move rfl) rfl ?_
    refine m_float0 rfl (fun _ _ => p_indexAddr rfl rfl (by omega) (fun _ => s1)) rfl ?_
    refine m_float rfl (p_load (by rfl) rfl (Has.ro s2) (s3 _ hkm)) rfl ?_
    refine m_call (Hin := ?hi14) (Hr := ?hr14) (R := ?rr14) rfl wantedN rfl rfl rfl ?hin14 ?hc14 ?hk14
    case hc14 => intro ρ' hρ hR; exact mxor_ok mb p u.wf (by omega) ((d.get hkl).up hw u) ((d'.get hkm).up hw u)
    case hin14 => repeat' (first | exact Cover.nil | exact Take.here | apply Cover.cons | apply Take.there)
    rintro _ _ ⟨x, U, rfl, rfl, u1, d1⟩
    refine ⟨.none (by kernel_rfl), ?_⟩
    refine m_float0 rfl (fun _ _ => p_assign rfl) rfl ?_
    refine m_nil ?_
    refine g_qt ?_
    refine g_seq ?_
    refine g_region ?_
    refine g_pure (p_move rfl) rfl ?_
    refine g_pure (p_move rfl) rfl ?_
    refine g_pure (p_move rfl) rfl ?_
    refine g_pure (p_move rfl) rfl ?_
    have hul1 := u1.len
    refine g_call (Hin := ?hi15) (Hr := ?hr15) (R := ?rr15) rfl rfl rfl ?hin15 ?hc15 ?hk15
    case hc15 => intro ρ' hρ hR; exact mxor_ok mb p u1.wf (by omega) d1 (dy.up u.wf u1)
    case hin15 => repeat' (first | exact Cover.nil | exact Take.here | apply Cover.cons | apply Take.there)
    rintro _ _ ⟨l, U2, rfl, rfl, u2, d2⟩
    refine g_eff (e_bs (xs := [.tmp 32]) rfl rfl rfl (by rfl) (by rfl) rfl (by rfl)) rfl (fun _ _ => ?_)
    rintro ⟨b33, rfl, rfl⟩
    refine g_eff (e_appendO (by rfl) (by rfl) rfl rfl (by first | (apply Has.own; (repeat' (first | exact Take.here | apply Take.there)); done) | exact Has.ro (by assumption)) (by rfl) (by rfl) (by repeat' (first | exact Take.here | apply Take.there)) (by omega) (by first | omega | (dsimp only; omega) | (simp <;> omega)) (by omega)) rfl (fun _ _ => ?_)
    rintro ⟨a34, c34, rfl, rfl⟩
    refine g_pure (p_assign rfl) rfl ?_
    refine g_nil ?_
    refine g_qt ?_
    refine g_region ?_
    refine g_pure (p_move rfl) rfl ?_
    refine g_pure (p_move rfl) rfl ?_
    refine g_pure (p_move rfl) rfl ?_
    refine g_pure (p_move rfl) rfl ?_
    refine g_pure (p_move rfl) rfl ?_
    refine g_pure (p_indexAddr rfl rfl (by omega) (fun _ => r1)) rfl ?_
    refine g_pure (p_load (by rfl) rfl (Has.ro r2) (r3 _ hkl)) rfl ?_
    have hul2 := u2.len
    have u12 := u1.trans u2 (Nat.le_refl _)
    refine g_call (Hin := ?hi16) (Hr := ?hr16) (R := ?rr16) rfl rfl rfl ?hin16 ?hc16 ?hk16
    case hc16 => intro ρ' hρ hR; exact mmux_ok mb p u2.wf (by omega) (d1.up u1.wf u2) (dy.up u.wf u12) ((d.get hkl).up hw (u.trans u12 (Nat.le_refl _)))
    case hin16 => repeat' (first | exact Cover.nil | exact Take.here | apply Cover.cons | apply Take.there)
    rintro _ _ ⟨c', U3, rfl, rfl, u3, d3⟩
    refine g_pure (p_assign rfl) rfl ?_
    refine g_nil ?_
    refine g_qb ?_
    refine g_qt ?_
    refine g_region ?_
    first | refine g_pure (p_addi rfl rfl (by omega)) rfl ?_ | refine g_pure (p_add rfl rfl) rfl ?_
    refine g_pure (p_move rfl) rfl ?_
    refine g_nil ?_
    refine g_qn ?_
    have e' : out.map encI ++ [Value.int .i64 l] = (out ++ [l]).map encI := by rw [List.map_append]; rfl
    have e2 : out.length + 1 = (out ++ [l]).length := by simp
    rw [e']
    have hstep := fun i => addF_step (xs := f i) (ys := g i) (fc i) (k := out.length) (by rw [d.len]; exact hkl) (by rw [d'.len]; exact hkm)
    refine g_next (out ++ [l], a34, c34, c', U3) (by rw [← e2]; exact (by (repeat (first | exact trivial | refine ⟨by rfl, ?_⟩)); done)) (by rw [← e2]; exact (by repeat' (first | exact Cover.nil | exact Take.here | apply Cover.cons | apply Take.there))) ⟨by rw [← e2]; omega, (u.trans u12 (Nat.le_refl _)).trans u3 (by rw [← e2]; omega), ?_, ?_⟩ (by rw [← e2]; omega)
    · refine ((dx.up u.wf (u12.trans u3 (Nat.le_refl _))).snoc (d2.up u2.wf u3)).congr fun i => ?_
      rw [← e2, hstep]
    · refine d3.congr fun i => ?_
      rw [← e2, hstep]
  · have hke : out.length = ls.length := by omega
    refine g_exit ?_
    refine g_qt_exit ?_
    refine g_qn_exit ?_
    refine g_qb_exit ?_
    refine g_qt ?_
    refine g_seq ?_
    refine g_region ?_
    refine g_pure (p_move rfl) rfl ?_
    refine g_pure (p_move rfl) rfl ?_
    refine g_pure (p_assign rfl) rfl ?_
    refine g_pure (p_assign rfl) rfl ?_
    refine g_nil ?_
    refine g_qt ?_
    refine g_ret ?_
    have ht : ∀ i, addF ((f i).take out.length) ((g i).take out.length) (fc i) = addF (f i) (g i) (fc i) := fun i => by
      rw [List.take_of_length_le (by rw [d.len]; omega), List.take_of_length_le (by rw [d'.len]; omega)]
    exact g_post (rs := [.tmp 8, .tmp 9]) rfl (.tmp rfl (.tmp rfl .nil)) ⟨oa, oc, out, c, T, rfl, rfl, hke, by rw [← hke]; exact u, dx.congr fun i => by rw [ht], dy.congr fun i => by rw [ht]⟩ (by repeat' (first | exact Cover.nil | exact Take.here | apply Cover.cons | apply Take.there))
end Go.Proofs.Ytkebblmmgcgjkaa
