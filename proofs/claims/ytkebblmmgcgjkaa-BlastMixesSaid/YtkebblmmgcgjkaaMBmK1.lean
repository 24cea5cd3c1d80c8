/- Own texts, put together: K9. Conditions: as told at each. -/
import Derived.Test.YtkebblmmgcgjkaaMBmK0
/- Chapter 38: Mux, Input, Valid. Conditions: none. -/
namespace Go.Z.Bit
set_option maxRecDepth 8000
set_option linter.unusedVariables false
set_option linter.unusedSimpArgs false
set_option linter.unusedSectionVars false
open Go Go.Z Go.Z.Val Go.Z.Aig
def inG (S : St) (w : Nat) : St := S ++ List.replicate w ((0 : Int), (0 : Int), true)
theorem inG_S0 (m w : Nat) : inG (S0 m) w = S0 (m + w) := by
  unfold inG S0; rw [List.cons_append, List.replicate_append_replicate]
/-- are the bits those of a value? -/
def okV (es : List En) (t : Int) (b : List Bool) : Bool := decide ((valueF es t b).2 = 0)
theorem width_pow {es : List En} {t : Int} (h2 : t ≠ 2) (h0 : widthN es t ≠ 0) : 1 ≤ tagN es t ∧ tagN es t ≤ ((2 ^ widthN es t : Nat) : Int) ∧ widthN es t ≤ 4 := by
  have h1 : t = 1 → tagN es t = 2 := fun e => by unfold tagN; rw [if_pos e]
  revert h0
  unfold widthN
  rw [if_neg h2]
  intro h0
  by_cases ht : t = 1
  · rw [if_pos ht, h1 ht]; decide
  · rw [if_neg ht] at h0 ⊢
    by_cases h3 : tagN es t < 1 ∨ 16 < tagN es t
    · rw [if_pos h3] at h0; exact absurd rfl h0
    · rw [if_neg h3]
      refine ⟨by omega, ?_, ?_⟩
      · (repeat' split) <;> simp <;> omega
      · (repeat' split) <;> omega
theorem okV_eq {es : List En} {t : Int} {b : List Bool} (h0 : widthN es t ≠ 0) (hb : b.length = widthN es t) : okV es t b = decide (tyHas es t (sg b)) := by
  unfold okV valueF
  rw [if_neg h0, if_neg (by omega)]
  by_cases h : tyHas es t (sg b)
  · rw [if_pos h]; simp [h]
  · rw [if_neg h]; simp [h]
theorem okV_int {es : List En} {b : List Bool} (hb : b.length = widthN es 2) : okV es 2 b = true := by
  have hw : widthN es 2 = 16 := widthN_16.2 rfl
  have hs := sg16 (l := b) (by omega)
  rw [okV_eq (by omega) hb, decide_eq_true_iff]
  unfold tyHas
  rw [if_pos rfl]; exact ⟨hs.2.1, hs.2.2.1⟩
theorem sg_nat {es : List En} {t : Int} {b : List Bool} (h2 : t ≠ 2) (h0 : widthN es t ≠ 0) (hb : b.length = widthN es t) : sg b = num b ∧ (num b : Int) < ((2 ^ widthN es t : Nat) : Int) := by
  have h := (width_pow h2 h0).2.2
  have hl := num_lt b
  rw [hb] at hl
  refine ⟨?_, by omega⟩
  unfold sg
  rw [if_neg (fun h' => by omega)]
theorem okV_full {es : List En} {t : Int} {b : List Bool} (h0 : widthN es t ≠ 0) (hb : b.length = widthN es t) (h : t < 3 ∨ tagN es t = ((2 ^ widthN es t : Nat) : Int)) : okV es t b = true := by
  by_cases h2 : t = 2
  · subst h2; exact okV_int hb
  obtain ⟨h3, h4⟩ := sg_nat h2 h0 hb
  have h5 := width_pow h2 h0
  have h6 : tagN es t = ((2 ^ widthN es t : Nat) : Int) := by
    rcases h with h | h
    · by_cases h7 : t = 1
      · have e1 : tagN es t = 2 := by unfold tagN; rw [if_pos h7]
        have e2 : widthN es t = 1 := by unfold widthN; rw [if_pos h7]
        rw [e1, e2]; rfl
      · exfalso
        have e1 : tagN es t = 0 := by
          unfold tagN
          rw [if_neg h7, if_neg h2, enF_out (by omega)]; rfl
        omega
    · exact h
  rw [okV_eq h0 hb, decide_eq_true_iff]
  unfold tyHas
  rw [if_neg h2, h3, h6]; omega
theorem okV_below {es : List En} {t : Int} {b : List Bool} (h0 : widthN es t ≠ 0) (hb : b.length = widthN es t) (h : ¬ t < 3) (h' : tagN es t ≠ ((2 ^ widthN es t : Nat) : Int)) : okV es t b = belowF b (bitsR (widthN es t) (tagN es t)) := by
  have h2 : t ≠ 2 := by omega
  obtain ⟨h3, h4⟩ := sg_nat h2 h0 hb
  have h5 := width_pow h2 h0
  have h6 := num_bits (widthN es t) (tagN es t)
  rw [Int.emod_eq_of_lt (by omega) (by omega)] at h6
  rw [okV_eq h0 hb, belowF_iff (by rw [bitsR_len]; exact hb)]
  refine decide_eq_decide.2 ?_
  unfold tyHas
  rw [if_neg h2, h3]; omega
end Go.Z.Bit
namespace Go.Proofs.Ytkebblmmgcgjkaa
set_option maxRecDepth 8000
set_option linter.unusedVariables false
set_option linter.unusedSimpArgs false
set_option linter.unusedSectionVars false
open Go Go.Z Go.Z.Val Go.Z.Aig Go.Z.Bit

variable {ρ : Nat → Obj → Prop}
theorem three_rows {a1 a2 a3 : Option Addr} {c1 c2 c3 : Nat} {l1 l2 l3 : List Int} {n1 n2 n3 : Nat} {b : Nat} (h1 : l1.length = n1) (h2 : l2.length = n2) (h3 : l3.length = n3) (hb : ρ b (.cells [.slice a1 n1 c1, .slice a2 n2 c2, .slice a3 n3 c3].toArray 26 (0, 0))) (r1 : RSl ρ 1 a1 n1 (l1.map encI)) (r2 : RSl ρ 1 a2 n2 (l2.map encI)) (r3 : RSl ρ 1 a3 n3 (l3.map encI)) : RSl2 ρ (some ⟨b, 0, none⟩) ([l1, l2, l3].map (·.map encI)) := by
  subst h1 h2 h3
  refine rsl2_of hb rfl fun j hj => ?_
  have hj2 : j < 3 := hj
  match j, hj2 with
  | 0, _ => exact ⟨a1, c1, by simp, by simpa using r1⟩
  | 1, _ => exact ⟨a2, c2, by simp, by simpa using r2⟩
  | 2, _ => exact ⟨a3, c3, by simp, by simpa using r3⟩
theorem mux1_ok (mb p : Nat) {S : St} {al bl : Option Addr} {cl cm n : Nat} {c : Int} {ls ms : List Int} {fc : List Bool → Bool} {f g : List Bool → List Bool} (hw : WF S) (hl : S.length ≤ 1000) (h1 : ls.length = n) (h2 : ms.length = n) (hn : n ≤ 1000) (hls : RSl ρ 1 al n (ls.map encI)) (hms : RSl ρ 1 bl n (ms.map encI)) (dc : Den S c fc) (d : DenL S ls f) (d' : DenL S ms g)
    {b5 b6 b7 : Nat} (h5 : ρ b5 (.cells [.int .i64 c].toArray 27 (0, 0))) (h6 : ρ b6 (.cells [.slice al n cl].toArray 26 (0, 0))) (h7 : ρ b7 (.cells [.slice bl n cm].toArray 26 (0, 0))) :
    Con Try.prog ρ 68 #[.pointer (some ⟨mb, 0, none⟩), .pointer (some ⟨b5, 0, none⟩), .pointer (some ⟨b6, 0, none⟩), .pointer (some ⟨b7, 0, none⟩)] [MkB mb p, Gr p S]
    (fun v H => ∃ a2 c2 out T, v = .slice a2 out.length c2 ∧ H = [OwnSl 27 1 a2 out.length c2 (out.map encI), MkB mb p, Gr p T] ∧ out.length = n ∧ Up S T (3 * n) ∧ DenL T out (fun i => muxF (fc i) (f i) (g i))) := by
  refine con_intro Try.func68 Try.call68 rfl Try.ntmps68 rfl (L := [(0, _), (1, _), (2, _), (3, _)]) rfl fun w hh => ?_
  refine g_seq ?_
  refine g_region ?_
  refine g_pure (p_assign rfl) rfl ?_
  refine g_nil ?_
  refine g_qt ?_
  refine g_seq ?_
  refine g_region ?_
  refine g_pure (p_move rfl) rfl ?_
  refine g_pure (p_load (by rfl) rfl (by first | (apply Has.own; (repeat' (first | exact Take.here | apply Take.there)); done) | exact Has.ro (by assumption)) (by first | rfl | assumption)) rfl ?_
  refine g_pure (p_load (by rfl) rfl (by first | (apply Has.own; (repeat' (first | exact Take.here | apply Take.there)); done) | exact Has.ro (by assumption)) (by first | rfl | assumption)) rfl ?_
  refine g_pure (p_load (by rfl) rfl (by first | (apply Has.own; (repeat' (first | exact Take.here | apply Take.there)); done) | exact Has.ro (by assumption)) (by first | rfl | assumption)) rfl ?_
  refine g_call (Hin := ?hi1) (Hr := ?hr1) (R := ?rr1) rfl rfl rfl ?hin1 ?hc1 ?hk1
  case hc1 => intro ρ' hρ hR; exact muxes_n mb p hw h1 h2 (by omega) (hls.mono hρ) (hms.mono hρ) dc d d'
  case hin1 => repeat' (first | exact Cover.nil | exact Take.here | apply Cover.cons | apply Take.there)
  rintro _ _ ⟨a2, c2, out, T, rfl, rfl, ho, u, d1⟩
  refine g_pure (p_assign rfl) rfl ?_
  refine g_nil ?_
  refine g_qt ?_
  refine g_ret ?_
  exact g_post (Ho := [OwnSl 27 1 a2 n c2 (out.map encI), MkB mb p, Gr p T]) (rs := [.tmp 5]) rfl (.tmp rfl .nil) ⟨a2, c2, out, T, by rw [ho]; rfl, by rw [ho], ho, u, d1⟩ (by repeat' (first | exact Cover.nil | exact Take.here | apply Cover.cons | apply Take.there))

theorem mux2_ok (p : Nat) {S : St} {al bl : Option Addr} {cl cm n : Nat} {c : Int} {ls ms : List Int} (hw : WF S) (hl : S.length ≤ 1000) (h1 : ls.length = n) (h2 : ms.length = n) (hn : n ≤ 1000) (hls : RSl ρ 1 al n (ls.map encI)) (hms : RSl ρ 1 bl n (ms.map encI)) (hc : has S c) (hlh : ∀ l ∈ ls, has S l) (hmh : ∀ l ∈ ms, has S l)
    {b5 b6 b7 : Nat} (h5 : ρ b5 (.cells [.int .i64 c].toArray 27 (0, 0))) (h6 : ρ b6 (.cells [.slice al n cl].toArray 26 (0, 0))) (h7 : ρ b7 (.cells [.slice bl n cm].toArray 26 (0, 0))) :
    Con Try.prog ρ 63 #[.pointer (some ⟨p, 0, none⟩), .bool true, .func (.func 68) #[] #[.pointer (some ⟨b5, 0, none⟩), .pointer (some ⟨b6, 0, none⟩), .pointer (some ⟨b7, 0, none⟩)]] [Gr p S]
    (fun v H => ∃ a2 c2 out T, v = .tuple #[.slice a2 out.length c2, .int .i64 0] ∧ H = [OwnSl 27 1 a2 out.length c2 (out.map encI), Gr p T] ∧ out.length = n ∧ Up S T (3 * n) ∧ DenL T out (fun i => muxF (litv (vals S i) c) (ls.map (litv (vals S i))) (ms.map (litv (vals S i))))) := by
  refine attempt_ok p (Q := fun out T => out.length = n ∧ Up S T (3 * n) ∧ DenL T out (fun i => muxF (litv (vals S i) c) (ls.map (litv (vals S i))) (ms.map (litv (vals S i))))) fun ρ2 k2 mb => ?_
  exact mux1_ok mb p hw hl h1 h2 hn (hls.mono k2) (hms.mono k2) ⟨hc, fun _ => rfl⟩ (den_self hlh) (den_self hmh) (k2 _ _ h5) (k2 _ _ h6) (k2 _ _ h7)

/-- Mux of lists of unlike lengths -/
theorem mux_match (p : Nat) {S : St} {al bl : Option Addr} {cl cm : Nat} {c : Int} {n m : Nat} (h : n ≠ m) : Con Try.prog ρ 32 #[.pointer (some ⟨p, 0, none⟩), .int .i64 c, .slice al n cl, .slice bl m cm] [Gr p S]
    (fun v H => v = .tuple #[.slice none 0 0, .int .i64 16] ∧ H = [Gr p S]) := by
  refine con_intro Try.func32 Try.call32 rfl Try.ntmps32 rfl (L := [(0, _), (1, _), (2, _), (3, _)]) rfl fun w hh => ?_
  refine g_seq ?_
  refine g_region ?_
  refine g_eff (e_box rfl (by rfl)) rfl (fun _ _ => ?_)
  rintro ⟨b5, rfl, rfl⟩
  refine g_eff (e_box rfl (by rfl)) rfl (fun _ _ => ?_)
  rintro ⟨b6, rfl, rfl⟩
  refine g_eff (e_box rfl (by rfl)) rfl (fun _ _ => ?_)
  rintro ⟨b7, rfl, rfl⟩
  refine g_pure (p_assign rfl) rfl ?_
  refine g_pure (p_assign rfl) rfl ?_
  refine g_nil ?_
  refine g_qt ?_
  refine g_seq ?_
  refine g_block ?_
  refine g_seq ?_
  refine g_region ?_
  refine g_pure (p_move rfl) rfl ?_
  refine g_pure (p_eqnil (by rfl) rfl rfl) rfl ?_
  refine g_pure (p_assign rfl) rfl ?_
  refine g_nil ?_
  refine g_qt ?_
  refine g_iff rfl ?_
  refine g_seq ?_
  refine g_region ?_
  refine g_pure (p_load (by rfl) rfl (by first | (apply Has.own; (repeat' (first | exact Take.here | apply Take.there)); done) | exact Has.ro (by assumption)) (by first | rfl | assumption)) rfl ?_
  refine g_pure (p_len (by rfl) rfl) rfl ?_
  refine g_pure (p_load (by rfl) rfl (by first | (apply Has.own; (repeat' (first | exact Take.here | apply Take.there)); done) | exact Has.ro (by assumption)) (by first | rfl | assumption)) rfl ?_
  refine g_pure (p_len (by rfl) rfl) rfl ?_
  refine g_pure (p_neqT rfl rfl (by omega)) rfl ?_
  refine g_pure (p_assign rfl) rfl ?_
  refine g_nil ?_
  refine g_qt ?_
  refine g_ift rfl ?_
  refine g_seq ?_
  refine g_region ?_
  refine g_pure (p_assign rfl) rfl ?_
  refine g_pure (p_assign rfl) rfl ?_
  refine g_nil ?_
  refine g_qt ?_
  refine g_ret ?_
  refine g_qb_ret ?_
  refine g_qt_ret ?_
  exact g_post (Ho := [Gr p S]) (rs := [.tmp 8, .tmp 9]) rfl (.tmp rfl (.tmp rfl .nil)) ⟨rfl, rfl⟩ (by repeat' (first | exact Cover.nil | exact Take.here | apply Cover.cons | apply Take.there))
set_option maxHeartbeats 1000000 in
theorem mux_range (p : Nat) {S : St} {al bl : Option Addr} {cl cm n : Nat} {c : Int} {ls ms : List Int} (hw : WF S) (hc : I64 c) (h1 : ls.length = n) (h2 : ms.length = n) (hn : n ≤ 1000) (hls : RSl ρ 1 al n (ls.map encI)) (hms : RSl ρ 1 bl n (ms.map encI)) (hli : ∀ l ∈ ls, I64 l) (hmi : ∀ l ∈ ms, I64 l) (hno : ([c] ++ ls ++ ms).all (hasB S) = false) :
    Con Try.prog ρ 32 #[.pointer (some ⟨p, 0, none⟩), .int .i64 c, .slice al n cl, .slice bl n cm] [Gr p S] (fun v H => v = .tuple #[.slice none 0 0, .int .i64 14] ∧ H = [Gr p S]) := by
  have hfl : [[c], ls, ms].flatten = [c] ++ ls ++ ms := by simp
  have hlen : [[c], ls, ms].flatten.length ≤ 1000000000000 := by simp; omega
  have h64 : ∀ l ∈ [[c], ls, ms].flatten, I64 l := fun l hl => by
    rw [hfl] at hl
    simp at hl
    rcases hl with rfl | h | h
    · exact hc
    · exact hli l h
    · exact hmi l h
  refine con_intro Try.func32 Try.call32 rfl Try.ntmps32 rfl (L := [(0, _), (1, _), (2, _), (3, _)]) rfl fun w hh => ?_
  refine g_seq ?_
  refine g_region ?_
  refine g_eff (e_box rfl (by rfl)) rfl (fun _ _ => ?_)
  rintro ⟨b5, rfl, rfl⟩
  refine g_eff (e_box rfl (by rfl)) rfl (fun _ _ => ?_)
  rintro ⟨b6, rfl, rfl⟩
  refine g_eff (e_box rfl (by rfl)) rfl (fun _ _ => ?_)
  rintro ⟨b7, rfl, rfl⟩
  refine g_pure (p_assign rfl) rfl ?_
  refine g_pure (p_assign rfl) rfl ?_
  refine g_nil ?_
  refine g_qt ?_
  refine g_seq ?_
  refine g_block ?_
  refine g_seq ?_
  refine g_region ?_
  refine g_pure (p_move rfl) rfl ?_
  refine g_pure (p_eqnil (by rfl) rfl rfl) rfl ?_
  refine g_pure (p_assign rfl) rfl ?_
  refine g_nil ?_
  refine g_qt ?_
  refine g_iff rfl ?_
  refine g_seq ?_
  refine g_region ?_
  refine g_pure (p_load (by rfl) rfl (by first | (apply Has.own; (repeat' (first | exact Take.here | apply Take.there)); done) | exact Has.ro (by assumption)) (by first | rfl | assumption)) rfl ?_
  refine g_pure (p_len (by rfl) rfl) rfl ?_
  refine g_pure (p_load (by rfl) rfl (by first | (apply Has.own; (repeat' (first | exact Take.here | apply Take.there)); done) | exact Has.ro (by assumption)) (by first | rfl | assumption)) rfl ?_
  refine g_pure (p_len (by rfl) rfl) rfl ?_
  refine g_pure (p_neqF rfl rfl rfl) rfl ?_
  refine g_pure (p_assign rfl) rfl ?_
  refine g_nil ?_
  refine g_qt ?_
  refine g_iff rfl ?_
  refine g_seq ?_
  refine g_region ?_
  refine g_pure (p_move rfl) rfl ?_
  refine g_pure (p_load (by rfl) rfl (by first | (apply Has.own; (repeat' (first | exact Take.here | apply Take.there)); done) | exact Has.ro (by assumption)) (by first | rfl | assumption)) rfl ?_
  refine g_eff (e_bs (xs := [.tmp 21]) rfl rfl rfl (by rfl) (by rfl) rfl (by rfl)) rfl (fun _ _ => ?_)
  rintro ⟨b22, rfl, rfl⟩
  refine g_pure (p_load (by rfl) rfl (by first | (apply Has.own; (repeat' (first | exact Take.here | apply Take.there)); done) | exact Has.ro (by assumption)) (by first | rfl | assumption)) rfl ?_
  refine g_pure (p_load (by rfl) rfl (by first | (apply Has.own; (repeat' (first | exact Take.here | apply Take.there)); done) | exact Has.ro (by assumption)) (by first | rfl | assumption)) rfl ?_
  refine g_eff (e_bs (xs := [.tmp 22, .tmp 23, .tmp 24]) rfl rfl rfl (by rfl) (by rfl) rfl (by rfl)) rfl (fun _ _ => ?_)
  rintro ⟨b25, rfl, rfl⟩
  refine g_call (Hin := []) (Hr := ?hr2) (R := ?rr2) rfl rfl rfl ?hin2 ?hc2 ?hk2
  case hin2 => repeat' (first | exact Cover.nil | exact Take.here | apply Cover.cons | apply Take.there)
  case hc2 => intro ρ' hρ hR; exact concat_ok (lss := [[c], ls, ms]) (three_rows (n1 := 1) rfl h1 h2 (Take.ro (A := Blk b25 (.cells [.slice (some ⟨b22, 0, none⟩) 1 1, .slice al n cl, .slice bl n cm].toArray 26 (0, 0))) (by repeat' (first | exact Take.here | apply Take.there)) hR).blk (RSl.of_blk (k := 1) (size := 1) (cs := [Value.int .i64 c]) (Take.ro (A := Blk b22 (.cells [.int .i64 c].toArray 27 (0, 0))) (by repeat' (first | exact Take.here | apply Take.there)) hR).blk (Nat.le_refl _)) (hls.mono hρ) (hms.mono hρ)) hlen (by simp)
  rintro _ _ ⟨ka, kc, rfl, rfl⟩
  refine g_call (Hin := []) (Hr := ?hr3) (R := ?rr3) rfl rfl rfl ?hin3 ?hc3 ?hk3
  case hin3 => repeat' (first | exact Cover.nil | exact Take.here | apply Cover.cons | apply Take.there)
  case hc3 => intro ρ' hρ hR; exact (by have := belong_ok (ρ := ρ') (p := p) (S := S) (RSl.of_own (Take.ro (A := OwnSl 27 1 ka [[c], ls, ms].flatten.length kc ([[c], ls, ms].flatten.map encI)) (by repeat' (first | exact Take.here | apply Take.there)) hR)) (cl := kc) (by omega) h64 (Take.ro (A := Gr p S) (by repeat' (first | exact Take.here | apply Take.there)) hR); rw [show [[c], ls, ms].flatten.all (hasB S) = false by rw [hfl]; exact hno] at this; exact this)
  rintro _ _ ⟨rfl, rfl⟩
  refine g_pure (p_not rfl) rfl ?_
  refine g_pure (p_assign rfl) rfl ?_
  refine g_nil ?_
  refine g_qt ?_
  refine g_ift rfl ?_
  refine g_seq ?_
  refine g_region ?_
  refine g_pure (p_assign rfl) rfl ?_
  refine g_pure (p_assign rfl) rfl ?_
  refine g_nil ?_
  refine g_qt ?_
  refine g_ret ?_
  refine g_qb_ret ?_
  refine g_qt_ret ?_
  exact g_post (Ho := [Gr p S]) (rs := [.tmp 8, .tmp 9]) rfl (.tmp rfl (.tmp rfl .nil)) ⟨rfl, rfl⟩ (by repeat' (first | exact Cover.nil | exact Take.here | apply Cover.cons | apply Take.there))
set_option maxHeartbeats 1000000 in
theorem mux_yes (p : Nat) {S : St} {al bl : Option Addr} {cl cm n : Nat} {c : Int} {ls ms : List Int} (hw : WF S) (hl : S.length ≤ 1000) (h1 : ls.length = n) (h2 : ms.length = n) (hn : n ≤ 1000) (hls : RSl ρ 1 al n (ls.map encI)) (hms : RSl ρ 1 bl n (ms.map encI)) (hy : ([c] ++ ls ++ ms).all (hasB S) = true) :
    Con Try.prog ρ 32 #[.pointer (some ⟨p, 0, none⟩), .int .i64 c, .slice al n cl, .slice bl n cm] [Gr p S]
    (fun v H => ∃ a2 c2 out T, v = .tuple #[.slice a2 n c2, .int .i64 0] ∧ H = [OwnSl 27 1 a2 n c2 (out.map encI), Gr p T] ∧ out.length = n ∧ Up S T (3 * n) ∧ DenL T out (fun i => muxF (litv (vals S i) c) (ls.map (litv (vals S i))) (ms.map (litv (vals S i))))) := by
  have hfl : [[c], ls, ms].flatten = [c] ++ ls ++ ms := by simp
  have hlen : [[c], ls, ms].flatten.length ≤ 1000000000000 := by simp; omega
  have hall := List.all_eq_true.1 hy
  have hc : has S c := hasB_iff.1 (hall c (by simp))
  have hlh : ∀ l ∈ ls, has S l := fun l h => hasB_iff.1 (hall l (by simp [h]))
  have hmh : ∀ l ∈ ms, has S l := fun l h => hasB_iff.1 (hall l (by simp [h]))
  have h64 : ∀ l ∈ [[c], ls, ms].flatten, I64 l := fun l hl => by
    rw [hfl] at hl
    have := hasB_iff.1 (hall l hl)
    have := hw.lim; have := (hasB_iff.1 (hall l hl)).1; have := (hasB_iff.1 (hall l hl)).2; unfold I64; omega
  refine con_intro Try.func32 Try.call32 rfl Try.ntmps32 rfl (L := [(0, _), (1, _), (2, _), (3, _)]) rfl fun w hh => ?_
  refine g_seq ?_
  refine g_region ?_
  refine g_eff (e_box rfl (by rfl)) rfl (fun _ _ => ?_)
  rintro ⟨b5, rfl, rfl⟩
  refine g_eff (e_box rfl (by rfl)) rfl (fun _ _ => ?_)
  rintro ⟨b6, rfl, rfl⟩
  refine g_eff (e_box rfl (by rfl)) rfl (fun _ _ => ?_)
  rintro ⟨b7, rfl, rfl⟩
  refine g_pure (p_assign rfl) rfl ?_
  refine g_pure (p_assign rfl) rfl ?_
  refine g_nil ?_
  refine g_qt ?_
  refine g_seq ?_
  refine g_block ?_
  refine g_seq ?_
  refine g_region ?_
  refine g_pure (p_move rfl) rfl ?_
  refine g_pure (p_eqnil (by rfl) rfl rfl) rfl ?_
  refine g_pure (p_assign rfl) rfl ?_
  refine g_nil ?_
  refine g_qt ?_
  refine g_iff rfl ?_
  refine g_seq ?_
  refine g_region ?_
  refine g_pure (p_load (by rfl) rfl (by first | (apply Has.own; (repeat' (first | exact Take.here | apply Take.there)); done) | exact Has.ro (by assumption)) (by first | rfl | assumption)) rfl ?_
  refine g_pure (p_len (by rfl) rfl) rfl ?_
  refine g_pure (p_load (by rfl) rfl (by first | (apply Has.own; (repeat' (first | exact Take.here | apply Take.there)); done) | exact Has.ro (by assumption)) (by first | rfl | assumption)) rfl ?_
  refine g_pure (p_len (by rfl) rfl) rfl ?_
  refine g_pure (p_neqF rfl rfl rfl) rfl ?_
  refine g_pure (p_assign rfl) rfl ?_
  refine g_nil ?_
  refine g_qt ?_
  refine g_iff rfl ?_
  refine g_seq ?_
  refine g_region ?_
  refine g_pure (p_move rfl) rfl ?_
  refine g_pure (p_load (by rfl) rfl (by first | (apply Has.own; (repeat' (first | exact Take.here | apply Take.there)); done) | exact Has.ro (by assumption)) (by first | rfl | assumption)) rfl ?_
  refine g_eff (e_bs (xs := [.tmp 21]) rfl rfl rfl (by rfl) (by rfl) rfl (by rfl)) rfl (fun _ _ => ?_)
  rintro ⟨b22, rfl, rfl⟩
  refine g_pure (p_load (by rfl) rfl (by first | (apply Has.own; (repeat' (first | exact Take.here | apply Take.there)); done) | exact Has.ro (by assumption)) (by first | rfl | assumption)) rfl ?_
  refine g_pure (p_load (by rfl) rfl (by first | (apply Has.own; (repeat' (first | exact Take.here | apply Take.there)); done) | exact Has.ro (by assumption)) (by first | rfl | assumption)) rfl ?_
  refine g_eff (e_bs (xs := [.tmp 22, .tmp 23, .tmp 24]) rfl rfl rfl (by rfl) (by rfl) rfl (by rfl)) rfl (fun _ _ => ?_)
  rintro ⟨b25, rfl, rfl⟩
  refine g_call (Hin := []) (Hr := ?hr4) (R := ?rr4) rfl rfl rfl ?hin4 ?hc4 ?hk4
  case hin4 => repeat' (first | exact Cover.nil | exact Take.here | apply Cover.cons | apply Take.there)
  case hc4 => intro ρ' hρ hR; exact concat_ok (lss := [[c], ls, ms]) (three_rows (n1 := 1) rfl h1 h2 (Take.ro (A := Blk b25 (.cells [.slice (some ⟨b22, 0, none⟩) 1 1, .slice al n cl, .slice bl n cm].toArray 26 (0, 0))) (by repeat' (first | exact Take.here | apply Take.there)) hR).blk (RSl.of_blk (k := 1) (size := 1) (cs := [Value.int .i64 c]) (Take.ro (A := Blk b22 (.cells [.int .i64 c].toArray 27 (0, 0))) (by repeat' (first | exact Take.here | apply Take.there)) hR).blk (Nat.le_refl _)) (hls.mono hρ) (hms.mono hρ)) hlen (by simp)
  rintro _ _ ⟨ka, kc, rfl, rfl⟩
  refine g_call (Hin := []) (Hr := ?hr5) (R := ?rr5) rfl rfl rfl ?hin5 ?hc5 ?hk5
  case hin5 => repeat' (first | exact Cover.nil | exact Take.here | apply Cover.cons | apply Take.there)
  case hc5 => intro ρ' hρ hR; exact (by have := belong_ok (ρ := ρ') (p := p) (S := S) (RSl.of_own (Take.ro (A := OwnSl 27 1 ka [[c], ls, ms].flatten.length kc ([[c], ls, ms].flatten.map encI)) (by repeat' (first | exact Take.here | apply Take.there)) hR)) (cl := kc) (by omega) h64 (Take.ro (A := Gr p S) (by repeat' (first | exact Take.here | apply Take.there)) hR); rw [show [[c], ls, ms].flatten.all (hasB S) = true by rw [hfl]; exact hy] at this; exact this)
  rintro _ _ ⟨rfl, rfl⟩
  refine g_pure (p_not rfl) rfl ?_
  refine g_pure (p_assign rfl) rfl ?_
  refine g_nil ?_
  refine g_qt ?_
  refine g_iff rfl ?_
  refine g_skip ?_
  refine g_qb ?_
  refine g_qt ?_
  refine g_seq ?_
  refine m_begin0 (.fl 0 0 (.fl 1 0 (.fl 3 1 (.fl 4 0 (.fl 5 0 (.fl 8 0 (.ef 2 (.fl 6 0 (.fl 7 0 (.ef 9 (.fl 10 0 (.fl 11 0 (.fl 12 0 (.fl 13 0 .done)))))))))))))) (by kernel_rfl) (by kernel_rfl) ?_
  refine m_float0 rfl (fun _ _ => p_move rfl) rfl ?_
  refine m_float0 rfl (fun _ _ => p_move rfl) rfl ?_
  refine m_float rfl (p_load (by rfl) rfl (by first | (apply Has.own; (repeat' (first | exact Take.here | apply Take.there)); done) | exact Has.ro (by assumption)) (by first | rfl | assumption)) rfl ?_
  refine m_float0 rfl (fun _ _ => p_len (by rfl) rfl) rfl ?_
  first | refine m_float0 rfl (fun _ _ => p_muli rfl rfl (by omega)) rfl ?_ | refine m_float0 rfl (fun _ _ => p_mul rfl rfl) rfl ?_
  refine m_float0 rfl (fun _ _ => p_makeFunc rfl rfl) rfl ?_
  refine m_call (Hin := []) (Hr := ?hr6) (R := ?rr6) rfl wantedN rfl rfl rfl ?hin6 ?hc6 ?hk6
  case hin6 => repeat' (first | exact Cover.nil | exact Take.here | apply Cover.cons | apply Take.there)
  case hc6 => intro ρ' hρ hR; exact glen_ok p S (Take.ro (A := Gr p S) (by repeat' (first | exact Take.here | apply Take.there)) hR)
  rintro _ _ ⟨rfl, rfl⟩
  refine ⟨.some (by repeat' (first | exact Cover.nil | exact Take.here | apply Cover.cons | apply Take.there)), ?_⟩
  first | refine m_float0 rfl (fun _ _ => p_addi rfl rfl (by omega)) rfl ?_ | refine m_float0 rfl (fun _ _ => p_add rfl rfl) rfl ?_
  refine m_float0 rfl (fun _ _ => p_leq rfl rfl) rfl ?_
  rw [show decide ((S.length : Int) + 3 * (n : Int) ≤ 131072) = true from decide_eq_true (by omega)]
  refine m_call (Hin := [Gr p S]) (Hr := ?hr7) (R := ?rr7) rfl wantedN rfl rfl rfl ?hin7 ?hc7 ?hk7
  case hin7 => repeat' (first | exact Cover.nil | exact Take.here | apply Cover.cons | apply Take.there)
  case hc7 => intro ρ' hρ hR; exact mux2_ok p hw hl h1 h2 hn (hls.mono hρ) (hms.mono hρ) hc hlh hmh (Take.ro (A := Blk b5 (.cells [.int .i64 c].toArray 27 (0, 0))) (by repeat' (first | exact Take.here | apply Take.there)) hR).blk (Take.ro (A := Blk b6 (.cells [.slice al n cl].toArray 26 (0, 0))) (by repeat' (first | exact Take.here | apply Take.there)) hR).blk (Take.ro (A := Blk b7 (.cells [.slice bl n cm].toArray 26 (0, 0))) (by repeat' (first | exact Take.here | apply Take.there)) hR).blk
  rintro _ _ ⟨a2, c2, out, T, rfl, rfl, ho, u, d⟩
  refine ⟨.none (by kernel_rfl), ?_⟩
  refine m_float0 rfl (fun _ _ => p_extract rfl rfl) rfl ?_
  refine m_float0 rfl (fun _ _ => p_extract rfl rfl) rfl ?_
  refine m_float0 rfl (fun _ _ => p_assign rfl) rfl ?_
  refine m_float0 rfl (fun _ _ => p_assign rfl) rfl ?_
  refine m_nil ?_
  refine g_qt ?_
  refine g_ret ?_
  exact g_post (Ho := [OwnSl 27 1 a2 out.length c2 (out.map encI), Gr p T]) (rs := [.tmp 8, .tmp 9]) rfl (.tmp rfl (.tmp rfl .nil)) ⟨a2, c2, out, T, by rw [ho]; rfl, by rw [ho], ho, u, d⟩ (by repeat' (first | exact Cover.nil | exact Take.here | apply Cover.cons | apply Take.there))

def inFrom (m k : Nat) : List Int := (List.range k).map fun i : Nat => 2 * (((m + i : Nat) : Int) + 1)
theorem inFrom_len (m k : Nat) : (inFrom m k).length = k := by simp [inFrom]
theorem binput_no (p m : Nat) {ea : Option Addr} {ec : Nat} {es : List En} (h : EnR ρ ea es) (hl : es.length ≤ maxLen) (t : Int) (ht : I64 t) (h0 : widthN es t = 0) : Con Try.prog ρ 34 #[.pointer (some ⟨p, 0, none⟩), .slice ea es.length ec, .int .i64 t] [Gr p (S0 m)]
    (fun v H => v = .tuple #[.slice none 0 0, .int .i64 10] ∧ H = [Gr p (S0 m)]) := by
  refine con_intro Try.func34 Try.call34 rfl Try.ntmps34 rfl (L := [(0, _), (1, _), (2, _)]) rfl fun w hh => ?_
  refine g_seq ?_
  refine g_region ?_
  refine g_pure (p_assign rfl) rfl ?_
  refine g_pure (p_assign rfl) rfl ?_
  refine g_nil ?_
  refine g_qt ?_
  refine g_seq ?_
  refine g_region ?_
  refine g_pure (p_move rfl) rfl ?_
  refine g_pure (p_move rfl) rfl ?_
  refine g_call (Hin := []) (Hr := ?hr8) (R := ?rr8) rfl rfl rfl ?hin8 ?hc8 ?hk8
  case hin8 => repeat' (first | exact Cover.nil | exact Take.here | apply Cover.cons | apply Take.there)
  case hc8 => intro ρ' hρ hR; exact (by have := width_ok (ρ := ρ') (ec := ec) (h.mono hρ) hl t ht; rw [h0] at this; exact this)
  rintro _ _ ⟨rfl, rfl⟩
  refine g_pure (p_assign rfl) rfl ?_
  refine g_nil ?_
  refine g_qt ?_
  refine g_seq ?_
  refine g_block ?_
  refine g_seq ?_
  refine g_region ?_
  refine g_pure (p_move rfl) rfl ?_
  refine g_pure (p_eqnil (by rfl) rfl rfl) rfl ?_
  refine g_pure (p_assign rfl) rfl ?_
  refine g_nil ?_
  refine g_qt ?_
  refine g_iff rfl ?_
  refine g_seq ?_
  refine g_region ?_
  refine g_pure (p_move rfl) rfl ?_
  refine g_pure (p_eqlT rfl rfl rfl) rfl ?_
  refine g_pure (p_assign rfl) rfl ?_
  refine g_nil ?_
  refine g_qt ?_
  refine g_ift rfl ?_
  refine g_seq ?_
  refine g_region ?_
  refine g_pure (p_assign rfl) rfl ?_
  refine g_pure (p_assign rfl) rfl ?_
  refine g_nil ?_
  refine g_qt ?_
  refine g_ret ?_
  refine g_qb_ret ?_
  refine g_qt_ret ?_
  exact g_post (rs := [.tmp 6, .tmp 7]) rfl (.tmp rfl (.tmp rfl .nil)) ⟨rfl, rfl⟩ (by repeat' (first | exact Cover.nil | exact Take.here | apply Cover.cons | apply Take.there))
theorem binput_ok (p m : Nat) (hm : m ≤ 400) {ea : Option Addr} {ec : Nat} {es : List En} (h : EnR ρ ea es) (hl : es.length ≤ maxLen) (t : Int) (ht : I64 t) {w0 : Nat} (hw : widthN es t = w0) (h0 : w0 ≠ 0) : Con Try.prog ρ 34 #[.pointer (some ⟨p, 0, none⟩), .slice ea es.length ec, .int .i64 t] [Gr p (S0 m)]
    (fun v H => ∃ a c, v = .tuple #[.slice a w0 c, .int .i64 0] ∧ H = [OwnSl 27 1 a w0 c ((inFrom m w0).map encI), Gr p (S0 (m + w0))]) := by
  have hwl := widthN_le es t
  rw [hw] at hwl
  have hS := S0_len m
  refine con_intro Try.func34 Try.call34 rfl Try.ntmps34 rfl (L := [(0, _), (1, _), (2, _)]) rfl fun w hh => ?_
  refine g_seq ?_
  refine g_region ?_
  refine g_pure (p_assign rfl) rfl ?_
  refine g_pure (p_assign rfl) rfl ?_
  refine g_nil ?_
  refine g_qt ?_
  refine g_seq ?_
  refine g_region ?_
  refine g_pure (p_move rfl) rfl ?_
  refine g_pure (p_move rfl) rfl ?_
  refine g_call (Hin := []) (Hr := ?hr9) (R := ?rr9) rfl rfl rfl ?hin9 ?hc9 ?hk9
  case hin9 => repeat' (first | exact Cover.nil | exact Take.here | apply Cover.cons | apply Take.there)
  case hc9 => intro ρ' hρ hR; exact (by have := width_ok (ρ := ρ') (ec := ec) (h.mono hρ) hl t ht; rw [hw] at this; exact this)
  rintro _ _ ⟨rfl, rfl⟩
  refine g_pure (p_assign rfl) rfl ?_
  refine g_nil ?_
  refine g_qt ?_
  refine g_seq ?_
  refine g_block ?_
  refine g_seq ?_
  refine g_region ?_
  refine g_pure (p_move rfl) rfl ?_
  refine g_pure (p_eqnil (by rfl) rfl rfl) rfl ?_
  refine g_pure (p_assign rfl) rfl ?_
  refine g_nil ?_
  refine g_qt ?_
  refine g_iff rfl ?_
  refine g_seq ?_
  refine g_region ?_
  refine g_pure (p_move rfl) rfl ?_
  refine g_pure (p_eqlF rfl rfl (by omega)) rfl ?_
  refine g_pure (p_assign rfl) rfl ?_
  refine g_nil ?_
  refine g_qt ?_
  refine g_iff rfl ?_
  refine g_seq ?_
  refine g_region ?_
  refine g_pure (p_move rfl) rfl ?_
  refine g_call (Hin := []) (Hr := ?hr10) (R := ?rr10) rfl rfl rfl ?hin10 ?hc10 ?hk10
  case hin10 => repeat' (first | exact Cover.nil | exact Take.here | apply Cover.cons | apply Take.there)
  case hc10 => intro ρ' hρ hR; exact glen_ok p (S0 m) (Take.ro (A := Gr p (S0 m)) (by repeat' (first | exact Take.here | apply Take.there)) hR)
  rintro _ _ ⟨rfl, rfl⟩
  refine g_pure (p_move rfl) rfl ?_
  first | refine g_pure (p_addi rfl rfl (by omega)) rfl ?_ | refine g_pure (p_add rfl rfl) rfl ?_
  refine g_pure (p_gtr rfl rfl) rfl ?_
  refine g_pure (p_assign rfl) rfl ?_
  refine g_nil ?_
  refine g_qt ?_
  refine g_ifd rfl (fun q0 => ?_) (fun q0 => ?_)
  · exfalso; omega
  · refine g_skip ?_
    refine g_qb ?_
    refine g_qt ?_
    refine g_seq ?_
    refine g_region ?_
    refine g_pure (p_assign rfl) rfl ?_
    refine g_nil ?_
    refine g_qt ?_
    refine g_seq ?_
    refine g_seq ?_
    refine g_region ?_
    refine g_pure (p_move rfl) rfl ?_
    refine g_pure (p_move rfl) rfl ?_
    refine g_nil ?_
    refine g_qt ?_
    refine g_block ?_
    refine g_ownnil (e := 27) (size := 1) ?_
    refine g_loop (fun q : Nat × Option Addr × Nat => [(0, .pointer (some ⟨p, 0, none⟩)), (9, .slice q.2.1 q.1 q.2.2), (27, .int .i64 w0), (28, .int .i64 q.1)])
      (fun q => [OwnSl 27 1 q.2.1 q.1 q.2.2 ((inFrom m q.1).map encI), Gr p (S0 (m + q.1))]) (fun q => q.1 ≤ w0) (fun q => w0 - q.1) (0, none, 0) (Nat.zero_le _) (by (repeat (first | exact trivial | refine ⟨by rfl, ?_⟩)); done) (by repeat' (first | exact Cover.nil | exact Take.here | apply Cover.cons | apply Take.there)) ?_
    rintro ⟨k, oa, oc⟩ hk
    dsimp only at hk ⊢
    refine g_seq ?_
    refine g_region ?_
    refine g_pure (p_lss rfl rfl) rfl ?_
    refine g_nil ?_
    refine g_qt ?_
    refine g_seq ?_
    refine g_ifd rfl (fun q => ?_) (fun q => ?_)
    · have e1 : input1 (S0 (m + k)) = (2 * (((m + k : Nat) : Int) + 1), 0, S0 (m + (k + 1))) := by
        unfold input1 Aig.add
        rw [if_neg (by rw [S0_len]; omega), S0_succ, S0_len]; rfl
      have e3 : (inFrom m (k + 1)).map encI = (inFrom m k).map encI ++ [.int .i64 (2 * (((m + k : Nat) : Int) + 1))] := by
        unfold inFrom; rw [List.range_succ, List.map_append, List.map_append]; rfl
      refine g_skip ?_
      refine g_qt ?_
      refine g_seq ?_
      refine g_block ?_
      refine g_seq ?_
      refine g_region ?_
      refine g_pure (p_move rfl) rfl ?_
      refine g_call (Hin := ?hi11) (Hr := ?hr11) (R := ?rr11) rfl rfl rfl ?hin11 ?hc11 ?hk11
      case hc11 => intro ρ' hρ hR; exact input_at e1
      case hin11 => repeat' (first | exact Cover.nil | exact Take.here | apply Cover.cons | apply Take.there)
      rintro _ _ ⟨rfl, rfl⟩
      refine g_pure (p_move rfl) rfl ?_
      refine g_pure (p_extract rfl rfl) rfl ?_
      refine g_pure (p_extract rfl rfl) rfl ?_
      refine g_pure (p_assign rfl) rfl ?_
      refine g_pure (p_assign rfl) rfl ?_
      refine g_nil ?_
      refine g_qt ?_
      refine g_region ?_
      refine g_pure (p_move rfl) rfl ?_
      refine g_pure (p_move rfl) rfl ?_
      refine g_eff (e_bs (xs := [.tmp 36]) rfl rfl rfl (by rfl) (by rfl) rfl (by rfl)) rfl (fun _ _ => ?_)
      rintro ⟨b37, rfl, rfl⟩
      refine g_eff (e_appendO (by rfl) (by rfl) rfl rfl (by first | (apply Has.own; (repeat' (first | exact Take.here | apply Take.there)); done) | exact Has.ro (by assumption)) (by rfl) (by rfl) (by repeat' (first | exact Take.here | apply Take.there)) (by omega) (by first | omega | (dsimp only; omega) | (simp <;> omega)) (by omega)) rfl (fun _ _ => ?_)
      rintro ⟨a38, c38, rfl, rfl⟩
      refine g_pure (p_assign rfl) rfl ?_
      refine g_nil ?_
      refine g_qb ?_
      refine g_qt ?_
      refine g_region ?_
      first | refine g_pure (p_addi rfl rfl (by omega)) rfl ?_ | refine g_pure (p_add rfl rfl) rfl ?_
      refine g_pure (p_move rfl) rfl ?_
      refine g_nil ?_
      refine g_qn ?_
      rw [← e3]
      exact g_next (k + 1, a38, c38) (by (repeat (first | exact trivial | refine ⟨by rfl, ?_⟩)); done) (by repeat' (first | exact Cover.nil | exact Take.here | apply Cover.cons | apply Take.there)) (by dsimp only; omega) (by dsimp only; omega)
    · have hkm : k = w0 := by omega
      subst hkm
      refine g_exit ?_
      refine g_qt_exit ?_
      refine g_qn_exit ?_
      refine g_qb_exit ?_
      refine g_qt ?_
      refine g_seq ?_
      refine g_region ?_
      refine g_pure (p_move rfl) rfl ?_
      refine g_pure (p_assign rfl) rfl ?_
      refine g_pure (p_assign rfl) rfl ?_
      refine g_nil ?_
      refine g_qt ?_
      refine g_ret ?_
      exact g_post (rs := [.tmp 6, .tmp 7]) rfl (.tmp rfl (.tmp rfl .nil)) ⟨oa, oc, rfl, rfl⟩ (by repeat' (first | exact Cover.nil | exact Take.here | apply Cover.cons | apply Take.there))

theorem valid1_ok (mb p : Nat) {S : St} {al : Option Addr} {cl w0 : Nat} {ls : List Int} {f : List Bool → List Bool} (hw : WF S) (hl : S.length ≤ 1000) (h1 : ls.length = w0) (hw0 : w0 ≤ 16) (hls : RSl ρ 1 al w0 (ls.map encI)) (d : DenL S ls f) {ea : Option Addr} {ec : Nat} {es : List En} (h : EnR ρ ea es) (hle : es.length ≤ maxLen) (t : Int) (ht : I64 t)
    {b1 b2 b3 b4 : Nat} (k1 : ρ b1 (.cells [.slice al w0 cl].toArray 26 (0, 0))) (k2 : ρ b2 (.cells [.int .i64 w0].toArray 3 (0, 0))) (k3 : ρ b3 (.cells [.slice ea es.length ec].toArray 48 (0, 0))) (k4 : ρ b4 (.cells [.int .i64 t].toArray 3 (0, 0))) :
    Con Try.prog ρ 70 #[.pointer (some ⟨mb, 0, none⟩), .pointer (some ⟨b1, 0, none⟩), .pointer (some ⟨b2, 0, none⟩), .pointer (some ⟨b3, 0, none⟩), .pointer (some ⟨b4, 0, none⟩)] [MkB mb p, Gr p S]
    (fun v H => ∃ a2 c2 out T, v = .slice a2 out.length c2 ∧ H = [OwnSl 27 1 a2 out.length c2 (out.map encI), MkB mb p, Gr p T] ∧ ∃ l, out = [l] ∧ Up S T 200 ∧ Den T l (fun i => belowF (f i) (bitsR w0 (tagN es t)))) := by
  have hn := tagN_in (t := t) (fun e he => (h.2 e he).2.2.2)
  have hz : ((bitsR w0 (tagN es t)).map lit1).length = w0 := by rw [List.length_map, bitsR_len]
  refine con_intro Try.func70 Try.call70 rfl Try.ntmps70 rfl (L := [(0, _), (1, _), (2, _), (3, _), (4, _)]) rfl fun w hh => ?_
  refine g_seq ?_
  refine g_region ?_
  refine g_pure (p_assign rfl) rfl ?_
  refine g_nil ?_
  refine g_qt ?_
  refine g_seq ?_
  refine m_begin (.fl 0 0 (.fl 1 1 (.fl 2 1 (.fl 3 1 (.fl 4 1 (.ef 5 (.ef 6 (.ef 7 (.ef 8 (.fl 9 0 .done)))))))))) [] (by kernel_rfl) (by kernel_rfl) (by repeat' (first | exact Cover.nil | exact Take.here | apply Cover.cons | apply Take.there)) ?_
  refine m_float0 rfl (fun _ _ => p_move rfl) rfl ?_
  refine m_float rfl (p_load (by rfl) rfl (by first | (apply Has.own; (repeat' (first | exact Take.here | apply Take.there)); done) | exact Has.ro (by assumption)) (by first | rfl | assumption)) rfl ?_
  refine m_float rfl (p_load (by rfl) rfl (by first | (apply Has.own; (repeat' (first | exact Take.here | apply Take.there)); done) | exact Has.ro (by assumption)) (by first | rfl | assumption)) rfl ?_
  refine m_float rfl (p_load (by rfl) rfl (by first | (apply Has.own; (repeat' (first | exact Take.here | apply Take.there)); done) | exact Has.ro (by assumption)) (by first | rfl | assumption)) rfl ?_
  refine m_float rfl (p_load (by rfl) rfl (by first | (apply Has.own; (repeat' (first | exact Take.here | apply Take.there)); done) | exact Has.ro (by assumption)) (by first | rfl | assumption)) rfl ?_
  refine m_call (Hin := []) (Hr := ?hr12) (R := ?rr12) rfl wantedN rfl rfl rfl ?hin12 ?hc12 ?hk12
  case hin12 => repeat' (first | exact Cover.nil | exact Take.here | apply Cover.cons | apply Take.there)
  case hc12 => intro ρ' hρ hR; exact size_ok (h.mono hρ) hle t ht
  rintro _ _ ⟨rfl, rfl⟩
  refine ⟨.some (by repeat' (first | exact Cover.nil | exact Take.here | apply Cover.cons | apply Take.there)), ?_⟩
  refine m_call (Hin := []) (Hr := ?hr13) (R := ?rr13) rfl wantedN rfl rfl rfl ?hin13 ?hc13 ?hk13
  case hin13 => repeat' (first | exact Cover.nil | exact Take.here | apply Cover.cons | apply Take.there)
  case hc13 => intro ρ' hρ hR; exact constant_ok w0 (tagN es t) (by omega) (by unfold I64; omega)
  rintro _ _ ⟨ka, kc, rfl, rfl⟩
  refine ⟨.some (by repeat' (first | exact Cover.nil | exact Take.here | apply Cover.cons | apply Take.there)), ?_⟩
  refine m_call (Hin := [MkB mb p, Gr p S]) (Hr := ?hr14) (R := ?rr14) rfl wantedN rfl rfl rfl ?hin14 ?hc14 ?hk14
  case hin14 => repeat' (first | exact Cover.nil | exact Take.here | apply Cover.cons | apply Take.there)
  case hc14 => intro ρ' hρ hR; exact below_n mb p hw h1 hz (by omega) (by omega) (hls.mono hρ) (RSl.of_own (Take.ro (A := OwnSl 27 1 ka w0 kc (((bitsR w0 (tagN es t)).map lit1).map encI)) (by repeat' (first | exact Take.here | apply Take.there)) hR)) d (DenL.const hw _)
  rintro _ _ ⟨l, T, rfl, rfl, u, d1⟩
  refine ⟨.none (by kernel_rfl), ?_⟩
  refine m_eff rfl (e_bs (xs := [.tmp 14]) rfl rfl rfl (by rfl) (by rfl) rfl (by rfl)) rfl (fun _ _ => ?_)
  rintro ⟨b15, rfl, rfl⟩
  refine ⟨.none (by kernel_rfl), ?_⟩
  refine m_float0 rfl (fun _ _ => p_assign rfl) rfl ?_
  refine m_nil ?_
  refine g_qt ?_
  refine g_ret ?_
  refine own_of_lit (e := 27) (by repeat' (first | exact Take.here | apply Take.there)) ?_
  exact g_post (rs := [.tmp 6]) rfl (.tmp rfl .nil) ⟨_, _, [l], T, rfl, rfl, l, rfl, ⟨u.wf, u.ext, by have := u.len; omega⟩, d1⟩ (by repeat' (first | exact Cover.nil | exact Take.here | apply Cover.cons | apply Take.there))

theorem valid2_ok (p : Nat) {S : St} {al : Option Addr} {cl w0 : Nat} {ls : List Int} {f : List Bool → List Bool} (hw : WF S) (hl : S.length ≤ 1000) (h1 : ls.length = w0) (hw0 : w0 ≤ 16) (hls : RSl ρ 1 al w0 (ls.map encI)) (d : DenL S ls f) {ea : Option Addr} {ec : Nat} {es : List En} (h : EnR ρ ea es) (hle : es.length ≤ maxLen) (t : Int) (ht : I64 t)
    {b1 b2 b3 b4 : Nat} (k1 : ρ b1 (.cells [.slice al w0 cl].toArray 26 (0, 0))) (k2 : ρ b2 (.cells [.int .i64 w0].toArray 3 (0, 0))) (k3 : ρ b3 (.cells [.slice ea es.length ec].toArray 48 (0, 0))) (k4 : ρ b4 (.cells [.int .i64 t].toArray 3 (0, 0))) :
    Con Try.prog ρ 63 #[.pointer (some ⟨p, 0, none⟩), .bool true, .func (.func 70) #[] #[.pointer (some ⟨b1, 0, none⟩), .pointer (some ⟨b2, 0, none⟩), .pointer (some ⟨b3, 0, none⟩), .pointer (some ⟨b4, 0, none⟩)]] [Gr p S]
    (fun v H => ∃ a2 c2 l T, v = .tuple #[.slice a2 1 c2, .int .i64 0] ∧ H = [OwnSl 27 1 a2 1 c2 ([l].map encI), Gr p T] ∧ Up S T 200 ∧ Den T l (fun i => belowF (f i) (bitsR w0 (tagN es t)))) := by
  refine (attempt_ok (Q := fun out T => ∃ l, out = [l] ∧ Up S T 200 ∧ Den T l (fun i => belowF (f i) (bitsR w0 (tagN es t)))) p fun ρ2 m2 mb => ?_).mono ?_
  · exact valid1_ok mb p hw hl h1 hw0 (hls.mono m2) d (h.mono m2) hle t ht (m2 _ _ k1) (m2 _ _ k2) (m2 _ _ k3) (m2 _ _ k4)
  · rintro _ _ ⟨a2, c2, out, T, rfl, rfl, l, rfl, u, d1⟩
    exact ⟨a2, c2, l, T, rfl, rfl, u, d1⟩

theorem bvalid_match (p m : Nat) {ea : Option Addr} {ec : Nat} {es : List En} (h : EnR ρ ea es) (hl : es.length ≤ maxLen) (t : Int) (ht : I64 t) (h0 : widthN es t ≠ 0) {al : Option Addr} {cl n : Nat} (hn : n ≠ widthN es t) : Con Try.prog ρ 35 #[.pointer (some ⟨p, 0, none⟩), .slice ea es.length ec, .int .i64 t, .slice al n cl] [Gr p (S0 m)]
    (fun v H => v = .tuple #[.int .i64 0, .int .i64 16] ∧ H = [Gr p (S0 m)]) := by
  refine con_intro Try.func35 Try.call35 rfl Try.ntmps35 rfl (L := [(0, _), (1, _), (2, _), (3, _)]) rfl fun w hh => ?_
  refine g_seq ?_
  refine g_region ?_
  refine g_eff (e_box rfl (by rfl)) rfl (fun _ _ => ?_)
  rintro ⟨b5, rfl, rfl⟩
  refine g_eff (e_box rfl (by rfl)) rfl (fun _ _ => ?_)
  rintro ⟨b6, rfl, rfl⟩
  refine g_eff (e_box rfl (by rfl)) rfl (fun _ _ => ?_)
  rintro ⟨b7, rfl, rfl⟩
  refine g_pure (p_assign rfl) rfl ?_
  refine g_pure (p_assign rfl) rfl ?_
  refine g_nil ?_
  refine g_qt ?_
  refine g_seq ?_
  refine g_region ?_
  refine g_pure (p_load (by rfl) rfl (by first | (apply Has.own; (repeat' (first | exact Take.here | apply Take.there)); done) | exact Has.ro (by assumption)) (by first | rfl | assumption)) rfl ?_
  refine g_pure (p_load (by rfl) rfl (by first | (apply Has.own; (repeat' (first | exact Take.here | apply Take.there)); done) | exact Has.ro (by assumption)) (by first | rfl | assumption)) rfl ?_
  refine g_call (Hin := []) (Hr := ?hr15) (R := ?rr15) rfl rfl rfl ?hin15 ?hc15 ?hk15
  case hin15 => repeat' (first | exact Cover.nil | exact Take.here | apply Cover.cons | apply Take.there)
  case hc15 => intro ρ' hρ hR; exact width_ok (h.mono hρ) hl t ht
  rintro _ _ ⟨rfl, rfl⟩
  refine g_eff (e_alloc (by rfl)) rfl (fun _ _ => ?_)
  rintro ⟨b10, rfl, rfl⟩
  first | refine g_eff0 (e_storeO rfl rfl (by rfl) (by rfl) (by rfl) (by repeat' (first | exact Take.here | apply Take.there)) (by rfl)) (fun _ _ => ?_) | refine g_eff0 (e_store1 (by rfl) rfl rfl rfl (by repeat' (first | exact Take.here | apply Take.there)) (by first | decide | (simp <;> omega) | omega)) (fun _ _ => ?_)
  rintro rfl
  refine g_nil ?_
  refine g_qt ?_
  refine g_seq ?_
  refine g_block ?_
  refine g_seq ?_
  refine g_region ?_
  refine g_pure (p_move rfl) rfl ?_
  refine g_pure (p_eqnil (by rfl) rfl rfl) rfl ?_
  refine g_pure (p_assign rfl) rfl ?_
  refine g_nil ?_
  refine g_qt ?_
  refine g_iff rfl ?_
  refine g_seq ?_
  refine g_region ?_
  refine g_pure (p_load (by rfl) rfl (by first | (apply Has.own; (repeat' (first | exact Take.here | apply Take.there)); done) | exact Has.ro (by assumption)) (by first | rfl | assumption)) rfl ?_
  refine g_pure (p_eqlF rfl rfl (by omega)) rfl ?_
  refine g_pure (p_assign rfl) rfl ?_
  refine g_nil ?_
  refine g_qt ?_
  refine g_iff rfl ?_
  refine g_seq ?_
  refine g_region ?_
  refine g_pure (p_load (by rfl) rfl (by first | (apply Has.own; (repeat' (first | exact Take.here | apply Take.there)); done) | exact Has.ro (by assumption)) (by first | rfl | assumption)) rfl ?_
  refine g_pure (p_len (by rfl) rfl) rfl ?_
  refine g_pure (p_load (by rfl) rfl (by first | (apply Has.own; (repeat' (first | exact Take.here | apply Take.there)); done) | exact Has.ro (by assumption)) (by first | rfl | assumption)) rfl ?_
  refine g_pure (p_neqT rfl rfl (by omega)) rfl ?_
  refine g_pure (p_assign rfl) rfl ?_
  refine g_nil ?_
  refine g_qt ?_
  refine g_ift rfl ?_
  refine g_seq ?_
  refine g_region ?_
  refine g_pure (p_assign rfl) rfl ?_
  refine g_pure (p_assign rfl) rfl ?_
  refine g_nil ?_
  refine g_qt ?_
  refine g_ret ?_
  refine g_qb_ret ?_
  refine g_qt_ret ?_
  exact g_post (Ho := [Gr p (S0 m)]) (rs := [.tmp 8, .tmp 9]) rfl (.tmp rfl (.tmp rfl .nil)) ⟨rfl, rfl⟩ (by repeat' (first | exact Cover.nil | exact Take.here | apply Cover.cons | apply Take.there))

set_option maxHeartbeats 2000000 in
theorem bvalid_ok (p : Nat) {S : St} (hw : WF S) (hlS : S.length ≤ 1000) {ea : Option Addr} {ec : Nat} {es : List En} (h : EnR ρ ea es) (hl : es.length ≤ maxLen) (t : Int) (ht : I64 t) {w0 : Nat} (hw0 : widthN es t = w0) (h0 : w0 ≠ 0) {al : Option Addr} {cl : Nat} {ls : List Int} {f : List Bool → List Bool} (h1 : ls.length = w0) (hls : RSl ρ 1 al w0 (ls.map encI)) (d : DenL S ls f) :
    Con Try.prog ρ 35 #[.pointer (some ⟨p, 0, none⟩), .slice ea es.length ec, .int .i64 t, .slice al w0 cl] [Gr p S]
    (fun v H => ∃ l T, v = .tuple #[.int .i64 l, .int .i64 0] ∧ H = [Gr p T] ∧ Up S T 200 ∧ Den T l (fun i => okV es t (f i))) := by
  have hwl := widthN_le es t
  rw [hw0] at hwl
  have hfl : ∀ i, (f i).length = widthN es t := fun i => by rw [d.len, hw0]; exact h1
  have hz : widthN es t ≠ 0 := by omega
  have hall : ls.all (hasB S) = true := List.all_eq_true.2 fun l hl => hasB_iff.2 (d.1 l hl)
  have hfull : (t < 3 ∨ tagN es t = ((2 ^ w0 : Nat) : Int)) → Den S 1 (fun i => okV es t (f i)) := fun hh => (Den.one hw).congr fun i => (okV_full hz (hfl i) (by rw [hw0]; exact hh)).symm
  refine con_intro Try.func35 Try.call35 rfl Try.ntmps35 rfl (L := [(0, _), (1, _), (2, _), (3, _)]) rfl fun w hh => ?_
  refine g_seq ?_
  refine g_region ?_
  refine g_eff (e_box rfl (by rfl)) rfl (fun _ _ => ?_)
  rintro ⟨b5, rfl, rfl⟩
  refine g_eff (e_box rfl (by rfl)) rfl (fun _ _ => ?_)
  rintro ⟨b6, rfl, rfl⟩
  refine g_eff (e_box rfl (by rfl)) rfl (fun _ _ => ?_)
  rintro ⟨b7, rfl, rfl⟩
  refine g_pure (p_assign rfl) rfl ?_
  refine g_pure (p_assign rfl) rfl ?_
  refine g_nil ?_
  refine g_qt ?_
  refine g_seq ?_
  refine g_region ?_
  refine g_pure (p_load (by rfl) rfl (by first | (apply Has.own; (repeat' (first | exact Take.here | apply Take.there)); done) | exact Has.ro (by assumption)) (by first | rfl | assumption)) rfl ?_
  refine g_pure (p_load (by rfl) rfl (by first | (apply Has.own; (repeat' (first | exact Take.here | apply Take.there)); done) | exact Has.ro (by assumption)) (by first | rfl | assumption)) rfl ?_
  refine g_call (Hin := []) (Hr := ?hr16) (R := ?rr16) rfl rfl rfl ?hin16 ?hc16 ?hk16
  case hin16 => repeat' (first | exact Cover.nil | exact Take.here | apply Cover.cons | apply Take.there)
  case hc16 => intro ρ' hρ hR; exact (by have := width_ok (ρ := ρ') (ec := ec) (h.mono hρ) hl t ht; rw [hw0] at this; exact this)
  rintro _ _ ⟨rfl, rfl⟩
  refine g_eff (e_alloc (by rfl)) rfl (fun _ _ => ?_)
  rintro ⟨b10, rfl, rfl⟩
  first | refine g_eff0 (e_storeO rfl rfl (by rfl) (by rfl) (by rfl) (by repeat' (first | exact Take.here | apply Take.there)) (by rfl)) (fun _ _ => ?_) | refine g_eff0 (e_store1 (by rfl) rfl rfl rfl (by repeat' (first | exact Take.here | apply Take.there)) (by first | decide | (simp <;> omega) | omega)) (fun _ _ => ?_)
  rintro rfl
  refine g_nil ?_
  refine g_qt ?_
  refine g_seq ?_
  refine g_block ?_
  refine g_seq ?_
  refine g_region ?_
  refine g_pure (p_move rfl) rfl ?_
  refine g_pure (p_eqnil (by rfl) rfl rfl) rfl ?_
  refine g_pure (p_assign rfl) rfl ?_
  refine g_nil ?_
  refine g_qt ?_
  refine g_iff rfl ?_
  refine g_seq ?_
  refine g_region ?_
  refine g_pure (p_load (by rfl) rfl (by first | (apply Has.own; (repeat' (first | exact Take.here | apply Take.there)); done) | exact Has.ro (by assumption)) (by first | rfl | assumption)) rfl ?_
  refine g_pure (p_eqlF rfl rfl (by omega)) rfl ?_
  refine g_pure (p_assign rfl) rfl ?_
  refine g_nil ?_
  refine g_qt ?_
  refine g_iff rfl ?_
  refine g_seq ?_
  refine g_region ?_
  refine g_pure (p_load (by rfl) rfl (by first | (apply Has.own; (repeat' (first | exact Take.here | apply Take.there)); done) | exact Has.ro (by assumption)) (by first | rfl | assumption)) rfl ?_
  refine g_pure (p_len (by rfl) rfl) rfl ?_
  refine g_pure (p_load (by rfl) rfl (by first | (apply Has.own; (repeat' (first | exact Take.here | apply Take.there)); done) | exact Has.ro (by assumption)) (by first | rfl | assumption)) rfl ?_
  refine g_pure (p_neqF rfl rfl rfl) rfl ?_
  refine g_pure (p_assign rfl) rfl ?_
  refine g_nil ?_
  refine g_qt ?_
  refine g_iff rfl ?_
  refine g_seq ?_
  refine g_region ?_
  refine g_pure (p_move rfl) rfl ?_
  refine g_pure (p_load (by rfl) rfl (by first | (apply Has.own; (repeat' (first | exact Take.here | apply Take.there)); done) | exact Has.ro (by assumption)) (by first | rfl | assumption)) rfl ?_
  refine g_call (Hin := []) (Hr := ?hr17) (R := ?rr17) rfl rfl rfl ?hin17 ?hc17 ?hk17
  case hin17 => repeat' (first | exact Cover.nil | exact Take.here | apply Cover.cons | apply Take.there)
  case hc17 => intro ρ' hρ hR; exact (by have := belong_ok (ρ := ρ') (p := p) (S := S) (cl := cl) (by rw [h1]; exact hls.mono hρ) (by omega) (i64_of hw d) (Take.ro (A := Gr p S) (by repeat' (first | exact Take.here | apply Take.there)) hR); rw [h1, hall] at this; exact this)
  rintro _ _ ⟨rfl, rfl⟩
  refine g_pure (p_not rfl) rfl ?_
  refine g_pure (p_assign rfl) rfl ?_
  refine g_nil ?_
  refine g_qt ?_
  refine g_iff rfl ?_
  refine g_seq ?_
  refine m_begin0 (.fl 0 1 (.fl 1 0 (.fl 2 0 (.fl 3 1 (.fl 4 1 (.fl 6 1 (.fl 7 0 (.ef 5 (.fl 8 0 (.fl 9 0 (.fl 10 0 .done))))))))))) (by kernel_rfl) (by kernel_rfl) ?_
  refine m_float rfl (p_load (by rfl) rfl (by first | (apply Has.own; (repeat' (first | exact Take.here | apply Take.there)); done) | exact Has.ro (by assumption)) (by first | rfl | assumption)) rfl ?_
  refine m_float0 rfl (fun _ _ => p_lss rfl rfl) rfl ?_
  refine m_float0 rfl (fun _ _ => p_move rfl) rfl ?_
  by_cases ht3 : t < 3
  · refine m_splitd 2 rfl rfl (fun g => ?_) (fun g => ?_)
    · refine m_no rfl rfl rfl rfl rfl ?_
      refine m_no rfl rfl rfl rfl rfl ?_
      refine m_no rfl rfl rfl rfl rfl ?_
      refine m_no0 rfl rfl rfl rfl rfl ?_
      refine m_noe rfl rfl rfl rfl rfl (.some (by repeat' (first | exact Cover.nil | exact Take.here | apply Cover.cons | apply Take.there))) ?_
      refine m_no0 rfl rfl rfl rfl rfl ?_
      first | refine m_float0 rfl (fun _ _ => p_pickt rfl rfl) rfl ?_ | refine m_float0 rfl (fun _ _ => p_pickf rfl rfl) rfl ?_
      refine m_float0 rfl (fun _ _ => p_assign rfl) rfl ?_
      refine m_nil ?_
      refine g_qt ?_
      refine g_ift rfl ?_
      refine g_seq ?_
      refine g_region ?_
      refine g_pure (p_assign rfl) rfl ?_
      refine g_pure (p_assign rfl) rfl ?_
      refine g_nil ?_
      refine g_qt ?_
      refine g_ret ?_
      refine g_qb_ret ?_
      refine g_qt_ret ?_
      exact g_post (Ho := [Gr p S]) (rs := [.tmp 8, .tmp 9]) rfl (.tmp rfl (.tmp rfl .nil)) ⟨1, S, rfl, rfl, ⟨hw, .refl S, by omega⟩, hfull (.inl ht3)⟩ (by repeat' (first | exact Cover.nil | exact Take.here | apply Cover.cons | apply Take.there))
    · exact absurd ht3 g
  · refine m_splitd 2 rfl rfl (fun g => ?_) (fun g => ?_)
    · exact absurd g ht3
    · refine m_yes rfl rfl rfl (p_load (by rfl) rfl (by first | (apply Has.own; (repeat' (first | exact Take.here | apply Take.there)); done) | exact Has.ro (by assumption)) (by first | rfl | assumption)) rfl ?_
      refine m_yes rfl rfl rfl (p_load (by rfl) rfl (by first | (apply Has.own; (repeat' (first | exact Take.here | apply Take.there)); done) | exact Has.ro (by assumption)) (by first | rfl | assumption)) rfl ?_
      refine m_yes rfl rfl rfl (p_load (by rfl) rfl (by first | (apply Has.own; (repeat' (first | exact Take.here | apply Take.there)); done) | exact Has.ro (by assumption)) (by first | rfl | assumption)) rfl ?_
      refine m_yes0 rfl rfl rfl (fun _ _ => p_shl rfl rfl (by omega)) rfl ?_
      refine m_call (Hin := []) (Hr := ?hr18) (R := ?rr18) rfl (wantedY rfl rfl) rfl rfl rfl ?hin18 ?hc18 ?hk18
      case hin18 => repeat' (first | exact Cover.nil | exact Take.here | apply Cover.cons | apply Take.there)
      case hc18 => intro ρ' hρ hR; exact size_ok (h.mono hρ) hl t ht
      rintro _ _ ⟨rfl, rfl⟩
      refine ⟨.some (by repeat' (first | exact Cover.nil | exact Take.here | apply Cover.cons | apply Take.there)), ?_⟩
      refine m_yes0 rfl rfl rfl (fun _ _ => p_eql rfl rfl) rfl ?_
      first | refine m_float0 rfl (fun _ _ => p_pickt rfl rfl) rfl ?_ | refine m_float0 rfl (fun _ _ => p_pickf rfl rfl) rfl ?_
      refine m_float0 rfl (fun _ _ => p_assign rfl) rfl ?_
      refine m_nil ?_
      refine g_qt ?_
      rw [shl1 (by omega)]
      refine g_ifd rfl (fun g2 => ?_) (fun g2 => ?_)
      · refine g_seq ?_
        refine g_region ?_
        refine g_pure (p_assign rfl) rfl ?_
        refine g_pure (p_assign rfl) rfl ?_
        refine g_nil ?_
        refine g_qt ?_
        refine g_ret ?_
        refine g_qb_ret ?_
        refine g_qt_ret ?_
        exact g_post (Ho := [Gr p S]) (rs := [.tmp 8, .tmp 9]) rfl (.tmp rfl (.tmp rfl .nil)) ⟨1, S, rfl, rfl, ⟨hw, .refl S, by omega⟩, hfull (.inr g2)⟩ (by repeat' (first | exact Cover.nil | exact Take.here | apply Cover.cons | apply Take.there))
      · refine g_skip ?_
        refine g_qb ?_
        refine g_qt ?_
        refine g_seq ?_
        refine g_region ?_
        refine g_pure (p_move rfl) rfl ?_
        refine g_pure (p_move rfl) rfl ?_
        refine g_call (Hin := []) (Hr := ?hr19) (R := ?rr19) rfl rfl rfl ?hin19 ?hc19 ?hk19
        case hin19 => repeat' (first | exact Cover.nil | exact Take.here | apply Cover.cons | apply Take.there)
        case hc19 => intro ρ' hρ hR; exact room_ok 13 (by omega) (Take.ro (A := Gr p S) (by repeat' (first | exact Take.here | apply Take.there)) hR)
        rintro _ _ ⟨rfl, rfl⟩
        refine g_pure (p_makeFunc rfl rfl) rfl ?_
        refine g_call (Hin := [Gr p S]) (Hr := ?hr20) (R := ?rr20) rfl rfl rfl ?hin20 ?hc20 ?hk20
        case hin20 => repeat' (first | exact Cover.nil | exact Take.here | apply Cover.cons | apply Take.there)
        case hc20 => intro ρ' hρ hR; exact valid2_ok p hw hlS h1 (by omega) (hls.mono hρ) d (h.mono hρ) hl t ht (Take.ro (A := Blk b7 (.cells [.slice al w0 cl].toArray 26 (0, 0))) (by repeat' (first | exact Take.here | apply Take.there)) hR).blk (Take.ro (A := Blk b10 (.cells [.int .i64 w0].toArray 3 (0, 0))) (by repeat' (first | exact Take.here | apply Take.there)) hR).blk (Take.ro (A := Blk b5 (.cells [.slice ea es.length ec].toArray 48 (0, 0))) (by repeat' (first | exact Take.here | apply Take.there)) hR).blk (Take.ro (A := Blk b6 (.cells [.int .i64 t].toArray 3 (0, 0))) (by repeat' (first | exact Take.here | apply Take.there)) hR).blk
        rintro _ _ ⟨a2, c2, l, T, rfl, rfl, u, d1⟩
        refine g_pure (p_move rfl) rfl ?_
        refine g_pure (p_extract rfl rfl) rfl ?_
        refine g_pure (p_extract rfl rfl) rfl ?_
        refine g_pure (p_assign rfl) rfl ?_
        refine g_pure (p_assign rfl) rfl ?_
        refine g_nil ?_
        refine g_qt ?_
        refine g_seq ?_
        refine g_seq ?_
        refine g_region ?_
        refine g_pure (p_move rfl) rfl ?_
        refine g_pure (p_neqF rfl rfl rfl) rfl ?_
        refine g_nil ?_
        refine g_qt ?_
        refine g_iff rfl ?_
        refine g_skip ?_
        refine g_qt ?_
        refine g_seq ?_
        refine g_own (e := 27) (a1 := a2) (k := 1) (cap := c2) (xs := [l].map encI) (by repeat' (first | exact Take.here | apply Take.there)) (fun _ h2 _ _ => absurd h2 (by omega)) ?_
        rintro gx curx rfl x1 x2 x3 x4 x5
        have hx : curx[0 + (0 : Int).toNat * 1]? = some (.int .i64 l) := own_at (k := 0) x4 rfl rfl
        refine g_region ?_
        refine g_pure (p_move rfl) rfl ?_
        refine g_pure (p_indexAddr rfl rfl (by omega) (fun _ => rfl)) rfl ?_
        refine g_pure (p_load (by rfl) rfl (Has.own (by repeat' (first | exact Take.here | apply Take.there))) hx) rfl ?_
        refine g_pure (p_assign rfl) rfl ?_
        refine g_pure (p_assign rfl) rfl ?_
        refine g_nil ?_
        refine g_qt ?_
        refine g_ret ?_
        exact g_post (Ho := [Gr p T]) (rs := [.tmp 8, .tmp 9]) rfl (.tmp rfl (.tmp rfl .nil)) ⟨l, T, rfl, rfl, u, d1.congr fun i => by rw [okV_below hz (hfl i) ht3 (by rw [hw0]; exact g2), hw0]⟩ (by repeat' (first | exact Cover.nil | exact Take.here | apply Cover.cons | apply Take.there))
end Go.Proofs.Ytkebblmmgcgjkaa
