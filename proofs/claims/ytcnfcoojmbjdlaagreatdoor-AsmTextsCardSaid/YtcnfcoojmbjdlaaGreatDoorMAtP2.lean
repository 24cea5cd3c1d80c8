/- Own texts, put together: Pz. Conditions: as told at each. -/
import Derived.Test.YtcnfcoojmbjdlaaGreatDoorMAtP1
import Derived.Test.YtcnfcoojmbjdlaaGreatDoorZm
/- Chapter 26: the statement on texts. Conditions: what the library's variables hold (LibA). -/
namespace Go.Z.Asm
set_option maxRecDepth 8000
set_option linter.unusedVariables false
set_option linter.unusedSimpArgs false
set_option linter.unusedSectionVars false
open Go Go.Z Go.Lib Go.Z.Txt Go.Z.Val
def wRt (r : Rt) : Int := (r.1.length : Int) / 100 + r.2.1.length + r.2.2.1.length + r.2.2.2.2.1.length + r.2.2.2.2.2.length
def sumW : List Rt → Int
  | [] => 0
  | r :: l => wRt r + sumW l
theorem sumW_step : ∀ (l : List Rt) (k : Nat) (hk : k < l.length), sumW (l.take (k + 1)) = sumW (l.take k) + wRt l[k]
  | r :: l, 0, _ => by simp [sumW]
  | r :: l, k + 1, hk => by
    rw [List.take_succ_cons, List.take_succ_cons, List.getElem_cons_succ]
    show wRt r + sumW (l.take (k + 1)) = wRt r + sumW (l.take k) + wRt _
    rw [sumW_step l k (by simpa using hk)]; omega
def wsum (im : Im) : Int := (im.1.length : Int) + im.2.length + sumW im.2
theorem flat_le {α : Type} (f : α → List UInt8) (m : Nat) : ∀ (l : List α), (∀ x ∈ l, (f x).length ≤ m) → ((l.map f).flatten).length ≤ m * l.length
  | [], _ => by simp
  | a :: l, h => by
    have h1 := flat_le f m l (fun x hx => h x (List.mem_cons_of_mem _ hx))
    have h2 := h a List.mem_cons_self
    rw [List.map_cons, List.flatten_cons, List.length_append, List.length_cons, Nat.mul_succ]
    omega
theorem rtT_le {r : Rt} (h : TxtOk r) (hn : r.1.length ≤ 40) : ((rtT r).length : Int) ≤ 100 + 60 * wRt r := by
  have h1 := lineP_len2 ([114, 111, 117, 116, 105, 110, 101, 32] ++ r.1) [] (fun x hx => absurd hx List.not_mem_nil)
  have h2 := lineP_len2 [105, 110] r.2.1 h.il
  have h3 := lineP_len2 [111, 117, 116] r.2.2.1 h.ol
  have h4 := lineP_len2 [114, 101, 103, 115] [r.2.2.2.1] (fun x hx => by rw [List.mem_singleton.1 hx]; exact h.rl)
  have h5 := lineP_len2 [105, 110, 105, 116] r.2.2.2.2.1 h.zl
  have h6 := lineP_len2 [101, 110, 100] [] (fun x hx => absurd hx List.not_mem_nil)
  have h7 := flat_le insT 60 r.2.2.2.2.2 (fun i hi => by
    obtain ⟨⟨len, at', hf⟩, hui⟩ := h.cl i hi
    have a1 := lineP_len2 (opRow i.1).1 (usedP i) hui
    have a2 := word_len i.1
    have a3 := used_len i
    unfold insT; omega)
  unfold rtT wRt
  simp only [List.length_append, List.length_cons, List.length_nil] at h1 h2 h3 h4 h5 h6 ⊢
  omega
theorem text_small {im : Im} (h : checkP im = 0) (hw : wsum im < 2000) : (textP im).length ≤ 4194304 := by
  obtain ⟨t1, t2⟩ := txt_ok h
  obtain ⟨g1, g2, g3, g4⟩ := checkP_zero h
  have hnm : ∀ r ∈ im.2, r.1.length ≤ 40 := fun r hr => by
    obtain ⟨k, hk, rfl⟩ := List.mem_iff_getElem.1 hr
    have := (g4 k hk).tl
    unfold titleP at this
    simp only [Bool.and_eq_true, decide_eq_true_eq] at this
    exact this.2.1
  have hr : ∀ (l : List Rt), (∀ r ∈ l, TxtOk r) → (∀ r ∈ l, r.1.length ≤ 40) → (((l.map rtT).flatten).length : Int) ≤ 100 * l.length + 60 * sumW l := by
    intro l
    induction l with
    | nil => intro _ _; simp [sumW]
    | cons r l ih =>
      intro h1 h2
      have i1 := ih (fun x hx => h1 x (List.mem_cons_of_mem _ hx)) (fun x hx => h2 x (List.mem_cons_of_mem _ hx))
      have i2 := rtT_le (h1 r List.mem_cons_self) (h2 r List.mem_cons_self)
      rw [List.map_cons, List.flatten_cons, List.length_append, List.length_cons]
      show _ ≤ _ + 60 * (wRt r + sumW l)
      omega
  have h2 := hr im.2 t2 hnm
  have h3 := lineP_len2 [101, 110, 117, 109, 115] im.1 t1
  simp only [List.length_cons, List.length_nil] at h3
  unfold wsum at hw
  unfold textP
  rw [List.length_append]
  have h0 : ∀ l : List Rt, 0 ≤ sumW l := by
    intro l
    induction l with
    | nil => exact Int.le_refl 0
    | cons r l ih => show 0 ≤ wRt r + sumW l; unfold wRt; omega
  have := h0 im.2
  omega
end Go.Z.Asm
namespace Go.Proofs.YtcnfcoojmbjdlaaGreatDoor
set_option maxRecDepth 8000
set_option linter.unusedVariables false
set_option linter.unusedSimpArgs false
set_option linter.unusedSectionVars false
open Go Go.Z Go.Z.Asm Go.RowKit

theorem weigh2_ok {ρ : Nat → Obj → Prop} {ea ra : Option Addr} {ec rc : Nat} {im : Im} (h : ImI ρ ea ra im) :
    Con Tryz.prog ρ 27 #[.agg #[.slice ea im.1.length ec, .slice ra im.2.length rc], .int .i64 2000] [] (fun v H => ∃ n, v = .int .i64 n ∧ (n < 2000 → wsum im < 2000) ∧ H = []) := by
  have hrl := h.rl
  have hel := h.el
  obtain ⟨b1, o1, c1, T1, f1, hr1⟩ := rts_at h.rs
  refine con_intro Tryz.func27 Tryz.call27 rfl Tryz.ntmps27 rfl (L := [(0, _), (1, _)]) rfl fun w hh => ?_
  refine g_seq <| g_region ?_
  refine g_eff (e_box rfl (by rfl)) rfl (fun _ _ => ?_)
  rintro ⟨b2, rfl, rfl⟩
  refine g_pure (p_assign rfl) rfl ?_
  refine g_nil <| g_qt <| g_seq <| g_region ?_
  refine g_pure (p_fieldAddr rfl) rfl ?_
  refine g_pure (p_loadA) rfl ?_
  refine g_pure (p_len (by rfl) rfl) rfl ?_
  refine g_pure (p_fieldAddr rfl) rfl ?_
  refine g_pure (p_loadA) rfl ?_
  refine g_pure (p_len (by rfl) rfl) rfl ?_
  first | refine g_pure (p_addi rfl rfl (by omega)) rfl ?_ | refine g_pure (p_add rfl rfl) rfl ?_
  refine g_pure (p_assign rfl) rfl ?_
  refine g_nil <| g_qt <| g_seq <| g_seq <| g_region ?_
  refine g_pure (p_assign rfl) rfl ?_
  refine g_nil <| g_qt <| g_block ?_
  refine g_loop (fun q : Nat × Int => [(1, .int .i64 2000), (2, .pointer (some ⟨b2, 0, none⟩)), (5, .int .i64 q.2), (6, .int .i64 q.1)])
    (fun _ => [Blk b2 (.cells [.slice ea im.1.length ec, .slice ra im.2.length rc].toArray 25 (0, 0))]) (fun q => q.1 ≤ im.2.length ∧ (0 ≤ q.2 ∧ q.2 ≤ 100000000000000000) ∧ q.2 = (im.1.length : Int) + im.2.length + sumW (im.2.take q.1)) (fun q => im.2.length - q.1) (0, (im.1.length : Int) + im.2.length) ⟨Nat.zero_le _, ⟨by dsimp only; omega, by dsimp only; omega⟩, by simp [sumW]⟩ (by (repeat (first | exact trivial | refine ⟨by rfl, ?_⟩)); done) (by repeat' (first | exact Cover.nil | exact Take.here | apply Cover.cons | apply Take.there)) ?_
  rintro ⟨k, z⟩ ⟨hk, ⟨hz1, hz2⟩, hz3⟩
  dsimp only at hk hz1 hz2 hz3 ⊢
  refine g_seq <| g_seq <| g_region ?_
  refine g_pure (p_move rfl) rfl ?_
  refine g_pure (p_fieldAddr rfl) rfl ?_
  refine g_pure (p_loadA) rfl ?_
  refine g_pure (p_len (by rfl) rfl) rfl ?_
  refine g_pure (p_lss rfl rfl) rfl ?_
  refine g_pure (p_move rfl) rfl ?_
  refine g_splitd rfl rfl (fun q1 => ?_) (fun q1 => ?_)
  · refine g_yes rfl rfl ?_
    refine g_pure (p_move rfl) rfl ?_
    refine g_yes rfl rfl ?_
    refine g_pure (p_move rfl) rfl ?_
    refine g_yes rfl rfl ?_
    refine g_pure (p_lss rfl rfl) rfl ?_
    first | refine g_pure (p_pickt rfl rfl) rfl ?_ | refine g_pure (p_pickf rfl rfl) rfl ?_
    refine g_nil <| g_qt ?_
    refine g_ifd rfl (fun q2 => ?_) (fun q2 => ?_)
    · have hkl : k < im.2.length := by omega
      obtain ⟨p1, p2, p3⟩ := hr1 (by omega)
      obtain ⟨rx, x1, x2⟩ := p3 k hkl
      have hok := h.ok im.2[k] (List.getElem_mem hkl)
      have hst := sumW_step im.2 k hkl
      generalize im.2[k] = x0 at x1 hok hst
      obtain ⟨ia, ic, oa, oc, na, nc, ca, cc, rfl, _⟩ := x1
      have l1 := hok.nl
      have l2 := hok.il
      have l3 := hok.ol
      have l4 := hok.zl
      have l5 := hok.cl
      have hs : (strB x0.1).size = x0.1.length := rfl
      have hd : ((strB x0.1).size : Int).tdiv 100 = (x0.1.length : Int) / 100 := by rw [hs]; exact Int.tdiv_eq_ediv_of_nonneg (by omega)
      have hwr : wRt x0 = (x0.1.length : Int) / 100 + x0.2.1.length + x0.2.2.1.length + x0.2.2.2.2.1.length + x0.2.2.2.2.2.length := rfl
      refine g_skip <| g_qt <| g_seq <| g_block <| g_seq <| g_region ?_
      refine g_pure (p_fieldAddr rfl) rfl ?_
      refine g_pure (p_loadA) rfl ?_
      refine g_pure (p_move rfl) rfl ?_
      refine g_pure (p_indexAddr rfl rfl (by omega) (fun _ => p1)) rfl ?_
      refine g_pure (p_loadN (by rfl) rfl (Has.ro p2) x2) rfl ?_
      refine g_eff (e_alloc (by rfl)) rfl (fun _ _ => ?_)
      rintro ⟨b7, rfl, rfl⟩
      first | refine g_eff0 (e_storeO rfl rfl (by rfl) (by rfl) (by rfl) (by repeat' (first | exact Take.here | apply Take.there)) (by rfl)) (fun _ _ => ?_) | refine g_eff0 (e_storeN rfl rfl (by rfl) (by rfl) (by rfl) (by repeat' (first | exact Take.here | apply Take.there)) (by simp)) (fun _ _ => ?_)
      rintro rfl
      refine g_nil <| g_qt <| g_region ?_
      refine g_pure (p_move rfl) rfl ?_
      refine g_pure (p_fieldAddr rfl) rfl ?_
      refine g_pure (p_loadA) rfl ?_
      refine g_pure (p_lens (by rfl) rfl) rfl ?_
      first | refine g_pure (p_quon rfl rfl (by omega) (by omega)) rfl ?_ | refine g_pure (p_quoi rfl rfl (by omega) (by omega)) rfl ?_ | refine g_pure (p_quo rfl rfl (by omega)) rfl ?_
      first | refine g_pure (p_addi rfl rfl (by omega)) rfl ?_ | refine g_pure (p_add rfl rfl) rfl ?_
      refine g_pure (p_fieldAddr rfl) rfl ?_
      refine g_pure (p_loadA) rfl ?_
      refine g_pure (p_len (by rfl) rfl) rfl ?_
      first | refine g_pure (p_addi rfl rfl (by omega)) rfl ?_ | refine g_pure (p_add rfl rfl) rfl ?_
      refine g_pure (p_fieldAddr rfl) rfl ?_
      refine g_pure (p_loadA) rfl ?_
      refine g_pure (p_len (by rfl) rfl) rfl ?_
      first | refine g_pure (p_addi rfl rfl (by omega)) rfl ?_ | refine g_pure (p_add rfl rfl) rfl ?_
      refine g_pure (p_fieldAddr rfl) rfl ?_
      refine g_pure (p_loadA) rfl ?_
      refine g_pure (p_len (by rfl) rfl) rfl ?_
      first | refine g_pure (p_addi rfl rfl (by omega)) rfl ?_ | refine g_pure (p_add rfl rfl) rfl ?_
      refine g_pure (p_fieldAddr rfl) rfl ?_
      refine g_pure (p_loadA) rfl ?_
      refine g_pure (p_len (by rfl) rfl) rfl ?_
      first | refine g_pure (p_addi rfl rfl (by omega)) rfl ?_ | refine g_pure (p_add rfl rfl) rfl ?_
      refine g_pure (p_assign rfl) rfl ?_
      refine g_nil <| g_qb <| g_qt <| g_region ?_
      refine g_pure (p_move rfl) rfl ?_
      first | refine g_pure (p_addi rfl rfl (by omega)) rfl ?_ | refine g_pure (p_add rfl rfl) rfl ?_
      refine g_pure (p_assign rfl) rfl ?_
      refine g_nil <| g_qn ?_
      exact g_next (k + 1, _) (by (repeat (first | exact trivial | refine ⟨by rfl, ?_⟩)); done) (by repeat' (first | exact Cover.nil | exact Take.here | apply Cover.cons | apply Take.there)) ⟨hkl, ⟨by dsimp only; omega, by dsimp only; omega⟩, by dsimp only; rw [hst, hwr]; omega⟩ (by dsimp only; omega)
    · refine g_exit <| g_qt_exit <| g_qn_exit <| g_qb_exit <| g_qt <| g_seq <| g_region ?_
      refine g_pure (p_move rfl) rfl ?_
      refine g_pure (p_assign rfl) rfl ?_
      refine g_nil <| g_qt <| g_ret ?_
      exact g_postA (rs := [.tmp 4]) rfl (.tmp rfl .nil) ⟨_, rfl, fun h => by omega, rfl⟩
  · rw [List.take_of_length_le (by omega)] at hz3
    refine g_no rfl rfl rfl rfl ?_
    refine g_no rfl rfl rfl rfl ?_
    refine g_no rfl rfl rfl rfl ?_
    first | refine g_pure (p_pickt rfl rfl) rfl ?_ | refine g_pure (p_pickf rfl rfl) rfl ?_
    refine g_nil <| g_qt ?_
    refine g_iff rfl ?_
    refine g_exit <| g_qt_exit <| g_qn_exit <| g_qb_exit <| g_qt <| g_seq <| g_region ?_
    refine g_pure (p_move rfl) rfl ?_
    refine g_pure (p_assign rfl) rfl ?_
    refine g_nil <| g_qt <| g_ret ?_
    exact g_postA (rs := [.tmp 4]) rfl (.tmp rfl .nil) ⟨_, rfl, fun h => by unfold wsum; omega, rfl⟩
theorem heavy2_ok {ρ : Nat → Obj → Prop} {ea ra : Option Addr} {ec rc : Nat} {im : Im} (h : ImI ρ ea ra im) :
    Con Tryz.prog ρ 10 #[.agg #[.slice ea im.1.length ec, .slice ra im.2.length rc]] [] (fun v H => ∃ b, v = .bool b ∧ (b = false → wsum im < 2000) ∧ H = []) := by
  refine con_intro Tryz.func10 Tryz.call10 rfl Tryz.ntmps10 rfl (L := [(0, _)]) rfl fun w hh => ?_
  refine g_seq <| g_region ?_
  refine g_eff (e_box rfl (by rfl)) rfl (fun _ _ => ?_)
  rintro ⟨b1, rfl, rfl⟩
  refine g_pure (p_assign rfl) rfl ?_
  refine g_nil <| g_qt <| g_seq <| g_region ?_
  first | refine g_pure (p_loadO (by rfl) rfl (by first | (apply Has.own; (repeat' (first | exact Take.here | apply Take.there)); done) | exact Has.ro (by assumption)) (by rfl)) rfl ?_ | refine g_pure (p_loadN (by rfl) rfl (by first | (apply Has.own; (repeat' (first | exact Take.here | apply Take.there)); done) | exact Has.ro (by assumption)) (by first | rfl | assumption)) rfl ?_
  refine g_call (Hin := []) (Hr := ?hr1) (R := ?rr1) rfl rfl rfl ?hin1 ?hc1 ?hk1
  case hin1 => repeat' (first | exact Cover.nil | exact Take.here | apply Cover.cons | apply Take.there)
  case hc1 => intro ρ' hρ hR; exact weigh2_ok (ec := ec) (rc := rc) (h.mono hρ)
  rintro _ _ ⟨n, rfl, hn, rfl⟩
  refine g_pure (p_geq rfl rfl) rfl ?_
  refine g_pure (p_assign rfl) rfl ?_
  refine g_nil <| g_qt <| g_ret ?_
  exact g_postA (rs := [.tmp 2]) rfl (.tmp rfl .nil) ⟨_, rfl, fun h => hn (by rw [decide_eq_false_iff_not] at h; omega), rfl⟩

theorem atexts_ok {ρ : Nat → Obj → Prop} (hk : LibA ρ) {ea ra : Option Addr} {ec rc : Nat} {im : Im} (h : ImI ρ ea ra im) :
    Con Tryz.prog ρ 7 #[.agg #[.slice ea im.1.length ec, .slice ra im.2.length rc]] [] (fun v _ => v = .bool true) := by
  have cS : ∀ {ρ' : Nat → Obj → Prop} {xa ya : Option Addr} (xc yc : Nat), ImI ρ' xa ya im → ImI ρ' ea ra im → Con Tryz.prog ρ' 13 #[.agg #[.slice xa im.1.length xc, .slice ya im.2.length yc], .agg #[.slice ea im.1.length ec, .slice ra im.2.length rc]] [] (fun v H => v = .bool true ∧ H = []) := fun xc yc h1 h2 => by
    have := rsame_ok (ec := xc) (rc := yc) (ed := ec) (rd := rc) h1 h2
    rw [decide_eq_true (p := im = im) rfl] at this
    exact this
  have cA : ∀ {ρ' : Nat → Obj → Prop} {xa ya : Option Addr} (xc yc : Nat), ImI ρ' xa ya im → ImI ρ' ea ra im → Con Tryz.prog ρ' 12 #[.agg #[.slice xa im.1.length xc, .slice ya im.2.length yc], .agg #[.slice ea im.1.length ec, .slice ra im.2.length rc]] [] (fun v H => v = .bool true ∧ H = []) := fun xc yc h1 h2 => by
    have := sameA_ok (ec := xc) (rc := yc) (ed := ec) (rd := rc) h1 h2
    rw [decide_eq_true (p := im = im) rfl] at this
    exact this
  obtain ⟨t, ht⟩ : ∃ t, (if checkP im = 0 then textP im else []) = t := ⟨_, rfl⟩
  obtain ⟨E, hE⟩ : ∃ E, checkP im = E := ⟨_, rfl⟩
  have cT : ∀ {ρ' : Nat → Obj → Prop}, (∀ b o, ρ b o → ρ' b o) → Con Tryz.prog ρ' 23 #[.agg #[.slice ea im.1.length ec, .slice ra im.2.length rc]] [] (fun v H => v = .tuple #[.string (strB t), .int .i64 E] ∧ H = []) := fun hρ => by have := textA_ok (ec := ec) (rc := rc) (hk.mono hρ).ops (hk.mono hρ).tab (h.mono hρ); rw [ht, hE] at this; exact this
  have cR : ∀ {ρ' : Nat → Obj → Prop}, (∀ b o, ρ b o → ρ' b o) → Con Tryz.prog ρ' 24 #[.agg #[.slice ea im.1.length ec, .slice ra im.2.length rc]] [] (fun v H => v = .tuple #[.string (strB t), .int .i64 E] ∧ H = []) := fun hρ => by have := rtext_ok (ec := ec) (rc := rc) (h.mono hρ); rw [ht, hE] at this; exact this
  refine con_intro Tryz.func7 Tryz.call7 rfl Tryz.ntmps7 rfl (L := [(0, _)]) rfl fun w hh => ?_
  refine g_seq <| g_region ?_
  refine g_eff (e_box rfl (by rfl)) rfl (fun _ _ => ?_)
  rintro ⟨b1, rfl, rfl⟩
  refine g_pure (p_assign rfl) rfl ?_
  refine g_nil <| g_qt <| g_seq <| g_seq <| g_region ?_
  first | refine g_pure (p_loadO (by rfl) rfl (by first | (apply Has.own; (repeat' (first | exact Take.here | apply Take.there)); done) | exact Has.ro (by assumption)) (by rfl)) rfl ?_ | refine g_pure (p_loadN (by rfl) rfl (by first | (apply Has.own; (repeat' (first | exact Take.here | apply Take.there)); done) | exact Has.ro (by assumption)) (by first | rfl | assumption)) rfl ?_
  refine g_call (Hin := []) (Hr := ?hr2) (R := ?rr2) rfl rfl rfl ?hin2 ?hc2 ?hk2
  case hin2 => repeat' (first | exact Cover.nil | exact Take.here | apply Cover.cons | apply Take.there)
  case hc2 => intro ρ' hρ hR; exact heavy2_ok (ec := ec) (rc := rc) (h.mono hρ)
  rintro _ _ ⟨hb, rfl, hwb, rfl⟩
  refine g_nil <| g_qt ?_
  refine g_if rfl (fun h1 => ?_) (fun h1 => ?_)
  · refine g_seq <| g_region ?_
    refine g_call (Hin := []) (Hr := ?hr3) (R := ?rr3) rfl rfl rfl ?hin3 ?hc3 ?hk3
    case hin3 => repeat' (first | exact Cover.nil | exact Take.here | apply Cover.cons | apply Take.there)
    case hc3 => intro ρ' hρ hR; exact lives_ok (hk.mono hρ)
    rintro _ _ ⟨rfl, rfl⟩
    refine g_pure (p_assign rfl) rfl ?_
    refine g_nil <| g_qt <| g_ret <| g_qt_ret ?_
    exact g_postA (rs := [.tmp 2]) rfl (.tmp rfl .nil) rfl
  · have hw := hwb h1
    refine g_skip <| g_qt <| g_seq <| g_region ?_
    first | refine g_pure (p_loadO (by rfl) rfl (by first | (apply Has.own; (repeat' (first | exact Take.here | apply Take.there)); done) | exact Has.ro (by assumption)) (by rfl)) rfl ?_ | refine g_pure (p_loadN (by rfl) rfl (by first | (apply Has.own; (repeat' (first | exact Take.here | apply Take.there)); done) | exact Has.ro (by assumption)) (by first | rfl | assumption)) rfl ?_
    refine g_call (Hin := []) (Hr := ?hr4) (R := ?rr4) rfl rfl rfl ?hin4 ?hc4 ?hk4
    case hin4 => repeat' (first | exact Cover.nil | exact Take.here | apply Cover.cons | apply Take.there)
    case hc4 => intro ρ' hρ hR; exact cT hρ
    rintro _ _ ⟨rfl, rfl⟩
    refine g_pure (p_move rfl) rfl ?_
    refine g_pure (p_extract rfl rfl) rfl ?_
    refine g_pure (p_extract rfl rfl) rfl ?_
    refine g_pure (p_assign rfl) rfl ?_
    refine g_pure (p_assign rfl) rfl ?_
    refine g_nil <| g_qt <| g_seq <| g_region ?_
    first | refine g_pure (p_loadO (by rfl) rfl (by first | (apply Has.own; (repeat' (first | exact Take.here | apply Take.there)); done) | exact Has.ro (by assumption)) (by rfl)) rfl ?_ | refine g_pure (p_loadN (by rfl) rfl (by first | (apply Has.own; (repeat' (first | exact Take.here | apply Take.there)); done) | exact Has.ro (by assumption)) (by first | rfl | assumption)) rfl ?_
    refine g_call (Hin := []) (Hr := ?hr5) (R := ?rr5) rfl rfl rfl ?hin5 ?hc5 ?hk5
    case hin5 => repeat' (first | exact Cover.nil | exact Take.here | apply Cover.cons | apply Take.there)
    case hc5 => intro ρ' hρ hR; exact cR hρ
    rintro _ _ ⟨rfl, rfl⟩
    refine g_pure (p_move rfl) rfl ?_
    refine g_pure (p_extract rfl rfl) rfl ?_
    refine g_pure (p_extract rfl rfl) rfl ?_
    refine g_pure (p_assign rfl) rfl ?_
    refine g_pure (p_assign rfl) rfl ?_
    refine g_nil <| g_qt <| g_seq ?_
    refine g_join (fun _ : Unit => [(1, .pointer (some ⟨b1, 0, none⟩)), (3, .string (strB t)), (4, .int .i64 E)]) (fun _ => [Blk b1 (.cells [.slice ea im.1.length ec, .slice ra im.2.length rc].toArray 25 (0, 0))]) (fun _ => True) ?_ ?_
    · refine g_seq <| g_region ?_
      refine g_pure (p_move rfl) rfl ?_
      refine g_pure (p_move rfl) rfl ?_
      refine g_pure (p_neqsF (by rfl) rfl rfl rfl) rfl ?_
      refine g_pure (p_move rfl) rfl ?_
      refine g_yes rfl rfl ?_
      refine g_pure (p_move rfl) rfl ?_
      refine g_yes rfl rfl ?_
      refine g_pure (p_move rfl) rfl ?_
      refine g_yes rfl rfl ?_
      refine g_pure (p_neqF rfl rfl rfl) rfl ?_
      first | refine g_pure (p_pickt rfl rfl) rfl ?_ | refine g_pure (p_pickf rfl rfl) rfl ?_
      refine g_nil <| g_qt ?_
      refine g_iff rfl ?_
      refine g_skip <| g_qn ?_
      exact g_joinedA () trivial
    rintro _ -
    refine g_qt <| g_seq <| g_seq <| g_region ?_
    refine g_pure (p_move rfl) rfl ?_
    refine g_pure (p_neq rfl rfl) rfl ?_
    refine g_nil <| g_qt ?_
    refine g_ifnd rfl (fun h2 => ?_) (fun h2 => ?_)
    · refine g_seq <| g_region ?_
      refine g_call (Hin := []) (Hr := ?hr6) (R := ?rr6) rfl rfl rfl ?hin6 ?hc6 ?hk6
      case hin6 => repeat' (first | exact Cover.nil | exact Take.here | apply Cover.cons | apply Take.there)
      case hc6 => intro ρ' hρ hR; exact lives_ok (hk.mono hρ)
      rintro _ _ ⟨rfl, rfl⟩
      refine g_pure (p_assign rfl) rfl ?_
      refine g_nil <| g_qt <| g_ret <| g_qt_ret ?_
      exact g_postA (rs := [.tmp 2]) rfl (.tmp rfl .nil) rfl
    · have hE0 : E = 0 := h2
      subst hE0
      rw [if_pos hE] at ht
      have htl := text_small hE hw
      rw [ht] at htl
      have hout : outP (parseR t) = (im, 0, 0) := by rw [← ht, text_read hE]; unfold outP; dsimp only; rw [if_pos hE]
      have mkI : ∀ {ρ' : Nat → Obj → Prop} {xa ya : Option Addr} {xc yc : Nat}, Ro ρ' (OwnIm 3 32 45 xa ya xc yc im) → ImI ρ' xa ya im := fun hr => own_im hr h.el h.rl h.ei h.ok
      refine g_skip <| g_qt <| g_seq <| g_region ?_
      refine g_pure (p_move rfl) rfl ?_
      refine g_call (Hin := []) (Hr := ?hr7) (R := ?rr7) rfl rfl rfl ?hin7 ?hc7 ?hk7
      case hin7 => repeat' (first | exact Cover.nil | exact Take.here | apply Cover.cons | apply Take.there)
      case hc7 => intro ρ' hρ hR; exact parseA_ok (hk.mono hρ) t htl hout
      rintro _ _ ⟨xa, xc, ya, yc, rfl, rfl⟩
      refine g_pure (p_move rfl) rfl ?_
      refine g_pure (p_extract rfl rfl) rfl ?_
      refine g_pure (p_extract rfl rfl) rfl ?_
      refine g_pure (p_extract rfl rfl) rfl ?_
      refine g_eff (e_alloc (by rfl)) rfl (fun _ _ => ?_)
      rintro ⟨b7, rfl, rfl⟩
      first | refine g_eff0 (e_storeO rfl rfl (by rfl) (by rfl) (by rfl) (by repeat' (first | exact Take.here | apply Take.there)) (by rfl)) (fun _ _ => ?_) | refine g_eff0 (e_storeN rfl rfl (by rfl) (by rfl) (by rfl) (by repeat' (first | exact Take.here | apply Take.there)) (by simp)) (fun _ _ => ?_)
      rintro rfl
      refine g_pure (p_assign rfl) rfl ?_
      refine g_pure (p_assign rfl) rfl ?_
      refine g_nil <| g_qt <| g_seq <| g_region ?_
      refine g_pure (p_move rfl) rfl ?_
      refine g_pure (p_eqlT rfl rfl rfl) rfl ?_
      refine g_pure (p_move rfl) rfl ?_
      refine g_yes rfl rfl ?_
      refine g_pure (p_move rfl) rfl ?_
      refine g_yes rfl rfl ?_
      refine g_pure (p_eqlT rfl rfl rfl) rfl ?_
      first | refine g_pure (p_pickt rfl rfl) rfl ?_ | refine g_pure (p_pickf rfl rfl) rfl ?_
      refine g_pure (p_move rfl) rfl ?_
      refine g_yes rfl rfl ?_
      first | refine g_pure (p_loadO (by rfl) rfl (by first | (apply Has.own; (repeat' (first | exact Take.here | apply Take.there)); done) | exact Has.ro (by assumption)) (by rfl)) rfl ?_ | refine g_pure (p_loadN (by rfl) rfl (by first | (apply Has.own; (repeat' (first | exact Take.here | apply Take.there)); done) | exact Has.ro (by assumption)) (by first | rfl | assumption)) rfl ?_
      refine g_yes rfl rfl ?_
      first | refine g_pure (p_loadO (by rfl) rfl (by first | (apply Has.own; (repeat' (first | exact Take.here | apply Take.there)); done) | exact Has.ro (by assumption)) (by rfl)) rfl ?_ | refine g_pure (p_loadN (by rfl) rfl (by first | (apply Has.own; (repeat' (first | exact Take.here | apply Take.there)); done) | exact Has.ro (by assumption)) (by first | rfl | assumption)) rfl ?_
      refine g_yes rfl rfl ?_
      refine g_call (Hin := []) (Hr := ?hr8) (R := ?rr8) rfl rfl rfl ?hin8 ?hc8 ?hk8
      case hin8 => repeat' (first | exact Cover.nil | exact Take.here | apply Cover.cons | apply Take.there)
      case hc8 => intro ρ' hρ hR; exact cS xc yc (mkI (Take.ro (A := OwnIm 3 32 45 xa ya xc yc im) (by repeat' (first | exact Take.here | apply Take.there)) hR)) (h.mono hρ)
      rintro _ _ ⟨rfl, rfl⟩
      first | refine g_pure (p_pickt rfl rfl) rfl ?_ | refine g_pure (p_pickf rfl rfl) rfl ?_
      refine g_pure (p_move rfl) rfl ?_
      refine g_yes rfl rfl ?_
      first | refine g_pure (p_loadO (by rfl) rfl (by first | (apply Has.own; (repeat' (first | exact Take.here | apply Take.there)); done) | exact Has.ro (by assumption)) (by rfl)) rfl ?_ | refine g_pure (p_loadN (by rfl) rfl (by first | (apply Has.own; (repeat' (first | exact Take.here | apply Take.there)); done) | exact Has.ro (by assumption)) (by first | rfl | assumption)) rfl ?_
      refine g_yes rfl rfl ?_
      first | refine g_pure (p_loadO (by rfl) rfl (by first | (apply Has.own; (repeat' (first | exact Take.here | apply Take.there)); done) | exact Has.ro (by assumption)) (by rfl)) rfl ?_ | refine g_pure (p_loadN (by rfl) rfl (by first | (apply Has.own; (repeat' (first | exact Take.here | apply Take.there)); done) | exact Has.ro (by assumption)) (by first | rfl | assumption)) rfl ?_
      refine g_yes rfl rfl ?_
      refine g_call (Hin := []) (Hr := ?hr9) (R := ?rr9) rfl rfl rfl ?hin9 ?hc9 ?hk9
      case hin9 => repeat' (first | exact Cover.nil | exact Take.here | apply Cover.cons | apply Take.there)
      case hc9 => intro ρ' hρ hR; exact cA xc yc (mkI (Take.ro (A := OwnIm 3 32 45 xa ya xc yc im) (by repeat' (first | exact Take.here | apply Take.there)) hR)) (h.mono hρ)
      rintro _ _ ⟨rfl, rfl⟩
      first | refine g_pure (p_pickt rfl rfl) rfl ?_ | refine g_pure (p_pickf rfl rfl) rfl ?_
      refine g_pure (p_move rfl) rfl ?_
      refine g_yes rfl rfl ?_
      refine g_call (Hin := []) (Hr := ?hr10) (R := ?rr10) rfl rfl rfl ?hin10 ?hc10 ?hk10
      case hin10 => repeat' (first | exact Cover.nil | exact Take.here | apply Cover.cons | apply Take.there)
      case hc10 => intro ρ' hρ hR; exact lives_ok (hk.mono hρ)
      rintro _ _ ⟨rfl, rfl⟩
      first | refine g_pure (p_pickt rfl rfl) rfl ?_ | refine g_pure (p_pickf rfl rfl) rfl ?_
      refine g_pure (p_assign rfl) rfl ?_
      refine g_nil <| g_qt <| g_ret ?_
      exact g_postA (rs := [.tmp 2]) rfl (.tmp rfl .nil) rfl
end Go.Proofs.YtcnfcoojmbjdlaaGreatDoor
