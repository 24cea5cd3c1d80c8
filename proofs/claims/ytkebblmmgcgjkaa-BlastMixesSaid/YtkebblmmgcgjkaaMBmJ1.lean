/- Own texts, put together: J9. Conditions: as told at each. -/
import Derived.Test.YtkebblmmgcgjkaaMBmJ0
/- Chapter 38: attempts, Apply. Conditions: none. -/
namespace Go.Proofs.Ytkebblmmgcgjkaa
set_option maxRecDepth 8000
set_option linter.unusedVariables false
set_option linter.unusedSimpArgs false
set_option linter.unusedSectionVars false
open Go Go.Z Go.Z.Aig Go.Z.Bit

theorem attempt_ok {ρ : Nat → Obj → Prop} (p : Nat) {S : St} {F : Nat} {caps : Array Value} {Q : List Int → St → Prop}
    (hF : ∀ ρ', (∀ b o, ρ b o → ρ' b o) → ∀ mb, Con Try.prog ρ' F (#[.pointer (some ⟨mb, 0, none⟩)] ++ caps) [MkB mb p, Gr p S] (fun v H => ∃ a2 c2 out T, v = .slice a2 out.length c2 ∧ H = [OwnSl 27 1 a2 out.length c2 (out.map encI), MkB mb p, Gr p T] ∧ Q out T)) :
    Con Try.prog ρ 63 #[.pointer (some ⟨p, 0, none⟩), .bool true, .func (.func F) #[] caps] [Gr p S]
    (fun v H => ∃ a2 c2 out T, v = .tuple #[.slice a2 out.length c2, .int .i64 0] ∧ H = [OwnSl 27 1 a2 out.length c2 (out.map encI), Gr p T] ∧ Q out T) := by
  refine con_intro Try.func63 Try.call63 rfl Try.ntmps63 rfl (L := [(0, _), (1, _), (2, _)]) rfl fun w hh => ?_
  refine g_seq ?_
  refine g_region ?_
  refine g_pure (p_assign rfl) rfl ?_
  refine g_pure (p_assign rfl) rfl ?_
  refine g_nil ?_
  refine g_qt ?_
  refine g_seq ?_
  refine g_seq ?_
  refine g_region ?_
  refine g_pure (p_move rfl) rfl ?_
  refine g_pure (p_not rfl) rfl ?_
  refine g_nil ?_
  refine g_qt ?_
  refine g_iff rfl ?_
  refine g_skip ?_
  refine g_qt ?_
  refine g_seq ?_
  refine g_region ?_
  refine g_pure (p_move rfl) rfl ?_
  refine g_pure (p_build (by rfl) rfl (by rfl)) rfl ?_
  refine g_eff (e_box rfl (by rfl)) rfl (fun _ _ => ?_)
  rintro ⟨b31, rfl, rfl⟩
  refine g_pure (p_assign rfl) rfl ?_
  refine g_nil ?_
  refine g_qt ?_
  refine g_seq ?_
  refine g_region ?_
  refine g_pure (p_move rfl) rfl ?_
  refine g_pure (p_move rfl) rfl ?_
  refine g_call (Hin := ?hi1) (Hr := ?hr1) (R := ?rr1) rfl rfl rfl ?hin1 ?hc1 ?hk1
  case hc1 => intro ρ' hρ hR; exact hF ρ' hρ b31
  case hin1 => repeat' (first | exact Cover.nil | exact Take.here | apply Cover.cons | apply Take.there)
  rintro _ _ ⟨a2, c2, out, T, rfl, rfl, q⟩
  refine g_pure (p_assign rfl) rfl ?_
  refine g_nil ?_
  refine g_qt ?_
  refine g_seq ?_
  refine g_seq ?_
  refine g_region ?_
  refine g_pure (p_move rfl) rfl ?_
  refine g_pure (p_nilCheck rfl) rfl ?_
  refine g_pure (p_fieldAddr rfl) rfl ?_
  refine g_pure (p_load (by rfl) rfl (by first | (apply Has.own; (repeat' (first | exact Take.here | apply Take.there)); done) | exact Has.ro (by assumption)) (by first | rfl | assumption)) rfl ?_
  refine g_pure (p_neqF rfl rfl rfl) rfl ?_
  refine g_nil ?_
  refine g_qt ?_
  refine g_iff rfl ?_
  refine g_skip ?_
  refine g_qt ?_
  refine g_seq ?_
  refine g_region ?_
  refine g_pure (p_move rfl) rfl ?_
  refine g_pure (p_assign rfl) rfl ?_
  refine g_pure (p_assign rfl) rfl ?_
  refine g_nil ?_
  refine g_qt ?_
  refine g_ret ?_
  exact g_post (rs := [.tmp 6, .tmp 7]) rfl (.tmp rfl (.tmp rfl .nil)) ⟨a2, c2, out, T, rfl, rfl, q⟩ (by repeat' (first | exact Cover.nil | exact Take.here | apply Cover.cons | apply Take.there))

theorem apply1_ok {ρ : Nat → Obj → Prop} (mb p : Nat) {S : St} {al : Option Addr} {cl : Nat} {f g : List Bool → List Bool} (hw : WF S) {op : Int} {n : Nat} (ho : OpOk op n) {lss : List (List Int)} (h0 : 0 < lss.length) (h9 : lss.length ≤ 1000) (hr : RSl2 ρ al (lss.map (·.map encI))) (hn1 : lss[0].length = n) (hn2 : (lss[lss.length - 1]'(by omega)).length = n)
    (d : DenL S lss[0] f) (d' : DenL S (lss[lss.length - 1]'(by omega)) g) (hl : S.length ≤ 100000) {b4 b5 : Nat} (h4 : ρ b4 (.cells [.int .i64 op].toArray 3 (0, 0))) (h5 : ρ b5 (.cells [.slice al lss.length cl].toArray 60 (0, 0))) :
    Con Try.prog ρ 65 #[.pointer (some ⟨mb, 0, none⟩), .pointer (some ⟨b4, 0, none⟩), .pointer (some ⟨b5, 0, none⟩)] [MkB mb p, Gr p S]
    (fun v H => ∃ a2 c2 out T, v = .slice a2 out.length c2 ∧ H = [OwnSl 27 1 a2 out.length c2 (out.map encI), MkB mb p, Gr p T] ∧ Up S T 5000 ∧ DenL T out (fun i => operateF op (f i) (g i))) := by
  refine con_intro Try.func65 Try.call65 rfl Try.ntmps65 rfl (L := [(0, _), (1, _), (2, _)]) rfl fun w hh => ?_
  refine g_seq ?_
  refine g_region ?_
  refine g_pure (p_assign rfl) rfl ?_
  refine g_nil ?_
  refine g_qt ?_
  refine g_seq ?_
  refine g_region ?_
  refine g_pure (p_move rfl) rfl ?_
  refine g_pure (p_load (by rfl) rfl (by first | (apply Has.own; (repeat' (first | exact Take.here | apply Take.there)); done) | exact Has.ro (by assumption)) (by first | rfl | assumption)) rfl ?_
  refine g_pure (p_load (by rfl) rfl (by first | (apply Has.own; (repeat' (first | exact Take.here | apply Take.there)); done) | exact Has.ro (by assumption)) (by first | rfl | assumption)) rfl ?_
  refine g_call (Hin := ?hi2) (Hr := ?hr2) (R := ?rr2) rfl rfl rfl ?hin2 ?hc2 ?hk2
  case hc2 => intro ρ' hρ hR; exact operate_ok mb p hw ho h0 h9 (hr.mono hρ) hn1 hn2 d d' hl
  case hin2 => repeat' (first | exact Cover.nil | exact Take.here | apply Cover.cons | apply Take.there)
  rintro _ _ ⟨a2, c2, out, T, rfl, rfl, u, d1⟩
  refine g_pure (p_assign rfl) rfl ?_
  refine g_nil ?_
  refine g_qt ?_
  refine g_ret ?_
  exact g_post (rs := [.tmp 4]) rfl (.tmp rfl .nil) ⟨a2, c2, out, T, rfl, rfl, u, d1⟩ (by repeat' (first | exact Cover.nil | exact Take.here | apply Cover.cons | apply Take.there))

def applyE (op : Int) (lss : List (List Int)) : Int := if op < 1 ∨ 16 < op then 2 else if lss.length ≠ (if op = 1 ∨ op = 2 then 1 else 2) then 9 else if wOk op lss then 0 else 16
theorem flat_bound : ∀ (lss : List (List Int)), lss.length ≤ 1000 → (∀ l ∈ lss, l.length ≤ 1000000000) → lss.flatten.length ≤ 1000000000000 := by
  have key : ∀ (lss : List (List Int)), (∀ l ∈ lss, l.length ≤ 1000000000) → lss.flatten.length ≤ lss.length * 1000000000 := by
    intro lss
    induction lss with
    | nil => intro _; simp
    | cons x l ih =>
      intro h
      have h1 := h x (by simp)
      have h2 := ih fun y hy => h y (by simp [hy])
      rw [List.flatten_cons, List.length_append, List.length_cons]; omega
  intro lss h1 h2
  have := key lss h2
  omega
theorem wOk_at {op : Int} {lss : List (List Int)} (h : wOk op lss = true) (k : Nat) (hk : k < lss.length) : (lss[k]).length = (lss[0]'(by omega)).length := by
  have h0 : 0 < lss.length := by omega
  have e : lss.headD [] = lss[0] := by
    cases lss with
    | nil => simp at h0
    | cons x l => rfl
  unfold wOk at h
  rw [List.all_eq_true, e] at h
  have h1 := h _ (List.getElem_mem hk)
  have h2 := h _ (List.getElem_mem h0)
  simp at h1 h2
  omega
theorem wOk_head {op : Int} {lss : List (List Int)} (h : wOk op lss = true) (h0 : 0 < lss.length) : (lss[0]).length = widthF op (lss[0]).length := by
  have e : lss.headD [] = lss[0] := by
    cases lss with
    | nil => simp at h0
    | cons x l => rfl
  unfold wOk at h
  rw [List.all_eq_true, e] at h
  simpa using h _ (List.getElem_mem h0)
theorem den_self {S : St} {ls : List Int} (h : ∀ l ∈ ls, has S l) : DenL S ls (fun i => ls.map (litv (vals S i))) := ⟨h, fun _ => rfl⟩
theorem mem_flat {lss : List (List Int)} {k : Nat} (hk : k < lss.length) {l : Int} (h : l ∈ lss[k]) : l ∈ lss.flatten := List.mem_flatten.2 ⟨_, List.getElem_mem hk, h⟩
theorem head_eq {lss : List (List Int)} (h : 0 < lss.length) : lss.headD [] = lss[0] := by
  cases lss with
  | nil => simp at h
  | cons x l => rfl
theorem last_eq {lss : List (List Int)} (h : 0 < lss.length) : lss.getLastD [] = lss[lss.length - 1] := by
  cases lss with
  | nil => simp at h
  | cons x l => rw [List.getLastD_eq_getLast?, List.getLast?_eq_getElem?, List.getElem?_eq_getElem (by simp)]; rfl

theorem apply2_ok {ρ : Nat → Obj → Prop} (p : Nat) {S : St} {al : Option Addr} {cl : Nat} (hw : WF S) {op : Int} {lss : List (List Int)} (h0 : 0 < lss.length) (ho : OpOk op (lss[0]'h0).length) (h9 : lss.length ≤ 1000) (hr : RSl2 ρ al (lss.map (·.map encI))) (hwo : wOk op lss = true)
    (hb : ∀ l ∈ lss.flatten, has S l) (hl : S.length ≤ 100000) {b4 b5 : Nat} (h4 : ρ b4 (.cells [.int .i64 op].toArray 3 (0, 0))) (h5 : ρ b5 (.cells [.slice al lss.length cl].toArray 60 (0, 0))) :
    Con Try.prog ρ 63 #[.pointer (some ⟨p, 0, none⟩), .bool true, .func (.func 65) #[] #[.pointer (some ⟨b4, 0, none⟩), .pointer (some ⟨b5, 0, none⟩)]] [Gr p S]
    (fun v H => ∃ a2 c2 out T, v = .tuple #[.slice a2 out.length c2, .int .i64 0] ∧ H = [OwnSl 27 1 a2 out.length c2 (out.map encI), Gr p T] ∧ Up S T 5000 ∧ DenL T out (fun i => operateF op ((lss.headD []).map (litv (vals S i))) ((lss.getLastD []).map (litv (vals S i))))) := by
  have d0 : DenL S lss[0] (fun i => (lss.headD []).map (litv (vals S i))) := by rw [head_eq h0]; exact den_self fun l h => hb l (mem_flat h0 h)
  have d1 : DenL S (lss[lss.length - 1]'(by omega)) (fun i => (lss.getLastD []).map (litv (vals S i))) := by rw [last_eq h0]; exact den_self fun l h => hb l (mem_flat (by omega) h)
  have hn2 := wOk_at hwo (lss.length - 1) (by omega)
  refine attempt_ok (Q := fun out T => Up S T 5000 ∧ DenL T out (fun i => operateF op ((lss.headD []).map (litv (vals S i))) ((lss.getLastD []).map (litv (vals S i))))) p fun ρ2 h2 mb => ?_
  exact apply1_ok mb p hw ho h0 h9 (hr.mono h2) rfl hn2 d0 d1 hl (h2 _ _ h4) (h2 _ _ h5)

set_option maxHeartbeats 4000000 in
theorem bapply_ok {ρ : Nat → Obj → Prop} (p : Nat) {S : St} {al : Option Addr} {cl : Nat} (op : Int) (hw : WF S) (hl : S.length ≤ 100000) {lss : List (List Int)} (hr : RSl2 ρ al (lss.map (·.map encI))) (h9 : lss.length ≤ 1000) (h3' : ∀ l ∈ lss, l.length ≤ 1000000000) (hb : ∀ l ∈ lss.flatten, has S l) :
    Con Try.prog ρ 29 #[.pointer (some ⟨p, 0, none⟩), .int .i64 op, .slice al lss.length cl] [Gr p S]
    (fun v H => (applyE op lss ≠ 0 ∧ v = .tuple #[.slice none 0 0, .int .i64 (applyE op lss)] ∧ H = [Gr p S]) ∨
      (applyE op lss = 0 ∧ ∃ a2 c2 out T, v = .tuple #[.slice a2 out.length c2, .int .i64 0] ∧ H = [OwnSl 27 1 a2 out.length c2 (out.map encI), Gr p T] ∧ Up S T 5000 ∧ DenL T out (fun i => operateF op ((lss.headD []).map (litv (vals S i))) ((lss.getLastD []).map (litv (vals S i)))))) := by
  have h3 : ∀ l ∈ lss, l.length ≤ 1000000000000 := fun l h => Nat.le_trans (h3' l h) (by decide)
  refine con_intro Try.func29 Try.call29 rfl Try.ntmps29 rfl (L := [(0, _), (1, _), (2, _)]) rfl fun w hh => ?_
  refine g_seq ?_
  refine g_region ?_
  refine g_eff (e_box rfl (by rfl)) rfl (fun _ _ => ?_)
  rintro ⟨b4, rfl, rfl⟩
  refine g_eff (e_box rfl (by rfl)) rfl (fun _ _ => ?_)
  rintro ⟨b5, rfl, rfl⟩
  refine g_pure (p_assign rfl) rfl ?_
  refine g_pure (p_assign rfl) rfl ?_
  refine g_nil ?_
  refine g_qt ?_
  refine g_seq ?_
  refine g_region ?_
  refine g_pure (p_assign rfl) rfl ?_
  refine g_nil ?_
  refine g_qt ?_
  refine g_seq ?_
  refine g_seq ?_
  refine g_region ?_
  refine g_pure (p_load (by rfl) rfl (by first | (apply Has.own; (repeat' (first | exact Take.here | apply Take.there)); done) | exact Has.ro (by assumption)) (by first | rfl | assumption)) rfl ?_
  refine g_pure (p_eql rfl rfl) rfl ?_
  refine g_pure (p_move rfl) rfl ?_
  refine g_splitd rfl rfl (fun z => ?_) (fun z => ?_)
  · refine g_no rfl rfl rfl rfl ?_
    refine g_no rfl rfl rfl rfl ?_
    first | refine g_pure (p_pickt rfl rfl) rfl ?_ | refine g_pure (p_pickf rfl rfl) rfl ?_
    refine g_nil ?_
    refine g_qt ?_
    refine g_ift rfl ?_
    refine g_region ?_
    refine g_pure (p_assign rfl) rfl ?_
    refine g_nil ?_
    refine g_qt ?_
    refine g_seq ?_
    refine g_block ?_
    refine g_seq ?_
    refine g_region ?_
    refine g_pure (p_move rfl) rfl ?_
    refine g_pure (p_eqnil (by rfl) rfl rfl) rfl ?_
    refine g_pure (p_assign rfl) rfl ?_
    refine g_nil ?_
    refine g_qt ?_
    refine g_iff rfl ?_
    refine g_seq ?_
    refine g_region ?_
    refine g_pure (p_load (by rfl) rfl (by first | (apply Has.own; (repeat' (first | exact Take.here | apply Take.there)); done) | exact Has.ro (by assumption)) (by first | rfl | assumption)) rfl ?_
    refine g_pure (p_lss rfl rfl) rfl ?_
    refine g_pure (p_move rfl) rfl ?_
    refine g_splitd rfl rfl (fun g1 => ?_) (fun g1 => ?_)
    · refine g_no rfl rfl rfl rfl ?_
      refine g_no rfl rfl rfl rfl ?_
      first | refine g_pure (p_pickt rfl rfl) rfl ?_ | refine g_pure (p_pickf rfl rfl) rfl ?_
      refine g_pure (p_assign rfl) rfl ?_
      refine g_nil ?_
      refine g_qt ?_
      refine g_ift rfl ?_
      refine g_seq ?_
      refine g_region ?_
      refine g_pure (p_assign rfl) rfl ?_
      refine g_pure (p_assign rfl) rfl ?_
      refine g_nil ?_
      refine g_qt ?_
      refine g_ret ?_
      refine g_qb_ret ?_
      refine g_qt_ret ?_
      refine g_ownnil (e := 27) (size := 1) ?_
      exact g_post (Ho := [Gr p S]) (rs := [.tmp 6, .tmp 7]) rfl (.tmp rfl (.tmp rfl .nil)) (.inl ⟨by unfold applyE; rw [if_pos (.inl g1)]; decide, by unfold applyE; rw [if_pos (.inl g1)]; rfl, rfl⟩) (by repeat' (first | exact Cover.nil | exact Take.here | apply Cover.cons | apply Take.there))
    · refine g_yes rfl rfl ?_
      refine g_pure (p_load (by rfl) rfl (by first | (apply Has.own; (repeat' (first | exact Take.here | apply Take.there)); done) | exact Has.ro (by assumption)) (by first | rfl | assumption)) rfl ?_
      refine g_yes rfl rfl ?_
      refine g_pure (p_gtr rfl rfl) rfl ?_
      first | refine g_pure (p_pickt rfl rfl) rfl ?_ | refine g_pure (p_pickf rfl rfl) rfl ?_
      refine g_pure (p_assign rfl) rfl ?_
      refine g_nil ?_
      refine g_qt ?_
      refine g_ifd rfl (fun g2 => ?_) (fun g2 => ?_)
      · refine g_seq ?_
        refine g_region ?_
        refine g_pure (p_assign rfl) rfl ?_
        refine g_pure (p_assign rfl) rfl ?_
        refine g_nil ?_
        refine g_qt ?_
        refine g_ret ?_
        refine g_qb_ret ?_
        refine g_qt_ret ?_
        exact g_post (Ho := [Gr p S]) (rs := [.tmp 6, .tmp 7]) rfl (.tmp rfl (.tmp rfl .nil)) (.inl ⟨by unfold applyE; rw [if_pos (.inr g2)]; decide, by unfold applyE; rw [if_pos (.inr g2)]; rfl, rfl⟩) (by repeat' (first | exact Cover.nil | exact Take.here | apply Cover.cons | apply Take.there))
      · have hE : applyE op lss = if lss.length ≠ 1 then 9 else if wOk op lss then 0 else 16 := by unfold applyE; rw [if_neg (by omega), show (if op = 1 ∨ op = 2 then (1 : Nat) else 2) = 1 from if_pos (.inl z)]
        refine g_seq ?_
        refine g_region ?_
        refine g_pure (p_load (by rfl) rfl (by first | (apply Has.own; (repeat' (first | exact Take.here | apply Take.there)); done) | exact Has.ro (by assumption)) (by first | rfl | assumption)) rfl ?_
        refine g_pure (p_len (by rfl) rfl) rfl ?_
        refine g_pure (p_move rfl) rfl ?_
        refine g_pure (p_neq rfl rfl) rfl ?_
        refine g_pure (p_assign rfl) rfl ?_
        refine g_nil ?_
        refine g_qt ?_
        refine g_ifnd rfl (fun g3 => ?_) (fun g3 => ?_)
        · refine g_seq ?_
          refine g_region ?_
          refine g_pure (p_assign rfl) rfl ?_
          refine g_pure (p_assign rfl) rfl ?_
          refine g_nil ?_
          refine g_qt ?_
          refine g_ret ?_
          refine g_qb_ret ?_
          refine g_qt_ret ?_
          rw [if_pos (by omega)] at hE
          exact g_post (Ho := [Gr p S]) (rs := [.tmp 6, .tmp 7]) rfl (.tmp rfl (.tmp rfl .nil)) (.inl ⟨by rw [hE]; decide, by rw [hE]; rfl, rfl⟩) (by repeat' (first | exact Cover.nil | exact Take.here | apply Cover.cons | apply Take.there))
        · have hlen : lss.length = 1 := by omega
          rw [if_neg (by omega)] at hE
          refine g_skip ?_
          refine g_qb ?_
          refine g_qt ?_
          refine g_seq ?_
          refine g_seq ?_
          refine g_region ?_
          refine g_pure (p_load (by rfl) rfl (by first | (apply Has.own; (repeat' (first | exact Take.here | apply Take.there)); done) | exact Has.ro (by assumption)) (by first | rfl | assumption)) rfl ?_
          refine g_pure (p_load (by rfl) rfl (by first | (apply Has.own; (repeat' (first | exact Take.here | apply Take.there)); done) | exact Has.ro (by assumption)) (by first | rfl | assumption)) rfl ?_
          refine g_call (Hin := []) (Hr := ?hr3) (R := ?rr3) rfl rfl rfl ?hin3 ?hc3 ?hk3
          case hin3 => repeat' (first | exact Cover.nil | exact Take.here | apply Cover.cons | apply Take.there)
          case hc3 => intro ρ' hρ hR; exact widths_ok op (by omega) (hr.mono hρ) (by omega) h3
          rintro _ _ ⟨rfl, rfl⟩
          refine g_pure (p_assign rfl) rfl ?_
          refine g_nil ?_
          refine g_qt ?_
          refine g_seq ?_
          refine g_region ?_
          refine g_pure (p_move rfl) rfl ?_
          refine g_pure (p_neq rfl rfl) rfl ?_
          refine g_nil ?_
          refine g_qt ?_
          cases hwo : wOk op lss with
          | false =>
            rw [hwo] at hE
            refine g_ift rfl ?_
            refine g_seq ?_
            refine g_region ?_
            refine g_pure (p_move rfl) rfl ?_
            refine g_pure (p_assign rfl) rfl ?_
            refine g_pure (p_assign rfl) rfl ?_
            refine g_nil ?_
            refine g_qt ?_
            refine g_ret ?_
            refine g_qt_ret ?_
            exact g_post (Ho := [Gr p S]) (rs := [.tmp 6, .tmp 7]) rfl (.tmp rfl (.tmp rfl .nil)) (.inl ⟨by rw [hE]; decide, by rw [hE]; rfl, rfl⟩) (by repeat' (first | exact Cover.nil | exact Take.here | apply Cover.cons | apply Take.there))
          | true =>
            rw [hwo] at hE
            refine g_iff rfl ?_
            refine g_skip ?_
            refine g_qt ?_
            refine g_seq ?_
            refine g_seq ?_
            refine g_region ?_
            refine g_pure (p_move rfl) rfl ?_
            refine g_pure (p_load (by rfl) rfl (by first | (apply Has.own; (repeat' (first | exact Take.here | apply Take.there)); done) | exact Has.ro (by assumption)) (by first | rfl | assumption)) rfl ?_
            have hall : lss.flatten.all (hasB S) = true := List.all_eq_true.2 fun l hl => hasB_iff.2 (hb l hl)
            have hi64 : ∀ l ∈ lss.flatten, I64 l := fun l hl => by have := hw.lim; have := (hb l hl).1; have := (hb l hl).2; unfold I64; omega
            have hfl : lss.flatten.length ≤ 1000000000000 := flat_bound lss (by omega) h3'
            refine g_call (Hin := []) (Hr := ?hr4) (R := ?rr4) rfl rfl rfl ?hin4 ?hc4 ?hk4
            case hin4 => repeat' (first | exact Cover.nil | exact Take.here | apply Cover.cons | apply Take.there)
            case hc4 => intro ρ' hρ hR; exact concat_ok (hr.mono hρ) hfl (by omega)
            rintro _ _ ⟨ka, kc, rfl, rfl⟩
            refine g_call (Hin := []) (Hr := ?hr5) (R := ?rr5) rfl rfl rfl ?hin5 ?hc5 ?hk5
            case hin5 => repeat' (first | exact Cover.nil | exact Take.here | apply Cover.cons | apply Take.there)
            case hc5 => intro ρ' hρ hR; exact (by have := belong_ok (ρ := ρ') (p := p) (S := S) (RSl.of_own (Take.ro (A := OwnSl 27 1 ka lss.flatten.length kc (lss.flatten.map encI)) (by repeat' (first | exact Take.here | apply Take.there)) hR)) (cl := kc) (by omega) hi64 (Take.ro (A := Gr p S) (by repeat' (first | exact Take.here | apply Take.there)) hR); rwa [hall] at this)
            rintro _ _ ⟨rfl, rfl⟩
            refine g_pure (p_not rfl) rfl ?_
            refine g_nil ?_
            refine g_qt ?_
            refine g_iff rfl ?_
            refine g_skip ?_
            refine g_qt ?_
            refine g_seq ?_
            refine g_region ?_
            refine g_pure (p_move rfl) rfl ?_
            refine g_pure (p_move rfl) rfl ?_
            refine g_pure (p_load (by rfl) rfl (by first | (apply Has.own; (repeat' (first | exact Take.here | apply Take.there)); done) | exact Has.ro (by assumption)) (by first | rfl | assumption)) rfl ?_
            refine g_call (Hin := []) (Hr := ?hr6) (R := ?rr6) rfl rfl rfl ?hin6 ?hc6 ?hk6
            case hin6 => repeat' (first | exact Cover.nil | exact Take.here | apply Cover.cons | apply Take.there)
            case hc6 => intro ρ' hρ hR; exact room_ok op hl (Take.ro (A := Gr p S) (by repeat' (first | exact Take.here | apply Take.there)) hR)
            rintro _ _ ⟨rfl, rfl⟩
            refine g_pure (p_makeFunc rfl rfl) rfl ?_
            have ho : OpOk op lss[0].length := ⟨by omega, wOk_head hwo (by omega)⟩
            refine g_call (Hin := [Gr p S]) (Hr := ?hr7) (R := ?rr7) rfl rfl rfl ?hin7 ?hc7 ?hk7
            case hin7 => repeat' (first | exact Cover.nil | exact Take.here | apply Cover.cons | apply Take.there)
            case hc7 => intro ρ' hρ hR; exact apply2_ok p hw (by omega) ho h9 (hr.mono hρ) hwo hb hl (Take.ro (A := Blk b4 (.cells [.int .i64 op].toArray 3 (0, 0))) (by repeat' (first | exact Take.here | apply Take.there)) hR).blk (Take.ro (A := Blk b5 (.cells [.slice al lss.length cl].toArray 60 (0, 0))) (by repeat' (first | exact Take.here | apply Take.there)) hR).blk
            rintro _ _ ⟨a2, c2, out, T, rfl, rfl, u, d⟩
            refine g_pure (p_extract rfl rfl) rfl ?_
            refine g_pure (p_extract rfl rfl) rfl ?_
            refine g_pure (p_assign rfl) rfl ?_
            refine g_pure (p_assign rfl) rfl ?_
            refine g_nil ?_
            refine g_qt ?_
            refine g_ret ?_
            exact g_post (Ho := [OwnSl 27 1 a2 out.length c2 (out.map encI), Gr p T]) (rs := [.tmp 6, .tmp 7]) rfl (.tmp rfl (.tmp rfl .nil)) (.inr ⟨hE, a2, c2, out, T, rfl, rfl, u, d⟩) (by repeat' (first | exact Cover.nil | exact Take.here | apply Cover.cons | apply Take.there))
  · refine g_yes rfl rfl ?_
    refine g_pure (p_load (by rfl) rfl (by first | (apply Has.own; (repeat' (first | exact Take.here | apply Take.there)); done) | exact Has.ro (by assumption)) (by first | rfl | assumption)) rfl ?_
    refine g_yes rfl rfl ?_
    refine g_pure (p_eql rfl rfl) rfl ?_
    first | refine g_pure (p_pickt rfl rfl) rfl ?_ | refine g_pure (p_pickf rfl rfl) rfl ?_
    refine g_nil ?_
    refine g_qt ?_
    refine g_ifd rfl (fun z2 => ?_) (fun z2 => ?_)
    · refine g_region ?_
      refine g_pure (p_assign rfl) rfl ?_
      refine g_nil ?_
      refine g_qt ?_
      refine g_seq ?_
      refine g_block ?_
      refine g_seq ?_
      refine g_region ?_
      refine g_pure (p_move rfl) rfl ?_
      refine g_pure (p_eqnil (by rfl) rfl rfl) rfl ?_
      refine g_pure (p_assign rfl) rfl ?_
      refine g_nil ?_
      refine g_qt ?_
      refine g_iff rfl ?_
      refine g_seq ?_
      refine g_region ?_
      refine g_pure (p_load (by rfl) rfl (by first | (apply Has.own; (repeat' (first | exact Take.here | apply Take.there)); done) | exact Has.ro (by assumption)) (by first | rfl | assumption)) rfl ?_
      refine g_pure (p_lss rfl rfl) rfl ?_
      refine g_pure (p_move rfl) rfl ?_
      refine g_splitd rfl rfl (fun g1 => ?_) (fun g1 => ?_)
      · refine g_no rfl rfl rfl rfl ?_
        refine g_no rfl rfl rfl rfl ?_
        first | refine g_pure (p_pickt rfl rfl) rfl ?_ | refine g_pure (p_pickf rfl rfl) rfl ?_
        refine g_pure (p_assign rfl) rfl ?_
        refine g_nil ?_
        refine g_qt ?_
        refine g_ift rfl ?_
        refine g_seq ?_
        refine g_region ?_
        refine g_pure (p_assign rfl) rfl ?_
        refine g_pure (p_assign rfl) rfl ?_
        refine g_nil ?_
        refine g_qt ?_
        refine g_ret ?_
        refine g_qb_ret ?_
        refine g_qt_ret ?_
        refine g_ownnil (e := 27) (size := 1) ?_
        exact g_post (Ho := [Gr p S]) (rs := [.tmp 6, .tmp 7]) rfl (.tmp rfl (.tmp rfl .nil)) (.inl ⟨by unfold applyE; rw [if_pos (.inl g1)]; decide, by unfold applyE; rw [if_pos (.inl g1)]; rfl, rfl⟩) (by repeat' (first | exact Cover.nil | exact Take.here | apply Cover.cons | apply Take.there))
      · refine g_yes rfl rfl ?_
        refine g_pure (p_load (by rfl) rfl (by first | (apply Has.own; (repeat' (first | exact Take.here | apply Take.there)); done) | exact Has.ro (by assumption)) (by first | rfl | assumption)) rfl ?_
        refine g_yes rfl rfl ?_
        refine g_pure (p_gtr rfl rfl) rfl ?_
        first | refine g_pure (p_pickt rfl rfl) rfl ?_ | refine g_pure (p_pickf rfl rfl) rfl ?_
        refine g_pure (p_assign rfl) rfl ?_
        refine g_nil ?_
        refine g_qt ?_
        refine g_ifd rfl (fun g2 => ?_) (fun g2 => ?_)
        · refine g_seq ?_
          refine g_region ?_
          refine g_pure (p_assign rfl) rfl ?_
          refine g_pure (p_assign rfl) rfl ?_
          refine g_nil ?_
          refine g_qt ?_
          refine g_ret ?_
          refine g_qb_ret ?_
          refine g_qt_ret ?_
          exact g_post (Ho := [Gr p S]) (rs := [.tmp 6, .tmp 7]) rfl (.tmp rfl (.tmp rfl .nil)) (.inl ⟨by unfold applyE; rw [if_pos (.inr g2)]; decide, by unfold applyE; rw [if_pos (.inr g2)]; rfl, rfl⟩) (by repeat' (first | exact Cover.nil | exact Take.here | apply Cover.cons | apply Take.there))
        · have hE : applyE op lss = if lss.length ≠ 1 then 9 else if wOk op lss then 0 else 16 := by unfold applyE; rw [if_neg (by omega), show (if op = 1 ∨ op = 2 then (1 : Nat) else 2) = 1 from if_pos (.inr z2)]
          refine g_seq ?_
          refine g_region ?_
          refine g_pure (p_load (by rfl) rfl (by first | (apply Has.own; (repeat' (first | exact Take.here | apply Take.there)); done) | exact Has.ro (by assumption)) (by first | rfl | assumption)) rfl ?_
          refine g_pure (p_len (by rfl) rfl) rfl ?_
          refine g_pure (p_move rfl) rfl ?_
          refine g_pure (p_neq rfl rfl) rfl ?_
          refine g_pure (p_assign rfl) rfl ?_
          refine g_nil ?_
          refine g_qt ?_
          refine g_ifnd rfl (fun g3 => ?_) (fun g3 => ?_)
          · refine g_seq ?_
            refine g_region ?_
            refine g_pure (p_assign rfl) rfl ?_
            refine g_pure (p_assign rfl) rfl ?_
            refine g_nil ?_
            refine g_qt ?_
            refine g_ret ?_
            refine g_qb_ret ?_
            refine g_qt_ret ?_
            rw [if_pos (by omega)] at hE
            exact g_post (Ho := [Gr p S]) (rs := [.tmp 6, .tmp 7]) rfl (.tmp rfl (.tmp rfl .nil)) (.inl ⟨by rw [hE]; decide, by rw [hE]; rfl, rfl⟩) (by repeat' (first | exact Cover.nil | exact Take.here | apply Cover.cons | apply Take.there))
          · have hlen : lss.length = 1 := by omega
            rw [if_neg (by omega)] at hE
            refine g_skip ?_
            refine g_qb ?_
            refine g_qt ?_
            refine g_seq ?_
            refine g_seq ?_
            refine g_region ?_
            refine g_pure (p_load (by rfl) rfl (by first | (apply Has.own; (repeat' (first | exact Take.here | apply Take.there)); done) | exact Has.ro (by assumption)) (by first | rfl | assumption)) rfl ?_
            refine g_pure (p_load (by rfl) rfl (by first | (apply Has.own; (repeat' (first | exact Take.here | apply Take.there)); done) | exact Has.ro (by assumption)) (by first | rfl | assumption)) rfl ?_
            refine g_call (Hin := []) (Hr := ?hr8) (R := ?rr8) rfl rfl rfl ?hin8 ?hc8 ?hk8
            case hin8 => repeat' (first | exact Cover.nil | exact Take.here | apply Cover.cons | apply Take.there)
            case hc8 => intro ρ' hρ hR; exact widths_ok op (by omega) (hr.mono hρ) (by omega) h3
            rintro _ _ ⟨rfl, rfl⟩
            refine g_pure (p_assign rfl) rfl ?_
            refine g_nil ?_
            refine g_qt ?_
            refine g_seq ?_
            refine g_region ?_
            refine g_pure (p_move rfl) rfl ?_
            refine g_pure (p_neq rfl rfl) rfl ?_
            refine g_nil ?_
            refine g_qt ?_
            cases hwo : wOk op lss with
            | false =>
              rw [hwo] at hE
              refine g_ift rfl ?_
              refine g_seq ?_
              refine g_region ?_
              refine g_pure (p_move rfl) rfl ?_
              refine g_pure (p_assign rfl) rfl ?_
              refine g_pure (p_assign rfl) rfl ?_
              refine g_nil ?_
              refine g_qt ?_
              refine g_ret ?_
              refine g_qt_ret ?_
              exact g_post (Ho := [Gr p S]) (rs := [.tmp 6, .tmp 7]) rfl (.tmp rfl (.tmp rfl .nil)) (.inl ⟨by rw [hE]; decide, by rw [hE]; rfl, rfl⟩) (by repeat' (first | exact Cover.nil | exact Take.here | apply Cover.cons | apply Take.there))
            | true =>
              rw [hwo] at hE
              refine g_iff rfl ?_
              refine g_skip ?_
              refine g_qt ?_
              refine g_seq ?_
              refine g_seq ?_
              refine g_region ?_
              refine g_pure (p_move rfl) rfl ?_
              refine g_pure (p_load (by rfl) rfl (by first | (apply Has.own; (repeat' (first | exact Take.here | apply Take.there)); done) | exact Has.ro (by assumption)) (by first | rfl | assumption)) rfl ?_
              have hall : lss.flatten.all (hasB S) = true := List.all_eq_true.2 fun l hl => hasB_iff.2 (hb l hl)
              have hi64 : ∀ l ∈ lss.flatten, I64 l := fun l hl => by have := hw.lim; have := (hb l hl).1; have := (hb l hl).2; unfold I64; omega
              have hfl : lss.flatten.length ≤ 1000000000000 := flat_bound lss (by omega) h3'
              refine g_call (Hin := []) (Hr := ?hr9) (R := ?rr9) rfl rfl rfl ?hin9 ?hc9 ?hk9
              case hin9 => repeat' (first | exact Cover.nil | exact Take.here | apply Cover.cons | apply Take.there)
              case hc9 => intro ρ' hρ hR; exact concat_ok (hr.mono hρ) hfl (by omega)
              rintro _ _ ⟨ka, kc, rfl, rfl⟩
              refine g_call (Hin := []) (Hr := ?hr10) (R := ?rr10) rfl rfl rfl ?hin10 ?hc10 ?hk10
              case hin10 => repeat' (first | exact Cover.nil | exact Take.here | apply Cover.cons | apply Take.there)
              case hc10 => intro ρ' hρ hR; exact (by have := belong_ok (ρ := ρ') (p := p) (S := S) (RSl.of_own (Take.ro (A := OwnSl 27 1 ka lss.flatten.length kc (lss.flatten.map encI)) (by repeat' (first | exact Take.here | apply Take.there)) hR)) (cl := kc) (by omega) hi64 (Take.ro (A := Gr p S) (by repeat' (first | exact Take.here | apply Take.there)) hR); rwa [hall] at this)
              rintro _ _ ⟨rfl, rfl⟩
              refine g_pure (p_not rfl) rfl ?_
              refine g_nil ?_
              refine g_qt ?_
              refine g_iff rfl ?_
              refine g_skip ?_
              refine g_qt ?_
              refine g_seq ?_
              refine g_region ?_
              refine g_pure (p_move rfl) rfl ?_
              refine g_pure (p_move rfl) rfl ?_
              refine g_pure (p_load (by rfl) rfl (by first | (apply Has.own; (repeat' (first | exact Take.here | apply Take.there)); done) | exact Has.ro (by assumption)) (by first | rfl | assumption)) rfl ?_
              refine g_call (Hin := []) (Hr := ?hr11) (R := ?rr11) rfl rfl rfl ?hin11 ?hc11 ?hk11
              case hin11 => repeat' (first | exact Cover.nil | exact Take.here | apply Cover.cons | apply Take.there)
              case hc11 => intro ρ' hρ hR; exact room_ok op hl (Take.ro (A := Gr p S) (by repeat' (first | exact Take.here | apply Take.there)) hR)
              rintro _ _ ⟨rfl, rfl⟩
              refine g_pure (p_makeFunc rfl rfl) rfl ?_
              have ho : OpOk op lss[0].length := ⟨by omega, wOk_head hwo (by omega)⟩
              refine g_call (Hin := [Gr p S]) (Hr := ?hr12) (R := ?rr12) rfl rfl rfl ?hin12 ?hc12 ?hk12
              case hin12 => repeat' (first | exact Cover.nil | exact Take.here | apply Cover.cons | apply Take.there)
              case hc12 => intro ρ' hρ hR; exact apply2_ok p hw (by omega) ho h9 (hr.mono hρ) hwo hb hl (Take.ro (A := Blk b4 (.cells [.int .i64 op].toArray 3 (0, 0))) (by repeat' (first | exact Take.here | apply Take.there)) hR).blk (Take.ro (A := Blk b5 (.cells [.slice al lss.length cl].toArray 60 (0, 0))) (by repeat' (first | exact Take.here | apply Take.there)) hR).blk
              rintro _ _ ⟨a2, c2, out, T, rfl, rfl, u, d⟩
              refine g_pure (p_extract rfl rfl) rfl ?_
              refine g_pure (p_extract rfl rfl) rfl ?_
              refine g_pure (p_assign rfl) rfl ?_
              refine g_pure (p_assign rfl) rfl ?_
              refine g_nil ?_
              refine g_qt ?_
              refine g_ret ?_
              exact g_post (Ho := [OwnSl 27 1 a2 out.length c2 (out.map encI), Gr p T]) (rs := [.tmp 6, .tmp 7]) rfl (.tmp rfl (.tmp rfl .nil)) (.inr ⟨hE, a2, c2, out, T, rfl, rfl, u, d⟩) (by repeat' (first | exact Cover.nil | exact Take.here | apply Cover.cons | apply Take.there))
    · refine g_skip ?_
      refine g_qt ?_
      refine g_seq ?_
      refine g_block ?_
      refine g_seq ?_
      refine g_region ?_
      refine g_pure (p_move rfl) rfl ?_
      refine g_pure (p_eqnil (by rfl) rfl rfl) rfl ?_
      refine g_pure (p_assign rfl) rfl ?_
      refine g_nil ?_
      refine g_qt ?_
      refine g_iff rfl ?_
      refine g_seq ?_
      refine g_region ?_
      refine g_pure (p_load (by rfl) rfl (by first | (apply Has.own; (repeat' (first | exact Take.here | apply Take.there)); done) | exact Has.ro (by assumption)) (by first | rfl | assumption)) rfl ?_
      refine g_pure (p_lss rfl rfl) rfl ?_
      refine g_pure (p_move rfl) rfl ?_
      refine g_splitd rfl rfl (fun g1 => ?_) (fun g1 => ?_)
      · refine g_no rfl rfl rfl rfl ?_
        refine g_no rfl rfl rfl rfl ?_
        first | refine g_pure (p_pickt rfl rfl) rfl ?_ | refine g_pure (p_pickf rfl rfl) rfl ?_
        refine g_pure (p_assign rfl) rfl ?_
        refine g_nil ?_
        refine g_qt ?_
        refine g_ift rfl ?_
        refine g_seq ?_
        refine g_region ?_
        refine g_pure (p_assign rfl) rfl ?_
        refine g_pure (p_assign rfl) rfl ?_
        refine g_nil ?_
        refine g_qt ?_
        refine g_ret ?_
        refine g_qb_ret ?_
        refine g_qt_ret ?_
        refine g_ownnil (e := 27) (size := 1) ?_
        exact g_post (Ho := [Gr p S]) (rs := [.tmp 6, .tmp 7]) rfl (.tmp rfl (.tmp rfl .nil)) (.inl ⟨by unfold applyE; rw [if_pos (.inl g1)]; decide, by unfold applyE; rw [if_pos (.inl g1)]; rfl, rfl⟩) (by repeat' (first | exact Cover.nil | exact Take.here | apply Cover.cons | apply Take.there))
      · refine g_yes rfl rfl ?_
        refine g_pure (p_load (by rfl) rfl (by first | (apply Has.own; (repeat' (first | exact Take.here | apply Take.there)); done) | exact Has.ro (by assumption)) (by first | rfl | assumption)) rfl ?_
        refine g_yes rfl rfl ?_
        refine g_pure (p_gtr rfl rfl) rfl ?_
        first | refine g_pure (p_pickt rfl rfl) rfl ?_ | refine g_pure (p_pickf rfl rfl) rfl ?_
        refine g_pure (p_assign rfl) rfl ?_
        refine g_nil ?_
        refine g_qt ?_
        refine g_ifd rfl (fun g2 => ?_) (fun g2 => ?_)
        · refine g_seq ?_
          refine g_region ?_
          refine g_pure (p_assign rfl) rfl ?_
          refine g_pure (p_assign rfl) rfl ?_
          refine g_nil ?_
          refine g_qt ?_
          refine g_ret ?_
          refine g_qb_ret ?_
          refine g_qt_ret ?_
          exact g_post (Ho := [Gr p S]) (rs := [.tmp 6, .tmp 7]) rfl (.tmp rfl (.tmp rfl .nil)) (.inl ⟨by unfold applyE; rw [if_pos (.inr g2)]; decide, by unfold applyE; rw [if_pos (.inr g2)]; rfl, rfl⟩) (by repeat' (first | exact Cover.nil | exact Take.here | apply Cover.cons | apply Take.there))
        · have hE : applyE op lss = if lss.length ≠ 2 then 9 else if wOk op lss then 0 else 16 := by unfold applyE; rw [if_neg (by omega), show (if op = 1 ∨ op = 2 then (1 : Nat) else 2) = 2 from if_neg (by omega)]
          refine g_seq ?_
          refine g_region ?_
          refine g_pure (p_load (by rfl) rfl (by first | (apply Has.own; (repeat' (first | exact Take.here | apply Take.there)); done) | exact Has.ro (by assumption)) (by first | rfl | assumption)) rfl ?_
          refine g_pure (p_len (by rfl) rfl) rfl ?_
          refine g_pure (p_move rfl) rfl ?_
          refine g_pure (p_neq rfl rfl) rfl ?_
          refine g_pure (p_assign rfl) rfl ?_
          refine g_nil ?_
          refine g_qt ?_
          refine g_ifnd rfl (fun g3 => ?_) (fun g3 => ?_)
          · refine g_seq ?_
            refine g_region ?_
            refine g_pure (p_assign rfl) rfl ?_
            refine g_pure (p_assign rfl) rfl ?_
            refine g_nil ?_
            refine g_qt ?_
            refine g_ret ?_
            refine g_qb_ret ?_
            refine g_qt_ret ?_
            rw [if_pos (by omega)] at hE
            exact g_post (Ho := [Gr p S]) (rs := [.tmp 6, .tmp 7]) rfl (.tmp rfl (.tmp rfl .nil)) (.inl ⟨by rw [hE]; decide, by rw [hE]; rfl, rfl⟩) (by repeat' (first | exact Cover.nil | exact Take.here | apply Cover.cons | apply Take.there))
          · have hlen : lss.length = 2 := by omega
            rw [if_neg (by omega)] at hE
            refine g_skip ?_
            refine g_qb ?_
            refine g_qt ?_
            refine g_seq ?_
            refine g_seq ?_
            refine g_region ?_
            refine g_pure (p_load (by rfl) rfl (by first | (apply Has.own; (repeat' (first | exact Take.here | apply Take.there)); done) | exact Has.ro (by assumption)) (by first | rfl | assumption)) rfl ?_
            refine g_pure (p_load (by rfl) rfl (by first | (apply Has.own; (repeat' (first | exact Take.here | apply Take.there)); done) | exact Has.ro (by assumption)) (by first | rfl | assumption)) rfl ?_
            refine g_call (Hin := []) (Hr := ?hr13) (R := ?rr13) rfl rfl rfl ?hin13 ?hc13 ?hk13
            case hin13 => repeat' (first | exact Cover.nil | exact Take.here | apply Cover.cons | apply Take.there)
            case hc13 => intro ρ' hρ hR; exact widths_ok op (by omega) (hr.mono hρ) (by omega) h3
            rintro _ _ ⟨rfl, rfl⟩
            refine g_pure (p_assign rfl) rfl ?_
            refine g_nil ?_
            refine g_qt ?_
            refine g_seq ?_
            refine g_region ?_
            refine g_pure (p_move rfl) rfl ?_
            refine g_pure (p_neq rfl rfl) rfl ?_
            refine g_nil ?_
            refine g_qt ?_
            cases hwo : wOk op lss with
            | false =>
              rw [hwo] at hE
              refine g_ift rfl ?_
              refine g_seq ?_
              refine g_region ?_
              refine g_pure (p_move rfl) rfl ?_
              refine g_pure (p_assign rfl) rfl ?_
              refine g_pure (p_assign rfl) rfl ?_
              refine g_nil ?_
              refine g_qt ?_
              refine g_ret ?_
              refine g_qt_ret ?_
              exact g_post (Ho := [Gr p S]) (rs := [.tmp 6, .tmp 7]) rfl (.tmp rfl (.tmp rfl .nil)) (.inl ⟨by rw [hE]; decide, by rw [hE]; rfl, rfl⟩) (by repeat' (first | exact Cover.nil | exact Take.here | apply Cover.cons | apply Take.there))
            | true =>
              rw [hwo] at hE
              refine g_iff rfl ?_
              refine g_skip ?_
              refine g_qt ?_
              refine g_seq ?_
              refine g_seq ?_
              refine g_region ?_
              refine g_pure (p_move rfl) rfl ?_
              refine g_pure (p_load (by rfl) rfl (by first | (apply Has.own; (repeat' (first | exact Take.here | apply Take.there)); done) | exact Has.ro (by assumption)) (by first | rfl | assumption)) rfl ?_
              have hall : lss.flatten.all (hasB S) = true := List.all_eq_true.2 fun l hl => hasB_iff.2 (hb l hl)
              have hi64 : ∀ l ∈ lss.flatten, I64 l := fun l hl => by have := hw.lim; have := (hb l hl).1; have := (hb l hl).2; unfold I64; omega
              have hfl : lss.flatten.length ≤ 1000000000000 := flat_bound lss (by omega) h3'
              refine g_call (Hin := []) (Hr := ?hr14) (R := ?rr14) rfl rfl rfl ?hin14 ?hc14 ?hk14
              case hin14 => repeat' (first | exact Cover.nil | exact Take.here | apply Cover.cons | apply Take.there)
              case hc14 => intro ρ' hρ hR; exact concat_ok (hr.mono hρ) hfl (by omega)
              rintro _ _ ⟨ka, kc, rfl, rfl⟩
              refine g_call (Hin := []) (Hr := ?hr15) (R := ?rr15) rfl rfl rfl ?hin15 ?hc15 ?hk15
              case hin15 => repeat' (first | exact Cover.nil | exact Take.here | apply Cover.cons | apply Take.there)
              case hc15 => intro ρ' hρ hR; exact (by have := belong_ok (ρ := ρ') (p := p) (S := S) (RSl.of_own (Take.ro (A := OwnSl 27 1 ka lss.flatten.length kc (lss.flatten.map encI)) (by repeat' (first | exact Take.here | apply Take.there)) hR)) (cl := kc) (by omega) hi64 (Take.ro (A := Gr p S) (by repeat' (first | exact Take.here | apply Take.there)) hR); rwa [hall] at this)
              rintro _ _ ⟨rfl, rfl⟩
              refine g_pure (p_not rfl) rfl ?_
              refine g_nil ?_
              refine g_qt ?_
              refine g_iff rfl ?_
              refine g_skip ?_
              refine g_qt ?_
              refine g_seq ?_
              refine g_region ?_
              refine g_pure (p_move rfl) rfl ?_
              refine g_pure (p_move rfl) rfl ?_
              refine g_pure (p_load (by rfl) rfl (by first | (apply Has.own; (repeat' (first | exact Take.here | apply Take.there)); done) | exact Has.ro (by assumption)) (by first | rfl | assumption)) rfl ?_
              refine g_call (Hin := []) (Hr := ?hr16) (R := ?rr16) rfl rfl rfl ?hin16 ?hc16 ?hk16
              case hin16 => repeat' (first | exact Cover.nil | exact Take.here | apply Cover.cons | apply Take.there)
              case hc16 => intro ρ' hρ hR; exact room_ok op hl (Take.ro (A := Gr p S) (by repeat' (first | exact Take.here | apply Take.there)) hR)
              rintro _ _ ⟨rfl, rfl⟩
              refine g_pure (p_makeFunc rfl rfl) rfl ?_
              have ho : OpOk op lss[0].length := ⟨by omega, wOk_head hwo (by omega)⟩
              refine g_call (Hin := [Gr p S]) (Hr := ?hr17) (R := ?rr17) rfl rfl rfl ?hin17 ?hc17 ?hk17
              case hin17 => repeat' (first | exact Cover.nil | exact Take.here | apply Cover.cons | apply Take.there)
              case hc17 => intro ρ' hρ hR; exact apply2_ok p hw (by omega) ho h9 (hr.mono hρ) hwo hb hl (Take.ro (A := Blk b4 (.cells [.int .i64 op].toArray 3 (0, 0))) (by repeat' (first | exact Take.here | apply Take.there)) hR).blk (Take.ro (A := Blk b5 (.cells [.slice al lss.length cl].toArray 60 (0, 0))) (by repeat' (first | exact Take.here | apply Take.there)) hR).blk
              rintro _ _ ⟨a2, c2, out, T, rfl, rfl, u, d⟩
              refine g_pure (p_extract rfl rfl) rfl ?_
              refine g_pure (p_extract rfl rfl) rfl ?_
              refine g_pure (p_assign rfl) rfl ?_
              refine g_pure (p_assign rfl) rfl ?_
              refine g_nil ?_
              refine g_qt ?_
              refine g_ret ?_
              exact g_post (Ho := [OwnSl 27 1 a2 out.length c2 (out.map encI), Gr p T]) (rs := [.tmp 6, .tmp 7]) rfl (.tmp rfl (.tmp rfl .nil)) (.inr ⟨hE, a2, c2, out, T, rfl, rfl, u, d⟩) (by repeat' (first | exact Cover.nil | exact Take.here | apply Cover.cons | apply Take.there))
end Go.Proofs.Ytkebblmmgcgjkaa
