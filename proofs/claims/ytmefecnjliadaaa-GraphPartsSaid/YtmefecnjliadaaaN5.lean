/- Chapter 4: reading edges; whether a graph is valid. Conditions: none. -/
import Derived.Test.YtmefecnjliadaaaN4
import Derived.Test.YtmefecnjliadaaaNa
namespace Go.Z.Gr
set_option maxRecDepth 8000
set_option linter.unusedVariables false
set_option linter.unusedSimpArgs false
set_option linter.unusedSectionVars false
open Go Go.Z
def flatE (E : Ed) : List Value := E.flatMap fun e => [encI e.1, encI e.2]
theorem flatE_len (E : Ed) : (flatE E).length = E.length * 2 := by
  unfold flatE
  induction E with
  | nil => rfl
  | cons e E ih => rw [List.flatMap_cons, List.length_append, ih]; simp; omega
theorem flatE_at : ∀ (E : Ed) (k : Nat) (hk : k < E.length), (flatE E)[k * 2]? = some (encI E[k].1) ∧ (flatE E)[k * 2 + 1]? = some (encI E[k].2)
  | e :: E, 0, _ => ⟨rfl, rfl⟩
  | e :: E, k + 1, hk => by
    have h := flatE_at E k (by simpa using hk)
    have e1 : flatE (e :: E) = encI e.1 :: encI e.2 :: flatE E := rfl
    rw [e1, show (k + 1) * 2 = k * 2 + 1 + 1 by omega, show k * 2 + 1 + 1 + 1 = (k * 2 + 1) + 1 + 1 by omega]
    simpa using h
theorem flatE_append (E F : Ed) : flatE (E ++ F) = flatE E ++ flatE F := List.flatMap_append
/-- edges that nobody writes -/
def EdR (ρ : Nat → Obj → Prop) (a : Option Addr) (E : Ed) : Prop := RSl ρ 2 a E.length (flatE E)
theorem EdR.mono {ρ ρ' : Nat → Obj → Prop} {a : Option Addr} {E : Ed} (h : EdR ρ a E) (s : ∀ b o, ρ b o → ρ' b o) : EdR ρ' a E := RSl.mono h s
theorem EdR.at {ρ : Nat → Obj → Prop} {a : Option Addr} {E : Ed} (h : EdR ρ a E) (h0 : 0 < E.length) :
    ∃ b off cs T fz, a = some ⟨b, off, none⟩ ∧ ρ b (.cells (cs : List Value).toArray T fz) ∧ ∀ k (hk : k < E.length), sub cs (off + (k : Int).toNat * 2) 2 = some [.int .i64 E[k].1, .int .i64 E[k].2] ∧ cs[off + (k : Int).toNat * 2]? = some (.int .i64 E[k].1) ∧ cs[off + (k : Int).toNat * 2 + 1]? = some (.int .i64 E[k].2) := by
  obtain ⟨hl, b, off, cs, T, fz, h3⟩ := h
  obtain ⟨r1, r2, r3⟩ := h3 h0
  refine ⟨b, off, cs, T, fz, r1, r2, fun k hk => ?_⟩
  obtain ⟨e1, e2⟩ := flatE_at E k hk
  have g1 := r3 _ _ e1
  have g2 := r3 _ _ e2
  rw [Int.toNat_natCast]
  refine ⟨?_, g1, by rw [← Nat.add_assoc] at g2; exact g2⟩
  rw [sub_of r3 (by decide) (by rw [flatE_len]; omega)]
  congr 1
  refine List.ext_getElem? fun j => ?_
  rw [List.getElem?_take, List.getElem?_drop]
  match j with
  | 0 => have e1' : (flatE E)[k * 2]? = some (.int .i64 E[k].1) := e1; simpa using e1'
  | 1 => have e2' : (flatE E)[k * 2 + 1]? = some (.int .i64 E[k].2) := e2; simpa using e2'
  | j + 2 => simp; omega
def inV (n v : Int) : Bool := decide (0 ≤ v ∧ v < n)
def validP (n : Int) (E : Ed) (ms : List Int) : Bool := decide (0 ≤ n ∧ n ≤ 4096) && (E.all fun e => inV n e.1 && inV n e.2) && ms.all (inV n)
theorem all_take1 {α : Type} (f : α → Bool) {l : List α} {k : Nat} (hk : k < l.length) : (l.take (k + 1)).all f = ((l.take k).all f && f l[k]) := by
  rw [List.take_add_one, List.getElem?_eq_getElem hk, List.all_append]; simp
theorem mapI (c : List Int) {k : Nat} (hk : k < c.length) : (c.map encI)[k]? = some (encI c[k]) := by simp [List.getElem?_eq_getElem hk]
theorem take_all {α : Type} {p : α → Prop} {l : List α} {k : Nat} (hk : k < l.length) (h : ∀ x ∈ l.take k, p x) (h2 : p l[k]) : ∀ x ∈ l.take (k + 1), p x := by
  intro x hx
  rw [List.take_add_one, List.getElem?_eq_getElem hk, List.mem_append] at hx
  rcases hx with hx | hx
  · exact h x hx
  · simp at hx; subst hx; exact h2
end Go.Z.Gr
namespace Go.Proofs.Ytmefecnjliadaaa
set_option maxRecDepth 8000
set_option linter.unusedVariables false
set_option linter.unusedSimpArgs false
set_option linter.unusedSectionVars false
open Go Go.Z Go.Z.Gr

theorem idxI_ok {ρ : Nat → Obj → Prop} (al : Option Addr) (cl : Nat) (ls : List Int) (hl : RSl ρ 1 al ls.length (ls.map encI)) (hlen : ls.length ≤ 9223372036854775807) (f : Nat) (cap : Array Value) (pred : Int → Bool) (hF : ∀ l ∈ ls, ∀ ρ', (∀ b o, ρ b o → ρ' b o) → Con Try.prog ρ' f (#[.int .i64 l] ++ cap) [] (fun v H => v = .bool (pred l) ∧ H = [])) :
    Con Try.prog ρ 44 #[.slice al ls.length cl, .func (.func f) #[] cap] [] (fun v H => v = .int .i64 (match ls.findIdx? pred with | some i => (i : Int) | none => -1) ∧ H = []) := by
  obtain ⟨_, b, off, cs, T, fz, hr⟩ := hl
  refine con_intro Try.func44 Try.call44 rfl Try.ntmps44 rfl (L := [(0, _), (1, _)]) rfl fun w hh => ?_
  refine g_seq ?_
  refine g_region ?_
  refine g_pure (p_assign rfl) rfl ?_
  refine g_nil ?_
  refine g_qt ?_
  refine g_seq ?_
  refine g_seq ?_
  refine g_region ?_
  refine g_pure (p_move rfl) rfl ?_
  refine g_pure (p_len (by rfl) rfl) rfl ?_
  refine g_pure (p_move rfl) rfl ?_
  refine g_nil ?_
  refine g_qt ?_
  refine g_block ?_
  refine g_loop (fun k : Nat => [(0, .slice al ls.length cl), (1, .func (.func f) #[] cap), (7, .int .i64 ls.length), (8, .int .i64 k)]) (fun _ => []) (fun k => k ≤ ls.length ∧ ∀ l ∈ ls.take k, pred l = false) (fun k => ls.length - k) 0 ⟨Nat.zero_le _, by simp⟩ (by (repeat (first | exact trivial | refine ⟨by rfl, ?_⟩)); done) .nil fun k ⟨hk, hno⟩ => ?_
  refine g_seq ?_
  refine g_region ?_
  refine g_pure (p_lss rfl rfl) rfl ?_
  refine g_nil ?_
  refine g_qt ?_
  refine g_seq ?_
  refine g_ifd rfl (fun h1 => ?_) (fun h1 => ?_)
  · have hk' : k < ls.length := by omega
    have hx : (ls.map encI)[k]? = some (.int .i64 ls[k]) := mapI _ hk'
    refine g_skip ?_
    refine g_qt ?_
    refine g_seq ?_
    refine g_block ?_
    refine g_seq ?_
    refine g_region ?_
    refine g_pure (p_move rfl) rfl ?_
    refine g_pure (p_assign rfl) rfl ?_
    refine g_nil ?_
    refine g_qt ?_
    refine g_seq ?_
    refine g_region ?_
    refine g_pure (p_move rfl) rfl ?_
    refine g_pure (p_move rfl) rfl ?_
    refine g_pure (p_move rfl) rfl ?_
    refine g_pure (p_indexAddr rfl rfl (by omega) (fun _ => (hr (by omega)).1)) rfl ?_
    refine g_pure (p_load (v := .int .i64 ls[k]) (by rfl) rfl (Has.ro (hr (by omega)).2.1) (by simpa using (hr (by omega)).2.2 k _ hx)) rfl ?_
    refine g_call (Hin := []) (Hr := ?hr1) (R := ?rr1) rfl rfl rfl ?hin1 ?hc1 ?hk1
    case hin1 => repeat' (first | exact Cover.nil | exact Take.here | apply Cover.cons | apply Take.there)
    case hc1 => intro ρ' hρ hR; exact hF _ (List.getElem_mem hk') ρ' hρ
    rintro _ _ ⟨rfl, rfl⟩
    refine g_nil ?_
    refine g_qt ?_
    refine g_if rfl (fun h2 => ?_) (fun h2 => ?_)
    · refine g_seq ?_
      refine g_region ?_
      refine g_pure (p_move rfl) rfl ?_
      refine g_pure (p_assign rfl) rfl ?_
      refine g_nil ?_
      refine g_qt ?_
      refine g_ret ?_
      refine g_qb_ret ?_
      refine g_qt_ret ?_
      refine g_qn_ret ?_
      refine g_qb_ret ?_
      refine g_qt_ret ?_
      refine g_post (rs := [.tmp 4]) rfl (.tmp rfl .nil) ⟨?_, rfl⟩ .nil
      have e : ls.findIdx? pred = some k := by
        rw [List.findIdx?_eq_some_iff_getElem]
        refine ⟨hk', h2, fun j hj => ?_⟩
        have := hno ls[j] (by rw [List.mem_take_iff_getElem]; exact ⟨j, by omega, rfl⟩)
        simp [this]
      rw [e]; rfl
    · refine g_skip ?_
      refine g_qb ?_
      refine g_qt ?_
      refine g_region ?_
      first | refine g_pure (p_addi rfl rfl (by omega)) rfl ?_ | refine g_pure (p_add rfl rfl) rfl ?_
      refine g_pure (p_move rfl) rfl ?_
      refine g_nil ?_
      refine g_qn ?_
      exact g_next (k + 1) (by (repeat (first | exact trivial | refine ⟨by rfl, ?_⟩)); done) .nil ⟨by omega, take_all hk' hno h2⟩ (by omega)
  · refine g_exit ?_
    refine g_qt_exit ?_
    refine g_qn_exit ?_
    refine g_qb_exit ?_
    refine g_qt ?_
    refine g_seq ?_
    refine g_region ?_
    refine g_pure (p_assign rfl) rfl ?_
    refine g_nil ?_
    refine g_qt ?_
    refine g_ret ?_
    refine g_post (rs := [.tmp 4]) rfl (.tmp rfl .nil) ⟨?_, rfl⟩ .nil
    have e : ls.findIdx? pred = none := by
      rw [List.findIdx?_eq_none_iff]
      intro l hl
      exact hno l (by rw [List.take_of_length_le (by omega)]; exact hl)
    rw [e]; rfl
theorem any_of_idx {α : Type} {ls : List α} {pred : α → Bool} : decide (0 ≤ (match ls.findIdx? pred with | some i => (i : Int) | none => -1)) = ls.any pred := by
  cases h : ls.findIdx? pred with
  | none =>
    rw [List.findIdx?_eq_none_iff] at h
    have : ls.any pred = false := by rw [List.any_eq_false]; intro x hx; simp [h x hx]
    rw [this]; rfl
  | some i =>
    rw [List.findIdx?_eq_some_iff_getElem] at h
    obtain ⟨h1, h2, _⟩ := h
    have : ls.any pred = true := List.any_eq_true.2 ⟨_, List.getElem_mem h1, h2⟩
    rw [this]; simp
theorem anyI_ok {ρ : Nat → Obj → Prop} (al : Option Addr) (cl : Nat) (ls : List Int) (hl : RSl ρ 1 al ls.length (ls.map encI)) (hlen : ls.length ≤ 9223372036854775807) (f : Nat) (cap : Array Value) (pred : Int → Bool) (hF : ∀ l ∈ ls, ∀ ρ', (∀ b o, ρ b o → ρ' b o) → Con Try.prog ρ' f (#[.int .i64 l] ++ cap) [] (fun v H => v = .bool (pred l) ∧ H = [])) :
    Con Try.prog ρ 37 #[.slice al ls.length cl, .func (.func f) #[] cap] [] (fun v H => v = .bool (ls.any pred) ∧ H = []) := by
  refine con_intro Try.func37 Try.call37 rfl Try.ntmps37 rfl (L := [(0, _), (1, _)]) rfl fun w hh => ?_
  refine g_seq ?_
  refine g_region ?_
  refine g_pure (p_assign rfl) rfl ?_
  refine g_nil ?_
  refine g_qt ?_
  refine g_seq ?_
  refine g_region ?_
  refine g_pure (p_move rfl) rfl ?_
  refine g_pure (p_move rfl) rfl ?_
  refine g_call (Hin := []) (Hr := ?hr2) (R := ?rr2) rfl rfl rfl ?hin2 ?hc2 ?hk2
  case hin2 => repeat' (first | exact Cover.nil | exact Take.here | apply Cover.cons | apply Take.there)
  case hc2 => intro ρ' hρ hR; exact idxI_ok al cl ls (hl.mono hρ) hlen f cap pred (fun l h1 ρ2 h2 => hF l h1 ρ2 (fun b o h3 => h2 b o (hρ b o h3)))
  rintro _ _ ⟨rfl, rfl⟩
  refine g_pure (p_geq rfl rfl) rfl ?_
  refine g_pure (p_assign rfl) rfl ?_
  refine g_nil ?_
  refine g_qt ?_
  refine g_ret ?_
  exact g_post (rs := [.tmp 4]) rfl (.tmp rfl .nil) ⟨by rw [← any_of_idx]; rfl, rfl⟩ .nil

theorem valid1_ok {ρ : Nat → Obj → Prop} {b3 : Nat} (n v : Int) (hb : ρ b3 (.cells [.int .i64 n].toArray 3 (0, 0))) :
    Con Try.prog ρ 36 #[.int .i64 v, .pointer (some ⟨b3, 0, none⟩)] [] (fun r H => r = .bool (inV n v) ∧ H = []) := by
  refine con_intro Try.func36 Try.call36 rfl Try.ntmps36 rfl (L := [(0, _), (1, _)]) rfl fun w hh => ?_
  refine g_seq ?_
  refine g_region ?_
  refine g_pure (p_assign rfl) rfl ?_
  refine g_nil ?_
  refine g_qt ?_
  refine g_seq ?_
  refine g_region ?_
  refine g_pure (p_move rfl) rfl ?_
  refine g_pure (p_geq rfl rfl) rfl ?_
  refine g_pure (p_move rfl) rfl ?_
  refine g_splitd rfl rfl (fun h1 => ?_) (fun h1 => ?_)
  · refine g_yes rfl rfl ?_
    refine g_pure (p_move rfl) rfl ?_
    refine g_yes rfl rfl ?_
    refine g_pure (p_load (by rfl) rfl (by first | (apply Has.own; (repeat' (first | exact Take.here | apply Take.there)); done) | exact Has.ro (by assumption)) (by first | rfl | assumption)) rfl ?_
    refine g_yes rfl rfl ?_
    refine g_pure (p_lss rfl rfl) rfl ?_
    first | refine g_pure (p_pickt rfl rfl) rfl ?_ | refine g_pure (p_pickf rfl rfl) rfl ?_
    refine g_pure (p_assign rfl) rfl ?_
    refine g_nil ?_
    refine g_qt ?_
    refine g_ret ?_
    first | exact g_post (rs := [.tmp 3]) rfl (.tmp rfl .nil) ⟨show Value.bool false = _ by (unfold inV; rw [decide_eq_false (by omega)]; done), rfl⟩ .nil | exact g_post (rs := [.tmp 3]) rfl (.tmp rfl .nil) ⟨show Value.bool (decide (v < n)) = _ by (unfold inV; congr 1; exact decide_eq_decide.2 (by omega)), rfl⟩ .nil
  · refine g_no rfl rfl rfl rfl ?_
    refine g_no rfl rfl rfl rfl ?_
    refine g_no rfl rfl rfl rfl ?_
    first | refine g_pure (p_pickt rfl rfl) rfl ?_ | refine g_pure (p_pickf rfl rfl) rfl ?_
    refine g_pure (p_assign rfl) rfl ?_
    refine g_nil ?_
    refine g_qt ?_
    refine g_ret ?_
    first | exact g_post (rs := [.tmp 3]) rfl (.tmp rfl .nil) ⟨show Value.bool false = _ by (unfold inV; rw [decide_eq_false (by omega)]; done), rfl⟩ .nil | exact g_post (rs := [.tmp 3]) rfl (.tmp rfl .nil) ⟨show Value.bool (decide (v < n)) = _ by (unfold inV; congr 1; exact decide_eq_decide.2 (by omega)), rfl⟩ .nil
theorem valid2_ok {ρ : Nat → Obj → Prop} {b3 b7 : Nat} {T : TypeId} (n v : Int) (hb : ρ b3 (.cells [.int .i64 n].toArray 3 (0, 0))) (h7 : ρ b7 (.cells [.func (.func 36) #[] #[.pointer (some ⟨b3, 0, none⟩)]].toArray T (0, 0))) :
    Con Try.prog ρ 38 #[.int .i64 v, .pointer (some ⟨b7, 0, none⟩)] [] (fun r H => r = .bool (!inV n v) ∧ H = []) := by
  refine con_intro Try.func38 Try.call38 rfl Try.ntmps38 rfl (L := [(0, _), (1, _)]) rfl fun w hh => ?_
  refine g_seq ?_
  refine g_region ?_
  refine g_pure (p_assign rfl) rfl ?_
  refine g_nil ?_
  refine g_qt ?_
  refine g_seq ?_
  refine g_region ?_
  refine g_pure (p_load (by rfl) rfl (by first | (apply Has.own; (repeat' (first | exact Take.here | apply Take.there)); done) | exact Has.ro (by assumption)) (by first | rfl | assumption)) rfl ?_
  refine g_pure (p_move rfl) rfl ?_
  refine g_call (Hin := []) (Hr := ?hr3) (R := ?rr3) rfl rfl rfl ?hin3 ?hc3 ?hk3
  case hin3 => repeat' (first | exact Cover.nil | exact Take.here | apply Cover.cons | apply Take.there)
  case hc3 => intro ρ' hρ hR; exact valid1_ok n v (hρ _ _ hb)
  rintro _ _ ⟨rfl, rfl⟩
  refine g_pure (p_not rfl) rfl ?_
  refine g_pure (p_assign rfl) rfl ?_
  refine g_nil ?_
  refine g_qt ?_
  refine g_ret ?_
  exact g_post (rs := [.tmp 3]) rfl (.tmp rfl .nil) ⟨rfl, rfl⟩ .nil
theorem valid_ok {ρ : Nat → Obj → Prop} (n : Int) (a : Option Addr) (c : Nat) (E : Ed) (hE : EdR ρ a E) (hlE : E.length ≤ 9223372036854775807) (ma : Option Addr) (mc : Nat) (ms : List Int) (hm : RSl ρ 1 ma ms.length (ms.map encI)) (hlm : ms.length ≤ 9223372036854775807) :
    Con Try.prog ρ 23 #[.int .i64 n, .slice a E.length c, .slice ma ms.length mc] [] (fun r H => r = .bool (validP n E ms) ∧ H = []) := by
  refine con_intro Try.func23 Try.call23 rfl Try.ntmps23 rfl (L := [(0, _), (1, _), (2, _)]) rfl fun w hh => ?_
  refine g_seq ?_
  refine g_region ?_
  refine g_eff (e_box rfl (by rfl)) rfl (fun _ _ => ?_)
  rintro ⟨b3, rfl, rfl⟩
  refine g_pure (p_assign rfl) rfl ?_
  refine g_nil ?_
  refine g_qt ?_
  refine g_seq ?_
  refine g_seq ?_
  refine g_region ?_
  refine g_pure (p_load (by rfl) rfl (by first | (apply Has.own; (repeat' (first | exact Take.here | apply Take.there)); done) | exact Has.ro (by assumption)) (by first | rfl | assumption)) rfl ?_
  refine g_pure (p_lss rfl rfl) rfl ?_
  refine g_pure (p_move rfl) rfl ?_
  refine g_splitd rfl rfl (fun h1 => ?_) (fun h1 => ?_)
  · refine g_no rfl rfl rfl rfl ?_
    refine g_no rfl rfl rfl rfl ?_
    first | refine g_pure (p_pickt rfl rfl) rfl ?_ | refine g_pure (p_pickf rfl rfl) rfl ?_
    refine g_nil ?_
    refine g_qt ?_
    refine g_ift rfl ?_
    refine g_seq ?_
    refine g_region ?_
    refine g_pure (p_assign rfl) rfl ?_
    refine g_nil ?_
    refine g_qt ?_
    refine g_ret ?_
    refine g_qt_ret ?_
    exact g_post (rs := [.tmp 6]) rfl (.tmp rfl .nil) ⟨show Value.bool false = _ by (unfold validP; rw [decide_eq_false (by omega)]; rfl), rfl⟩ .nil
  · refine g_yes rfl rfl ?_
    refine g_pure (p_load (by rfl) rfl (by first | (apply Has.own; (repeat' (first | exact Take.here | apply Take.there)); done) | exact Has.ro (by assumption)) (by first | rfl | assumption)) rfl ?_
    refine g_yes rfl rfl ?_
    refine g_pure (p_gtr rfl rfl) rfl ?_
    first | refine g_pure (p_pickt rfl rfl) rfl ?_ | refine g_pure (p_pickf rfl rfl) rfl ?_
    refine g_nil ?_
    refine g_qt ?_
    refine g_ifd rfl (fun h2 => ?_) (fun h2 => ?_)
    · refine g_seq ?_
      refine g_region ?_
      refine g_pure (p_assign rfl) rfl ?_
      refine g_nil ?_
      refine g_qt ?_
      refine g_ret ?_
      refine g_qt_ret ?_
      exact g_post (rs := [.tmp 6]) rfl (.tmp rfl .nil) ⟨show Value.bool false = _ by (unfold validP; rw [decide_eq_false (by omega)]; rfl), rfl⟩ .nil
    · have hnn : decide (0 ≤ n ∧ n ≤ 4096) = true := decide_eq_true (by omega)
      refine g_skip ?_
      refine g_qt ?_
      refine g_seq ?_
      refine g_region ?_
      refine g_pure (p_makeFunc rfl rfl) rfl ?_
      refine g_eff (e_alloc (by rfl)) rfl (fun _ _ => ?_)
      rintro ⟨b7, rfl, rfl⟩
      first | refine g_eff0 (e_storeO rfl rfl (by rfl) (by rfl) (by rfl) (by repeat' (first | exact Take.here | apply Take.there)) (by rfl)) (fun _ _ => ?_) | refine g_eff0 (e_store1 (by rfl) rfl rfl rfl (by repeat' (first | exact Take.here | apply Take.there)) (by first | decide | (simp <;> omega) | omega)) (fun _ _ => ?_)
      rintro rfl
      refine g_nil ?_
      refine g_qt ?_
      refine g_seq ?_
      refine g_seq ?_
      refine g_region ?_
      refine g_pure (p_move rfl) rfl ?_
      refine g_pure (p_len (by rfl) rfl) rfl ?_
      refine g_pure (p_move rfl) rfl ?_
      refine g_nil ?_
      refine g_qt ?_
      refine g_block ?_
      refine g_loop (fun k : Nat => [(2, .slice ma ms.length mc), (7, .pointer (some ⟨b7, 0, none⟩)), (17, .slice a E.length c), (18, .int .i64 E.length), (19, .int .i64 k)])
        (fun _ => [Blk b7 (.cells [.func (.func 36) #[] #[.pointer (some ⟨b3, 0, none⟩)]].toArray 59 (0, 0)), Blk b3 (.cells [.int .i64 n].toArray 3 (0, 0))]) (fun k => k ≤ E.length ∧ (E.take k).all (fun e => inV n e.1 && inV n e.2) = true) (fun k => E.length - k) 0 ⟨Nat.zero_le _, rfl⟩ (by (repeat (first | exact trivial | refine ⟨by rfl, ?_⟩)); done) (by repeat' (first | exact Cover.nil | exact Take.here | apply Cover.cons | apply Take.there)) fun k ⟨hk, hall⟩ => ?_
      refine g_seq ?_
      refine g_region ?_
      refine g_pure (p_lss rfl rfl) rfl ?_
      refine g_nil ?_
      refine g_qt ?_
      refine g_seq ?_
      refine g_ifd rfl (fun q => ?_) (fun q => ?_)
      · have hk' : k < E.length := by omega
        obtain ⟨be, oe, ce, Te, ze, i1, i2, i3⟩ := hE.at (by omega)
        obtain ⟨i4, -, -⟩ := i3 k hk'
        refine g_skip ?_
        refine g_qt ?_
        refine g_seq ?_
        refine g_block ?_
        refine g_seq ?_
        refine g_region ?_
        refine g_pure (p_indexAddr rfl rfl (by omega) (fun _ => i1)) rfl ?_
        refine g_pure (p_loadN (by rfl) rfl (Has.ro i2) i4) rfl ?_
        refine g_eff (e_alloc (by rfl)) rfl (fun _ _ => ?_)
        rintro ⟨b9, rfl, rfl⟩
        first | refine g_eff0 (e_storeO rfl rfl (by rfl) (by rfl) (by rfl) (by repeat' (first | exact Take.here | apply Take.there)) (by rfl)) (fun _ _ => ?_) | refine g_eff0 (e_storeN rfl rfl (by rfl) (by rfl) (by rfl) (by repeat' (first | exact Take.here | apply Take.there)) (by simp)) (fun _ _ => ?_)
        rintro rfl
        refine g_nil ?_
        refine g_qt ?_
        refine g_seq ?_
        refine g_region ?_
        refine g_pure (p_load (by rfl) rfl (by first | (apply Has.own; (repeat' (first | exact Take.here | apply Take.there)); done) | exact Has.ro (by assumption)) (by first | rfl | assumption)) rfl ?_
        refine g_pure (p_fieldAddr rfl) rfl ?_
        refine g_pure (p_load (by rfl) rfl (by first | (apply Has.own; (repeat' (first | exact Take.here | apply Take.there)); done) | exact Has.ro (by assumption)) (by first | rfl | assumption)) rfl ?_
        refine g_call (Hin := []) (Hr := ?hr4) (R := ?rr4) rfl rfl rfl ?hin4 ?hc4 ?hk4
        case hin4 => repeat' (first | exact Cover.nil | exact Take.here | apply Cover.cons | apply Take.there)
        case hc4 => intro ρ' hρ hR; exact valid1_ok n _ (Take.ro (A := Blk b3 _) (by repeat' (first | exact Take.here | apply Take.there)) hR).blk
        rintro _ _ ⟨rfl, rfl⟩
        refine g_pure (p_not rfl) rfl ?_
        refine g_pure (p_move rfl) rfl ?_
        cases hv1 : inV n E[k].1 with
        | false =>
          refine g_no rfl rfl rfl rfl ?_
          refine g_no rfl rfl rfl rfl ?_
          refine g_no rfl rfl rfl rfl ?_
          refine g_no rfl rfl rfl rfl ?_
          refine g_no rfl rfl rfl rfl ?_
          first | refine g_pure (p_pickt rfl rfl) rfl ?_ | refine g_pure (p_pickf rfl rfl) rfl ?_
          refine g_nil ?_
          refine g_qt ?_
          refine g_ift rfl ?_
          refine g_seq ?_
          refine g_region ?_
          refine g_pure (p_assign rfl) rfl ?_
          refine g_nil ?_
          refine g_qt ?_
          refine g_ret ?_
          refine g_qb_ret ?_
          refine g_qt_ret ?_
          refine g_qn_ret ?_
          refine g_qb_ret ?_
          refine g_qt_ret ?_
          refine g_post (rs := [.tmp 6]) rfl (.tmp rfl .nil) ⟨show Value.bool false = _ from ?_, rfl⟩ .nil
          have : (E.all fun e => inV n e.1 && inV n e.2) = false := List.all_eq_false.2 ⟨E[k], List.getElem_mem hk', by rw [hv1]; simp⟩
          unfold validP
          rw [this]; simp
        | true =>
          refine g_yes rfl rfl ?_
          refine g_pure (p_load (by rfl) rfl (by first | (apply Has.own; (repeat' (first | exact Take.here | apply Take.there)); done) | exact Has.ro (by assumption)) (by first | rfl | assumption)) rfl ?_
          refine g_yes rfl rfl ?_
          refine g_pure (p_fieldAddr rfl) rfl ?_
          refine g_yes rfl rfl ?_
          refine g_pure (p_load (by rfl) rfl (by first | (apply Has.own; (repeat' (first | exact Take.here | apply Take.there)); done) | exact Has.ro (by assumption)) (by first | rfl | assumption)) rfl ?_
          refine g_yes rfl rfl ?_
          refine g_call (Hin := []) (Hr := ?hr5) (R := ?rr5) rfl rfl rfl ?hin5 ?hc5 ?hk5
          case hin5 => repeat' (first | exact Cover.nil | exact Take.here | apply Cover.cons | apply Take.there)
          case hc5 => intro ρ' hρ hR; exact valid1_ok n _ (Take.ro (A := Blk b3 _) (by repeat' (first | exact Take.here | apply Take.there)) hR).blk
          rintro _ _ ⟨rfl, rfl⟩
          refine g_yes rfl rfl ?_
          refine g_pure (p_not rfl) rfl ?_
          first | refine g_pure (p_pickt rfl rfl) rfl ?_ | refine g_pure (p_pickf rfl rfl) rfl ?_
          refine g_nil ?_
          refine g_qt ?_
          cases hv2 : inV n E[k].2 with
          | false =>
            refine g_ift rfl ?_
            refine g_seq ?_
            refine g_region ?_
            refine g_pure (p_assign rfl) rfl ?_
            refine g_nil ?_
            refine g_qt ?_
            refine g_ret ?_
            refine g_qb_ret ?_
            refine g_qt_ret ?_
            refine g_qn_ret ?_
            refine g_qb_ret ?_
            refine g_qt_ret ?_
            refine g_post (rs := [.tmp 6]) rfl (.tmp rfl .nil) ⟨show Value.bool false = _ from ?_, rfl⟩ .nil
            have : (E.all fun e => inV n e.1 && inV n e.2) = false := List.all_eq_false.2 ⟨E[k], List.getElem_mem hk', by rw [hv2]; simp⟩
            unfold validP
            rw [this]; simp
          | true =>
            refine g_iff rfl ?_
            refine g_skip ?_
            refine g_qb ?_
            refine g_qt ?_
            refine g_region ?_
            first | refine g_pure (p_addi rfl rfl (by omega)) rfl ?_ | refine g_pure (p_add rfl rfl) rfl ?_
            refine g_pure (p_move rfl) rfl ?_
            refine g_nil ?_
            refine g_qn ?_
            exact g_next (k + 1) (by (repeat (first | exact trivial | refine ⟨by rfl, ?_⟩)); done) (by repeat' (first | exact Cover.nil | exact Take.here | apply Cover.cons | apply Take.there)) ⟨by omega, by rw [all_take1 _ hk', hall, hv1, hv2]; rfl⟩ (by omega)
      · have hke : k = E.length := by omega
        rw [hke, List.take_of_length_le (Nat.le_refl _)] at hall
        refine g_exit ?_
        refine g_qt_exit ?_
        refine g_qn_exit ?_
        refine g_qb_exit ?_
        refine g_qt ?_
        refine g_seq ?_
        refine g_region ?_
        refine g_pure (p_move rfl) rfl ?_
        refine g_pure (p_makeFunc rfl rfl) rfl ?_
        refine g_call (Hin := []) (Hr := ?hr6) (R := ?rr6) rfl rfl rfl ?hin6 ?hc6 ?hk6
        case hin6 => repeat' (first | exact Cover.nil | exact Take.here | apply Cover.cons | apply Take.there)
        case hc6 => intro ρ' hρ hR; exact anyI_ok ma mc ms (hm.mono hρ) hlm 38 #[.pointer (some ⟨b7, 0, none⟩)] (fun v => !inV n v) (fun l _ ρ2 h2 => valid2_ok n l (h2 _ _ (Take.ro (A := Blk b3 _) (by repeat' (first | exact Take.here | apply Take.there)) hR).blk) (h2 _ _ (Take.ro (A := Blk b7 _) (by repeat' (first | exact Take.here | apply Take.there)) hR).blk))
        rintro _ _ ⟨rfl, rfl⟩
        refine g_pure (p_not rfl) rfl ?_
        refine g_pure (p_assign rfl) rfl ?_
        refine g_nil ?_
        refine g_qt ?_
        refine g_ret ?_
        refine g_post (rs := [.tmp 6]) rfl (.tmp rfl .nil) ⟨show Value.bool _ = Value.bool _ from ?_, rfl⟩ .nil
        congr 1
        unfold validP
        rw [hnn, hall, Bool.true_and, Bool.true_and, List.any_eq_not_all_not, Bool.not_not]
        congr 1
        funext c
        rw [Bool.not_not]
end Go.Proofs.Ytmefecnjliadaaa
