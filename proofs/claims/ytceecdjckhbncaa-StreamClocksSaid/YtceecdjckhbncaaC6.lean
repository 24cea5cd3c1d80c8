/- Chapter 16: an operation along streams. Conditions: none. -/
import Derived.Test.YtceecdjckhbncaaC5
namespace Go.Z.Val
set_option linter.unusedVariables false
set_option linter.unusedSimpArgs false
set_option linter.unusedSectionVars false
open Go Go.Z
theorem put_row (A B : List Ce) (z c : Ce) : putL ((A ++ z :: B).flatMap encC) (A.length * 2) (encC c) = (A ++ c :: B).flatMap encC := by
  unfold putL
  have hl := rows_len encC 2 encC_len A
  rw [List.flatMap_append, List.flatMap_append, List.flatMap_cons, List.flatMap_cons, List.take_left' hl, encC_len]
  congr 2
  rw [← List.append_assoc, List.drop_left']
  rw [List.length_append, hl, encC_len]
theorem repl_rows (n : Nat) (c : Ce) : (List.replicate n (encC c)).flatten = (List.replicate n c).flatMap encC := by
  induction n with
  | zero => rfl
  | succ n ih => rw [List.replicate_succ, List.replicate_succ, List.flatten_cons, List.flatMap_cons, ih]
def cellsAt (l : List (List Ce)) (t : Nat) : List Ce := l.map fun a => cleanF (at0 a t)
theorem cellsAt_len (l : List (List Ce)) (t : Nat) : (cellsAt l t).length = l.length := by simp [cellsAt]
theorem cellsAt_all (l : List (List Ce)) (t : Nat) : (cellsAt l t).all thereB = jointF l t := by
  unfold cellsAt jointF
  rw [List.all_map]
  congr 1
  funext a
  exact thereB_clean _
end Go.Z.Val
namespace Go.Proofs.Ytceecdjckhbncaa
open Go Go.Z Go.Z.Val

theorem idxC_ok {ρ : Nat → Obj → Prop} (al : Option Addr) (cl : Nat) (ls : List Ce) (hl : RSl ρ 2 al ls.length (ls.flatMap encC)) (hlen : ls.length ≤ 1000000) (f : Nat) (cap : Array Value) (pred : Ce → Bool) (hF : ∀ l ∈ ls, ∀ ρ', (∀ b o, ρ b o → ρ' b o) → Con Try.prog ρ' f (#[aggC l] ++ cap) [] (fun v H => v = .bool (pred l) ∧ H = [])) :
    Con Try.prog ρ 65 #[.slice al ls.length cl, .func (.func f) #[] cap] [] (fun v H => v = .int .i64 (match ls.findIdx? pred with | some i => (i : Int) | none => -1) ∧ H = []) := by
  obtain ⟨_, b, off, cs, T, fz, hr⟩ := hl
  refine con_intro Try.func65 Try.call65 rfl Try.ntmps65 rfl (L := [(0, _), (1, _)]) rfl fun w hh => ?_
  refine g_seq ?_
  refine g_region ?_
  refine g_pure (p_assign rfl) rfl ?_
  refine g_nil ?_
  refine g_qt ?_
  refine g_seq ?_
  refine g_seq ?_
  refine g_region ?_
  refine g_pure (p_move rfl) rfl ?_
  refine g_pure (p_len (by rfl) rfl) rfl ?_
  refine g_pure (p_move rfl) rfl ?_
  refine g_nil ?_
  refine g_qt ?_
  refine g_block ?_
  refine g_loop (fun k : Nat => [(0, .slice al ls.length cl), (1, .func (.func f) #[] cap), (7, .int .i64 ls.length), (8, .int .i64 k)]) (fun _ => []) (fun k => k ≤ ls.length ∧ ∀ l ∈ ls.take k, pred l = false) (fun k => ls.length - k) 0 ⟨Nat.zero_le _, by simp⟩ (by (repeat (first | exact trivial | refine ⟨by rfl, ?_⟩)); done) .nil fun k ⟨hk, hno⟩ => ?_
  refine g_seq ?_
  refine g_region ?_
  refine g_pure (p_lss rfl rfl) rfl ?_
  refine g_nil ?_
  refine g_qt ?_
  refine g_seq ?_
  refine g_ifd rfl (fun h1 => ?_) (fun h1 => ?_)
  · have hk' : k < ls.length := by omega
    obtain ⟨l1, l2, l3⟩ := hr (by omega)
    obtain ⟨x0, _, _⟩ := cell_at l3 hk'
    have x0' : sub cs (off + (k : Int).toNat * 2) 2 = some (encC ls[k]) := x0
    refine g_skip ?_
    refine g_qt ?_
    refine g_seq ?_
    refine g_block ?_
    refine g_seq ?_
    refine g_region ?_
    refine g_pure (p_move rfl) rfl ?_
    refine g_pure (p_assign rfl) rfl ?_
    refine g_nil ?_
    refine g_qt ?_
    refine g_seq ?_
    refine g_region ?_
    refine g_pure (p_move rfl) rfl ?_
    refine g_pure (p_move rfl) rfl ?_
    refine g_pure (p_move rfl) rfl ?_
    refine g_pure (p_indexAddr rfl rfl (by omega) (fun _ => l1)) rfl ?_
    refine g_pure (p_loadN (by rfl) rfl (Has.ro l2) x0') rfl ?_
    refine g_call (Hin := []) (Hr := ?hr1) (R := ?rr1) rfl rfl rfl ?hin1 ?hc1 ?hk1
    case hin1 => repeat' (first | exact Cover.nil | exact Take.here | apply Cover.cons | apply Take.there)
    case hc1 => intro ρ' hρ hR; exact hF _ (List.getElem_mem hk') ρ' hρ
    rintro _ _ ⟨rfl, rfl⟩
    refine g_nil ?_
    refine g_qt ?_
    refine g_if rfl (fun h2 => ?_) (fun h2 => ?_)
    · refine g_seq ?_
      refine g_region ?_
      refine g_pure (p_move rfl) rfl ?_
      refine g_pure (p_assign rfl) rfl ?_
      refine g_nil ?_
      refine g_qt ?_
      refine g_ret ?_
      refine g_qb_ret ?_
      refine g_qt_ret ?_
      refine g_qn_ret ?_
      refine g_qb_ret ?_
      refine g_qt_ret ?_
      refine g_post (rs := [.tmp 4]) rfl (.tmp rfl .nil) ⟨?_, rfl⟩ .nil
      have e : ls.findIdx? pred = some k := by
        rw [List.findIdx?_eq_some_iff_getElem]
        refine ⟨hk', h2, fun j hj => ?_⟩
        have := hno ls[j] (by rw [List.mem_take_iff_getElem]; exact ⟨j, by omega, rfl⟩)
        simp [this]
      rw [e]; rfl
    · refine g_skip ?_
      refine g_qb ?_
      refine g_qt ?_
      refine g_region ?_
      first | refine g_pure (p_addi rfl rfl (by omega)) rfl ?_ | refine g_pure (p_add rfl rfl) rfl ?_
      refine g_pure (p_move rfl) rfl ?_
      refine g_nil ?_
      refine g_qn ?_
      exact g_next (k + 1) (by (repeat (first | exact trivial | refine ⟨by rfl, ?_⟩)); done) .nil ⟨by omega, all_take hk' hno h2⟩ (by omega)
  · refine g_exit ?_
    refine g_qt_exit ?_
    refine g_qn_exit ?_
    refine g_qb_exit ?_
    refine g_qt ?_
    refine g_seq ?_
    refine g_region ?_
    refine g_pure (p_assign rfl) rfl ?_
    refine g_nil ?_
    refine g_qt ?_
    refine g_ret ?_
    refine g_post (rs := [.tmp 4]) rfl (.tmp rfl .nil) ⟨?_, rfl⟩ .nil
    have e : ls.findIdx? pred = none := by
      rw [List.findIdx?_eq_none_iff]
      intro l hl
      exact hno l (by rw [List.take_of_length_le (by omega)]; exact hl)
    rw [e]; rfl
theorem any_of_idx {α : Type} {ls : List α} {pred : α → Bool} : decide (0 ≤ (match ls.findIdx? pred with | some i => (i : Int) | none => -1)) = ls.any pred := by
  cases h : ls.findIdx? pred with
  | none =>
    rw [List.findIdx?_eq_none_iff] at h
    have : ls.any pred = false := by rw [List.any_eq_false]; intro x hx; simp [h x hx]
    rw [this]; rfl
  | some i =>
    rw [List.findIdx?_eq_some_iff_getElem] at h
    obtain ⟨h1, h2, _⟩ := h
    have : ls.any pred = true := List.any_eq_true.2 ⟨_, List.getElem_mem h1, h2⟩
    rw [this]; simp
theorem notthere_ok {ρ : Nat → Obj → Prop} (c : Ce) : Con Try.prog ρ 60 #[aggC c] [] (fun v H => v = .bool (!thereB c) ∧ H = []) := by
  obtain ⟨c1, c2⟩ := c
  show Con _ _ _ #[.agg #[.int .i64 c1, .int .i64 c2]] _ _
  refine con_intro Try.func60 Try.call60 rfl Try.ntmps60 rfl (L := [(0, _)]) rfl fun w hh => ?_
  refine g_seq ?_
  refine g_region ?_
  refine g_eff (e_box rfl (by rfl)) rfl (fun _ _ => ?_)
  rintro ⟨b1, rfl, rfl⟩
  refine g_pure (p_assign rfl) rfl ?_
  refine g_nil ?_
  refine g_qt ?_
  refine g_seq ?_
  refine g_region ?_
  first | refine g_pure (p_loadO (by rfl) rfl (by first | (apply Has.own; (repeat' (first | exact Take.here | apply Take.there)); done) | exact Has.ro (by assumption)) (by rfl)) rfl ?_ | refine g_pure (p_loadN (by rfl) rfl (by first | (apply Has.own; (repeat' (first | exact Take.here | apply Take.there)); done) | exact Has.ro (by assumption)) (by first | rfl | assumption)) rfl ?_
  refine g_call (Hin := []) (Hr := ?hr2) (R := ?rr2) rfl rfl rfl ?hin2 ?hc2 ?hk2
  case hin2 => repeat' (first | exact Cover.nil | exact Take.here | apply Cover.cons | apply Take.there)
  case hc2 => intro ρ' hρ hR; exact there_ok (c1, c2)
  rintro _ _ ⟨rfl, rfl⟩
  refine g_pure (p_not rfl) rfl ?_
  refine g_pure (p_assign rfl) rfl ?_
  refine g_nil ?_
  refine g_qt ?_
  refine g_ret ?_
  exact g_post (Ho := []) (rs := [.tmp 2]) rfl (.tmp rfl .nil) ⟨rfl, rfl⟩ (by repeat' (first | exact Cover.nil | exact Take.here | apply Cover.cons | apply Take.there))
theorem anyC_ok {ρ : Nat → Obj → Prop} (al : Option Addr) (cl : Nat) (ls : List Ce) {k : Nat} (ek : k = ls.length) (hl : RSl ρ 2 al k (ls.flatMap encC)) (hlen : ls.length ≤ 1000000) :
    Con Try.prog ρ 59 #[.slice al k cl, .func (.func 60) #[] #[]] [] (fun v H => v = .bool (!ls.all thereB) ∧ H = []) := by
  subst ek
  refine con_intro Try.func59 Try.call59 rfl Try.ntmps59 rfl (L := [(0, _), (1, _)]) rfl fun w hh => ?_
  refine g_seq ?_
  refine g_region ?_
  refine g_pure (p_assign rfl) rfl ?_
  refine g_nil ?_
  refine g_qt ?_
  refine g_seq ?_
  refine g_region ?_
  refine g_pure (p_move rfl) rfl ?_
  refine g_pure (p_move rfl) rfl ?_
  refine g_call (Hin := []) (Hr := ?hr3) (R := ?rr3) rfl rfl rfl ?hin3 ?hc3 ?hk3
  case hin3 => repeat' (first | exact Cover.nil | exact Take.here | apply Cover.cons | apply Take.there)
  case hc3 => intro ρ' hρ hR; exact idxC_ok al cl ls (hl.mono hρ) hlen _ #[] (fun c => !thereB c) (fun l h1 ρ2 h2 => notthere_ok l)
  rintro _ _ ⟨rfl, rfl⟩
  refine g_pure (p_geq rfl rfl) rfl ?_
  refine g_pure (p_assign rfl) rfl ?_
  refine g_nil ?_
  refine g_qt ?_
  refine g_ret ?_
  refine g_post (rs := [.tmp 4]) rfl (.tmp rfl .nil) ⟨?_, rfl⟩ .nil
  show Value.bool _ = Value.bool _
  congr 1
  rw [List.all_eq_not_any_not, Bool.not_not, ← any_of_idx]

theorem build_ok {ρ : Nat → Obj → Prop} (n : Nat) (hn : n ≤ 1000000) (f : Nat) (cap : Array Value) (out : Nat → Ce) (St : Nat → Assn) (hF : ∀ i, i < n → ∀ ρ', (∀ b o, ρ b o → ρ' b o) → Con Try.prog ρ' f (#[.int .i64 i] ++ cap) [St i] (fun v H => v = aggC (out i) ∧ H = [St (i + 1)])) :
    Con Try.prog ρ 45 #[.int .i64 n, .func (.func f) #[] cap] [St 0] (fun v H => ∃ a c, v = .slice a ((List.range n).map out).length c ∧ H = [OwnSl 31 2 a ((List.range n).map out).length c (((List.range n).map out).flatMap encC), St n]) := by
  refine con_intro Try.func45 Try.call45 rfl Try.ntmps45 rfl (L := [(0, _), (1, _)]) rfl fun w hh => ?_
  refine g_seq ?_
  refine g_region ?_
  refine g_pure (p_assign rfl) rfl ?_
  refine g_nil ?_
  refine g_qt ?_
  refine g_seq ?_
  refine g_region ?_
  refine g_pure (p_assign rfl) rfl ?_
  refine g_nil ?_
  refine g_qt ?_
  refine g_seq ?_
  refine g_seq ?_
  refine g_region ?_
  refine g_pure (p_move rfl) rfl ?_
  refine g_pure (p_move rfl) rfl ?_
  refine g_nil ?_
  refine g_qt ?_
  refine g_block ?_
  refine g_ownnil (e := 31) (size := 2) ?_
  refine g_loop (fun q : Nat × Option Addr × Nat => [(1, .func (.func f) #[] cap), (5, .slice q.2.1 ((List.range q.1).map out).length q.2.2), (7, .int .i64 n), (8, .int .i64 q.1)]) (fun q => [OwnSl 31 2 q.2.1 ((List.range q.1).map out).length q.2.2 (((List.range q.1).map out).flatMap encC), St q.1]) (fun q => q.1 ≤ n) (fun q => n - q.1) (0, none, 0) (Nat.zero_le _) (by (repeat (first | exact trivial | refine ⟨by rfl, ?_⟩)); done) (by repeat' (first | exact Cover.nil | exact Take.here | apply Cover.cons | apply Take.there)) ?_
  rintro ⟨i, oa, oc⟩ hi
  dsimp only at hi ⊢
  have hil : ((List.range i).map out).length = i := by simp
  refine g_seq ?_
  refine g_region ?_
  refine g_pure (p_lss rfl rfl) rfl ?_
  refine g_nil ?_
  refine g_qt ?_
  refine g_seq ?_
  refine g_ifd rfl (fun q => ?_) (fun q => ?_)
  · have hm : (List.range (i + 1)).map out = (List.range i).map out ++ [out i] := by rw [List.range_succ, List.map_append]; rfl
    have hm1 : ((List.range i).map out).length + 1 = ((List.range (i + 1)).map out).length := by rw [hm]; simp
    have hm2 : ((List.range i).map out).flatMap encC ++ encC (out i) = ((List.range (i + 1)).map out).flatMap encC := by rw [hm]; simp
    refine g_skip ?_
    refine g_qt ?_
    refine g_seq ?_
    refine g_block ?_
    refine g_seq ?_
    refine g_region ?_
    refine g_pure (p_move rfl) rfl ?_
    refine g_pure (p_assign rfl) rfl ?_
    refine g_nil ?_
    refine g_qt ?_
    refine g_region ?_
    refine g_pure (p_move rfl) rfl ?_
    refine g_pure (p_move rfl) rfl ?_
    refine g_pure (p_move rfl) rfl ?_
    refine g_call (Hin := [St i]) (Hr := ?hr4) (R := ?rr4) rfl rfl rfl ?hin4 ?hc4 ?hk4
    case hin4 => repeat' (first | exact Cover.nil | exact Take.here | apply Cover.cons | apply Take.there)
    case hc4 => intro ρ' hρ hR; exact hF i (by omega) ρ' hρ
    rintro _ _ ⟨rfl, rfl⟩
    generalize out i = u at *
    obtain ⟨u1, u2⟩ := u
    unfold aggC
    refine g_eff (e_bs (xs := [.tmp 14]) rfl rfl rfl (by rfl) (by rfl) rfl (by rfl)) rfl (fun _ _ => ?_)
    rintro ⟨b15, rfl, rfl⟩
    refine g_eff (e_appendO (by rfl) (by rfl) rfl rfl (by first | (apply Has.own; (repeat' (first | exact Take.here | apply Take.there)); done) | exact Has.ro (by assumption)) (by rfl) (by rfl) (by repeat' (first | exact Take.here | apply Take.there)) (by omega) (by first | omega | (dsimp only; omega) | (simp <;> omega)) (by omega)) rfl (fun _ _ => ?_)
    rintro ⟨a16, c16, rfl, rfl⟩
    refine g_pure (p_assign rfl) rfl ?_
    refine g_nil ?_
    refine g_qb ?_
    refine g_qt ?_
    refine g_region ?_
    first | refine g_pure (p_addi rfl rfl (by omega)) rfl ?_ | refine g_pure (p_add rfl rfl) rfl ?_
    refine g_pure (p_move rfl) rfl ?_
    refine g_nil ?_
    refine g_qn ?_
    rw [hm1]
    refine g_weak (A := OwnSl 31 2 a16 _ c16 (((List.range i).map out).flatMap encC ++ encC (u1, u2))) (B := OwnSl 31 2 a16 ((List.range (i + 1)).map out).length c16 (((List.range (i + 1)).map out).flatMap encC)) (by repeat' (first | exact Take.here | apply Take.there)) (fun h hh => by rw [← hm2]; exact hh) ?_
    exact g_next (i + 1, a16, c16) (by (repeat (first | exact trivial | refine ⟨by rfl, ?_⟩)); done) (by repeat' (first | exact Cover.nil | exact Take.here | apply Cover.cons | apply Take.there)) (by dsimp only; omega) (by dsimp only; omega)
  · obtain rfl : i = n := by omega
    refine g_exit ?_
    refine g_qt_exit ?_
    refine g_qn_exit ?_
    refine g_qb_exit ?_
    refine g_qt ?_
    refine g_seq ?_
    refine g_region ?_
    refine g_pure (p_move rfl) rfl ?_
    refine g_pure (p_assign rfl) rfl ?_
    refine g_nil ?_
    refine g_qt ?_
    refine g_ret ?_
    exact g_post (rs := [.tmp 4]) rfl (.tmp rfl .nil) ⟨oa, oc, rfl, rfl⟩ (by repeat' (first | exact Cover.nil | exact Take.here | apply Cover.cons | apply Take.there))

/-- what an operation yields at an instant -/
def outF (joint : Bool) (l : List (List Ce)) (g : Nat → Ce) (t : Nat) : Ce := if joint && !jointF l t then (0, 0) else cleanF (g t)

theorem along1_ok {ρ : Nat → Obj → Prop} {a : Option Addr} {c : Nat} {l : List (List Ce)} (h : SlS ρ a l) (h0 : 0 < l.length) (hlen : l.length ≤ 1000000) {joint : Bool} {d : Nat} {dcap : Array Value} {b2 b3 : Nat} {T2 T3 : TypeId} (h3 : ρ b3 (.cells [.slice a l.length c].toArray T3 (0, 0))) (h2 : ρ b2 (.cells [.bool joint, .func (.func d) #[] dcap].toArray T2 (0, 0)))
    {g : Nat → Ce} {St : Nat → Assn} {t : Nat} (ht : t < lenF l) (ht2 : t ≤ 1000000)
    (hdo : (joint = true → jointF l t = true) → ∀ ρ', (∀ b o, ρ b o → ρ' b o) → ∀ ca k, k = l.length → RSl ρ' 2 ca k ((cellsAt l t).flatMap encC) → Con Try.prog ρ' d (#[.slice ca k k] ++ dcap) [St t] (fun v H => v = aggC (g t) ∧ H = [St (t + 1)]))
    (hskip : joint = true → jointF l t = false → St (t + 1) = St t) :
    Con Try.prog ρ 57 #[.int .i64 t, .pointer (some ⟨b3, 0, none⟩), .pointer (some ⟨b2, 0, none⟩)] [St t] (fun v H => v = aggC (outF joint l g t) ∧ H = [St (t + 1)]) := by
  obtain ⟨b, off, cs, T, fz, r1, r2, r3⟩ := h.at h0
  have hlt : ((l.length : Nat) : Int).toNat = l.length := by omega
  refine con_intro Try.func57 Try.call57 rfl Try.ntmps57 rfl (L := [(0, _), (1, _), (2, _)]) rfl fun w hh => ?_
  refine g_seq ?_
  refine g_region ?_
  refine g_eff (e_alloc (by rfl)) rfl (fun _ _ => ?_)
  rintro ⟨b4, rfl, rfl⟩
  refine g_nil ?_
  refine g_qt ?_
  refine g_seq ?_
  refine g_region ?_
  refine g_pure (p_load (by rfl) rfl (by first | (apply Has.own; (repeat' (first | exact Take.here | apply Take.there)); done) | exact Has.ro (by assumption)) (by first | rfl | assumption)) rfl ?_
  refine g_pure (p_len (by rfl) rfl) rfl ?_
  refine g_eff (e_makeN rfl rfl (by omega) (by dsimp only; omega) (by omega) (l := (List.replicate l.length (encC (0, 0))).flatten) (by rw [hlt]; exact madeCells_eq l.length (encC (0, 0)))) rfl (fun _ _ => ?_)
  rintro ⟨b10, rfl, rfl⟩
  refine g_pure (p_assign rfl) rfl ?_
  refine g_nil ?_
  refine g_qt ?_
  refine g_seq ?_
  refine g_seq ?_
  refine g_region ?_
  refine g_pure (p_load (by rfl) rfl (by first | (apply Has.own; (repeat' (first | exact Take.here | apply Take.there)); done) | exact Has.ro (by assumption)) (by first | rfl | assumption)) rfl ?_
  refine g_pure (p_len (by rfl) rfl) rfl ?_
  refine g_pure (p_move rfl) rfl ?_
  refine g_nil ?_
  refine g_qt ?_
  refine g_block ?_
  rw [repl_rows, hlt]
  refine g_loop (fun j : Nat => [(0, .int .i64 t), (1, .pointer (some ⟨b3, 0, none⟩)), (2, .pointer (some ⟨b2, 0, none⟩)), (4, .pointer (some ⟨b4, 0, none⟩)), (5, .slice (some ⟨b10, 0, none⟩) l.length l.length), (11, .slice a l.length c), (12, .int .i64 l.length), (13, .int .i64 j)])
    (fun j => [Blk b10 (.cells (((cellsAt (l.take j) t) ++ List.replicate (l.length - j) (0, 0)).flatMap encC).toArray 31 (0, 0)), Blk b4 (.cells [.int .i64 0, .int .i64 0].toArray 31 (0, 0)), St t]) (fun j => j ≤ l.length) (fun j => l.length - j) 0 (Nat.zero_le _) (by (repeat (first | exact trivial | refine ⟨by rfl, ?_⟩)); done) (by repeat' (first | exact Cover.nil | exact Take.here | apply Cover.cons | apply Take.there)) ?_
  intro j hj
  refine g_seq ?_
  refine g_region ?_
  refine g_pure (p_lss rfl rfl) rfl ?_
  refine g_nil ?_
  refine g_qt ?_
  refine g_seq ?_
  refine g_ifd rfl (fun q => ?_) (fun q => ?_)
  · have hjl : j < l.length := by omega
    obtain ⟨aj, cj, ej, _, b1, o1, k1, T1, f1, h1⟩ := r3 j hjl
    have ej' : cs[off + (j : Int).toNat * 1]? = some (.slice aj l[j].length cj) := ej
    have htl : t < l[j].length := Nat.lt_of_lt_of_le ht (lenF_le _ (List.getElem_mem hjl))
    obtain ⟨l1, l2, l3⟩ := h1 (by omega)
    obtain ⟨x0, _, _⟩ := cell_at l3 htl
    have hat := at0_eq htl
    have hrow : l.length - j = (l.length - (j + 1)) + 1 := by omega
    have hcl : (cellsAt (l.take j) t).length = j := by rw [cellsAt_len, List.length_take]; omega
    have hnx : cellsAt (l.take (j + 1)) t = cellsAt (l.take j) t ++ [cleanF (at0 l[j] t)] := by
      unfold cellsAt; rw [List.take_add_one, List.getElem?_eq_getElem hjl, Option.toList_some, List.map_append]; rfl
    have hput := put_row (cellsAt (l.take j) t) (List.replicate (l.length - (j + 1)) (0, 0)) (0, 0) (cleanF (at0 l[j] t))
    rw [hcl, ← List.replicate_succ, ← hrow] at hput
    have hfl : (((cellsAt (l.take j) t) ++ List.replicate (l.length - j) ((0, 0) : Ce)).flatMap encC).length = l.length * 2 := by
      rw [rows_len encC 2 encC_len, List.length_append, hcl, List.length_replicate]; congr 1; omega
    have hnx2 : cellsAt (l.take j) t ++ cleanF (at0 l[j] t) :: List.replicate (l.length - (j + 1)) (0, 0) = cellsAt (l.take (j + 1)) t ++ List.replicate (l.length - (j + 1)) (0, 0) := by rw [hnx]; simp
    rw [hnx2] at hput
    rw [hat] at hput
    generalize hlk : l[j][t] = u at *
    have x0' : sub k1 (o1 + (t : Int).toNat * 2) 2 = some (encC u) := x0
    refine g_skip ?_
    refine g_qt ?_
    refine g_seq ?_
    refine g_block ?_
    refine g_seq ?_
    refine g_region ?_
    refine g_pure (p_move rfl) rfl ?_
    refine g_pure (p_indexAddr rfl rfl (by omega) (fun _ => r1)) rfl ?_
    refine g_pure (p_load (by rfl) rfl (Has.ro r2) ej') rfl ?_
    refine g_pure (p_assign rfl) rfl ?_
    refine g_pure (p_assign rfl) rfl ?_
    refine g_nil ?_
    refine g_qt ?_
    refine g_region ?_
    refine g_pure (p_move rfl) rfl ?_
    refine g_pure (p_move rfl) rfl ?_
    refine g_pure (p_move rfl) rfl ?_
    refine g_pure (p_move rfl) rfl ?_
    refine g_pure (p_indexAddr rfl rfl (by omega) (fun _ => l1)) rfl ?_
    refine g_pure (p_loadN (by rfl) rfl (Has.ro l2) x0') rfl ?_
    refine g_call (Hin := []) (Hr := ?hr5) (R := ?rr5) rfl rfl rfl ?hin5 ?hc5 ?hk5
    case hin5 => repeat' (first | exact Cover.nil | exact Take.here | apply Cover.cons | apply Take.there)
    case hc5 => intro ρ' hρ hR; exact clean_ok u
    rintro _ _ ⟨rfl, rfl⟩
    generalize cleanF u = z at *
    obtain ⟨z1, z2⟩ := z
    unfold aggC
    refine g_pure (p_indexAddr rfl rfl (by omega) (fun _ => rfl)) rfl ?_
    refine g_eff0 (e_storeN rfl rfl (by rfl) (by rfl) (by rfl) (by repeat' (first | exact Take.here | apply Take.there)) (by rw [hfl]; simp; omega)) (fun _ _ => ?_)
    rintro rfl
    refine g_nil ?_
    refine g_qb ?_
    refine g_qt ?_
    refine g_region ?_
    first | refine g_pure (p_addi rfl rfl (by omega)) rfl ?_ | refine g_pure (p_add rfl rfl) rfl ?_
    refine g_pure (p_move rfl) rfl ?_
    refine g_nil ?_
    refine g_qn ?_
    have hj0 : 0 + (j : Int).toNat * 2 = j * 2 := by omega
    refine g_weak (A := Blk b10 (.cells (putL (((cellsAt (l.take j) t) ++ List.replicate (l.length - j) (0, 0)).flatMap encC) (0 + (j : Int).toNat * 2) (encC (z1, z2))).toArray 31 (0, 0))) (B := Blk b10 (.cells (((cellsAt (l.take (j + 1)) t) ++ List.replicate (l.length - (j + 1)) (0, 0)).flatMap encC).toArray 31 (0, 0))) (by repeat' (first | exact Take.here | apply Take.there)) (fun h hh => by rw [← hput, ← hj0]; exact hh) ?_
    exact g_next (j + 1) (by (repeat (first | exact trivial | refine ⟨by rfl, ?_⟩)); done) (by repeat' (first | exact Cover.nil | exact Take.here | apply Cover.cons | apply Take.there)) (by omega) (by omega)
  · obtain rfl : j = l.length := by omega
    rw [List.take_length, Nat.sub_self, List.replicate_zero, List.append_nil]
    have hcl := cellsAt_len l t
    have hall := cellsAt_all l t
    have hsl : ∀ {ρ' : Nat → Obj → Prop}, ρ' b10 (.cells ((cellsAt l t).flatMap encC).toArray 31 (0, 0)) → RSl ρ' 2 (some ⟨b10, 0, none⟩) l.length ((cellsAt l t).flatMap encC) := fun hb => by
      have := RSl.of_blk (size := 2) (k := l.length) hb (by rw [rows_len encC 2 encC_len, hcl]; exact Nat.le_refl _)
      rwa [List.take_of_length_le (by rw [rows_len encC 2 encC_len, hcl]; exact Nat.le_refl _)] at this
    refine g_exit ?_
    refine g_qt_exit ?_
    refine g_qn_exit ?_
    refine g_qb_exit ?_
    refine g_qt ?_
    refine g_seq ?_
    refine g_seq ?_
    refine g_region ?_
    refine g_pure (p_fieldAddr rfl) rfl ?_
    refine g_pure (p_load (by rfl) rfl (by first | (apply Has.own; (repeat' (first | exact Take.here | apply Take.there)); done) | exact Has.ro (by assumption)) (by first | rfl | assumption)) rfl ?_
    refine g_pure (p_move rfl) rfl ?_
    cases joint with
    | false =>
      have hdo' := hdo (fun h => by cases h)
      have ho : outF false l g t = cleanF (g t) := rfl
      refine g_no rfl rfl rfl rfl ?_
      refine g_no rfl rfl rfl rfl ?_
      refine g_no rfl rfl rfl rfl ?_
      first | refine g_pure (p_pickt rfl rfl) rfl ?_ | refine g_pure (p_pickf rfl rfl) rfl ?_
      refine g_pure (p_move rfl) rfl ?_
      refine g_yes rfl rfl ?_
      refine g_pure (p_fieldAddr rfl) rfl ?_
      refine g_yes rfl rfl ?_
      refine g_pure (p_load (by rfl) rfl (by first | (apply Has.own; (repeat' (first | exact Take.here | apply Take.there)); done) | exact Has.ro (by assumption)) (by first | rfl | assumption)) rfl ?_
      refine g_yes rfl rfl ?_
      refine g_pure (p_not rfl) rfl ?_
      first | refine g_pure (p_pickt rfl rfl) rfl ?_ | refine g_pure (p_pickf rfl rfl) rfl ?_
      refine g_nil ?_
      refine g_qt ?_
      refine g_ift rfl ?_
      refine g_seq ?_
      refine g_region ?_
      refine g_pure (p_fieldAddr rfl) rfl ?_
      refine g_pure (p_load (by rfl) rfl (by first | (apply Has.own; (repeat' (first | exact Take.here | apply Take.there)); done) | exact Has.ro (by assumption)) (by first | rfl | assumption)) rfl ?_
      refine g_pure (p_move rfl) rfl ?_
      refine g_call (Hin := [St t]) (Hr := ?hr6) (R := ?rr6) rfl rfl rfl ?hin6 ?hc6 ?hk6
      case hin6 => repeat' (first | exact Cover.nil | exact Take.here | apply Cover.cons | apply Take.there)
      case hc6 => intro ρ' hρ hR; exact hdo' ρ' hρ _ _ rfl (hsl hR.1.blk)
      rintro _ _ ⟨rfl, rfl⟩
      refine g_call (Hin := []) (Hr := ?hr7) (R := ?rr7) rfl rfl rfl ?hin7 ?hc7 ?hk7
      case hin7 => repeat' (first | exact Cover.nil | exact Take.here | apply Cover.cons | apply Take.there)
      case hc7 => intro ρ' hρ hR; exact clean_ok (g t)
      rintro _ _ ⟨rfl, rfl⟩
      rw [← ho]
      generalize outF false l g t = u at *
      obtain ⟨u1, u2⟩ := u
      unfold aggC
      first | refine g_eff0 (e_storeO rfl rfl (by rfl) (by rfl) (by rfl) (by repeat' (first | exact Take.here | apply Take.there)) (by rfl)) (fun _ _ => ?_) | refine g_eff0 (e_storeN rfl rfl (by rfl) (by rfl) (by rfl) (by repeat' (first | exact Take.here | apply Take.there)) (by simp)) (fun _ _ => ?_)
      rintro rfl
      refine g_nil ?_
      refine g_qt ?_
      refine g_ret ?_
      refine g_qt_ret ?_
      exact g_post (Ho := [St (t + 1)]) (rs := [.cell 4 31]) rfl (Res.cellN (by rfl) rfl (Has.own (by repeat' (first | exact Take.here | apply Take.there))) (by rfl) .nil) ⟨rfl, rfl⟩ (by repeat' (first | exact Cover.nil | exact Take.here | apply Cover.cons | apply Take.there))
    | true =>
      refine g_yes rfl rfl ?_
      refine g_pure (p_move rfl) rfl ?_
      refine g_yes rfl rfl ?_
      refine g_call (Hin := []) (Hr := ?hr8) (R := ?rr8) rfl rfl rfl ?hin8 ?hc8 ?hk8
      case hin8 => repeat' (first | exact Cover.nil | exact Take.here | apply Cover.cons | apply Take.there)
      case hc8 => intro ρ' hρ hR; exact anyC_ok (some ⟨b10, 0, none⟩) l.length (cellsAt l t) hcl.symm (hsl hR.1.blk) (by omega)
      rintro _ _ ⟨rfl, rfl⟩
      rw [hall]
      refine g_yes rfl rfl ?_
      refine g_pure (p_not rfl) rfl ?_
      first | refine g_pure (p_pickt rfl rfl) rfl ?_ | refine g_pure (p_pickf rfl rfl) rfl ?_
      refine g_pure (p_move rfl) rfl ?_
      cases hj : jointF l t with
      | true =>
        have hdo' := hdo (fun _ => hj)
        have ho : outF true l g t = cleanF (g t) := by unfold outF; rw [hj]; rfl
        refine g_no rfl rfl rfl rfl ?_
        refine g_no rfl rfl rfl rfl ?_
        refine g_no rfl rfl rfl rfl ?_
        first | refine g_pure (p_pickt rfl rfl) rfl ?_ | refine g_pure (p_pickf rfl rfl) rfl ?_
        refine g_nil ?_
        refine g_qt ?_
        refine g_ift rfl ?_
        refine g_seq ?_
        refine g_region ?_
        refine g_pure (p_fieldAddr rfl) rfl ?_
        refine g_pure (p_load (by rfl) rfl (by first | (apply Has.own; (repeat' (first | exact Take.here | apply Take.there)); done) | exact Has.ro (by assumption)) (by first | rfl | assumption)) rfl ?_
        refine g_pure (p_move rfl) rfl ?_
        refine g_call (Hin := [St t]) (Hr := ?hr9) (R := ?rr9) rfl rfl rfl ?hin9 ?hc9 ?hk9
        case hin9 => repeat' (first | exact Cover.nil | exact Take.here | apply Cover.cons | apply Take.there)
        case hc9 => intro ρ' hρ hR; exact hdo' ρ' hρ _ _ rfl (hsl hR.1.blk)
        rintro _ _ ⟨rfl, rfl⟩
        refine g_call (Hin := []) (Hr := ?hr10) (R := ?rr10) rfl rfl rfl ?hin10 ?hc10 ?hk10
        case hin10 => repeat' (first | exact Cover.nil | exact Take.here | apply Cover.cons | apply Take.there)
        case hc10 => intro ρ' hρ hR; exact clean_ok (g t)
        rintro _ _ ⟨rfl, rfl⟩
        rw [← ho]
        generalize outF true l g t = u at *
        obtain ⟨u1, u2⟩ := u
        unfold aggC
        first | refine g_eff0 (e_storeO rfl rfl (by rfl) (by rfl) (by rfl) (by repeat' (first | exact Take.here | apply Take.there)) (by rfl)) (fun _ _ => ?_) | refine g_eff0 (e_storeN rfl rfl (by rfl) (by rfl) (by rfl) (by repeat' (first | exact Take.here | apply Take.there)) (by simp)) (fun _ _ => ?_)
        rintro rfl
        refine g_nil ?_
        refine g_qt ?_
        refine g_ret ?_
        refine g_qt_ret ?_
        exact g_post (Ho := [St (t + 1)]) (rs := [.cell 4 31]) rfl (Res.cellN (by rfl) rfl (Has.own (by repeat' (first | exact Take.here | apply Take.there))) (by rfl) .nil) ⟨rfl, rfl⟩ (by repeat' (first | exact Cover.nil | exact Take.here | apply Cover.cons | apply Take.there))
      | false =>
        have hst := hskip rfl hj
        have ho : outF true l g t = (0, 0) := by unfold outF; rw [hj]; rfl
        refine g_yes rfl rfl ?_
        refine g_pure (p_fieldAddr rfl) rfl ?_
        refine g_yes rfl rfl ?_
        refine g_pure (p_load (by rfl) rfl (by first | (apply Has.own; (repeat' (first | exact Take.here | apply Take.there)); done) | exact Has.ro (by assumption)) (by first | rfl | assumption)) rfl ?_
        refine g_yes rfl rfl ?_
        refine g_pure (p_not rfl) rfl ?_
        first | refine g_pure (p_pickt rfl rfl) rfl ?_ | refine g_pure (p_pickf rfl rfl) rfl ?_
        refine g_nil ?_
        refine g_qt ?_
        refine g_iff rfl ?_
        refine g_skip ?_
        refine g_qt ?_
        refine g_seq ?_
        refine g_region ?_
        refine g_pure (p_build (by rfl) rfl (by rfl)) rfl ?_
        first | refine g_eff0 (e_storeO rfl rfl (by rfl) (by rfl) (by rfl) (by repeat' (first | exact Take.here | apply Take.there)) (by rfl)) (fun _ _ => ?_) | refine g_eff0 (e_storeN rfl rfl (by rfl) (by rfl) (by rfl) (by repeat' (first | exact Take.here | apply Take.there)) (by simp)) (fun _ _ => ?_)
        rintro rfl
        refine g_nil ?_
        refine g_qt ?_
        refine g_ret ?_
        rw [hst]
        exact g_post (Ho := [St t]) (rs := [.cell 4 31]) rfl (Res.cellN (by rfl) rfl (Has.own (by repeat' (first | exact Take.here | apply Take.there))) (by rfl) .nil) ⟨by rw [ho]; rfl, rfl⟩ (by repeat' (first | exact Cover.nil | exact Take.here | apply Cover.cons | apply Take.there))

theorem along_ok {ρ : Nat → Obj → Prop} {a : Option Addr} {c : Nat} {l : List (List Ce)} (h : SlS ρ a l) (hlen : l.length ≤ 1000000) (hlens : lenF l ≤ 1000000) {joint : Bool} {d : Nat} {dcap : Array Value} {g : Nat → Ce} {St : Nat → Assn}
    (hdo : ∀ t, t < lenF l → (joint = true → jointF l t = true) → ∀ ρ', (∀ b o, ρ b o → ρ' b o) → ∀ ca k, k = l.length → RSl ρ' 2 ca k ((cellsAt l t).flatMap encC) → Con Try.prog ρ' d (#[.slice ca k k] ++ dcap) [St t] (fun v H => v = aggC (g t) ∧ H = [St (t + 1)]))
    (hskip : ∀ t, t < lenF l → joint = true → jointF l t = false → St (t + 1) = St t) :
    Con Try.prog ρ 35 #[.agg #[.bool joint, .func (.func d) #[] dcap], .slice a l.length c] [St 0] (fun v H => ∃ a c, v = .slice a ((List.range (lenF l)).map (outF joint l g)).length c ∧ H = [OwnSl 31 2 a ((List.range (lenF l)).map (outF joint l g)).length c (((List.range (lenF l)).map (outF joint l g)).flatMap encC), St (lenF l)]) := by
  refine con_intro Try.func35 Try.call35 rfl Try.ntmps35 rfl (L := [(0, _), (1, _)]) rfl fun w hh => ?_
  refine g_seq ?_
  refine g_region ?_
  refine g_eff (e_box rfl (by rfl)) rfl (fun _ _ => ?_)
  rintro ⟨b2, rfl, rfl⟩
  refine g_eff (e_box rfl (by rfl)) rfl (fun _ _ => ?_)
  rintro ⟨b3, rfl, rfl⟩
  refine g_pure (p_assign rfl) rfl ?_
  refine g_nil ?_
  refine g_qt ?_
  refine g_seq ?_
  refine g_seq ?_
  refine g_region ?_
  refine g_pure (p_load (by rfl) rfl (by first | (apply Has.own; (repeat' (first | exact Take.here | apply Take.there)); done) | exact Has.ro (by assumption)) (by first | rfl | assumption)) rfl ?_
  refine g_pure (p_len (by rfl) rfl) rfl ?_
  refine g_pure (p_eql rfl rfl) rfl ?_
  refine g_nil ?_
  refine g_qt ?_
  refine g_ifd rfl (fun e => ?_) (fun e => ?_)
  · have : l = [] := List.eq_nil_of_length_eq_zero (by omega)
    subst this
    refine g_seq ?_
    refine g_region ?_
    refine g_pure (p_assign rfl) rfl ?_
    refine g_nil ?_
    refine g_qt ?_
    refine g_ret ?_
    refine g_qt_ret ?_
    refine g_ownnil (e := 31) (size := 2) ?_
    exact g_post (rs := [.tmp 4]) rfl (.tmp rfl .nil) ⟨none, 0, rfl, rfl⟩ (by repeat' (first | exact Cover.nil | exact Take.here | apply Cover.cons | apply Take.there))
  · have h0 : 0 < l.length := by omega
    refine g_skip ?_
    refine g_qt ?_
    refine g_seq ?_
    refine g_region ?_
    refine g_pure (p_load (by rfl) rfl (by first | (apply Has.own; (repeat' (first | exact Take.here | apply Take.there)); done) | exact Has.ro (by assumption)) (by first | rfl | assumption)) rfl ?_
    refine g_call (Hin := []) (Hr := ?hr11) (R := ?rr11) rfl rfl rfl ?hin11 ?hc11 ?hk11
    case hin11 => repeat' (first | exact Cover.nil | exact Take.here | apply Cover.cons | apply Take.there)
    case hc11 => intro ρ' hρ hR; exact length_ok (h.mono hρ) h0 hlen
    rintro _ _ ⟨rfl, rfl⟩
    refine g_pure (p_makeFunc rfl rfl) rfl ?_
    refine g_call (Hin := [St 0]) (Hr := ?hr12) (R := ?rr12) rfl rfl rfl ?hin12 ?hc12 ?hk12
    case hin12 => repeat' (first | exact Cover.nil | exact Take.here | apply Cover.cons | apply Take.there)
    case hc12 => intro ρ' hρ hR; exact build_ok (lenF l) hlens _ #[.pointer (some ⟨b3, 0, none⟩), .pointer (some ⟨b2, 0, none⟩)] (outF joint l g) St (fun i hi ρ2 h2 => along1_ok (h.mono fun b o hb => h2 b o (hρ b o hb)) h0 hlen (h2 _ _ hR.1.blk) (h2 _ _ hR.2.1.blk) hi (by omega) (fun hj ρ3 h3 => hdo i hi hj ρ3 fun b o hb => h3 b o (h2 b o (hρ b o hb))) (hskip i hi))
    rintro _ _ ⟨ao, co, rfl, rfl⟩
    refine g_pure (p_assign rfl) rfl ?_
    refine g_nil ?_
    refine g_qt ?_
    refine g_ret ?_
    exact g_post (rs := [.tmp 4]) rfl (.tmp rfl .nil) ⟨ao, co, rfl, rfl⟩ (by repeat' (first | exact Cover.nil | exact Take.here | apply Cover.cons | apply Take.there))
end Go.Proofs.Ytceecdjckhbncaa
