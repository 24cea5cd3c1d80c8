/- Chapter 38: the operators, rooms, attempts, Apply, Mux. Conditions: none. -/
import Derived.Test.YtkebblmmgcgjkaaJ7
namespace Go.Proofs.Ytkebblmmgcgjkaa
set_option maxRecDepth 8000
set_option linter.unusedVariables false
set_option linter.unusedSimpArgs false
set_option linter.unusedSectionVars false
open Go Go.Z Go.Z.Aig Go.Z.Bit

variable {ρ : Nat → Obj → Prop} {S : St} {a b c : Int} {fa fb fc : List Bool → Bool}
variable {al bl : Option Addr} {cl cm : Nat} {ls ms : List Int} {f g : List Bool → List Bool}
theorem own_of_lit {e : TypeId} {b : Nat} {v : Value} {M : Mx} {n : Nat} {L : Fr} {H H' : List Assn} {T : Act → World → Prop} (tk : Take H (Blk b (.cells [v].toArray e (0, 0))) H') (h : G M n L (OwnSl e 1 (some ⟨b, 0, none⟩) 1 1 [v] :: H') T) : G M n L H T :=
  g_fold (k := 1) (cap := 1) (size := 1) (xs := [v]) tk (by omega) (by omega) rfl rfl h

theorem widthF_cases (op : Int) (n : Nat) : widthF op n = if op = 1 ∨ op = 3 ∨ op = 4 ∨ op = 5 then 1 else if op = 11 ∨ op = 12 then min (max n 1) 16 else 16 := rfl
/-- the operands of an operator fit together -/
def wOk (op : Int) (lss : List (List Int)) : Bool := lss.all fun l => l.length == widthF op (lss.headD []).length

theorem widths_ok {ρ : Nat → Obj → Prop} {al : Option Addr} {cl : Nat} {lss : List (List Int)} (op : Int) (h0 : 0 < lss.length) (hr : RSl2 ρ al (lss.map (·.map encI))) (h2 : lss.length ≤ 1000000000000) (h3 : ∀ l ∈ lss, l.length ≤ 1000000000000) :
    Con Try.prog ρ 60 #[.int .i64 op, .slice al lss.length cl] [] (fun v H => v = .int .i64 (if wOk op lss then 0 else 16) ∧ H = []) := by
  obtain ⟨b1, o1, cs1, T1, fz1, hrd⟩ := lrd2 hr
  obtain ⟨r1, r2, r3⟩ := hrd h0
  obtain ⟨ai, ci, e1, e2⟩ := r3 0 h0
  have hhd : lss.headD [] = lss[0] := by
    cases lss with
    | nil => simp at h0
    | cons x l => rfl
  have hl0 := h3 _ (List.getElem_mem h0)
  refine con_intro Try.func60 Try.call60 rfl Try.ntmps60 rfl (L := [(0, _), (1, _)]) rfl fun w hh => ?_
  refine g_seq ?_
  refine g_region ?_
  refine g_pure (p_assign rfl) rfl ?_
  refine g_nil ?_
  refine g_qt ?_
  refine g_seq ?_
  refine g_region ?_
  refine g_pure (p_move rfl) rfl ?_
  refine g_pure (p_indexAddr rfl rfl (by omega) (fun _ => r1)) rfl ?_
  refine g_pure (p_load (by rfl) rfl (Has.ro r2) e1) rfl ?_
  refine g_pure (p_len (by rfl) rfl) rfl ?_
  refine g_pure (p_assign rfl) rfl ?_
  refine g_nil ?_
  refine g_qt ?_
  refine g_seq ?_
  refine g_region ?_
  refine g_pure (p_assign rfl) rfl ?_
  refine g_nil ?_
  refine g_qt ?_
  refine g_seq ?_
  refine g_seq ?_
  refine g_region ?_
  refine g_pure (p_move rfl) rfl ?_
  refine g_nil ?_
  refine g_qt ?_
  refine g_join (fun y : Int => [(0, .int .i64 op), (1, .slice al lss.length cl), (6, .int .i64 y)]) (fun _ => []) (fun y => y = (widthF op lss[0].length : Nat)) ?_ ?_
  · refine g_block ?_
    refine g_seq ?_
    refine g_seq ?_
    refine g_region ?_
    refine g_pure (p_eql rfl rfl) rfl ?_
    refine g_pure (p_assign rfl) rfl ?_
    refine g_nil ?_
    refine g_qt ?_
    refine g_ifdL rfl (fun h1 => ?_) (fun h1 => ?_)
    · refine g_skip ?_
      refine g_qt ?_
      refine g_ift rfl ?_
      refine g_region ?_
      refine g_pure (p_assign rfl) rfl ?_
      refine g_nil ?_
      refine g_qb ?_
      refine g_qn ?_
      refine g_joined _ ⟨rfl, rfl, rfl, trivial⟩ .nil ?_
      rw [widthF_cases]
      (repeat' split) <;> omega
    · refine g_seq ?_
      refine g_region ?_
      refine g_pure (p_eql rfl rfl) rfl ?_
      refine g_pure (p_assign rfl) rfl ?_
      refine g_nil ?_
      refine g_qt ?_
      refine g_ifdL rfl (fun h3 => ?_) (fun h3 => ?_)
      · refine g_skip ?_
        refine g_qt ?_
        refine g_ift rfl ?_
        refine g_region ?_
        refine g_pure (p_assign rfl) rfl ?_
        refine g_nil ?_
        refine g_qb ?_
        refine g_qn ?_
        refine g_joined _ ⟨rfl, rfl, rfl, trivial⟩ .nil ?_
        rw [widthF_cases]
        (repeat' split) <;> omega
      · refine g_seq ?_
        refine g_region ?_
        refine g_pure (p_eql rfl rfl) rfl ?_
        refine g_pure (p_assign rfl) rfl ?_
        refine g_nil ?_
        refine g_qt ?_
        refine g_ifdL rfl (fun h5 => ?_) (fun h5 => ?_)
        · refine g_skip ?_
          refine g_qt ?_
          refine g_ift rfl ?_
          refine g_region ?_
          refine g_pure (p_assign rfl) rfl ?_
          refine g_nil ?_
          refine g_qb ?_
          refine g_qn ?_
          refine g_joined _ ⟨rfl, rfl, rfl, trivial⟩ .nil ?_
          rw [widthF_cases]
          (repeat' split) <;> omega
        · refine g_region ?_
          refine g_pure (p_eql rfl rfl) rfl ?_
          refine g_pure (p_assign rfl) rfl ?_
          refine g_nil ?_
          refine g_qt ?_
          refine g_ifdL rfl (fun h7 => ?_) (fun h7 => ?_)
          · refine g_region ?_
            refine g_pure (p_assign rfl) rfl ?_
            refine g_nil ?_
            refine g_qb ?_
            refine g_qn ?_
            refine g_joined _ ⟨rfl, rfl, rfl, trivial⟩ .nil ?_
            rw [widthF_cases]
            (repeat' split) <;> omega
          · refine g_seq ?_
            refine g_seq ?_
            refine g_region ?_
            refine g_pure (p_eql rfl rfl) rfl ?_
            refine g_pure (p_assign rfl) rfl ?_
            refine g_nil ?_
            refine g_qt ?_
            refine g_ifdL rfl (fun h8 => ?_) (fun h8 => ?_)
            · refine g_skip ?_
              refine g_qt ?_
              refine g_ift rfl ?_
              refine g_region ?_
              refine g_pure (p_move rfl) rfl ?_
              refine g_pure (p_max rfl rfl) rfl ?_
              refine g_pure (p_min rfl rfl) rfl ?_
              refine g_pure (p_assign rfl) rfl ?_
              refine g_nil ?_
              refine g_qb ?_
              refine g_qn ?_
              refine g_joined _ ⟨rfl, rfl, rfl, trivial⟩ .nil ?_
              rw [widthF_cases]
              (repeat' split) <;> omega
            · refine g_region ?_
              refine g_pure (p_eql rfl rfl) rfl ?_
              refine g_pure (p_assign rfl) rfl ?_
              refine g_nil ?_
              refine g_qt ?_
              refine g_ifdL rfl (fun h10 => ?_) (fun h10 => ?_)
              · refine g_region ?_
                refine g_pure (p_move rfl) rfl ?_
                refine g_pure (p_max rfl rfl) rfl ?_
                refine g_pure (p_min rfl rfl) rfl ?_
                refine g_pure (p_assign rfl) rfl ?_
                refine g_nil ?_
                refine g_qb ?_
                refine g_qn ?_
                refine g_joined _ ⟨rfl, rfl, rfl, trivial⟩ .nil ?_
                rw [widthF_cases]
                (repeat' split) <;> omega
              · refine g_skip ?_
                refine g_qb ?_
                refine g_qn ?_
                refine g_joined _ ⟨rfl, rfl, rfl, trivial⟩ .nil ?_
                rw [widthF_cases]
                (repeat' split) <;> omega
  rintro y rfl
  refine g_qt ?_
  refine g_seq ?_
  refine g_seq ?_
  refine g_region ?_
  refine g_pure (p_move rfl) rfl ?_
  refine g_pure (p_len (by rfl) rfl) rfl ?_
  refine g_pure (p_move rfl) rfl ?_
  refine g_nil ?_
  refine g_qt ?_
  refine g_block ?_
  have hwk : wOk op lss = lss.all fun l => l.length == widthF op lss[0].length := by unfold wOk; rw [hhd]
  generalize widthF op lss[0].length = wd at hwk ⊢
  refine g_loop (fun k : Nat => [(6, .int .i64 wd), (25, .slice al lss.length cl), (26, .int .i64 lss.length), (27, .int .i64 k)])
    (fun _ => []) (fun k => k ≤ lss.length ∧ ∀ j (hj : j < lss.length), j < k → lss[j].length = wd) (fun k => lss.length - k) 0 ⟨Nat.zero_le _, fun j _ h => absurd h (Nat.not_lt_zero j)⟩ (by (repeat (first | exact trivial | refine ⟨by rfl, ?_⟩)); done) .nil ?_
  rintro k ⟨hk, hall⟩
  refine g_seq ?_
  refine g_region ?_
  refine g_pure (p_lss rfl rfl) rfl ?_
  refine g_nil ?_
  refine g_qt ?_
  refine g_seq ?_
  refine g_ifd rfl (fun q => ?_) (fun q => ?_)
  · have hkl : k < lss.length := by omega
    obtain ⟨ai, ci, e1, e2⟩ := r3 k hkl
    refine g_skip ?_
    refine g_qt ?_
    refine g_seq ?_
    refine g_block ?_
    refine g_seq ?_
    refine g_region ?_
    refine g_pure (p_indexAddr rfl rfl (by omega) (fun _ => r1)) rfl ?_
    refine g_pure (p_load (by rfl) rfl (Has.ro r2) e1) rfl ?_
    refine g_pure (p_assign rfl) rfl ?_
    refine g_nil ?_
    refine g_qt ?_
    refine g_seq ?_
    refine g_region ?_
    refine g_pure (p_move rfl) rfl ?_
    refine g_pure (p_len (by rfl) rfl) rfl ?_
    refine g_pure (p_move rfl) rfl ?_
    refine g_pure (p_neq rfl rfl) rfl ?_
    refine g_nil ?_
    refine g_qt ?_
    refine g_ifnd rfl (fun q2 => ?_) (fun q2 => ?_)
    · refine g_seq ?_
      refine g_region ?_
      refine g_pure (p_assign rfl) rfl ?_
      refine g_nil ?_
      refine g_qt ?_
      refine g_ret ?_
      refine g_qb_ret ?_
      refine g_qt_ret ?_
      refine g_qn_ret ?_
      refine g_qb_ret ?_
      refine g_qt_ret ?_
      refine g_post (rs := [.tmp 4]) rfl (.tmp rfl .nil) ⟨?_, rfl⟩ .nil
      have : wOk op lss = false := by
        rw [hwk, List.all_eq_false]
        exact ⟨_, List.getElem_mem hkl, by simp; omega⟩
      rw [this]; rfl
    · refine g_skip ?_
      refine g_qb ?_
      refine g_qt ?_
      refine g_region ?_
      first | refine g_pure (p_addi rfl rfl (by omega)) rfl ?_ | refine g_pure (p_add rfl rfl) rfl ?_
      refine g_pure (p_move rfl) rfl ?_
      refine g_nil ?_
      refine g_qn ?_
      exact g_next (k + 1) (by (repeat (first | exact trivial | refine ⟨by rfl, ?_⟩)); done) .nil ⟨by omega, fun j hj h => (if e : j = k then by subst e; omega else hall j hj (by omega))⟩ (by omega)
  · refine g_exit ?_
    refine g_qt_exit ?_
    refine g_qn_exit ?_
    refine g_qb_exit ?_
    refine g_qt ?_
    refine g_seq ?_
    refine g_region ?_
    refine g_pure (p_assign rfl) rfl ?_
    refine g_nil ?_
    refine g_qt ?_
    refine g_ret ?_
    refine g_post (rs := [.tmp 4]) rfl (.tmp rfl .nil) ⟨?_, rfl⟩ .nil
    have : wOk op lss = true := by
      rw [hwk, List.all_eq_true]
      intro l hl
      obtain ⟨j, hj, rfl⟩ := List.getElem_of_mem hl
      simpa using hall j hj (by omega)
    rw [this]; rfl

theorem room_ok {ρ : Nat → Obj → Prop} {p : Nat} {S : St} (op : Int) (hl : S.length ≤ 100000) (hg : Ro ρ (Gr p S)) : Con Try.prog ρ 64 #[.pointer (some ⟨p, 0, none⟩), .int .i64 op] [] (fun v H => v = .bool true ∧ H = []) := by
  refine con_intro Try.func64 Try.call64 rfl Try.ntmps64 rfl (L := [(0, _), (1, _)]) rfl fun w hh => ?_
  refine g_seq ?_
  refine g_region ?_
  refine g_pure (p_assign rfl) rfl ?_
  refine g_nil ?_
  refine g_qt ?_
  refine g_seq ?_
  refine g_region ?_
  refine g_pure (p_assign rfl) rfl ?_
  refine g_nil ?_
  refine g_qt ?_
  refine g_seq ?_
  refine g_seq ?_
  refine g_region ?_
  refine g_pure (p_move rfl) rfl ?_
  refine g_nil ?_
  refine g_qt ?_
  refine g_join (fun y : Int => [(0, .pointer (some ⟨p, 0, none⟩)), (5, .int .i64 y)]) (fun _ => []) (fun y => 0 ≤ y ∧ y ≤ 6000) ?_ ?_
  · refine g_block ?_
    refine g_seq ?_
    refine g_region ?_
    refine g_pure (p_eql rfl rfl) rfl ?_
    refine g_pure (p_assign rfl) rfl ?_
    refine g_nil ?_
    refine g_qt ?_
    refine g_ifdL rfl (fun h1 => ?_) (fun h1 => ?_)
    · refine g_region ?_
      refine g_pure (p_assign rfl) rfl ?_
      refine g_nil ?_
      refine g_qb ?_
      refine g_qn ?_
      refine g_joined _ ⟨rfl, rfl, trivial⟩ .nil ?_
      omega
    · refine g_seq ?_
      refine g_seq ?_
      refine g_region ?_
      refine g_pure (p_eql rfl rfl) rfl ?_
      refine g_pure (p_assign rfl) rfl ?_
      refine g_nil ?_
      refine g_qt ?_
      refine g_ifdL rfl (fun h2 => ?_) (fun h2 => ?_)
      · refine g_skip ?_
        refine g_qt ?_
        refine g_ift rfl ?_
        refine g_region ?_
        refine g_pure (p_assign rfl) rfl ?_
        refine g_nil ?_
        refine g_qb ?_
        refine g_qn ?_
        refine g_joined _ ⟨rfl, rfl, trivial⟩ .nil ?_
        omega
      · refine g_region ?_
        refine g_pure (p_eql rfl rfl) rfl ?_
        refine g_pure (p_assign rfl) rfl ?_
        refine g_nil ?_
        refine g_qt ?_
        refine g_ifdL rfl (fun h4 => ?_) (fun h4 => ?_)
        · refine g_region ?_
          refine g_pure (p_assign rfl) rfl ?_
          refine g_nil ?_
          refine g_qb ?_
          refine g_qn ?_
          refine g_joined _ ⟨rfl, rfl, trivial⟩ .nil ?_
          omega
        · refine g_skip ?_
          refine g_qb ?_
          refine g_qn ?_
          refine g_joined _ ⟨rfl, rfl, trivial⟩ .nil ?_
          omega
  rintro y ⟨hy1, hy2⟩
  refine g_qt ?_
  refine g_seq ?_
  refine g_region ?_
  refine g_pure (p_move rfl) rfl ?_
  refine g_call (Hin := []) (Hr := ?hr1) (R := ?rr1) rfl rfl rfl ?hin1 ?hc1 ?hk1
  case hin1 => repeat' (first | exact Cover.nil | exact Take.here | apply Cover.cons | apply Take.there)
  case hc1 => intro ρ' hρ hR; exact glen_ok p S (hg.mono hρ)
  rintro _ _ ⟨rfl, rfl⟩
  refine g_pure (p_move rfl) rfl ?_
  first | refine g_pure (p_addi rfl rfl (by omega)) rfl ?_ | refine g_pure (p_add rfl rfl) rfl ?_
  refine g_pure (p_leq rfl rfl) rfl ?_
  refine g_pure (p_assign rfl) rfl ?_
  refine g_nil ?_
  refine g_qt ?_
  refine g_ret ?_
  refine g_post (rs := [.tmp 4]) rfl (.tmp rfl .nil) ⟨?_, rfl⟩ .nil
  show Value.bool _ = Value.bool _
  congr 1
  rw [decide_eq_true_iff]; omega

/-- what an operator needs of its operands' literals -/
structure OpOk (op : Int) (n : Nat) : Prop where
  hop : 1 ≤ op ∧ op ≤ 16
  n : n = widthF op n
theorem OpOk.pos {op : Int} {n : Nat} (h : OpOk op n) : 0 < n ∧ n ≤ 16 := by
  have := h.n
  rw [widthF_cases] at this
  split at this
  · omega
  · split at this <;> omega
theorem OpOk.one {op : Int} {n : Nat} (h : OpOk op n) (e : op = 1 ∨ op = 3 ∨ op = 4 ∨ op = 5) : n = 1 := by
  have := h.n; rw [widthF_cases, if_pos e] at this; exact this
theorem OpOk.word {op : Int} {n : Nat} (h : OpOk op n) (e : ¬ (op = 1 ∨ op = 3 ∨ op = 4 ∨ op = 5)) (e2 : ¬ (op = 11 ∨ op = 12)) : n = 16 := by
  have := h.n; rw [widthF_cases, if_neg e, if_neg e2] at this; exact this

set_option maxHeartbeats 1600000 in
theorem operate_ok (mb p : Nat) (hw : WF S) {op : Int} {n : Nat} (ho : OpOk op n) {lss : List (List Int)} (h0 : 0 < lss.length) (h9 : lss.length ≤ 1000) (hr : RSl2 ρ al (lss.map (·.map encI))) (hn1 : lss[0].length = n) (hn2 : (lss[lss.length - 1]'(by omega)).length = n)
    (d : DenL S lss[0] f) (d' : DenL S (lss[lss.length - 1]'(by omega)) g) (hl : S.length ≤ 100000) :
    Con Try.prog ρ 66 #[.pointer (some ⟨mb, 0, none⟩), .int .i64 op, .slice al lss.length cl] [MkB mb p, Gr p S]
    (fun v H => ∃ a2 c2 out T, v = .slice a2 out.length c2 ∧ H = [OwnSl 27 1 a2 out.length c2 (out.map encI), MkB mb p, Gr p T] ∧ Up S T 5000 ∧ DenL T out (fun i => operateF op (f i) (g i))) := by
  obtain ⟨b1, o1, cs1, T1, fz1, hrd⟩ := lrd2 hr
  obtain ⟨r1, r2, r3⟩ := hrd h0
  obtain ⟨ai, ci, e1, hls⟩ := r3 0 h0
  obtain ⟨bi, di, e2, hms⟩ := r3 (lss.length - 1) (by omega)
  rw [hn1] at e1 hls
  rw [hn2] at e2 hms
  obtain ⟨hn0, hn16⟩ := ho.pos
  generalize lss[0] = ls at hn1 d hls
  generalize lss[lss.length - 1]'(by omega) = ms at hn2 d' hms
  obtain ⟨ba, oa, ca, Ta, za, hra⟩ := lrd (ls := ls) (by rw [hn1]; exact hls)
  obtain ⟨ra1, ra2, ra3⟩ := hra (by omega)
  obtain ⟨bb, ob, cb, Tb, zb, hrb⟩ := lrd (ls := ms) (by rw [hn2]; exact hms)
  obtain ⟨rb1, rb2, rb3⟩ := hrb (by omega)
  have da := d.get (show 0 < ls.length by omega)
  have db := d'.get (show 0 < ms.length by omega)
  have hfl : ∀ i, (f i).length = n := fun i => by rw [d.len]; exact hn1
  have hki : ((lss.length : Int) - 1).toNat = lss.length - 1 := by omega
  have e2' : cs1[o1 + ((lss.length : Int) - 1).toNat * 1]? = some (.slice bi n di) := by rw [hki]; exact e2
  refine con_intro Try.func66 Try.call66 rfl Try.ntmps66 rfl (L := [(0, _), (1, _), (2, _)]) rfl fun w hh => ?_
  refine g_seq ?_
  refine g_region ?_
  refine g_pure (p_assign rfl) rfl ?_
  refine g_nil ?_
  refine g_qt ?_
  refine g_seq ?_
  refine g_region ?_
  refine g_pure (p_move rfl) rfl ?_
  refine g_pure (p_indexAddr rfl rfl (by omega) (fun _ => r1)) rfl ?_
  refine g_pure (p_load (by rfl) rfl (Has.ro r2) e1) rfl ?_
  refine g_pure (p_assign rfl) rfl ?_
  refine g_nil ?_
  refine g_qt ?_
  refine g_seq ?_
  refine g_region ?_
  refine g_pure (p_move rfl) rfl ?_
  refine g_pure (p_move rfl) rfl ?_
  refine g_pure (p_len (by rfl) rfl) rfl ?_
  first | refine g_pure (p_subi rfl rfl (by omega)) rfl ?_ | refine g_pure (p_sub rfl rfl) rfl ?_
  refine g_pure (p_indexAddr rfl rfl (by omega) (fun _ => r1)) rfl ?_
  refine g_pure (p_load (by rfl) rfl (Has.ro r2) e2') rfl ?_
  refine g_pure (p_assign rfl) rfl ?_
  refine g_nil ?_
  refine g_qt ?_
  refine g_seq ?_
  refine g_seq ?_
  refine g_region ?_
  refine g_pure (p_move rfl) rfl ?_
  refine g_nil ?_
  refine g_qt ?_
  refine g_block ?_
  refine g_seq ?_
  refine g_region ?_
  refine g_pure (p_eql rfl rfl) rfl ?_
  refine g_pure (p_assign rfl) rfl ?_
  refine g_nil ?_
  refine g_qt ?_
  refine g_ifd rfl (fun a1 => ?_) (fun a1 => ?_)
  · subst a1
    refine g_seq ?_
    refine g_region ?_
    refine g_pure (p_move rfl) rfl ?_
    refine g_call (Hin := []) (Hr := ?hr2) (R := ?rr2) rfl rfl rfl ?hin2 ?hc2 ?hk2
    case hin2 => repeat' (first | exact Cover.nil | exact Take.here | apply Cover.cons | apply Take.there)
    case hc2 => intro ρ' hρ hR; exact nots_n hn1 (i64_of hw d) (by omega) (hls.mono hρ)
    rintro _ _ ⟨a2, c2, rfl, rfl⟩
    refine g_pure (p_assign rfl) rfl ?_
    refine g_nil ?_
    refine g_qt ?_
    refine g_ret ?_
    refine g_qb_ret ?_
    refine g_qt_ret ?_
    have e : n = (ls.map nt).length := by rw [List.length_map]; omega
    exact g_post (Ho := [OwnSl 27 1 a2 n c2 ((ls.map nt).map encI), MkB mb p, Gr p S]) (rs := [.tmp 6]) rfl (.tmp rfl .nil) ⟨a2, c2, ls.map nt, S, by rw [← e]; rfl, by rw [← e], ⟨hw, .refl S, by omega⟩, d.not⟩ (by repeat' (first | exact Cover.nil | exact Take.here | apply Cover.cons | apply Take.there))
  · refine g_seq ?_
    refine g_region ?_
    refine g_pure (p_eql rfl rfl) rfl ?_
    refine g_pure (p_assign rfl) rfl ?_
    refine g_nil ?_
    refine g_qt ?_
    refine g_ifd rfl (fun a2 => ?_) (fun a2 => ?_)
    · subst a2
      refine g_seq ?_
      refine g_region ?_
      refine g_pure (p_move rfl) rfl ?_
      refine g_pure (p_move rfl) rfl ?_
      refine g_call (Hin := ?hi3) (Hr := ?hr3) (R := ?rr3) rfl rfl rfl ?hin3 ?hc3 ?hk3
      case hc3 => intro ρ' hρ hR; exact negate_n mb p hw hn1 (by omega) (by omega) (hls.mono hρ) (Den.one hw) d
      case hin3 => repeat' (first | exact Cover.nil | exact Take.here | apply Cover.cons | apply Take.there)
      rintro _ _ ⟨a2, c2, out, T, rfl, rfl, ho1, u, d1⟩
      refine g_pure (p_assign rfl) rfl ?_
      refine g_nil ?_
      refine g_qt ?_
      refine g_ret ?_
      refine g_qb_ret ?_
      refine g_qt_ret ?_
      exact g_post (Ho := [OwnSl 27 1 a2 n c2 (out.map encI), MkB mb p, Gr p T]) (rs := [.tmp 6]) rfl (.tmp rfl .nil) ⟨a2, c2, out, T, by rw [ho1]; rfl, by rw [ho1], ⟨u.wf, u.ext, by have := u.len; omega⟩, d1⟩ (by repeat' (first | exact Cover.nil | exact Take.here | apply Cover.cons | apply Take.there))
    · refine g_seq ?_
      refine g_region ?_
      refine g_pure (p_eql rfl rfl) rfl ?_
      refine g_pure (p_assign rfl) rfl ?_
      refine g_nil ?_
      refine g_qt ?_
      refine g_ifd rfl (fun a3 => ?_) (fun a3 => ?_)
      · subst a3
        refine g_seq ?_
        refine m_begin0 (.fl 0 0 (.fl 1 0 (.fl 2 0 (.fl 3 1 (.fl 4 0 (.fl 5 0 (.fl 6 1 (.ef 7 (.ef 8 (.fl 9 0 .done)))))))))) (by kernel_rfl) (by kernel_rfl) ?_
        refine m_float0 rfl (fun _ _ => p_move rfl) rfl ?_
        refine m_float0 rfl (fun _ _ => p_move rfl) rfl ?_
        refine m_float0 rfl (fun _ _ => p_indexAddr rfl rfl (by omega) (fun _ => ra1)) rfl ?_
        refine m_float rfl (p_load (by rfl) rfl (Has.ro ra2) (ra3 0 (by omega))) rfl ?_
        refine m_float0 rfl (fun _ _ => p_move rfl) rfl ?_
        refine m_float0 rfl (fun _ _ => p_indexAddr rfl rfl (by omega) (fun _ => rb1)) rfl ?_
        refine m_float rfl (p_load (by rfl) rfl (Has.ro rb2) (rb3 0 (by omega))) rfl ?_
        refine m_call (Hin := ?hi4) (Hr := ?hr4) (R := ?rr4) rfl wantedN rfl rfl rfl ?hin4 ?hc4 ?hk4
        case hc4 => intro ρ' hρ hR; exact mand_ok mb p hw (by omega) da db
        case hin4 => repeat' (first | exact Cover.nil | exact Take.here | apply Cover.cons | apply Take.there)
        rintro _ _ ⟨l, T, rfl, rfl, u, d1⟩
        refine ⟨.none (by kernel_rfl), ?_⟩
        refine m_eff rfl (e_bs (xs := [.tmp 45]) rfl rfl rfl (by rfl) (by rfl) rfl (by rfl)) rfl (fun _ _ => ?_)
        rintro ⟨b46, rfl, rfl⟩
        refine ⟨.none (by kernel_rfl), ?_⟩
        refine m_float0 rfl (fun _ _ => p_assign rfl) rfl ?_
        refine m_nil ?_
        refine g_qt ?_
        refine g_ret ?_
        refine g_qb_ret ?_
        refine g_qt_ret ?_
        refine own_of_lit (e := 27) (by repeat' (first | exact Take.here | apply Take.there)) ?_
        exact g_post (rs := [.tmp 6]) rfl (.tmp rfl .nil) ⟨_, _, [l], T, rfl, rfl, ⟨u.wf, u.ext, by have := u.len; omega⟩, .one d1⟩ (by repeat' (first | exact Cover.nil | exact Take.here | apply Cover.cons | apply Take.there))
      · refine g_seq ?_
        refine g_region ?_
        refine g_pure (p_eql rfl rfl) rfl ?_
        refine g_pure (p_assign rfl) rfl ?_
        refine g_nil ?_
        refine g_qt ?_
        refine g_ifd rfl (fun a4 => ?_) (fun a4 => ?_)
        · subst a4
          refine g_seq ?_
          refine m_begin0 (.fl 0 0 (.fl 1 0 (.fl 2 0 (.fl 3 1 (.fl 4 0 (.fl 5 0 (.fl 6 1 (.ef 7 (.ef 8 (.fl 9 0 .done)))))))))) (by kernel_rfl) (by kernel_rfl) ?_
          refine m_float0 rfl (fun _ _ => p_move rfl) rfl ?_
          refine m_float0 rfl (fun _ _ => p_move rfl) rfl ?_
          refine m_float0 rfl (fun _ _ => p_indexAddr rfl rfl (by omega) (fun _ => ra1)) rfl ?_
          refine m_float rfl (p_load (by rfl) rfl (Has.ro ra2) (ra3 0 (by omega))) rfl ?_
          refine m_float0 rfl (fun _ _ => p_move rfl) rfl ?_
          refine m_float0 rfl (fun _ _ => p_indexAddr rfl rfl (by omega) (fun _ => rb1)) rfl ?_
          refine m_float rfl (p_load (by rfl) rfl (Has.ro rb2) (rb3 0 (by omega))) rfl ?_
          refine m_call (Hin := ?hi5) (Hr := ?hr5) (R := ?rr5) rfl wantedN rfl rfl rfl ?hin5 ?hc5 ?hk5
          case hc5 => intro ρ' hρ hR; exact mor_ok mb p hw (by omega) da db
          case hin5 => repeat' (first | exact Cover.nil | exact Take.here | apply Cover.cons | apply Take.there)
          rintro _ _ ⟨l, T, rfl, rfl, u, d1⟩
          refine ⟨.none (by kernel_rfl), ?_⟩
          refine m_eff rfl (e_bs (xs := [.tmp 56]) rfl rfl rfl (by rfl) (by rfl) rfl (by rfl)) rfl (fun _ _ => ?_)
          rintro ⟨b57, rfl, rfl⟩
          refine ⟨.none (by kernel_rfl), ?_⟩
          refine m_float0 rfl (fun _ _ => p_assign rfl) rfl ?_
          refine m_nil ?_
          refine g_qt ?_
          refine g_ret ?_
          refine g_qb_ret ?_
          refine g_qt_ret ?_
          refine own_of_lit (e := 27) (by repeat' (first | exact Take.here | apply Take.there)) ?_
          exact g_post (rs := [.tmp 6]) rfl (.tmp rfl .nil) ⟨_, _, [l], T, rfl, rfl, ⟨u.wf, u.ext, by have := u.len; omega⟩, .one d1⟩ (by repeat' (first | exact Cover.nil | exact Take.here | apply Cover.cons | apply Take.there))
        · refine g_seq ?_
          refine g_region ?_
          refine g_pure (p_eql rfl rfl) rfl ?_
          refine g_pure (p_assign rfl) rfl ?_
          refine g_nil ?_
          refine g_qt ?_
          refine g_ifd rfl (fun a5 => ?_) (fun a5 => ?_)
          · subst a5
            refine g_seq ?_
            refine m_begin0 (.fl 0 0 (.fl 1 0 (.fl 2 0 (.fl 3 1 (.fl 4 0 (.fl 5 0 (.fl 6 1 (.ef 7 (.ef 8 (.fl 9 0 .done)))))))))) (by kernel_rfl) (by kernel_rfl) ?_
            refine m_float0 rfl (fun _ _ => p_move rfl) rfl ?_
            refine m_float0 rfl (fun _ _ => p_move rfl) rfl ?_
            refine m_float0 rfl (fun _ _ => p_indexAddr rfl rfl (by omega) (fun _ => ra1)) rfl ?_
            refine m_float rfl (p_load (by rfl) rfl (Has.ro ra2) (ra3 0 (by omega))) rfl ?_
            refine m_float0 rfl (fun _ _ => p_move rfl) rfl ?_
            refine m_float0 rfl (fun _ _ => p_indexAddr rfl rfl (by omega) (fun _ => rb1)) rfl ?_
            refine m_float rfl (p_load (by rfl) rfl (Has.ro rb2) (rb3 0 (by omega))) rfl ?_
            refine m_call (Hin := ?hi6) (Hr := ?hr6) (R := ?rr6) rfl wantedN rfl rfl rfl ?hin6 ?hc6 ?hk6
            case hc6 => intro ρ' hρ hR; exact mxor_ok mb p hw (by omega) da db
            case hin6 => repeat' (first | exact Cover.nil | exact Take.here | apply Cover.cons | apply Take.there)
            rintro _ _ ⟨l, T, rfl, rfl, u, d1⟩
            refine ⟨.none (by kernel_rfl), ?_⟩
            refine m_eff rfl (e_bs (xs := [.tmp 67]) rfl rfl rfl (by rfl) (by rfl) rfl (by rfl)) rfl (fun _ _ => ?_)
            rintro ⟨b68, rfl, rfl⟩
            refine ⟨.none (by kernel_rfl), ?_⟩
            refine m_float0 rfl (fun _ _ => p_assign rfl) rfl ?_
            refine m_nil ?_
            refine g_qt ?_
            refine g_ret ?_
            refine g_qb_ret ?_
            refine g_qt_ret ?_
            refine own_of_lit (e := 27) (by repeat' (first | exact Take.here | apply Take.there)) ?_
            exact g_post (rs := [.tmp 6]) rfl (.tmp rfl .nil) ⟨_, _, [l], T, rfl, rfl, ⟨u.wf, u.ext, by have := u.len; omega⟩, .one d1⟩ (by repeat' (first | exact Cover.nil | exact Take.here | apply Cover.cons | apply Take.there))
          · refine g_seq ?_
            refine g_region ?_
            refine g_pure (p_eql rfl rfl) rfl ?_
            refine g_pure (p_assign rfl) rfl ?_
            refine g_nil ?_
            refine g_qt ?_
            refine g_ifd rfl (fun a6 => ?_) (fun a6 => ?_)
            · subst a6
              refine g_seq ?_
              refine g_region ?_
              refine g_pure (p_move rfl) rfl ?_
              refine g_pure (p_move rfl) rfl ?_
              refine g_pure (p_move rfl) rfl ?_
              refine g_call (Hin := ?hi7) (Hr := ?hr7) (R := ?rr7) rfl rfl rfl ?hin7 ?hc7 ?hk7
              case hc7 => intro ρ' hρ hR; exact sum_n mb p hw hn1 hn2 (by omega) (hls.mono hρ) (hms.mono hρ) (Den.zero hw) d d'
              case hin7 => repeat' (first | exact Cover.nil | exact Take.here | apply Cover.cons | apply Take.there)
              rintro _ _ ⟨a2, c2, out, co, T, rfl, rfl, ho1, u, d1, _⟩
              refine g_pure (p_move rfl) rfl ?_
              refine g_pure (p_extract rfl rfl) rfl ?_
              refine g_pure (p_extract rfl rfl) rfl ?_
              refine g_pure (p_assign rfl) rfl ?_
              refine g_pure (p_assign rfl) rfl ?_
              refine g_nil ?_
              refine g_qt ?_
              refine g_seq ?_
              refine g_region ?_
              refine g_pure (p_move rfl) rfl ?_
              refine g_pure (p_assign rfl) rfl ?_
              refine g_nil ?_
              refine g_qt ?_
              refine g_ret ?_
              refine g_qb_ret ?_
              refine g_qt_ret ?_
              exact g_post (Ho := [OwnSl 27 1 a2 n c2 (out.map encI), MkB mb p, Gr p T]) (rs := [.tmp 6]) rfl (.tmp rfl .nil) ⟨a2, c2, out, T, by rw [ho1]; rfl, by rw [ho1], ⟨u.wf, u.ext, by have := u.len; omega⟩, d1⟩ (by repeat' (first | exact Cover.nil | exact Take.here | apply Cover.cons | apply Take.there))
            · refine g_seq ?_
              refine g_region ?_
              refine g_pure (p_eql rfl rfl) rfl ?_
              refine g_pure (p_assign rfl) rfl ?_
              refine g_nil ?_
              refine g_qt ?_
              refine g_ifd rfl (fun a7 => ?_) (fun a7 => ?_)
              · subst a7
                refine g_seq ?_
                refine g_region ?_
                refine g_pure (p_move rfl) rfl ?_
                refine g_pure (p_move rfl) rfl ?_
                refine g_pure (p_move rfl) rfl ?_
                refine g_call (Hin := []) (Hr := ?hr8) (R := ?rr8) rfl rfl rfl ?hin8 ?hc8 ?hk8
                case hin8 => repeat' (first | exact Cover.nil | exact Take.here | apply Cover.cons | apply Take.there)
                case hc8 => intro ρ' hρ hR; exact nots_n hn2 (i64_of hw d') (by omega) (hms.mono hρ)
                rintro _ _ ⟨na, nc, rfl, rfl⟩
                refine g_call (Hin := [MkB mb p, Gr p S]) (Hr := ?hr9) (R := ?rr9) rfl rfl rfl ?hin9 ?hc9 ?hk9
                case hin9 => repeat' (first | exact Cover.nil | exact Take.here | apply Cover.cons | apply Take.there)
                case hc9 => intro ρ' hρ hR; exact sum_n mb p hw hn1 (by rw [List.length_map]; exact hn2) (by omega) (hls.mono hρ) (RSl.of_own (Take.ro (A := OwnSl 27 1 na n nc ((ms.map nt).map encI)) (by repeat' (first | exact Take.here | apply Take.there)) hR)) (Den.one hw) d d'.not
                rintro _ _ ⟨a2, c2, out, co, T, rfl, rfl, ho1, u, d1, _⟩
                refine g_pure (p_move rfl) rfl ?_
                refine g_pure (p_extract rfl rfl) rfl ?_
                refine g_pure (p_extract rfl rfl) rfl ?_
                refine g_pure (p_assign rfl) rfl ?_
                refine g_pure (p_assign rfl) rfl ?_
                refine g_nil ?_
                refine g_qt ?_
                refine g_seq ?_
                refine g_region ?_
                refine g_pure (p_move rfl) rfl ?_
                refine g_pure (p_assign rfl) rfl ?_
                refine g_nil ?_
                refine g_qt ?_
                refine g_ret ?_
                refine g_qb_ret ?_
                refine g_qt_ret ?_
                exact g_post (Ho := [OwnSl 27 1 a2 n c2 (out.map encI), MkB mb p, Gr p T]) (rs := [.tmp 6]) rfl (.tmp rfl .nil) ⟨a2, c2, out, T, by rw [ho1]; rfl, by rw [ho1], ⟨u.wf, u.ext, by have := u.len; omega⟩, d1⟩ (by repeat' (first | exact Cover.nil | exact Take.here | apply Cover.cons | apply Take.there))
              · refine g_seq ?_
                refine g_region ?_
                refine g_pure (p_eql rfl rfl) rfl ?_
                refine g_pure (p_assign rfl) rfl ?_
                refine g_nil ?_
                refine g_qt ?_
                refine g_ifd rfl (fun a8 => ?_) (fun a8 => ?_)
                · subst a8
                  obtain rfl : n = 16 := ho.word (by decide) (by decide)
                  refine g_seq ?_
                  refine g_region ?_
                  refine g_pure (p_move rfl) rfl ?_
                  refine g_pure (p_move rfl) rfl ?_
                  refine g_pure (p_move rfl) rfl ?_
                  refine g_call (Hin := ?hi10) (Hr := ?hr10) (R := ?rr10) rfl rfl rfl ?hin10 ?hc10 ?hk10
                  case hc10 => intro ρ' hρ hR; exact product_n mb p hw hn1 hn2 (by omega) (by omega) (hls.mono hρ) (hms.mono hρ) d d'
                  case hin10 => repeat' (first | exact Cover.nil | exact Take.here | apply Cover.cons | apply Take.there)
                  rintro _ _ ⟨a2, c2, out, T, rfl, rfl, ho1, u, d1⟩
                  refine g_pure (p_assign rfl) rfl ?_
                  refine g_nil ?_
                  refine g_qt ?_
                  refine g_ret ?_
                  refine g_qb_ret ?_
                  refine g_qt_ret ?_
                  exact g_post (Ho := [OwnSl 27 1 a2 16 c2 (out.map encI), MkB mb p, Gr p T]) (rs := [.tmp 6]) rfl (.tmp rfl .nil) ⟨a2, c2, out, T, by rw [ho1]; rfl, by rw [ho1], ⟨u.wf, u.ext, by have := u.len; omega⟩, d1.congr fun i => by unfold operateF; simp only [hfl]; rfl⟩ (by repeat' (first | exact Cover.nil | exact Take.here | apply Cover.cons | apply Take.there))
                · refine g_seq ?_
                  refine g_region ?_
                  refine g_pure (p_eql rfl rfl) rfl ?_
                  refine g_pure (p_assign rfl) rfl ?_
                  refine g_nil ?_
                  refine g_qt ?_
                  refine g_ifd rfl (fun a9 => ?_) (fun a9 => ?_)
                  · subst a9
                    obtain rfl : n = 16 := ho.word (by decide) (by decide)
                    refine g_seq ?_
                    refine g_region ?_
                    refine g_pure (p_move rfl) rfl ?_
                    refine g_pure (p_move rfl) rfl ?_
                    refine g_pure (p_move rfl) rfl ?_
                    refine g_call (Hin := ?hi11) (Hr := ?hr11) (R := ?rr11) rfl rfl rfl ?hin11 ?hc11 ?hk11
                    case hc11 => intro ρ' hρ hR; exact division_ok mb p hw hn1 hn2 (by omega) (hls.mono hρ) (hms.mono hρ) d d'
                    case hin11 => repeat' (first | exact Cover.nil | exact Take.here | apply Cover.cons | apply Take.there)
                    rintro _ _ ⟨a2, c2, out, a3, c3, out2, T, rfl, rfl, ho1, ho2, u, d1, _⟩
                    refine g_pure (p_move rfl) rfl ?_
                    refine g_pure (p_extract rfl rfl) rfl ?_
                    refine g_pure (p_extract rfl rfl) rfl ?_
                    refine g_pure (p_assign rfl) rfl ?_
                    refine g_pure (p_assign rfl) rfl ?_
                    refine g_nil ?_
                    refine g_qt ?_
                    refine g_seq ?_
                    refine g_region ?_
                    refine g_pure (p_move rfl) rfl ?_
                    refine g_pure (p_assign rfl) rfl ?_
                    refine g_nil ?_
                    refine g_qt ?_
                    refine g_ret ?_
                    refine g_qb_ret ?_
                    refine g_qt_ret ?_
                    exact g_post (Ho := [OwnSl 27 1 a2 16 c2 (out.map encI), MkB mb p, Gr p T]) (rs := [.tmp 6]) rfl (.tmp rfl .nil) ⟨a2, c2, out, T, by rw [ho1]; rfl, by rw [ho1], u, d1⟩ (by repeat' (first | exact Cover.nil | exact Take.here | apply Cover.cons | apply Take.there))
                  · refine g_seq ?_
                    refine g_region ?_
                    refine g_pure (p_eql rfl rfl) rfl ?_
                    refine g_pure (p_assign rfl) rfl ?_
                    refine g_nil ?_
                    refine g_qt ?_
                    refine g_ifd rfl (fun a10 => ?_) (fun a10 => ?_)
                    · subst a10
                      obtain rfl : n = 16 := ho.word (by decide) (by decide)
                      refine g_seq ?_
                      refine g_region ?_
                      refine g_pure (p_move rfl) rfl ?_
                      refine g_pure (p_move rfl) rfl ?_
                      refine g_pure (p_move rfl) rfl ?_
                      refine g_call (Hin := ?hi12) (Hr := ?hr12) (R := ?rr12) rfl rfl rfl ?hin12 ?hc12 ?hk12
                      case hc12 => intro ρ' hρ hR; exact division_ok mb p hw hn1 hn2 (by omega) (hls.mono hρ) (hms.mono hρ) d d'
                      case hin12 => repeat' (first | exact Cover.nil | exact Take.here | apply Cover.cons | apply Take.there)
                      rintro _ _ ⟨a2, c2, out2, a3, c3, out, T, rfl, rfl, ho2, ho1, u, _, d1⟩
                      refine g_pure (p_move rfl) rfl ?_
                      refine g_pure (p_extract rfl rfl) rfl ?_
                      refine g_pure (p_extract rfl rfl) rfl ?_
                      refine g_pure (p_assign rfl) rfl ?_
                      refine g_pure (p_assign rfl) rfl ?_
                      refine g_nil ?_
                      refine g_qt ?_
                      refine g_seq ?_
                      refine g_region ?_
                      refine g_pure (p_move rfl) rfl ?_
                      refine g_pure (p_assign rfl) rfl ?_
                      refine g_nil ?_
                      refine g_qt ?_
                      refine g_ret ?_
                      refine g_qb_ret ?_
                      refine g_qt_ret ?_
                      exact g_post (Ho := [OwnSl 27 1 a3 16 c3 (out.map encI), MkB mb p, Gr p T]) (rs := [.tmp 6]) rfl (.tmp rfl .nil) ⟨a3, c3, out, T, by rw [ho1]; rfl, by rw [ho1], u, d1⟩ (by repeat' (first | exact Cover.nil | exact Take.here | apply Cover.cons | apply Take.there))
                    · have h11 : 11 ≤ op ∧ op ≤ 16 := by have := ho.hop; omega
                      refine g_skip ?_
                      refine g_qb ?_
                      refine g_qt ?_
                      refine g_seq ?_
                      refine g_region ?_
                      refine g_pure (p_move rfl) rfl ?_
                      refine g_pure (p_move rfl) rfl ?_
                      refine g_pure (p_move rfl) rfl ?_
                      refine g_pure (p_move rfl) rfl ?_
                      refine g_call (Hin := ?hi13) (Hr := ?hr13) (R := ?rr13) rfl rfl rfl ?hin13 ?hc13 ?hk13
                      case hc13 => intro ρ' hρ hR; exact compare_ok mb p hw h11 hn0 hn16 hn1 hn2 (by omega) (hls.mono hρ) (hms.mono hρ) d d'
                      case hin13 => repeat' (first | exact Cover.nil | exact Take.here | apply Cover.cons | apply Take.there)
                      rintro _ _ ⟨l, T, rfl, rfl, u, d1⟩
                      refine g_eff (e_bs (xs := [.tmp 120]) rfl rfl rfl (by rfl) (by rfl) rfl (by rfl)) rfl (fun _ _ => ?_)
                      rintro ⟨b121, rfl, rfl⟩
                      refine g_pure (p_assign rfl) rfl ?_
                      refine g_nil ?_
                      refine g_qt ?_
                      refine g_ret ?_
                      refine own_of_lit (e := 27) (by repeat' (first | exact Take.here | apply Take.there)) ?_
                      exact g_post (rs := [.tmp 6]) rfl (.tmp rfl .nil) ⟨_, _, [l], T, rfl, rfl, ⟨u.wf, u.ext, by have := u.len; omega⟩, (DenL.one d1).congr fun i => by unfold operateF; rw [if_neg (by omega), if_neg (by omega), if_neg (by omega), if_neg (by omega), if_neg (by omega), if_neg (by omega), if_neg (by omega), if_neg (by omega), if_neg (by omega), if_neg (by omega)]⟩ (by repeat' (first | exact Cover.nil | exact Take.here | apply Cover.cons | apply Take.there))
end Go.Proofs.Ytkebblmmgcgjkaa
