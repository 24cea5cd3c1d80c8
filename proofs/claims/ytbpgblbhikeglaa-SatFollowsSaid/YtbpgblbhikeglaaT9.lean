/- Chapter 37: Unit. Conditions: none. -/
import Derived.Test.YtbpgblbhikeglaaT8
namespace Go.Z.Sat
set_option linter.unusedVariables false
set_option linter.unusedSimpArgs false
set_option linter.unusedSectionVars false
open Go Go.Z Go.Proofs.Ytbpgblbhikeglaa
def ulit (b : As) (i : Nat) : List Int := match b (i + 1) with
  | some true => [((i + 1 : Nat) : Int)]
  | some false => [-((i + 1 : Nat) : Int)]
  | none => []
def ulits (n : Nat) (b : As) : List Int := (List.range n).flatMap (ulit b)
theorem ulits_succ (n : Nat) (b : As) : ulits (n + 1) b = ulits n b ++ ulit b n := by simp [ulits, List.range_succ]
theorem ulits_len (n : Nat) (b : As) : (ulits n b).length ≤ n := by
  induction n with
  | zero => simp [ulits]
  | succ n ih =>
    rw [ulits_succ, List.length_append]
    have : (ulit b n).length ≤ 1 := by unfold ulit; split <;> simp
    omega
def uout (n : Nat) : Option As → List Int
  | none => []
  | some b => ulits n b
def UR (F : Fm) (ls : List Int) (r : Option As) : Prop := ((setF (fun _ => none) [] ls).1 = false ∧ r = none) ∨ ((setF (fun _ => none) [] ls).1 = true ∧ PR F (setF (fun _ => none) [] ls).2.1 r)
/-- what Unit answers -/
def UnS (n : Int) (F : Fm) (ls : List Int) (out : List Int) (ok : Bool) (e : Int) : Prop :=
  (check1 n F ≠ 0 ∧ out = [] ∧ ok = false ∧ e = check1 n F) ∨ (check1 n F = 0 ∧ ls.all (okB n) = false ∧ out = [] ∧ ok = false ∧ e = 14) ∨
  (check1 n F = 0 ∧ ls.all (okB n) = true ∧ e = 0 ∧ ∃ r, UR F ls r ∧ out = uout n.toNat r ∧ ok = r.isSome)
theorem UR.unique {n : Nat} {F : Fm} (hF : okF n F) {ls : List Int} {r s : Option As} (h : UR F ls r) (k : UR F ls s) : r = s := by
  rcases h with ⟨h1, rfl⟩ | ⟨h1, h2⟩ <;> rcases k with ⟨k1, rfl⟩ | ⟨k1, k2⟩
  · rfl
  · rw [h1] at k1; cases k1
  · rw [h1] at k1; cases k1
  · exact h2.unique hF k2
theorem UnS.unique {n : Int} {F : Fm} {ls o1 o2 : List Int} {b1 b2 : Bool} {e1 e2 : Int} (hO : check1 n F = 0 → okF n.toNat F) (h : UnS n F ls o1 b1 e1) (k : UnS n F ls o2 b2 e2) : o1 = o2 ∧ b1 = b2 ∧ e1 = e2 := by
  rcases h with ⟨h1, rfl, rfl, rfl⟩ | ⟨h1, h2, rfl, rfl, rfl⟩ | ⟨h1, h2, rfl, r, h3, rfl, rfl⟩
  · rcases k with ⟨k1, rfl, rfl, rfl⟩ | ⟨k1, k2, rfl, rfl, rfl⟩ | ⟨k1, k2, rfl, s, k3, rfl, rfl⟩
    · exact ⟨rfl, rfl, rfl⟩
    · exact absurd k1 h1
    · exact absurd k1 h1
  · rcases k with ⟨k1, rfl, rfl, rfl⟩ | ⟨k1, k2, rfl, rfl, rfl⟩ | ⟨k1, k2, rfl, s, k3, rfl, rfl⟩
    · exact absurd h1 k1
    · exact ⟨rfl, rfl, rfl⟩
    · rw [h2] at k2; cases k2
  · rcases k with ⟨k1, rfl, rfl, rfl⟩ | ⟨k1, k2, rfl, rfl, rfl⟩ | ⟨k1, k2, rfl, s, k3, rfl, rfl⟩
    · exact absurd h1 k1
    · rw [h2] at k2; cases k2
    · cases h3.unique (hO h1) k3; exact ⟨rfl, rfl, rfl⟩
theorem setF_ti {n : Nat} : ∀ (ls : List Int) (V : As) (T : List Int), TI n V T → (∀ l ∈ ls, okL n l) → TI n (setF V T ls).2.1 (setF V T ls).2.2
  | [], V, T, h, _ => h
  | l :: ls, V, T, h, hl => by
    rw [setF_cons]
    cases hv : lv V l with
    | none => exact setF_ti ls _ _ (h.set (hl l (by simp)) hv) fun x hx => hl x (by simp [hx])
    | some y => cases y with
      | true => exact setF_ti ls _ _ h fun x hx => hl x (by simp [hx])
      | false => exact h
theorem okB_okL {n : Nat} {l : Int} (h : okB n l = true) : okL n l := by
  unfold okB at h
  simp at h
  exact ⟨h.1, by omega, by omega⟩
end Go.Z.Sat
namespace Go.Proofs.Ytbpgblbhikeglaa
open Go Go.Z Go.Z.Sat

def UnP (n : Int) (F : Fm) (ls : List Int) (v : Value) (H : List Assn) : Prop := ∃ out a c ok e, UnS n F ls out ok e ∧ v = .tuple #[.slice a out.length c, .bool ok, .int .i64 e] ∧ H = [OwnSl 3 1 a out.length c (out.map encI)]

theorem unit_ok {ρ : Nat → Obj → Prop} (n : Int) (hn : I64 n) (ca : Option Addr) (cc : Nat) (F : Fm) (hF : FmR ρ ca F) (hO : check1 n F = 0 → Ok n.toNat F) (la : Option Addr) (lc : Nat) (ls : List Int) (hls : RSl ρ 1 la ls.length (ls.map encI)) (hlen : ls.length ≤ 9223372036854775806) (hI : ∀ l ∈ ls, I64 l) :
    Con Try.prog ρ 13 #[.agg #[.int .i64 n, .slice ca F.length cc], .slice la ls.length lc] [] (UnP n F ls) := by
  refine con_intro Try.func13 Try.call13 rfl Try.ntmps13 rfl (L := [(0, _), (1, _)]) rfl fun w hh => ?_
  refine g_seq ?_
  refine g_region ?_
  refine g_eff (e_box rfl (by rfl)) rfl (fun _ _ => ?_)
  rintro ⟨b2, rfl, rfl⟩
  refine g_pure (p_assign rfl) rfl ?_
  refine g_pure (p_assign rfl) rfl ?_
  refine g_pure (p_assign rfl) rfl ?_
  refine g_nil ?_
  refine g_qt ?_
  refine g_seq ?_
  refine g_seq ?_
  refine g_region ?_
  first | refine g_pure (p_loadO (by rfl) rfl (by first | (apply Has.own; (repeat' (first | exact Take.here | apply Take.there)); done) | exact Has.ro (by assumption)) (by rfl)) rfl ?_ | refine g_pure (p_loadN (by rfl) rfl (by first | (apply Has.own; (repeat' (first | exact Take.here | apply Take.there)); done) | exact Has.ro (by assumption)) (by first | rfl | assumption)) rfl ?_
  refine g_call (Hin := []) (Hr := ?hr1) (R := ?rr1) rfl rfl rfl ?hin1 ?hc1 ?hk1
  case hin1 => repeat' (first | exact Cover.nil | exact Take.here | apply Cover.cons | apply Take.there)
  case hc1 => intro ρ' hρ hR; exact check_ok n hn ca cc F (hF.mono hρ)
  rintro _ _ ⟨rfl, rfl⟩
  refine g_pure (p_assign rfl) rfl ?_
  refine g_nil ?_
  refine g_qt ?_
  refine g_seq ?_
  refine g_region ?_
  refine g_pure (p_move rfl) rfl ?_
  refine g_pure (p_neq rfl rfl) rfl ?_
  refine g_nil ?_
  refine g_qt ?_
  refine g_ifnd rfl (fun c => ?_) (fun c => ?_)
  · refine g_seq ?_
    refine g_region ?_
    refine g_pure (p_move rfl) rfl ?_
    refine g_pure (p_assign rfl) rfl ?_
    refine g_pure (p_assign rfl) rfl ?_
    refine g_pure (p_assign rfl) rfl ?_
    refine g_nil ?_
    refine g_qt ?_
    refine g_ret ?_
    refine g_qt_ret ?_
    refine g_ownnil (e := 3) (size := 1) ?_
    exact g_post (rs := [.tmp 4, .tmp 5, .tmp 6]) rfl (.tmp rfl (.tmp rfl (.tmp rfl .nil))) ⟨[], none, 0, false, check1 n F, .inl ⟨c, rfl, rfl, rfl⟩, rfl, rfl⟩ (by repeat' (first | exact Cover.nil | exact Take.here | apply Cover.cons | apply Take.there))
  · have hO' := hO c
    have hnn := check1_nonneg c
    obtain ⟨m, rfl⟩ : ∃ m : Nat, n = m := ⟨n.toNat, by omega⟩
    rw [Int.toNat_natCast] at hO'
    refine g_skip ?_
    refine g_qt ?_
    refine g_seq ?_
    refine g_seq ?_
    refine g_region ?_
    refine g_pure (p_move rfl) rfl ?_
    refine g_pure (p_len (by rfl) rfl) rfl ?_
    refine g_pure (p_move rfl) rfl ?_
    refine g_nil ?_
    refine g_qt ?_
    refine g_block ?_
    refine g_loop (fun j : Nat => [(1, .slice la ls.length lc), (2, .pointer (some ⟨b2, 0, none⟩)), (18, .slice la ls.length lc), (19, .int .i64 ls.length), (20, .int .i64 j)])
      (fun _ => [Blk b2 (.cells [.int .i64 m, .slice ca F.length cc].toArray 24 (0, 0))]) (fun j => j ≤ ls.length ∧ (ls.take j).all (okB m) = true) (fun j => ls.length - j) 0 ⟨Nat.zero_le _, rfl⟩ (by repeat (first | exact trivial | refine ⟨by rfl, ?_⟩)) (by repeat' (first | exact Cover.nil | exact Take.here | apply Cover.cons | apply Take.there)) ?_
    rintro j ⟨hj, hall⟩
    refine g_seq ?_
    refine g_region ?_
    refine g_pure (p_lss rfl rfl) rfl ?_
    refine g_nil ?_
    refine g_qt ?_
    refine g_seq ?_
    refine g_ifd rfl (fun q => ?_) (fun q => ?_)
    · have hjl : j < ls.length := by omega
      obtain ⟨_, bl, ol, kl, Tl, fl, hl⟩ := hls
      obtain ⟨l1, l2, l3⟩ := hl (by omega)
      have x1 : kl[ol + (j : Int).toNat * 1]? = some (encI ls[j]) := flat2 l3 (i := j) (mapI _ hjl) (by simp)
      have hj64 := hI _ (List.getElem_mem hjl)
      unfold I64 at hj64
      have hfail : okB m ls[j] = false → ls.all (okB m) = false := fun h => by
        rw [← Bool.not_eq_true, List.all_eq_true]
        intro hh
        rw [hh _ (List.getElem_mem hjl)] at h; cases h
      have hgo : okB m ls[j] = true → (ls.take (j + 1)).all (okB m) = true := take_all _ _ _ hjl hall
      have hfin : okB m ls[j] = false → UnS m F ls [] false 14 := fun h => .inr (.inl ⟨c, hfail h, rfl, rfl, rfl⟩)
      generalize hlk : ls[j] = l at *
      refine g_skip ?_
      refine g_qt ?_
      refine g_seq ?_
      refine g_block ?_
      refine g_seq ?_
      refine g_region ?_
      refine g_pure (p_indexAddr rfl rfl (by omega) (fun _ => l1)) rfl ?_
      refine g_pure (p_load (by rfl) rfl (Has.ro l2) x1) rfl ?_
      refine g_pure (p_assign rfl) rfl ?_
      refine g_nil ?_
      refine g_qt ?_
      refine g_seq ?_
      refine g_region ?_
      refine g_pure (p_move rfl) rfl ?_
      refine g_pure (p_eql rfl rfl) rfl ?_
      refine g_pure (p_move rfl) rfl ?_
      refine g_splitd rfl rfl (fun y1 => ?_) (fun y1 => ?_)
      · refine g_no rfl rfl rfl rfl ?_
        refine g_no rfl rfl rfl rfl ?_
        refine g_no rfl rfl rfl rfl ?_
        refine g_no rfl rfl rfl rfl ?_
        first | refine g_pure (p_pickt rfl rfl) rfl ?_ | refine g_pure (p_pickf rfl rfl) rfl ?_
        refine g_pure (p_move rfl) rfl ?_
        refine g_no rfl rfl rfl rfl ?_
        refine g_no rfl rfl rfl rfl ?_
        refine g_no rfl rfl rfl rfl ?_
        refine g_no rfl rfl rfl rfl ?_
        refine g_no rfl rfl rfl rfl ?_
        first | refine g_pure (p_pickt rfl rfl) rfl ?_ | refine g_pure (p_pickf rfl rfl) rfl ?_
        refine g_nil ?_
        refine g_qt ?_
        refine g_ift rfl ?_
        refine g_seq ?_
        refine g_region ?_
        refine g_pure (p_assign rfl) rfl ?_
        refine g_pure (p_assign rfl) rfl ?_
        refine g_pure (p_assign rfl) rfl ?_
        refine g_nil ?_
        refine g_qt ?_
        refine g_ret ?_
        refine g_qb_ret ?_
        refine g_qt_ret ?_
        refine g_qn_ret ?_
        refine g_qb_ret ?_
        refine g_qt_ret ?_
        refine g_ownnil (e := 3) (size := 1) ?_
        exact g_post (rs := [.tmp 4, .tmp 5, .tmp 6]) rfl (.tmp rfl (.tmp rfl (.tmp rfl .nil))) ⟨[], none, 0, false, 14, hfin (by simp [okB, y1]), rfl, rfl⟩ (by repeat' (first | exact Cover.nil | exact Take.here | apply Cover.cons | apply Take.there))
      · refine g_yes rfl rfl ?_
        refine g_pure (p_move rfl) rfl ?_
        refine g_yes rfl rfl ?_
        refine g_pure (p_fieldAddr rfl) rfl ?_
        refine g_yes rfl rfl ?_
        refine g_pure (p_load (by rfl) rfl (by first | (apply Has.own; (repeat' (first | exact Take.here | apply Take.there)); done) | exact Has.ro (by assumption)) (by first | rfl | assumption)) rfl ?_
        refine g_yes rfl rfl ?_
        refine g_pure (p_gtr rfl rfl) rfl ?_
        first | refine g_pure (p_pickt rfl rfl) rfl ?_ | refine g_pure (p_pickf rfl rfl) rfl ?_
        refine g_pure (p_move rfl) rfl ?_
        refine g_splitd rfl rfl (fun y2 => ?_) (fun y2 => ?_)
        · refine g_no rfl rfl rfl rfl ?_
          refine g_no rfl rfl rfl rfl ?_
          refine g_no rfl rfl rfl rfl ?_
          refine g_no rfl rfl rfl rfl ?_
          refine g_no rfl rfl rfl rfl ?_
          first | refine g_pure (p_pickt rfl rfl) rfl ?_ | refine g_pure (p_pickf rfl rfl) rfl ?_
          refine g_nil ?_
          refine g_qt ?_
          refine g_ift rfl ?_
          refine g_seq ?_
          refine g_region ?_
          refine g_pure (p_assign rfl) rfl ?_
          refine g_pure (p_assign rfl) rfl ?_
          refine g_pure (p_assign rfl) rfl ?_
          refine g_nil ?_
          refine g_qt ?_
          refine g_ret ?_
          refine g_qb_ret ?_
          refine g_qt_ret ?_
          refine g_qn_ret ?_
          refine g_qb_ret ?_
          refine g_qt_ret ?_
          refine g_ownnil (e := 3) (size := 1) ?_
          exact g_post (rs := [.tmp 4, .tmp 5, .tmp 6]) rfl (.tmp rfl (.tmp rfl (.tmp rfl .nil))) ⟨[], none, 0, false, 14, hfin (by simp [okB, y2]), rfl, rfl⟩ (by repeat' (first | exact Cover.nil | exact Take.here | apply Cover.cons | apply Take.there))
        · refine g_yes rfl rfl ?_
          refine g_pure (p_move rfl) rfl ?_
          refine g_yes rfl rfl ?_
          refine g_pure (p_fieldAddr rfl) rfl ?_
          refine g_yes rfl rfl ?_
          refine g_pure (p_load (by rfl) rfl (by first | (apply Has.own; (repeat' (first | exact Take.here | apply Take.there)); done) | exact Has.ro (by assumption)) (by first | rfl | assumption)) rfl ?_
          refine g_yes rfl rfl ?_
          first | refine g_pure (p_negi rfl (by omega)) rfl ?_ | refine g_pure (p_neg rfl) rfl ?_
          refine g_yes rfl rfl ?_
          refine g_pure (p_lss rfl rfl) rfl ?_
          first | refine g_pure (p_pickt rfl rfl) rfl ?_ | refine g_pure (p_pickf rfl rfl) rfl ?_
          refine g_nil ?_
          refine g_qt ?_
          refine g_ifd rfl (fun y3 => ?_) (fun y3 => ?_)
          · refine g_seq ?_
            refine g_region ?_
            refine g_pure (p_assign rfl) rfl ?_
            refine g_pure (p_assign rfl) rfl ?_
            refine g_pure (p_assign rfl) rfl ?_
            refine g_nil ?_
            refine g_qt ?_
            refine g_ret ?_
            refine g_qb_ret ?_
            refine g_qt_ret ?_
            refine g_qn_ret ?_
            refine g_qb_ret ?_
            refine g_qt_ret ?_
            refine g_ownnil (e := 3) (size := 1) ?_
            exact g_post (rs := [.tmp 4, .tmp 5, .tmp 6]) rfl (.tmp rfl (.tmp rfl (.tmp rfl .nil))) ⟨[], none, 0, false, 14, hfin (by simp [okB, y3]), rfl, rfl⟩ (by repeat' (first | exact Cover.nil | exact Take.here | apply Cover.cons | apply Take.there))
          · refine g_skip ?_
            refine g_qb ?_
            refine g_qt ?_
            refine g_region ?_
            first | refine g_pure (p_addi rfl rfl (by omega)) rfl ?_ | refine g_pure (p_add rfl rfl) rfl ?_
            refine g_pure (p_move rfl) rfl ?_
            refine g_nil ?_
            refine g_qn ?_
            exact g_next (j + 1) (by repeat (first | exact trivial | refine ⟨by rfl, ?_⟩)) (by repeat' (first | exact Cover.nil | exact Take.here | apply Cover.cons | apply Take.there)) ⟨by omega, hgo (by simp [okB, y1, y2, y3])⟩ (by omega)
    · have hje : j = ls.length := by omega
      rw [hje, List.take_length] at hall
      have hokl : ∀ l ∈ ls, okL m l := fun l hl => okB_okL (List.all_eq_true.1 hall l hl)
      refine g_exit ?_
      refine g_qt_exit ?_
      refine g_qn_exit ?_
      refine g_qb_exit ?_
      refine g_qt ?_
      refine g_seq ?_
      refine g_region ?_
      first | refine g_pure (p_loadO (by rfl) rfl (by first | (apply Has.own; (repeat' (first | exact Take.here | apply Take.there)); done) | exact Has.ro (by assumption)) (by rfl)) rfl ?_ | refine g_pure (p_loadN (by rfl) rfl (by first | (apply Has.own; (repeat' (first | exact Take.here | apply Take.there)); done) | exact Has.ro (by assumption)) (by first | rfl | assumption)) rfl ?_
      refine g_call (Hin := []) (Hr := ?hr2) (R := ?rr2) rfl rfl rfl ?hin2 ?hc2 ?hk2
      case hin2 => repeat' (first | exact Cover.nil | exact Take.here | apply Cover.cons | apply Take.there)
      case hc2 => intro ρ' hρ hR; exact new_ok hO' ca cc (hF.mono hρ)
      rintro _ _ ⟨s, p, hp1, hp2, hp3, rfl, rfl⟩
      subst hp1
      subst hp3
      have hti := (setF_ti ls _ _ (TI.nil p.n) hokl).inv (F := F)
      have hset : setF (fun _ => none) [] ls = ((setF (fun _ => none) [] ls).1, (setF (fun _ => none) [] ls).2.1, (setF (fun _ => none) [] ls).2.2) := rfl
      obtain ⟨r0, V0, T0, hs0⟩ : ∃ r0 V0 T0, setF (fun _ => none) [] ls = (r0, V0, T0) := ⟨_, _, _, rfl⟩
      rw [hs0] at hti
      dsimp only at hti
      refine g_pure (p_assign rfl) rfl ?_
      refine g_nil ?_
      refine g_qt ?_
      refine g_seq ?_
      refine g_seq ?_
      refine g_join (fun y : Option As × As × List Int × Nat => [(2, .pointer (some ⟨b2, 0, none⟩)), (10, .pointer (some ⟨s, 0, none⟩)), (55, .bool y.1.isNone)])
        (fun y => [Blk b2 (.cells [.int .i64 p.n, .slice p.ca F.length cc].toArray 24 (0, 0)), Sv s p y.2.1 y.2.2.1 (trues F y.2.1) y.2.2.2]) (fun y => UR F ls y.1 ∧ ∀ b, y.1 = some b → y.2.1 = b) ?_ ?_
      · refine g_region ?_
        refine g_pure (p_move rfl) rfl ?_
        refine g_pure (p_move rfl) rfl ?_
        refine g_call (Hin := [Sv s p (fun _ => none) [] (trues F (fun _ => none)) 0]) (Hr := ?hr3) (R := ?rr3) rfl rfl rfl ?hin3 ?hc3 ?hk3
        case hin3 => repeat' (first | exact Cover.nil | exact Take.here | apply Cover.cons | apply Take.there)
        case hc3 => intro ρ' hρ hR; exact set_at hO' hp2 (Own2.ro hR.1) (TI.nil p.n).cnt hs0 (hls.mono hρ) hlen hokl
        rintro _ _ ⟨rfl, rfl⟩
        refine g_pure (p_not rfl) rfl ?_
        refine g_pure (p_move rfl) rfl ?_
        cases r0 with
        | false =>
          refine g_no rfl rfl rfl rfl ?_
          refine g_no rfl rfl rfl rfl ?_
          refine g_no rfl rfl rfl rfl ?_
          first | refine g_pure (p_pickt rfl rfl) rfl ?_ | refine g_pure (p_pickf rfl rfl) rfl ?_
          refine g_pure (p_move rfl) rfl ?_
          refine g_no rfl rfl rfl rfl ?_
          refine g_no rfl rfl rfl rfl ?_
          refine g_no rfl rfl rfl rfl ?_
          first | refine g_pure (p_pickt rfl rfl) rfl ?_ | refine g_pure (p_pickf rfl rfl) rfl ?_
          refine g_nil ?_
          refine g_qn ?_
          exact g_joined (none, V0, T0, 0) (by repeat (first | exact trivial | refine ⟨by rfl, ?_⟩)) (by repeat' (first | exact Cover.nil | exact Take.here | apply Cover.cons | apply Take.there)) ⟨.inl ⟨by rw [hs0], rfl⟩, fun b h => by cases h⟩
        | true =>
          refine g_yes rfl rfl ?_
          refine g_pure (p_move rfl) rfl ?_
          refine g_yes rfl rfl ?_
          refine g_call (Hin := [Sv s p V0 T0 (trues F V0) 0]) (Hr := ?hr4) (R := ?rr4) rfl rfl rfl ?hin4 ?hc4 ?hk4
          case hin4 => repeat' (first | exact Cover.nil | exact Take.here | apply Cover.cons | apply Take.there)
          case hc4 => intro ρ' hρ hR; exact start_at hO' hp2 (Own2.ro hR.1) (hF.mono hρ) hti (Nat.zero_le _)
          rintro _ _ ⟨b3, V1, T1, rfl, rfl, hI1, hp1, hn1, hy1⟩
          refine g_yes rfl rfl ?_
          refine g_pure (p_not rfl) rfl ?_
          first | refine g_pure (p_pickt rfl rfl) rfl ?_ | refine g_pure (p_pickf rfl rfl) rfl ?_
          refine g_pure (p_move rfl) rfl ?_
          cases b3 with
          | false =>
            refine g_no rfl rfl rfl rfl ?_
            refine g_no rfl rfl rfl rfl ?_
            refine g_no rfl rfl rfl rfl ?_
            first | refine g_pure (p_pickt rfl rfl) rfl ?_ | refine g_pure (p_pickf rfl rfl) rfl ?_
            refine g_nil ?_
            refine g_qn ?_
            exact g_joined (none, V1, T1, 0) (by repeat (first | exact trivial | refine ⟨by rfl, ?_⟩)) (by repeat' (first | exact Cover.nil | exact Take.here | apply Cover.cons | apply Take.there)) ⟨.inr ⟨by rw [hs0], by rw [hs0]; exact hn1 rfl⟩, fun b h => by cases h⟩
          | true =>
            refine g_yes rfl rfl ?_
            refine g_pure (p_move rfl) rfl ?_
            refine g_yes rfl rfl ?_
            refine g_call (Hin := [Sv s p V1 T1 (trues F V1) 0]) (Hr := ?hr5) (R := ?rr5) rfl rfl rfl ?hin5 ?hc5 ?hk5
            case hin5 => repeat' (first | exact Cover.nil | exact Take.here | apply Cover.cons | apply Take.there)
            case hc5 => intro ρ' hρ hR; exact prop_at hO' hp2 (Own2.ro hR.1) (hF.mono hρ) hI1 (Nat.zero_le _) (hy1 rfl)
            rintro _ _ ⟨b4, V2, T2, d2, rfl, rfl, hI2, hp3, hn2, hy2⟩
            refine g_yes rfl rfl ?_
            refine g_pure (p_not rfl) rfl ?_
            first | refine g_pure (p_pickt rfl rfl) rfl ?_ | refine g_pure (p_pickf rfl rfl) rfl ?_
            refine g_nil ?_
            refine g_qn ?_
            cases b4 with
            | false => exact g_joined (none, V2, T2, d2) (by repeat (first | exact trivial | refine ⟨by rfl, ?_⟩)) (by repeat' (first | exact Cover.nil | exact Take.here | apply Cover.cons | apply Take.there)) ⟨.inr ⟨by rw [hs0], by rw [hs0]; exact hn2 rfl⟩, fun b h => by cases h⟩
            | true => exact g_joined (some V2, V2, T2, d2) (by repeat (first | exact trivial | refine ⟨by rfl, ?_⟩)) (by repeat' (first | exact Cover.nil | exact Take.here | apply Cover.cons | apply Take.there)) ⟨.inr ⟨by rw [hs0], by rw [hs0]; exact (hy2 rfl).2⟩, fun b h => Option.some.inj h⟩
      rintro ⟨r, V, T, d⟩ ⟨hur, hV⟩
      dsimp only at hur hV ⊢
      refine g_qt ?_
      cases r with
      | none =>
        refine g_ift rfl ?_
        refine g_seq ?_
        refine g_region ?_
        refine g_pure (p_assign rfl) rfl ?_
        refine g_pure (p_assign rfl) rfl ?_
        refine g_pure (p_assign rfl) rfl ?_
        refine g_nil ?_
        refine g_qt ?_
        refine g_ret ?_
        refine g_qt_ret ?_
        refine g_ownnil (e := 3) (size := 1) ?_
        exact g_post (rs := [.tmp 4, .tmp 5, .tmp 6]) rfl (.tmp rfl (.tmp rfl (.tmp rfl .nil))) ⟨[], none, 0, false, 0, .inr (.inr ⟨c, hall, rfl, none, hur, rfl, rfl⟩), rfl, rfl⟩ (by repeat' (first | exact Cover.nil | exact Take.here | apply Cover.cons | apply Take.there))
      | some b =>
        have hVb := hV b rfl
        subst hVb
        refine g_iff rfl ?_
        refine g_skip ?_
        refine g_qt ?_
        refine g_seq ?_
        refine g_region ?_
        refine g_pure (p_assign rfl) rfl ?_
        refine g_nil ?_
        refine g_qt ?_
        refine g_seq ?_
        refine g_seq ?_
        refine g_region ?_
        refine g_pure (p_assign rfl) rfl ?_
        refine g_nil ?_
        refine g_qt ?_
        refine g_block ?_
        refine g_open (.there .here) ?_
        rintro _ ⟨va, vc, ta, tc, xa, xc, rfl⟩
        refine g_own (a1 := va) (k := p.n + 1) (.there .here) (fun _ h _ _ => absurd h (by omega)) ?_
        rintro gv curv rfl v1 v2 v3 v4 v5
        refine g_ownnil (e := 3) (size := 1) ?_
        refine g_loop (fun y : Nat × Option Addr × Nat => [(2, .pointer (some ⟨b2, 0, none⟩)), (10, .pointer (some ⟨s, 0, none⟩)), (11, .slice y.2.1 (ulits y.1 V).length y.2.2), (12, .int .i64 ((y.1 : Int) + 1))])
          (fun y => [OwnSl 3 1 y.2.1 (ulits y.1 V).length y.2.2 ((ulits y.1 V).map encI), Blk gv (.cells curv.toArray 3 (0, 0)), Blk s (.cells [.int .i64 p.n, .slice p.ca p.m p.cc, .slice (some ⟨gv, 0, none⟩) (p.n + 1) vc, .slice ta T.length tc, .slice p.ua (2 * p.n + 2) p.uc, .slice xa p.m xc, .int .i64 ((trues F V).count 0 : Nat), .int .i64 d].toArray 57 (0, 0)),
            Blk b2 (.cells [.int .i64 p.n, .slice p.ca F.length cc].toArray 24 (0, 0))]) (fun y => y.1 ≤ p.n) (fun y => p.n - y.1) (0, none, 0) (Nat.zero_le _) (by repeat (first | exact trivial | refine ⟨by rfl, ?_⟩)) (by repeat' (first | exact Cover.nil | exact Take.here | apply Cover.cons | apply Take.there)) ?_
        rintro ⟨k, oa, oc⟩ hk
        dsimp only at hk ⊢
        have hvars := hO'.vars
        have hul := ulits_len k V
        have hus := ulits_succ k V
        refine g_seq ?_
        refine g_seq ?_
        refine g_region ?_
        refine g_pure (p_move rfl) rfl ?_
        refine g_pure (p_fieldAddr rfl) rfl ?_
        refine g_pure (p_load (by rfl) rfl (by first | (apply Has.own; (repeat' (first | exact Take.here | apply Take.there)); done) | exact Has.ro (by assumption)) (by first | rfl | assumption)) rfl ?_
        refine g_pure (p_leq rfl rfl) rfl ?_
        refine g_nil ?_
        refine g_qt ?_
        refine g_ifd rfl (fun h => ?_) (fun h => ?_)
        · have xu : curv[0 + ((k : Int) + 1).toNat * 1]? = some (.int .i64 (vcode (V (k + 1)))) := own_at (k := k + 1) v4 (by omega) (vcells_at V (by omega))
          refine g_skip ?_
          refine g_qt ?_
          refine g_seq ?_
          refine g_block ?_
          refine g_seq ?_
          refine g_region ?_
          refine g_pure (p_move rfl) rfl ?_
          refine g_pure (p_nilCheck rfl) rfl ?_
          refine g_pure (p_fieldAddr rfl) rfl ?_
          refine g_pure (p_load (by rfl) rfl (by first | (apply Has.own; (repeat' (first | exact Take.here | apply Take.there)); done) | exact Has.ro (by assumption)) (by first | rfl | assumption)) rfl ?_
          refine g_pure (p_move rfl) rfl ?_
          refine g_pure (p_indexAddr rfl rfl (by omega) (fun _ => rfl)) rfl ?_
          refine g_pure (p_load (by rfl) rfl (Has.own (by repeat' (first | exact Take.here | apply Take.there))) xu) rfl ?_
          refine g_nil ?_
          refine g_qt ?_
          refine g_block ?_
          refine g_seq ?_
          refine g_region ?_
          refine g_pure (p_eql rfl rfl) rfl ?_
          refine g_pure (p_assign rfl) rfl ?_
          refine g_nil ?_
          refine g_qt ?_
          unfold ulit at hus
          cases hVk : V (k + 1) with
          | none =>
            rw [hVk, List.append_nil] at hus
            rw [← hus]
            refine g_iff rfl ?_
            refine g_seq ?_
            refine g_region ?_
            refine g_pure (p_eql rfl rfl) rfl ?_
            refine g_pure (p_assign rfl) rfl ?_
            refine g_nil ?_
            refine g_qt ?_
            refine g_iff rfl ?_
            refine g_skip ?_
            refine g_qb ?_
            refine g_qb ?_
            refine g_qt ?_
            refine g_region ?_
            refine g_pure (p_move rfl) rfl ?_
            first | refine g_pure (p_addi rfl rfl (by omega)) rfl ?_ | refine g_pure (p_add rfl rfl) rfl ?_
            refine g_pure (p_assign rfl) rfl ?_
            refine g_nil ?_
            refine g_qn ?_
            exact g_next (k + 1, oa, oc) (by repeat (first | exact trivial | refine ⟨by rfl, ?_⟩)) (by repeat' (first | exact Cover.nil | exact Take.here | apply Cover.cons | apply Take.there)) (by dsimp only; omega) (by dsimp only; omega)
          | some y =>
            rw [hVk] at hus
            cases y with
            | true =>
              refine g_ift rfl ?_
              refine g_region ?_
              refine g_pure (p_move rfl) rfl ?_
              refine g_pure (p_move rfl) rfl ?_
              refine g_eff (e_bs (xs := [.tmp 72]) rfl rfl rfl (by rfl) (by rfl) rfl (by rfl)) rfl (fun _ _ => ?_)
              rintro ⟨b73, rfl, rfl⟩
              refine g_eff (e_appendO (by rfl) (by rfl) rfl rfl (by first | (apply Has.own; (repeat' (first | exact Take.here | apply Take.there)); done) | exact Has.ro (by assumption)) (by rfl) (by rfl) (by repeat' (first | exact Take.here | apply Take.there)) (by omega) (by first | omega | (dsimp only; omega) | (simp <;> omega)) (by omega)) rfl (fun _ _ => ?_)
              rintro ⟨a74, c74, rfl, rfl⟩
              refine g_pure (p_assign rfl) rfl ?_
              refine g_nil ?_
              refine g_qb ?_
              refine g_qb ?_
              refine g_qt ?_
              refine g_region ?_
              refine g_pure (p_move rfl) rfl ?_
              first | refine g_pure (p_addi rfl rfl (by omega)) rfl ?_ | refine g_pure (p_add rfl rfl) rfl ?_
              refine g_pure (p_assign rfl) rfl ?_
              refine g_nil ?_
              refine g_qn ?_
              have e1 : (ulits k V).length + 1 = (ulits (k + 1) V).length := by rw [hus]; simp
              rw [e1]
              refine g_weak (A := OwnSl 3 1 a74 (ulits (k + 1) V).length c74 ((ulits k V).map encI ++ [.int .i64 ((k : Int) + 1)])) (B := OwnSl 3 1 a74 (ulits (k + 1) V).length c74 ((ulits (k + 1) V).map encI)) (by repeat' (first | exact Take.here | apply Take.there)) (fun h hh => by rw [hus, List.map_append, ← hus]; exact hh) ?_
              exact g_next (k + 1, a74, c74) (by repeat (first | exact trivial | refine ⟨by rfl, ?_⟩)) (by repeat' (first | exact Cover.nil | exact Take.here | apply Cover.cons | apply Take.there)) (by dsimp only; omega) (by dsimp only; omega)
            | false =>
              refine g_iff rfl ?_
              refine g_seq ?_
              refine g_region ?_
              refine g_pure (p_eql rfl rfl) rfl ?_
              refine g_pure (p_assign rfl) rfl ?_
              refine g_nil ?_
              refine g_qt ?_
              refine g_ift rfl ?_
              refine g_region ?_
              refine g_pure (p_move rfl) rfl ?_
              refine g_pure (p_move rfl) rfl ?_
              first | refine g_pure (p_negi rfl (by omega)) rfl ?_ | refine g_pure (p_neg rfl) rfl ?_
              refine g_eff (e_bs (xs := [.tmp 79]) rfl rfl rfl (by rfl) (by rfl) rfl (by rfl)) rfl (fun _ _ => ?_)
              rintro ⟨b80, rfl, rfl⟩
              refine g_eff (e_appendO (by rfl) (by rfl) rfl rfl (by first | (apply Has.own; (repeat' (first | exact Take.here | apply Take.there)); done) | exact Has.ro (by assumption)) (by rfl) (by rfl) (by repeat' (first | exact Take.here | apply Take.there)) (by omega) (by first | omega | (dsimp only; omega) | (simp <;> omega)) (by omega)) rfl (fun _ _ => ?_)
              rintro ⟨a81, c81, rfl, rfl⟩
              refine g_pure (p_assign rfl) rfl ?_
              refine g_nil ?_
              refine g_qb ?_
              refine g_qb ?_
              refine g_qt ?_
              refine g_region ?_
              refine g_pure (p_move rfl) rfl ?_
              first | refine g_pure (p_addi rfl rfl (by omega)) rfl ?_ | refine g_pure (p_add rfl rfl) rfl ?_
              refine g_pure (p_assign rfl) rfl ?_
              refine g_nil ?_
              refine g_qn ?_
              have e1 : (ulits k V).length + 1 = (ulits (k + 1) V).length := by rw [hus]; simp
              rw [e1]
              refine g_weak (A := OwnSl 3 1 a81 (ulits (k + 1) V).length c81 ((ulits k V).map encI ++ [.int .i64 (-((k : Int) + 1))])) (B := OwnSl 3 1 a81 (ulits (k + 1) V).length c81 ((ulits (k + 1) V).map encI)) (by repeat' (first | exact Take.here | apply Take.there)) (fun h hh => by rw [hus, List.map_append, ← hus]; exact hh) ?_
              exact g_next (k + 1, a81, c81) (by repeat (first | exact trivial | refine ⟨by rfl, ?_⟩)) (by repeat' (first | exact Cover.nil | exact Take.here | apply Cover.cons | apply Take.there)) (by dsimp only; omega) (by dsimp only; omega)
        · have hke : k = p.n := by omega
          subst hke
          refine g_exit ?_
          refine g_qt_exit ?_
          refine g_qn_exit ?_
          refine g_qb_exit ?_
          refine g_qt ?_
          refine g_seq ?_
          refine g_region ?_
          refine g_pure (p_move rfl) rfl ?_
          refine g_pure (p_assign rfl) rfl ?_
          refine g_pure (p_assign rfl) rfl ?_
          refine g_pure (p_assign rfl) rfl ?_
          refine g_nil ?_
          refine g_qt ?_
          refine g_ret ?_
          exact g_post (rs := [.tmp 4, .tmp 5, .tmp 6]) rfl (.tmp rfl (.tmp rfl (.tmp rfl .nil))) ⟨ulits p.n V, oa, oc, true, 0, .inr (.inr ⟨c, hall, rfl, some V, hur, by rw [Int.toNat_natCast]; rfl, rfl⟩), rfl, rfl⟩ (by repeat' (first | exact Cover.nil | exact Take.here | apply Cover.cons | apply Take.there))
end Go.Proofs.Ytbpgblbhikeglaa
