/- Chapter 37: the solver's memory; values and clauses. Conditions: none. -/
import Derived.Test.YtbpgblbhikeglaaS2
namespace Go.Z.Sat
set_option linter.unusedVariables false
set_option linter.unusedSimpArgs false
set_option linter.unusedSectionVars false
open Go Go.Z
def vcode : Option Bool → Int
  | none => 0
  | some true => 1
  | some false => 2
def vcells (n : Nat) (a : As) : List Value := (List.range (n + 1)).map fun i => .int .i64 (vcode (a i))
theorem vcells_at {n : Nat} (a : As) {i : Nat} (h : i ≤ n) : (vcells n a)[i]? = some (.int .i64 (vcode (a i))) := by
  unfold vcells
  rw [List.getElem?_map, List.getElem?_range (by omega)]; rfl
theorem vcells_len (n : Nat) (a : As) : (vcells n a).length = n + 1 := by simp [vcells]
def uix (l : Int) : Int := if 0 < l then 2 * l else -2 * l + 1
def asg (T : List Int) : As := T.foldl put (fun _ => none)
def useRow (F : Fm) (k : Int) : List Nat := F.zipIdx.flatMap fun p => (p.1.filter fun x => decide (uix x = k)).map fun _ => p.2
def uses (n : Nat) (F : Fm) : List (List Nat) := (List.range (2 * n + 2)).map fun (k : Nat) => useRow F (k : Int)
def trues (F : Fm) (a : As) : List Nat := F.map fun c => c.countP fun l => decide (lv a l = some true)
end Go.Z.Sat
namespace Go.Proofs.Ytbpgblbhikeglaa
open Go Go.Z Go.Z.Sat

def encN (i : Nat) : Value := .int .i64 i
/-- where the solver's parts are that do not change -/
structure Sp where
  n : Nat
  ca : Option Addr
  cc : Nat
  m : Nat
  ua : Option Addr
  uc : Nat
def SvK (s : Nat) (p : Sp) (V : As) (T : List Int) (X : List Nat) (d : Nat) : List Assn → Prop := fun H => ∃ va vc ta tc xa xc, H = [Blk s (.cells [.int .i64 p.n, .slice p.ca p.m p.cc, .slice va (p.n + 1) vc, .slice ta T.length tc, .slice p.ua (2 * p.n + 2) p.uc, .slice xa p.m xc, .int .i64 (X.count 0), .int .i64 d].toArray 57 (0, 0)),
  OwnSl 3 1 va (p.n + 1) vc (vcells p.n V), OwnSl 3 1 ta T.length tc (T.map encI), OwnSl 3 1 xa p.m xc (X.map encN)]
def Sv (s : Nat) (p : Sp) (V : As) (T : List Int) (X : List Nat) (d : Nat) : Assn := Pk (SvK s p V T X d)

theorem sv_ro {ρ : Nat → Obj → Prop} {s : Nat} {p : Sp} {V : As} {T : List Int} {X : List Nat} {d : Nat} (h : Ro ρ (Sv s p V T X d)) : ∃ va vc ta tc xa xc, ρ s (.cells [.int .i64 p.n, .slice p.ca p.m p.cc, .slice va (p.n + 1) vc, .slice ta T.length tc, .slice p.ua (2 * p.n + 2) p.uc, .slice xa p.m xc, .int .i64 (X.count 0), .int .i64 d].toArray 57 (0, 0)) ∧
    RSl ρ 1 va (p.n + 1) (vcells p.n V) ∧ RSl ρ 1 ta T.length (T.map encI) ∧ RSl ρ 1 xa p.m (X.map encN) := by
  obtain ⟨_, ⟨va, vc, ta, tc, xa, xc, rfl⟩, r1, r2, r3, r4, _⟩ := h.unpack
  exact ⟨va, vc, ta, tc, xa, xc, r1.blk, .of_own r2, .of_own r3, .of_own r4⟩

theorem sv_close {M : Mx} {n : Nat} {L : Fr} {H Hr : List Assn} {Tg : Act → World → Prop} {s : Nat} {p : Sp} {V : As} {T : List Int} {X : List Nat} {d : Nat} {va ta xa : Option Addr} {vc tc xc k1 : Nat} {e d' : Int} {xs1 xs2 xs3 : List Value}
    (hc : Cover H [Blk s (.cells [.int .i64 p.n, .slice p.ca p.m p.cc, .slice va (p.n + 1) vc, .slice ta k1 tc, .slice p.ua (2 * p.n + 2) p.uc, .slice xa p.m xc, .int .i64 e, .int .i64 d'].toArray 57 (0, 0)), OwnSl 3 1 va (p.n + 1) vc xs1, OwnSl 3 1 ta k1 tc xs2, OwnSl 3 1 xa p.m xc xs3] Hr)
    (e1 : k1 = T.length) (e2 : e = (X.count 0 : Nat)) (e3 : d' = d) (e4 : xs1 = vcells p.n V) (e5 : xs2 = T.map encI) (e6 : xs3 = X.map encN) (h : G M n L (Sv s p V T X d :: Hr) Tg) : G M n L H Tg := by
  subst e1 e2 e3 e4 e5 e6
  exact g_close ⟨_, _, _, _, _, _, rfl⟩ hc h

theorem index_ok {ρ : Nat → Obj → Prop} (l : Int) (hl : -262144 ≤ l ∧ l ≤ 262144) : Con Try.prog ρ 36 #[.int .i64 l] [] (fun v H => v = .int .i64 (uix l) ∧ H = []) := by
  refine con_intro Try.func36 Try.call36 rfl Try.ntmps36 rfl (L := [(0, _)]) rfl fun w hh => ?_
  refine g_seq ?_
  refine g_region ?_
  refine g_pure (p_assign rfl) rfl ?_
  refine g_nil ?_
  refine g_qt ?_
  refine g_seq ?_
  refine g_seq ?_
  refine g_region ?_
  refine g_pure (p_move rfl) rfl ?_
  refine g_pure (p_gtr rfl rfl) rfl ?_
  refine g_nil ?_
  refine g_qt ?_
  refine g_ifd rfl (fun h => ?_) (fun h => ?_)
  · refine g_seq ?_
    refine g_region ?_
    refine g_pure (p_move rfl) rfl ?_
    first | refine g_pure (p_muli rfl rfl (by omega)) rfl ?_ | refine g_pure (p_mul rfl rfl) rfl ?_
    refine g_pure (p_assign rfl) rfl ?_
    refine g_nil ?_
    refine g_qt ?_
    refine g_ret ?_
    refine g_qt_ret ?_
    exact g_post (rs := [.tmp 2]) rfl (.tmp rfl .nil) ⟨by unfold uix; rw [if_pos h]; rfl, rfl⟩ .nil
  · refine g_skip ?_
    refine g_qt ?_
    refine g_seq ?_
    refine g_region ?_
    refine g_pure (p_move rfl) rfl ?_
    first | refine g_pure (p_muli rfl rfl (by omega)) rfl ?_ | refine g_pure (p_mul rfl rfl) rfl ?_
    first | refine g_pure (p_addi rfl rfl (by omega)) rfl ?_ | refine g_pure (p_add rfl rfl) rfl ?_
    refine g_pure (p_assign rfl) rfl ?_
    refine g_nil ?_
    refine g_qt ?_
    refine g_ret ?_
    exact g_post (rs := [.tmp 2]) rfl (.tmp rfl .nil) ⟨by unfold uix; rw [if_neg h]; rfl, rfl⟩ .nil

theorem value_ok {ρ : Nat → Obj → Prop} {s : Nat} {p : Sp} {V : As} {T : List Int} {X : List Nat} {d : Nat} (hn : p.n ≤ 262144) (l : Int) (hl : okL p.n l) (hs : Ro ρ (Sv s p V T X d)) :
    Con Try.prog ρ 41 #[.pointer (some ⟨s, 0, none⟩), .int .i64 l] [] (fun v H => v = .int .i64 (vcode (lv V l)) ∧ H = []) := by
  obtain ⟨va, vc, ta, tc, xa, xc, hp, ⟨_, bv, ov, kv, Tv, fv, hv⟩, _, _⟩ := sv_ro hs
  obtain ⟨v1, v2, v3⟩ := hv (by omega)
  obtain ⟨h0, h1, h2⟩ := hl
  refine con_intro Try.func41 Try.call41 rfl Try.ntmps41 rfl (L := [(0, _), (1, _)]) rfl fun w hh => ?_
  refine g_seq ?_
  refine g_region ?_
  refine g_pure (p_assign rfl) rfl ?_
  refine g_nil ?_
  refine g_qt ?_
  refine g_seq ?_
  refine g_seq ?_
  refine g_region ?_
  refine g_pure (p_move rfl) rfl ?_
  refine g_pure (p_gtr rfl rfl) rfl ?_
  refine g_nil ?_
  refine g_qt ?_
  refine g_ifd rfl (fun h => ?_) (fun h => ?_)
  · have x1 : kv[ov + l.toNat * 1]? = some (.int .i64 (vcode (V l.toNat))) := flat2 v3 (vcells_at V (i := l.toNat) (by omega)) rfl
    refine g_seq ?_
    refine g_region ?_
    refine g_pure (p_move rfl) rfl ?_
    refine g_pure (p_nilCheck rfl) rfl ?_
    refine g_pure (p_fieldAddr rfl) rfl ?_
    refine g_pure (p_load (by rfl) rfl (by first | (apply Has.own; (repeat' (first | exact Take.here | apply Take.there)); done) | exact Has.ro (by assumption)) (by first | rfl | assumption)) rfl ?_
    refine g_pure (p_move rfl) rfl ?_
    refine g_pure (p_indexAddr rfl rfl (by omega) (fun _ => v1)) rfl ?_
    refine g_pure (p_load (by rfl) rfl (Has.ro v2) x1) rfl ?_
    refine g_pure (p_assign rfl) rfl ?_
    refine g_nil ?_
    refine g_qt ?_
    refine g_ret ?_
    refine g_qt_ret ?_
    exact g_post (rs := [.tmp 4]) rfl (.tmp rfl .nil) ⟨by unfold lv; rw [if_pos h]; rfl, rfl⟩ .nil
  · have x1 : kv[ov + (-l).toNat * 1]? = some (.int .i64 (vcode (V (-l).toNat))) := flat2 v3 (vcells_at V (i := (-l).toNat) (by omega)) rfl
    have e : lv V l = (V (-l).toNat).map (!·) := by unfold lv; rw [if_neg h]
    refine g_skip ?_
    refine g_qt ?_
    refine g_seq ?_
    refine g_seq ?_
    refine g_region ?_
    refine g_pure (p_move rfl) rfl ?_
    refine g_pure (p_nilCheck rfl) rfl ?_
    refine g_pure (p_fieldAddr rfl) rfl ?_
    refine g_pure (p_load (by rfl) rfl (by first | (apply Has.own; (repeat' (first | exact Take.here | apply Take.there)); done) | exact Has.ro (by assumption)) (by first | rfl | assumption)) rfl ?_
    refine g_pure (p_move rfl) rfl ?_
    first | refine g_pure (p_negi rfl (by omega)) rfl ?_ | refine g_pure (p_neg rfl) rfl ?_
    refine g_pure (p_indexAddr rfl rfl (by omega) (fun _ => v1)) rfl ?_
    refine g_pure (p_load (by rfl) rfl (Has.ro v2) x1) rfl ?_
    refine g_nil ?_
    refine g_qt ?_
    refine g_block ?_
    refine g_seq ?_
    refine g_region ?_
    refine g_pure (p_eql rfl rfl) rfl ?_
    refine g_pure (p_assign rfl) rfl ?_
    refine g_nil ?_
    refine g_qt ?_
    cases hc : V (-l).toNat with
    | none =>
      rw [hc] at e
      refine g_iff rfl ?_
      refine g_seq ?_
      refine g_region ?_
      refine g_pure (p_eql rfl rfl) rfl ?_
      refine g_pure (p_assign rfl) rfl ?_
      refine g_nil ?_
      refine g_qt ?_
      refine g_iff rfl ?_
      refine g_skip ?_
      refine g_qb ?_
      refine g_qt ?_
      refine g_seq ?_
      refine g_region ?_
      refine g_pure (p_assign rfl) rfl ?_
      refine g_nil ?_
      refine g_qt ?_
      refine g_ret ?_
      exact g_post (rs := [.tmp 4]) rfl (.tmp rfl .nil) ⟨by rw [e]; rfl, rfl⟩ .nil
    | some y =>
      cases y with
      | true =>
        rw [hc] at e
        refine g_ift rfl ?_
        refine g_seq ?_
        refine g_region ?_
        refine g_pure (p_assign rfl) rfl ?_
        refine g_nil ?_
        refine g_qt ?_
        refine g_ret ?_
        refine g_qb_ret ?_
        refine g_qt_ret ?_
        exact g_post (rs := [.tmp 4]) rfl (.tmp rfl .nil) ⟨by rw [e]; rfl, rfl⟩ .nil
      | false =>
        rw [hc] at e
        refine g_iff rfl ?_
        refine g_seq ?_
        refine g_region ?_
        refine g_pure (p_eql rfl rfl) rfl ?_
        refine g_pure (p_assign rfl) rfl ?_
        refine g_nil ?_
        refine g_qt ?_
        refine g_ift rfl ?_
        refine g_seq ?_
        refine g_region ?_
        refine g_pure (p_assign rfl) rfl ?_
        refine g_nil ?_
        refine g_qt ?_
        refine g_ret ?_
        refine g_qb_ret ?_
        refine g_qt_ret ?_
        exact g_post (rs := [.tmp 4]) rfl (.tmp rfl .nil) ⟨by rw [e]; rfl, rfl⟩ .nil
end Go.Proofs.Ytbpgblbhikeglaa
