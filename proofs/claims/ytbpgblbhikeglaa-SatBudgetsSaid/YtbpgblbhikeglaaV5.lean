/- Chapter 37: models of the statements, and what holds in them. Conditions: none. -/
import Derived.Test.YtbpgblbhikeglaaV4
namespace Go.Z.Sat
set_option linter.unusedVariables false
set_option linter.unusedSimpArgs false
set_option linter.unusedSectionVars false
open Go Go.Z Go.Proofs.Ytbpgblbhikeglaa
def mlist (n k : Nat) : List Bool := (List.range n).map fun i => decide (k / 2 ^ (n - 1 - i) % 2 = 0)
theorem mlist_len (n k : Nat) : (mlist n k).length = n := by simp [mlist]
def holdsB (xs : List Bool) (ls : List Int) : Bool := ls.all fun l => okB xs.length l && Sat.mt xs l
theorem holds_no {xs : List Bool} {ls : List Int} {j : Nat} (hj : j < ls.length) (h : (okB xs.length ls[j] && Sat.mt xs ls[j]) = false) : holdsB xs ls = false := by
  unfold holdsB
  rw [← Bool.not_eq_true, List.all_eq_true]
  intro hh
  rw [hh _ (List.getElem_mem hj)] at h; cases h
theorem shr_nat (k d : Nat) (hd : d ≤ 64) : (k : Int).fdiv (2 ^ min d IntKind.i64.bits) = ((k / 2 ^ d : Nat) : Int) := by
  have : min d IntKind.i64.bits = d := Nat.min_eq_left hd
  rw [this, Int.fdiv_eq_ediv_of_nonneg _ (Int.pow_nonneg (by decide))]
  norm_cast
end Go.Z.Sat
namespace Go.Proofs.Ytbpgblbhikeglaa
open Go Go.Z Go.Z.Sat

theorem lmodel_ok {ρ : Nat → Obj → Prop} (n k : Nat) (hn : n ≤ 60) (hk : (k : Int) ≤ 9223372036854775807) :
    Con Try.prog ρ 17 #[.int .i64 n, .int .i64 k] [] (fun v H => ∃ a c, v = .slice a (mlist n k).length c ∧ H = [OwnSl 4 1 a (mlist n k).length c ((mlist n k).map encB)]) := by
  refine con_intro Try.func17 Try.call17 rfl Try.ntmps17 rfl (L := [(0, _), (1, _)]) rfl fun w hh => ?_
  refine g_seq ?_
  refine g_region ?_
  refine g_pure (p_assign rfl) rfl ?_
  refine g_nil ?_
  refine g_qt ?_
  refine g_seq ?_
  refine g_region ?_
  refine g_pure (p_assign rfl) rfl ?_
  refine g_nil ?_
  refine g_qt ?_
  refine g_seq ?_
  refine g_seq ?_
  refine g_region ?_
  refine g_pure (p_assign rfl) rfl ?_
  refine g_nil ?_
  refine g_qt ?_
  refine g_block ?_
  refine g_ownnil (e := 4) (size := 1) ?_
  refine g_loop (fun q : Nat × Option Addr × Nat => [(0, .int .i64 n), (1, .int .i64 k), (5, .slice q.2.1 q.1 q.2.2), (6, .int .i64 ((q.1 : Int) + 1))])
    (fun q => [OwnSl 4 1 q.2.1 q.1 q.2.2 (((List.range q.1).map fun i => decide (k / 2 ^ (n - 1 - i) % 2 = 0)).map encB)]) (fun q => q.1 ≤ n) (fun q => n - q.1) (0, none, 0) (Nat.zero_le _) (by repeat (first | exact trivial | refine ⟨by rfl, ?_⟩)) (by repeat' (first | exact Cover.nil | exact Take.here | apply Cover.cons | apply Take.there)) ?_
  rintro ⟨i, oa, oc⟩ hi
  dsimp only at hi ⊢
  refine g_seq ?_
  refine g_seq ?_
  refine g_region ?_
  refine g_pure (p_move rfl) rfl ?_
  refine g_pure (p_move rfl) rfl ?_
  refine g_pure (p_leq rfl rfl) rfl ?_
  refine g_nil ?_
  refine g_qt ?_
  refine g_ifd rfl (fun q => ?_) (fun q => ?_)
  · have hs := shr_nat k (n - 1 - i) (by omega)
    have hd : ((n : Int) - ((i : Int) + 1)).toNat = n - 1 - i := by omega
    have hm : decide (((k : Int).fdiv (2 ^ min ((n : Int) - ((i : Int) + 1)).toNat IntKind.i64.bits)) % 2 = 0) = decide (k / 2 ^ (n - 1 - i) % 2 = 0) := by
      rw [hd, hs]
      generalize k / 2 ^ (n - 1 - i) = z
      by_cases h : z % 2 = 0
      · rw [decide_eq_true h, decide_eq_true (by omega)]
      · rw [decide_eq_false h, decide_eq_false (by omega)]
    have e3 : ((List.range (i + 1)).map fun i => decide (k / 2 ^ (n - 1 - i) % 2 = 0)).map encB = ((List.range i).map fun i => decide (k / 2 ^ (n - 1 - i) % 2 = 0)).map encB ++ [.bool (decide (((k : Int).fdiv (2 ^ min ((n : Int) - ((i : Int) + 1)).toNat IntKind.i64.bits)) % 2 = 0))] := by
      rw [hm, List.range_succ, List.map_append, List.map_append]; rfl
    have hpos : 0 ≤ (k : Int).fdiv (2 ^ min ((n : Int) - ((i : Int) + 1)).toNat IntKind.i64.bits) := by rw [hd, hs]; exact Int.natCast_nonneg _
    refine g_skip ?_
    refine g_qt ?_
    refine g_seq ?_
    refine g_block ?_
    refine g_region ?_
    refine g_pure (p_move rfl) rfl ?_
    refine g_pure (p_move rfl) rfl ?_
    refine g_pure (p_move rfl) rfl ?_
    refine g_pure (p_move rfl) rfl ?_
    first | refine g_pure (p_subi rfl rfl (by omega)) rfl ?_ | refine g_pure (p_sub rfl rfl) rfl ?_
    refine g_pure (p_shr rfl rfl (by omega)) rfl ?_
    refine g_pure (p_remn rfl rfl (by decide) hpos) rfl ?_
    refine g_pure (p_eql rfl rfl) rfl ?_
    refine g_eff (e_bs (xs := [.tmp 19]) rfl rfl rfl (by rfl) (by rfl) rfl (by rfl)) rfl (fun _ _ => ?_)
    rintro ⟨b20, rfl, rfl⟩
    refine g_eff (e_appendO (by rfl) (by rfl) rfl rfl (by first | (apply Has.own; (repeat' (first | exact Take.here | apply Take.there)); done) | exact Has.ro (by assumption)) (by rfl) (by rfl) (by repeat' (first | exact Take.here | apply Take.there)) (by omega) (by first | omega | (dsimp only; omega) | (simp <;> omega)) (by omega)) rfl (fun _ _ => ?_)
    rintro ⟨a21, c21, rfl, rfl⟩
    refine g_pure (p_assign rfl) rfl ?_
    refine g_nil ?_
    refine g_qb ?_
    refine g_qt ?_
    refine g_region ?_
    refine g_pure (p_move rfl) rfl ?_
    first | refine g_pure (p_addi rfl rfl (by omega)) rfl ?_ | refine g_pure (p_add rfl rfl) rfl ?_
    refine g_pure (p_assign rfl) rfl ?_
    refine g_nil ?_
    refine g_qn ?_
    refine g_weak (A := OwnSl 4 1 a21 (i + 1) c21 (((List.range i).map fun i => decide (k / 2 ^ (n - 1 - i) % 2 = 0)).map encB ++ [.bool (decide (((k : Int).fdiv (2 ^ min ((n : Int) - ((i : Int) + 1)).toNat IntKind.i64.bits)) % 2 = 0))])) (B := OwnSl 4 1 a21 (i + 1) c21 (((List.range (i + 1)).map fun i => decide (k / 2 ^ (n - 1 - i) % 2 = 0)).map encB)) (by repeat' (first | exact Take.here | apply Take.there)) (fun h hh => by rw [e3]; exact hh) ?_
    exact g_next (i + 1, a21, c21) (by repeat (first | exact trivial | refine ⟨by rfl, ?_⟩)) (by repeat' (first | exact Cover.nil | exact Take.here | apply Cover.cons | apply Take.there)) (by dsimp only; omega) (by dsimp only; omega)
  · have hie : i = n := by omega
    subst hie
    refine g_exit ?_
    refine g_qt_exit ?_
    refine g_qn_exit ?_
    refine g_qb_exit ?_
    refine g_qt ?_
    refine g_seq ?_
    refine g_region ?_
    refine g_pure (p_move rfl) rfl ?_
    refine g_pure (p_assign rfl) rfl ?_
    refine g_nil ?_
    refine g_qt ?_
    refine g_ret ?_
    exact g_post (Ho := [OwnSl 4 1 oa i oc ((mlist i k).map encB)]) (rs := [.tmp 4]) rfl (.tmp rfl .nil) ⟨oa, oc, by rw [mlist_len]; rfl, by rw [mlist_len]⟩ (by repeat' (first | exact Cover.nil | exact Take.here | apply Cover.cons | apply Take.there))

theorem holds_ok {ρ : Nat → Obj → Prop} {ma la : Option Addr} {mc lc : Nat} {xs : List Bool} {ls : List Int} (hm : RSl ρ 1 ma xs.length (xs.map encB)) (hlen : xs.length ≤ 262144) (hls : RSl ρ 1 la ls.length (ls.map encI)) (hll : ls.length ≤ 9223372036854775806) (hI : ∀ l ∈ ls, I64 l) :
    Con Try.prog ρ 19 #[.slice ma xs.length mc, .slice la ls.length lc] [] (fun v H => v = .bool (holdsB xs ls) ∧ H = []) := by
  obtain ⟨_, b, off, cs, T, fz, hr⟩ := hm
  obtain ⟨_, bl, ol, kl, Tl, fl, hl⟩ := hls
  have hget : ∀ k : Nat, k < xs.length → (xs.map encB)[k]? = some (encB (xs.getD k false)) := fun k hk => by
    rw [List.getElem?_map, List.getElem?_eq_getElem hk, List.getD_eq_getElem?_getD, List.getElem?_eq_getElem hk]; rfl
  refine con_intro Try.func19 Try.call19 rfl Try.ntmps19 rfl (L := [(0, _), (1, _)]) rfl fun w hh => ?_
  refine g_seq ?_
  refine g_region ?_
  refine g_pure (p_assign rfl) rfl ?_
  refine g_nil ?_
  refine g_qt ?_
  refine g_seq ?_
  refine g_seq ?_
  refine g_region ?_
  refine g_pure (p_assign rfl) rfl ?_
  refine g_nil ?_
  refine g_qt ?_
  refine g_block ?_
  refine g_loop (fun j : Nat => [(0, .slice ma xs.length mc), (1, .slice la ls.length lc), (5, .int .i64 j)])
    (fun _ => []) (fun j => j ≤ ls.length ∧ holdsB xs (ls.take j) = true) (fun j => ls.length - j) 0 ⟨Nat.zero_le _, rfl⟩ (by repeat (first | exact trivial | refine ⟨by rfl, ?_⟩)) (by repeat' (first | exact Cover.nil | exact Take.here | apply Cover.cons | apply Take.there)) ?_
  rintro j ⟨hj, hall⟩
  refine g_seq ?_
  refine g_seq ?_
  refine g_region ?_
  refine g_pure (p_move rfl) rfl ?_
  refine g_pure (p_move rfl) rfl ?_
  refine g_pure (p_len (by rfl) rfl) rfl ?_
  refine g_pure (p_lss rfl rfl) rfl ?_
  refine g_nil ?_
  refine g_qt ?_
  refine g_ifd rfl (fun q => ?_) (fun q => ?_)
  · have hjl : j < ls.length := by omega
    obtain ⟨l1, l2, l3⟩ := hl (by omega)
    have x1 : kl[ol + (j : Int).toNat * 1]? = some (encI ls[j]) := flat2 l3 (i := j) (mapI _ hjl) (by simp)
    have hj64 := hI _ (List.getElem_mem hjl)
    unfold I64 at hj64
    have hno := holds_no (xs := xs) hjl
    have hgo : (okB xs.length ls[j] && Sat.mt xs ls[j]) = true → holdsB xs (ls.take (j + 1)) = true := take_all _ _ _ hjl hall
    generalize hlk : ls[j] = l at *
    refine g_skip ?_
    refine g_qt ?_
    refine g_seq ?_
    refine g_block ?_
    refine g_seq ?_
    refine g_seq ?_
    refine g_region ?_
    refine g_pure (p_move rfl) rfl ?_
    refine g_pure (p_move rfl) rfl ?_
    refine g_pure (p_indexAddr rfl rfl (by omega) (fun _ => l1)) rfl ?_
    refine g_pure (p_load (by rfl) rfl (Has.ro l2) x1) rfl ?_
    refine g_pure (p_eql rfl rfl) rfl ?_
    refine g_pure (p_move rfl) rfl ?_
    refine g_splitd rfl rfl (fun y1 => ?_) (fun y1 => ?_)
    · refine g_no rfl rfl rfl rfl ?_
      refine g_no rfl rfl rfl rfl ?_
      refine g_no rfl rfl rfl rfl ?_
      refine g_no rfl rfl rfl rfl ?_
      refine g_no rfl rfl rfl rfl ?_
      refine g_no rfl rfl rfl rfl ?_
      refine g_no rfl rfl rfl rfl ?_
      first | refine g_pure (p_pickt rfl rfl) rfl ?_ | refine g_pure (p_pickf rfl rfl) rfl ?_
      refine g_pure (p_move rfl) rfl ?_
      refine g_no rfl rfl rfl rfl ?_
      refine g_no rfl rfl rfl rfl ?_
      refine g_no rfl rfl rfl rfl ?_
      refine g_no rfl rfl rfl rfl ?_
      refine g_no rfl rfl rfl rfl ?_
      refine g_no rfl rfl rfl rfl ?_
      refine g_no rfl rfl rfl rfl ?_
      refine g_no rfl rfl rfl rfl ?_
      first | refine g_pure (p_pickt rfl rfl) rfl ?_ | refine g_pure (p_pickf rfl rfl) rfl ?_
      refine g_nil ?_
      refine g_qt ?_
      refine g_ift rfl ?_
      refine g_seq ?_
      refine g_region ?_
      refine g_pure (p_assign rfl) rfl ?_
      refine g_nil ?_
      refine g_qt ?_
      refine g_ret ?_
      refine g_qt_ret ?_
      refine g_qb_ret ?_
      refine g_qt_ret ?_
      refine g_qn_ret ?_
      refine g_qb_ret ?_
      refine g_qt_ret ?_
      exact g_post (rs := [.tmp 4]) rfl (.tmp rfl .nil) ⟨by rw [hno (by simp [okB, y1])]; rfl, rfl⟩ .nil
    · refine g_yes rfl rfl ?_
      refine g_pure (p_move rfl) rfl ?_
      refine g_yes rfl rfl ?_
      refine g_pure (p_move rfl) rfl ?_
      refine g_yes rfl rfl ?_
      refine g_pure (p_indexAddr rfl rfl (by omega) (fun _ => l1)) rfl ?_
      refine g_yes rfl rfl ?_
      refine g_pure (p_load (by rfl) rfl (Has.ro l2) x1) rfl ?_
      refine g_yes rfl rfl ?_
      refine g_pure (p_move rfl) rfl ?_
      refine g_yes rfl rfl ?_
      refine g_pure (p_len (by rfl) rfl) rfl ?_
      refine g_yes rfl rfl ?_
      refine g_pure (p_gtr rfl rfl) rfl ?_
      first | refine g_pure (p_pickt rfl rfl) rfl ?_ | refine g_pure (p_pickf rfl rfl) rfl ?_
      refine g_pure (p_move rfl) rfl ?_
      refine g_splitd rfl rfl (fun y2 => ?_) (fun y2 => ?_)
      · refine g_no rfl rfl rfl rfl ?_
        refine g_no rfl rfl rfl rfl ?_
        refine g_no rfl rfl rfl rfl ?_
        refine g_no rfl rfl rfl rfl ?_
        refine g_no rfl rfl rfl rfl ?_
        refine g_no rfl rfl rfl rfl ?_
        refine g_no rfl rfl rfl rfl ?_
        refine g_no rfl rfl rfl rfl ?_
        first | refine g_pure (p_pickt rfl rfl) rfl ?_ | refine g_pure (p_pickf rfl rfl) rfl ?_
        refine g_nil ?_
        refine g_qt ?_
        refine g_ift rfl ?_
        refine g_seq ?_
        refine g_region ?_
        refine g_pure (p_assign rfl) rfl ?_
        refine g_nil ?_
        refine g_qt ?_
        refine g_ret ?_
        refine g_qt_ret ?_
        refine g_qb_ret ?_
        refine g_qt_ret ?_
        refine g_qn_ret ?_
        refine g_qb_ret ?_
        refine g_qt_ret ?_
        exact g_post (rs := [.tmp 4]) rfl (.tmp rfl .nil) ⟨by rw [hno (by simp [okB, y2])]; rfl, rfl⟩ .nil
      · refine g_yes rfl rfl ?_
        refine g_pure (p_move rfl) rfl ?_
        refine g_yes rfl rfl ?_
        refine g_pure (p_move rfl) rfl ?_
        refine g_yes rfl rfl ?_
        refine g_pure (p_indexAddr rfl rfl (by omega) (fun _ => l1)) rfl ?_
        refine g_yes rfl rfl ?_
        refine g_pure (p_load (by rfl) rfl (Has.ro l2) x1) rfl ?_
        refine g_yes rfl rfl ?_
        refine g_pure (p_move rfl) rfl ?_
        refine g_yes rfl rfl ?_
        refine g_pure (p_len (by rfl) rfl) rfl ?_
        refine g_yes rfl rfl ?_
        first | refine g_pure (p_negi rfl (by omega)) rfl ?_ | refine g_pure (p_neg rfl) rfl ?_
        refine g_yes rfl rfl ?_
        refine g_pure (p_lss rfl rfl) rfl ?_
        first | refine g_pure (p_pickt rfl rfl) rfl ?_ | refine g_pure (p_pickf rfl rfl) rfl ?_
        refine g_nil ?_
        refine g_qt ?_
        refine g_ifd rfl (fun y3 => ?_) (fun y3 => ?_)
        · refine g_seq ?_
          refine g_region ?_
          refine g_pure (p_assign rfl) rfl ?_
          refine g_nil ?_
          refine g_qt ?_
          refine g_ret ?_
          refine g_qt_ret ?_
          refine g_qb_ret ?_
          refine g_qt_ret ?_
          refine g_qn_ret ?_
          refine g_qb_ret ?_
          refine g_qt_ret ?_
          exact g_post (rs := [.tmp 4]) rfl (.tmp rfl .nil) ⟨by rw [hno (by simp [okB, y3])]; rfl, rfl⟩ .nil
        · have hok : okB xs.length l = true := by simp [okB, y1, y2, y3]
          rw [hok, Bool.true_and] at hno hgo
          obtain ⟨r1, r2, r3⟩ := hr (by omega)
          refine g_skip ?_
          refine g_qt ?_
          refine g_seq ?_
          refine g_region ?_
          refine g_pure (p_move rfl) rfl ?_
          refine g_pure (p_move rfl) rfl ?_
          refine g_pure (p_indexAddr rfl rfl (by omega) (fun _ => l1)) rfl ?_
          refine g_pure (p_load (by rfl) rfl (Has.ro l2) x1) rfl ?_
          refine g_pure (p_gtr rfl rfl) rfl ?_
          refine g_pure (p_move rfl) rfl ?_
          refine g_splitd rfl rfl (fun y4 => ?_) (fun y4 => ?_)
          · have x2 : cs[off + (l - 1).toNat * 1]? = some (encB (xs.getD (l - 1).toNat false)) := flat2 r3 (hget _ (by omega)) rfl
            have hmt : Sat.mt xs l = xs.getD (l - 1).toNat false := by unfold Sat.mt; rw [if_neg (by omega)]
            rw [← hmt] at x2
            refine g_yes rfl rfl ?_
            refine g_pure (p_move rfl) rfl ?_
            refine g_yes rfl rfl ?_
            refine g_pure (p_move rfl) rfl ?_
            refine g_yes rfl rfl ?_
            refine g_pure (p_move rfl) rfl ?_
            refine g_yes rfl rfl ?_
            refine g_pure (p_indexAddr rfl rfl (by omega) (fun _ => l1)) rfl ?_
            refine g_yes rfl rfl ?_
            refine g_pure (p_load (by rfl) rfl (Has.ro l2) x1) rfl ?_
            refine g_yes rfl rfl ?_
            first | refine g_pure (p_subi rfl rfl (by omega)) rfl ?_ | refine g_pure (p_sub rfl rfl) rfl ?_
            refine g_yes rfl rfl ?_
            refine g_pure (p_indexAddr rfl rfl (by omega) (fun _ => r1)) rfl ?_
            refine g_yes rfl rfl ?_
            refine g_pure (p_load (by rfl) rfl (Has.ro r2) x2) rfl ?_
            refine g_yes rfl rfl ?_
            refine g_pure (p_not rfl) rfl ?_
            first | refine g_pure (p_pickt rfl rfl) rfl ?_ | refine g_pure (p_pickf rfl rfl) rfl ?_
            refine g_pure (p_move rfl) rfl ?_
            cases hw : Sat.mt xs l with
            | false =>
              refine g_no rfl rfl rfl rfl ?_
              refine g_no rfl rfl rfl rfl ?_
              refine g_no rfl rfl rfl rfl ?_
              refine g_no rfl rfl rfl rfl ?_
              refine g_no rfl rfl rfl rfl ?_
              refine g_no rfl rfl rfl rfl ?_
              refine g_nou rfl rfl rfl ?_
              refine g_nou rfl rfl rfl ?_
              refine g_nou rfl rfl rfl ?_
              refine g_nou rfl rfl rfl ?_
              refine g_nou rfl rfl rfl ?_
              refine g_nou rfl rfl rfl ?_
              refine g_nou rfl rfl rfl ?_
              refine g_nou rfl rfl rfl ?_
              refine g_nou rfl rfl rfl ?_
              refine g_no rfl rfl rfl rfl ?_
              first | refine g_pure (p_pickt rfl rfl) rfl ?_ | refine g_pure (p_pickf rfl rfl) rfl ?_
              refine g_nil ?_
              refine g_qt ?_
              refine g_ift rfl ?_
              refine g_seq ?_
              refine g_region ?_
              refine g_pure (p_assign rfl) rfl ?_
              refine g_nil ?_
              refine g_qt ?_
              refine g_ret ?_
              refine g_qb_ret ?_
              refine g_qt_ret ?_
              refine g_qn_ret ?_
              refine g_qb_ret ?_
              refine g_qt_ret ?_
              exact g_post (rs := [.tmp 4]) rfl (.tmp rfl .nil) ⟨by rw [hno hw]; rfl, rfl⟩ .nil
            | true =>
              refine g_yes rfl rfl ?_
              refine g_pure (p_move rfl) rfl ?_
              refine g_yes rfl rfl ?_
              refine g_pure (p_move rfl) rfl ?_
              refine g_yes rfl rfl ?_
              refine g_pure (p_indexAddr rfl rfl (by omega) (fun _ => l1)) rfl ?_
              refine g_yes rfl rfl ?_
              refine g_pure (p_load (by rfl) rfl (Has.ro l2) x1) rfl ?_
              refine g_yes rfl rfl ?_
              refine g_pure (p_lss rfl rfl) rfl ?_
              refine g_yes rfl rfl ?_
              refine g_pure (p_move rfl) rfl ?_
              refine g_splitd rfl rfl (fun y5 => ?_) (fun y5 => ?_)
              · exfalso; omega
              · refine g_no rfl rfl rfl rfl ?_
                refine g_no rfl rfl rfl rfl ?_
                refine g_no rfl rfl rfl rfl ?_
                refine g_no rfl rfl rfl rfl ?_
                refine g_no rfl rfl rfl rfl ?_
                refine g_no rfl rfl rfl rfl ?_
                refine g_no rfl rfl rfl rfl ?_
                refine g_no rfl rfl rfl rfl ?_
                refine g_no rfl rfl rfl rfl ?_
                refine g_yes rfl rfl ?_
                first | refine g_pure (p_pickt rfl rfl) rfl ?_ | refine g_pure (p_pickf rfl rfl) rfl ?_
                first | refine g_pure (p_pickt rfl rfl) rfl ?_ | refine g_pure (p_pickf rfl rfl) rfl ?_
                refine g_nil ?_
                refine g_qt ?_
                refine g_iff rfl ?_
                refine g_skip ?_
                refine g_qb ?_
                refine g_qt ?_
                refine g_region ?_
                refine g_pure (p_move rfl) rfl ?_
                first | refine g_pure (p_addi rfl rfl (by omega)) rfl ?_ | refine g_pure (p_add rfl rfl) rfl ?_
                refine g_pure (p_assign rfl) rfl ?_
                refine g_nil ?_
                refine g_qn ?_
                exact g_next (j + 1) (by repeat (first | exact trivial | refine ⟨by rfl, ?_⟩)) (by repeat' (first | exact Cover.nil | exact Take.here | apply Cover.cons | apply Take.there)) ⟨by omega, hgo hw⟩ (by omega)
          · have x2 : cs[off + (-l - 1).toNat * 1]? = some (encB (xs.getD (-l - 1).toNat false)) := flat2 r3 (hget _ (by omega)) rfl
            have hmt : Sat.mt xs l = !(xs.getD (-l - 1).toNat false) := by unfold Sat.mt; rw [if_pos (by omega)]
            refine g_no rfl rfl rfl rfl ?_
            refine g_no rfl rfl rfl rfl ?_
            refine g_no rfl rfl rfl rfl ?_
            refine g_no rfl rfl rfl rfl ?_
            refine g_no rfl rfl rfl rfl ?_
            refine g_no rfl rfl rfl rfl ?_
            refine g_no rfl rfl rfl rfl ?_
            refine g_no rfl rfl rfl rfl ?_
            refine g_no rfl rfl rfl rfl ?_
            first | refine g_pure (p_pickt rfl rfl) rfl ?_ | refine g_pure (p_pickf rfl rfl) rfl ?_
            refine g_pure (p_move rfl) rfl ?_
            refine g_yes rfl rfl ?_
            refine g_pure (p_move rfl) rfl ?_
            refine g_yes rfl rfl ?_
            refine g_pure (p_move rfl) rfl ?_
            refine g_yes rfl rfl ?_
            refine g_pure (p_indexAddr rfl rfl (by omega) (fun _ => l1)) rfl ?_
            refine g_yes rfl rfl ?_
            refine g_pure (p_load (by rfl) rfl (Has.ro l2) x1) rfl ?_
            refine g_yes rfl rfl ?_
            refine g_pure (p_lss rfl rfl) rfl ?_
            refine g_yes rfl rfl ?_
            refine g_pure (p_move rfl) rfl ?_
            refine g_splitd rfl rfl (fun y5 => ?_) (fun y5 => ?_)
            · refine g_yes rfl rfl ?_
              refine g_pure (p_move rfl) rfl ?_
              refine g_yes rfl rfl ?_
              refine g_pure (p_move rfl) rfl ?_
              refine g_yes rfl rfl ?_
              refine g_pure (p_move rfl) rfl ?_
              refine g_yes rfl rfl ?_
              refine g_pure (p_indexAddr rfl rfl (by omega) (fun _ => l1)) rfl ?_
              refine g_yes rfl rfl ?_
              refine g_pure (p_load (by rfl) rfl (Has.ro l2) x1) rfl ?_
              refine g_yes rfl rfl ?_
              first | refine g_pure (p_negi rfl (by omega)) rfl ?_ | refine g_pure (p_neg rfl) rfl ?_
              refine g_yes rfl rfl ?_
              first | refine g_pure (p_subi rfl rfl (by omega)) rfl ?_ | refine g_pure (p_sub rfl rfl) rfl ?_
              refine g_yes rfl rfl ?_
              refine g_pure (p_indexAddr rfl rfl (by omega) (fun _ => r1)) rfl ?_
              refine g_yes rfl rfl ?_
              refine g_pure (p_load (by rfl) rfl (Has.ro r2) x2) rfl ?_
              refine g_yes rfl rfl ?_
              first | refine g_pure (p_pickt rfl rfl) rfl ?_ | refine g_pure (p_pickf rfl rfl) rfl ?_
              first | refine g_pure (p_pickt rfl rfl) rfl ?_ | refine g_pure (p_pickf rfl rfl) rfl ?_
              refine g_nil ?_
              refine g_qt ?_
              cases hw : xs.getD (-l - 1).toNat false with
              | true =>
                rw [hw] at hmt
                refine g_ift rfl ?_
                refine g_seq ?_
                refine g_region ?_
                refine g_pure (p_assign rfl) rfl ?_
                refine g_nil ?_
                refine g_qt ?_
                refine g_ret ?_
                refine g_qb_ret ?_
                refine g_qt_ret ?_
                refine g_qn_ret ?_
                refine g_qb_ret ?_
                refine g_qt_ret ?_
                exact g_post (rs := [.tmp 4]) rfl (.tmp rfl .nil) ⟨by rw [hno hmt]; rfl, rfl⟩ .nil
              | false =>
                rw [hw] at hmt
                refine g_iff rfl ?_
                refine g_skip ?_
                refine g_qb ?_
                refine g_qt ?_
                refine g_region ?_
                refine g_pure (p_move rfl) rfl ?_
                first | refine g_pure (p_addi rfl rfl (by omega)) rfl ?_ | refine g_pure (p_add rfl rfl) rfl ?_
                refine g_pure (p_assign rfl) rfl ?_
                refine g_nil ?_
                refine g_qn ?_
                exact g_next (j + 1) (by repeat (first | exact trivial | refine ⟨by rfl, ?_⟩)) (by repeat' (first | exact Cover.nil | exact Take.here | apply Cover.cons | apply Take.there)) ⟨by omega, hgo hmt⟩ (by omega)
            · exfalso; omega
  · have hje : j = ls.length := by omega
    rw [hje, List.take_length] at hall
    refine g_exit ?_
    refine g_qt_exit ?_
    refine g_qn_exit ?_
    refine g_qb_exit ?_
    refine g_qt ?_
    refine g_seq ?_
    refine g_region ?_
    refine g_pure (p_assign rfl) rfl ?_
    refine g_nil ?_
    refine g_qt ?_
    refine g_ret ?_
    exact g_post (rs := [.tmp 4]) rfl (.tmp rfl .nil) ⟨by rw [hall]; rfl, rfl⟩ .nil
end Go.Proofs.Ytbpgblbhikeglaa
