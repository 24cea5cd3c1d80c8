/- Own texts, put together: Oa Ob Oc Od Oe Of Og Oh. Conditions: as told at each. -/
import Derived.Test.YtcnfcoojmbjdlaaGreatDoorMApP0
import Derived.Test.YtcnfcoojmbjdlaaGreatDoorYm
import Derived.Test.YtcnfcoojmbjdlaaGreatDoorMApP1
import Derived.Test.YtcnfcoojmbjdlaaGreatDoorZm
/- Chapter 26: the document's way to read a number. Conditions: none. -/
namespace Go.Z.Asm
set_option maxRecDepth 8000
set_option linter.unusedVariables false
set_option linter.unusedSimpArgs false
set_option linter.unusedSectionVars false
open Go Go.Z Go.Lib Go.Z.Txt Go.Z.Val
def negB (w : List UInt8) : Bool := decide (w.head? = some 45)
def digW (w : List UInt8) : List UInt8 := if negB w = true then w.tail else w
def valD (d : List UInt8) : Int := d.foldl (fun a c => 10 * a + (c.toNat : Int) - 48) 0
def valW (w : List UInt8) : Int := if negB w = true then -valD (digW w) else valD (digW w)
def digs (d : List UInt8) : Prop := ∀ c ∈ d, 48 ≤ c.toNat ∧ c.toNat ≤ 57
def formD (d : List UInt8) (nb : Bool) : Prop := d ≠ [] ∧ d.length ≤ 10 ∧ ¬ (d.head? = some 48 ∧ (1 < d.length ∨ nb = true))
def okD (w : List UInt8) : Prop := formD (digW w) (negB w) ∧ digs (digW w)
theorem valD_snoc (d : List UInt8) (c : UInt8) : valD (d ++ [c]) = 10 * valD d + (c.toNat : Int) - 48 := by unfold valD; rw [List.foldl_append]; rfl
theorem snoc_ind {α : Type} {p : List α → Prop} (h0 : p []) (h1 : ∀ l a, p l → p (l ++ [a])) (l : List α) : p l := by
 have h : ∀ m : List α, p m.reverse := by
  intro m
  induction m with
  | nil => exact h0
  | cons a m ih => rw [List.reverse_cons]; exact h1 _ _ ih
 have := h l.reverse
 rwa [List.reverse_reverse] at this
theorem valD_in (d : List UInt8) : digs d → 0 ≤ valD d ∧ valD d + 1 ≤ 10 ^ d.length := by
 refine snoc_ind (p := fun d => digs d → 0 ≤ valD d ∧ valD d + 1 ≤ 10 ^ d.length) ?_ ?_ d
 ·intro _; exact ⟨Int.le_refl 0, by decide⟩
 ·intro l a ih h
  obtain ⟨i1, i2⟩ := ih fun c hc => h c (List.mem_append_left _ hc)
  obtain ⟨a1, a2⟩ := h a (List.mem_append_right _ List.mem_cons_self)
  rw [valD_snoc, List.length_append, List.length_singleton, Int.pow_succ]
  constructor <;> omega
theorem valD_lt {d : List UInt8} (h : digs d) (hl : d.length ≤ 10) : 0 ≤ valD d ∧ valD d < 10000000000 := by
 obtain ⟨h1, h2⟩ := valD_in d h
 have h3 : (10 : Nat) ^ d.length ≤ 10 ^ 10 := Nat.pow_le_pow_right (by decide) hl
 have h4 : ((10 ^ d.length : Nat) : Int) = (10 : Int) ^ d.length := by simp
 have h5 : (10 : Nat) ^ 10 = 10000000000 := rfl
 omega
theorem valD_dec (d : List UInt8) : d ≠ [] → ¬ (d.head? = some 48 ∧ 1 < d.length) → digs d → decDigits (valD d).toNat = d := by
 refine snoc_ind (p := fun d => d ≠ [] → ¬ (d.head? = some 48 ∧ 1 < d.length) → digs d → decDigits (valD d).toNat = d) ?_ ?_ d
 ·intro h; exact absurd rfl h
 ·intro l a ih _ hz h
  obtain ⟨a1, a2⟩ := h a (List.mem_append_right _ List.mem_cons_self)
  have hl : digs l := fun c hc => h c (List.mem_append_left _ hc)
  rw [valD_snoc]
  by_cases h0 : l = []
  ·subst h0
   have e : (10 * valD [] + (a.toNat : Int) - 48).toNat = a.toNat - 48 := by
    have : valD [] = 0 := rfl
    omega
   rw [e, dec_small (by omega), List.nil_append]
   congr 1
   exact UInt8.toNat_inj.1 (by rw [dig_nat (by omega)]; omega)
  ·have hll : 0 < l.length := List.length_pos_iff.2 h0
   have hh : (l ++ [a]).head? = l.head? := by cases l with | nil => exact absurd rfl h0 | cons x y => rfl
   have hz2 : l.head? ≠ some 48 := fun e => hz ⟨by rw [hh]; exact e, by rw [List.length_append, List.length_singleton]; omega⟩
   have i1 := ih h0 (fun e => hz2 e.1) hl
   obtain ⟨v1, v2⟩ := valD_in l hl
   have hv : valD l ≠ 0 := fun e => by
    rw [e] at i1
    rw [show (0 : Int).toNat = 0 from rfl, dec_small (by decide)] at i1
    rw [← i1] at hz2; exact hz2 rfl
   have e1 : ¬ (10 * valD l + (a.toNat : Int) - 48).toNat < 10 := by omega
   rw [dec_big e1, show (10 * valD l + (a.toNat : Int) - 48).toNat / 10 = (valD l).toNat by omega, i1, show (10 * valD l + (a.toNat : Int) - 48).toNat % 10 = a.toNat - 48 by omega]
   congr 2
   exact UInt8.toNat_inj.1 (by rw [dig_nat (by omega)]; omega)
theorem dec_head (u : Nat) : 1 ≤ u → (decDigits u).head? ≠ some 48 := by
 refine dec_ind (p := fun u => 1 ≤ u → (decDigits u).head? ≠ some 48) ?_ ?_ u
 ·intro u h1 h2 h3
  rw [dec_small h1] at h3
  have h4 : UInt8.ofNat (48 + u) = 48 := by simpa using h3
  have h5 := dig_nat h1
  rw [h4] at h5
  have h6 : (48 : UInt8).toNat = 48 := rfl
  omega
 ·intro u h1 ih h2 h3
  rw [dec_big h1] at h3
  have hne := (dec_digits (u / 10)).1
  have hh : (decDigits (u / 10) ++ [UInt8.ofNat (48 + u % 10)]).head? = (decDigits (u / 10)).head? := by
   cases e : decDigits (u / 10) with
   | nil => exact absurd e hne
   | cons x y => rfl
  rw [hh] at h3
  exact ih (by omega) h3
theorem okD_itoa {w : List UInt8} (h : okD w) : itoa (valW w) = w ∧ -10000000000 < valW w ∧ valW w < 10000000000 := by
 obtain ⟨⟨h1, h2, h3⟩, h4⟩ := h
 have hd := valD_dec (digW w) h1 (fun e => h3 ⟨e.1, .inl e.2⟩) h4
 obtain ⟨v1, v2⟩ := valD_lt h4 h2
 unfold valW
 by_cases hn : negB w = true
 ·rw [if_pos hn]
  have hne : valD (digW w) ≠ 0 := fun e => by
   rw [e, show (0 : Int).toNat = 0 from rfl, dec_small (by decide)] at hd
   exact h3 ⟨by rw [← hd]; rfl, .inr hn⟩
  refine ⟨?_, by omega, by omega⟩
  rw [Val.itoa_neg (by omega), show (-valD (digW w)).natAbs = (valD (digW w)).toNat by omega, hd]
  unfold digW
  rw [if_pos hn]
  unfold negB at hn
  rw [decide_eq_true_eq] at hn
  match w, hn with
  | x :: r, hn =>
   have : x = 45 := by simpa using hn
   rw [this]; rfl
 ·rw [if_neg hn]
  refine ⟨?_, by omega, by omega⟩
  rw [itoa_pos (by omega), hd]
  unfold digW
  rw [if_neg hn]
theorem itoa_okD {n : Int} (h : okI n) : okD (itoa n) := by
 obtain ⟨h1, h2⟩ := h
 by_cases hn : n < 0
 ·rw [Val.itoa_neg hn]
  have hb : negB (45 :: decDigits n.natAbs) = true := by unfold negB; rfl
  have hd : digW (45 :: decDigits n.natAbs) = decDigits n.natAbs := by unfold digW; rw [if_pos hb]; rfl
  unfold okD formD
  rw [hd]
  exact ⟨⟨(dec_digits _).1, dec_len (k := 9) _ (by omega), fun e => dec_head n.natAbs (by omega) e.1⟩, (dec_digits _).2⟩
 ·rw [itoa_pos hn]
  obtain ⟨e1, e2⟩ := dec_digits n.toNat
  have hb : negB (decDigits n.toNat) = false := by
   unfold negB
   rw [decide_eq_false_iff_not]
   intro e
   cases e3 : decDigits n.toNat with
   | nil => exact e1 e3
   | cons x r =>
    rw [e3] at e
    have : x = 45 := by simpa using e
    have h := e2 x (by rw [e3]; exact List.mem_cons_self)
    rw [this] at h
    exact absurd h (by decide)
  have hd : digW (decDigits n.toNat) = decDigits n.toNat := by unfold digW; rw [hb]; rfl
  unfold okD formD
  rw [hd, hb]
  refine ⟨⟨e1, dec_len (k := 9) _ (by omega), fun e => ?_⟩, e2⟩
  rcases Nat.eq_zero_or_pos n.toNat with h0 | h0
  ·rw [h0, dec_small (by decide)] at e
   rcases e.2 with h | h
   ·exact absurd h (by decide)
   ·cases h
  ·exact dec_head _ h0 e.1
theorem numA_yes {w : List UInt8} (h : okD w) : numA w = if -2147483648 ≤ valW w ∧ valW w ≤ 2147483647 then some (valW w) else none := by
 obtain ⟨h1, h2, h3⟩ := okD_itoa h
 have ha : atoiAll w = .ok (valW w) := by
  have := atoi_it (n := valW w) (by omega)
  rwa [h1] at this
 unfold numA
 rw [ha]
 dsimp only
 by_cases hr : -2147483648 ≤ valW w ∧ valW w ≤ 2147483647
 ·rw [if_pos ⟨h1, hr⟩, if_pos hr]
 ·rw [if_neg (fun h => hr h.2), if_neg hr]
theorem numA_no {w : List UInt8} (h : ¬ okD w) : numA w = none := by
 cases e : numA w with
 | none => rfl
 | some n =>
  obtain ⟨h1, h2⟩ := numA_some e
  rw [← h1] at h
  exact absurd (itoa_okD h2) h
theorem u8_eq {c : UInt8} {m : Nat} (hm : m < 256) : (c.toNat : Int) = m ↔ c = UInt8.ofNat m := by
 constructor
 ·intro h
  exact UInt8.toNat_inj.1 (by rw [UInt8.toNat_ofNat', Nat.mod_eq_of_lt hm]; omega)
 ·intro h
  rw [h, UInt8.toNat_ofNat', Nat.mod_eq_of_lt hm]
end Go.Z.Asm
namespace Go.Proofs.YtcnfcoojmbjdlaaGreatDoor
set_option maxRecDepth 8000
set_option linter.unusedVariables false
set_option linter.unusedSimpArgs false
set_option linter.unusedSectionVars false
open Go Go.Z Go.Z.Asm Go.RowKit Go.Z.Val

theorem rparsed_ok {ρ : Nat → Obj → Prop} (wd : List UInt8) (hl : wd.length ≤ 4294967296) : Con Tryz.prog ρ 109 #[.string (strB wd)] [] (fun v H => ∃ n : Int, v = .tuple #[.int .i64 n, .bool (numA wd).isSome] ∧ (∀ m, numA wd = some m → n = m) ∧ H = []) := by
 have hsz : (strB wd).size = wd.length := rfl
 by_cases h0 : wd = []
 ·have hno : numA wd = none := numA_no fun h => by rw [h0] at h; exact h.1.1 rfl
  rw [hno]
  subst h0
  have hz0 : (strB ([] : List UInt8)).size = 0 := rfl
  refine con_intro Tryz.func109 Tryz.call109 rfl Tryz.ntmps109 rfl (L := [(0, _)]) rfl fun w hh => ?_
  refine g_seq <| g_region ?_
  refine g_as ?_
  refine g_as ?_
  refine g_nil <| g_qt <| g_seq <| g_region ?_
  refine g_mv ?_
  refine g_pure (p_lens (by rfl) rfl) rfl ?_
  refine g_pure (p_gtr rfl rfl) rfl ?_
  refine g_mv ?_
  refine g_splitd rfl rfl (fun h1 => ?_) (fun h1 => ?_)
  ·refine g_yesA ?_
   refine g_mv ?_
   refine g_yesA ?_
   refine g_pure (p_indexs (b := 0) (by rfl) rfl rfl (by decide) (by exfalso; omega)) rfl ?_
   refine g_yesA ?_
   refine g_pure (p_eql rfl rfl) rfl ?_
   first | refine g_pkt ?_ | refine g_pkf ?_
   refine g_as ?_
   refine g_nil <| g_qt <| g_seq <| g_region ?_
   refine g_mv ?_
   refine g_as ?_
   refine g_nil <| g_qt <| g_seq <| g_seq <| g_region ?_
   refine g_mv ?_
   refine g_nil <| g_qt ?_
   refine g_ifdL rfl (fun h2 => ?_) (fun h2 => ?_)
   ·refine g_region ?_
    refine g_mv ?_
    refine g_pure (p_slicesl (l := []) (by rfl) rfl rfl (by exfalso; omega)) rfl ?_
    refine g_as ?_
    refine g_nil <| g_qt <| g_seq <| g_seq <| g_region ?_
    refine g_mv ?_
    refine g_pure (p_eqlsT (by rfl) rfl rfl rfl) rfl ?_
    refine g_mv ?_
    refine g_noA ?_
    refine g_noA ?_
    refine g_noA ?_
    first | refine g_pkt ?_ | refine g_pkf ?_
    refine g_mv ?_
    refine g_noA ?_
    refine g_noA ?_
    refine g_noA ?_
    refine g_noA ?_
    refine g_nou rfl rfl rfl ?_
    refine g_nou rfl rfl rfl ?_
    refine g_nou rfl rfl rfl ?_
    refine g_nou rfl rfl rfl ?_
    refine g_nou rfl rfl rfl ?_
    refine g_nou rfl rfl rfl ?_
    refine g_noA ?_
    first | refine g_pkt ?_ | refine g_pkf ?_
    refine g_nil <| g_qt ?_
    refine g_ift rfl ?_
    refine g_seq <| g_region ?_
    refine g_as ?_
    refine g_as ?_
    refine g_nil <| g_qt <| g_ret <| g_qt_ret ?_
    first | exact g_postA (rs := [.tmp 2, .tmp 3]) rfl (.tmp rfl (.tmp rfl .nil)) ⟨_, rfl, fun m h => by (cases h), rfl⟩ | (exfalso; simp at *; done) | (exfalso; omega)
   ·refine g_skip <| g_qt <| g_seq <| g_seq <| g_region ?_
    refine g_mv ?_
    refine g_pure (p_eqlsT (by rfl) rfl rfl rfl) rfl ?_
    refine g_mv ?_
    refine g_noA ?_
    refine g_noA ?_
    refine g_noA ?_
    first | refine g_pkt ?_ | refine g_pkf ?_
    refine g_mv ?_
    refine g_noA ?_
    refine g_noA ?_
    refine g_noA ?_
    refine g_noA ?_
    refine g_nou rfl rfl rfl ?_
    refine g_nou rfl rfl rfl ?_
    refine g_nou rfl rfl rfl ?_
    refine g_nou rfl rfl rfl ?_
    refine g_nou rfl rfl rfl ?_
    refine g_nou rfl rfl rfl ?_
    refine g_noA ?_
    first | refine g_pkt ?_ | refine g_pkf ?_
    refine g_nil <| g_qt ?_
    refine g_ift rfl ?_
    refine g_seq <| g_region ?_
    refine g_as ?_
    refine g_as ?_
    refine g_nil <| g_qt <| g_ret <| g_qt_ret ?_
    first | exact g_postA (rs := [.tmp 2, .tmp 3]) rfl (.tmp rfl (.tmp rfl .nil)) ⟨_, rfl, fun m h => by (cases h), rfl⟩ | (exfalso; simp at *; done) | (exfalso; omega)
  ·refine g_noA ?_
   refine g_noA ?_
   refine g_noA ?_
   first | refine g_pkt ?_ | refine g_pkf ?_
   refine g_as ?_
   refine g_nil <| g_qt <| g_seq <| g_region ?_
   refine g_mv ?_
   refine g_as ?_
   refine g_nil <| g_qt <| g_seq <| g_seq <| g_region ?_
   refine g_mv ?_
   refine g_nil <| g_qt ?_
   refine g_iff rfl ?_
   refine g_skip <| g_qt <| g_seq <| g_seq <| g_region ?_
   refine g_mv ?_
   refine g_pure (p_eqlsT (by rfl) rfl rfl rfl) rfl ?_
   refine g_mv ?_
   refine g_noA ?_
   refine g_noA ?_
   refine g_noA ?_
   first | refine g_pkt ?_ | refine g_pkf ?_
   refine g_mv ?_
   refine g_noA ?_
   refine g_noA ?_
   refine g_noA ?_
   refine g_noA ?_
   refine g_nou rfl rfl rfl ?_
   refine g_nou rfl rfl rfl ?_
   refine g_nou rfl rfl rfl ?_
   refine g_nou rfl rfl rfl ?_
   refine g_nou rfl rfl rfl ?_
   refine g_nou rfl rfl rfl ?_
   refine g_noA ?_
   first | refine g_pkt ?_ | refine g_pkf ?_
   refine g_nil <| g_qt ?_
   refine g_ift rfl ?_
   refine g_seq <| g_region ?_
   refine g_as ?_
   refine g_as ?_
   refine g_nil <| g_qt <| g_ret <| g_qt_ret ?_
   first | exact g_postA (rs := [.tmp 2, .tmp 3]) rfl (.tmp rfl (.tmp rfl .nil)) ⟨_, rfl, fun m h => by (cases h), rfl⟩ | (exfalso; simp at *; done) | (exfalso; omega)
 ·obtain ⟨c0, rest, hcr⟩ : ∃ c r, wd = c :: r := by
   cases wd with
   | nil => exact absurd rfl h0
   | cons c r => exact ⟨c, r, rfl⟩
  have hlen : wd.length = rest.length + 1 := by rw [hcr]; rfl
  have hc0 : (strB wd).data.toList[(0 : Int).toNat]? = some c0 := by rw [hcr]; rfl
  have hnb : negB wd = decide (c0 = 45) := by rw [hcr]; unfold negB; simp
  have hdw : digW wd = if negB wd = true then rest else wd := by unfold digW; rw [hcr]; rfl
  have hval : valW wd = if negB wd = true then -valD (digW wd) else valD (digW wd) := rfl
  have hyes : okD wd → numA wd = if -2147483648 ≤ valW wd ∧ valW wd ≤ 2147483647 then some (valW wd) else none := numA_yes
  have hno : ¬ okD wd → numA wd = none := numA_no
  have hok : okD wd ↔ formD (digW wd) (negB wd) ∧ digs (digW wd) := Iff.rfl
  generalize hNA : numA wd = NA at hyes hno ⊢
  generalize hD : digW wd = d at hdw hval hok
  generalize hB : negB wd = nb at hnb hdw hval hok
  generalize hV : valW wd = vw at hval hyes
  have hform : formD d nb ↔ d ≠ [] ∧ d.length ≤ 10 ∧ ¬ (d.head? = some 48 ∧ (1 < d.length ∨ nb = true)) := Iff.rfl
  refine con_intro Tryz.func109 Tryz.call109 rfl Tryz.ntmps109 rfl (L := [(0, _)]) rfl fun w hh => ?_
  refine g_seq <| g_region ?_
  refine g_as ?_
  refine g_as ?_
  refine g_nil <| g_qt <| g_seq <| g_region ?_
  refine g_mv ?_
  refine g_pure (p_lens (by rfl) rfl) rfl ?_
  refine g_pure (p_gtr rfl rfl) rfl ?_
  refine g_mv ?_
  refine g_splitd rfl rfl (fun h1 => ?_) (fun h1 => ?_)
  ·refine g_yesA ?_
   refine g_mv ?_
   refine g_yesA ?_
   refine g_pure (p_indexs (by rfl) rfl rfl (by decide) hc0) rfl ?_
   refine g_yesA ?_
   refine g_pure (p_eql rfl rfl) rfl ?_
   first | refine g_pkt ?_ | refine g_pkf ?_
   refine g_as ?_
   refine g_nil <| g_qt <| g_seq <| g_region ?_
   refine g_mv ?_
   refine g_as ?_
   refine g_nil <| g_qt <| g_seq <| g_seq <| g_region ?_
   refine g_mv ?_
   refine g_nil <| g_qt ?_
   have h45 : c0 = 45 ↔ (c0.toNat : Int) = 45 := (u8_eq (c := c0) (m := 45) (by decide)).symm
   rw [show decide ((c0.toNat : Int) = 45) = nb by rw [hnb]; exact decide_eq_decide.2 h45.symm]
   have hdl : d.length ≤ 4294967296 := by rw [hdw]; split <;> omega
   refine g_join (fun _ : Unit => [(4, .bool nb), (5, .string (strB d))]) (fun _ => []) (fun _ => True) ?_ ?_
   ·refine g_if rfl (fun q => ?_) (fun q => ?_)
    ·refine g_region ?_
     refine g_mv ?_
     refine g_pure (p_slicesl (by rfl) rfl rfl (by omega)) rfl ?_
     refine g_as ?_
     refine g_nil <| g_qn ?_
     rw [if_pos q] at hdw
     rw [show (⟨(wd.drop (1 : Int).toNat).toArray⟩ : ByteArray) = strB d by rw [hdw, hcr]; rfl]
     exact g_joinedA () trivial
    ·rw [if_neg (by rw [q]; decide)] at hdw
     refine g_skip <| g_qn ?_
     rw [← hdw]
     exact g_joinedA () trivial
   rintro _ -
   refine g_qt ?_
   have hds : (strB d).size = d.length := rfl
   have hdn : strB d = ⟨#[]⟩ ↔ d = [] := strB_inj (b := [])
   obtain ⟨e0, he0⟩ : ∃ e, d ≠ [] → (strB d).data.toList[(0 : Int).toNat]? = some e ∧ d.head? = some e := by
    cases d with
    | nil => exact ⟨0, fun h => absurd rfl h⟩
    | cons x r => exact ⟨x, fun _ => ⟨rfl, rfl⟩⟩
   have h48 : (e0.toNat : Int) = 48 ↔ e0 = 48 := u8_eq (c := e0) (m := 48) (by decide)
   have hx1 : d = [] → NA = none := fun h => hno fun e => (hform.1 (hok.1 e).1).1 h
   have hx2 : ¬ d.length ≤ 10 → NA = none := fun h => hno fun e => h (hform.1 (hok.1 e).1).2.1
   have hx3 : d ≠ [] → (e0.toNat : Int) = 48 → (1 < d.length ∨ nb = true) → NA = none := fun h h' h'' => hno fun e => (hform.1 (hok.1 e).1).2.2 ⟨by rw [(he0 h).2, h48.1 h'], h''⟩
   have hf1 : d ≠ [] → d.length ≤ 10 → ¬ ((e0.toNat : Int) = 48 ∧ (1 < d.length ∨ nb = true)) → formD d nb := fun h h' h'' => hform.2 ⟨h, h', fun e => h'' ⟨h48.2 (by have := e.1; rw [(he0 h).2] at this; simpa using this), e.2⟩⟩
   refine g_seq ?_
   refine g_join (fun _ : Unit => [(4, .bool nb), (5, .string (strB d))]) (fun _ => []) (fun _ => formD d nb) ?_ ?_
   ·refine g_seq <| g_region ?_
    refine g_mv ?_
    refine g_pure (p_eqls (i := strB d) (j := ⟨#[]⟩) (by rfl) rfl rfl) rfl ?_
    refine g_mv ?_
    refine g_splitd rfl rfl (fun h1 => ?_) (fun h1 => ?_)
    ·refine g_noA ?_
     refine g_noA ?_
     refine g_noA ?_
     first | refine g_pkt ?_ | refine g_pkf ?_
     refine g_mv ?_
     refine g_noA ?_
     refine g_noA ?_
     refine g_noA ?_
     refine g_noA ?_
     refine g_nou rfl rfl rfl ?_
     refine g_nou rfl rfl rfl ?_
     refine g_nou rfl rfl rfl ?_
     refine g_nou rfl rfl rfl ?_
     refine g_nou rfl rfl rfl ?_
     refine g_nou rfl rfl rfl ?_
     refine g_noA ?_
     first | refine g_pkt ?_ | refine g_pkf ?_
     refine g_nil <| g_qt ?_
     refine g_ift rfl ?_
     refine g_seq <| g_region ?_
     refine g_as ?_
     refine g_as ?_
     refine g_nil <| g_qt <| g_ret <| g_qn_ret <| g_qt_ret ?_
     first | exact g_postA (rs := [.tmp 2, .tmp 3]) rfl (.tmp rfl (.tmp rfl .nil)) ⟨_, by rw [hx1 (hdn.1 (by assumption))]; rfl, fun m h => by (rw [hx1 (hdn.1 (by assumption))] at h; cases h), rfl⟩ | exact g_postA (rs := [.tmp 2, .tmp 3]) rfl (.tmp rfl (.tmp rfl .nil)) ⟨_, by rw [hx2 (by omega)]; rfl, fun m h => by (rw [hx2 (by omega)] at h; cases h), rfl⟩ | exact g_postA (rs := [.tmp 2, .tmp 3]) rfl (.tmp rfl (.tmp rfl .nil)) ⟨_, by rw [hx3 (fun e => by have := hdn.2 e; contradiction) (by assumption) (by first | exact .inl (by omega) | exact .inr (by assumption))]; rfl, fun m h => by (rw [hx3 (fun e => by have := hdn.2 e; contradiction) (by assumption) (by first | exact .inl (by omega) | exact .inr (by assumption))] at h; cases h), rfl⟩
    ·refine g_yesA ?_
     refine g_mv ?_
     refine g_yesA ?_
     refine g_pure (p_lens (by rfl) rfl) rfl ?_
     refine g_yesA ?_
     refine g_pure (p_gtr rfl rfl) rfl ?_
     first | refine g_pkt ?_ | refine g_pkf ?_
     refine g_mv ?_
     refine g_splitd rfl rfl (fun h6 => ?_) (fun h6 => ?_)
     ·refine g_noA ?_
      refine g_noA ?_
      refine g_noA ?_
      refine g_noA ?_
      refine g_nou rfl rfl rfl ?_
      refine g_nou rfl rfl rfl ?_
      refine g_nou rfl rfl rfl ?_
      refine g_nou rfl rfl rfl ?_
      refine g_nou rfl rfl rfl ?_
      refine g_nou rfl rfl rfl ?_
      refine g_noA ?_
      first | refine g_pkt ?_ | refine g_pkf ?_
      refine g_nil <| g_qt ?_
      refine g_ift rfl ?_
      refine g_seq <| g_region ?_
      refine g_as ?_
      refine g_as ?_
      refine g_nil <| g_qt <| g_ret <| g_qn_ret <| g_qt_ret ?_
      first | exact g_postA (rs := [.tmp 2, .tmp 3]) rfl (.tmp rfl (.tmp rfl .nil)) ⟨_, by rw [hx1 (hdn.1 (by assumption))]; rfl, fun m h => by (rw [hx1 (hdn.1 (by assumption))] at h; cases h), rfl⟩ | exact g_postA (rs := [.tmp 2, .tmp 3]) rfl (.tmp rfl (.tmp rfl .nil)) ⟨_, by rw [hx2 (by omega)]; rfl, fun m h => by (rw [hx2 (by omega)] at h; cases h), rfl⟩ | exact g_postA (rs := [.tmp 2, .tmp 3]) rfl (.tmp rfl (.tmp rfl .nil)) ⟨_, by rw [hx3 (fun e => by have := hdn.2 e; contradiction) (by assumption) (by first | exact .inl (by omega) | exact .inr (by assumption))]; rfl, fun m h => by (rw [hx3 (fun e => by have := hdn.2 e; contradiction) (by assumption) (by first | exact .inl (by omega) | exact .inr (by assumption))] at h; cases h), rfl⟩
     ·refine g_yesA ?_
      refine g_mv ?_
      refine g_yesA ?_
      refine g_pure (p_indexs (by rfl) rfl rfl (by decide) (he0 (fun e => by have := hdn.2 e; contradiction)).1) rfl ?_
      refine g_yesA ?_
      refine g_pure (p_eql rfl rfl) rfl ?_
      refine g_yesA ?_
      refine g_mv ?_
      refine g_splitd rfl rfl (fun h10 => ?_) (fun h10 => ?_)
      ·refine g_yesA ?_
       refine g_mv ?_
       refine g_yesA ?_
       refine g_pure (p_lens (by rfl) rfl) rfl ?_
       refine g_yesA ?_
       refine g_pure (p_gtr rfl rfl) rfl ?_
       refine g_yesA ?_
       refine g_mv ?_
       refine g_splitd rfl rfl (fun h11 => ?_) (fun h11 => ?_)
       ·refine g_noA ?_
        refine g_yesA ?_
        first | refine g_pkt ?_ | refine g_pkf ?_
        refine g_yesA ?_
        first | refine g_pkt ?_ | refine g_pkf ?_
        first | refine g_pkt ?_ | refine g_pkf ?_
        refine g_nil <| g_qt ?_
        refine g_ift rfl ?_
        refine g_seq <| g_region ?_
        refine g_as ?_
        refine g_as ?_
        refine g_nil <| g_qt <| g_ret <| g_qn_ret <| g_qt_ret ?_
        first | exact g_postA (rs := [.tmp 2, .tmp 3]) rfl (.tmp rfl (.tmp rfl .nil)) ⟨_, by rw [hx1 (hdn.1 (by assumption))]; rfl, fun m h => by (rw [hx1 (hdn.1 (by assumption))] at h; cases h), rfl⟩ | exact g_postA (rs := [.tmp 2, .tmp 3]) rfl (.tmp rfl (.tmp rfl .nil)) ⟨_, by rw [hx2 (by omega)]; rfl, fun m h => by (rw [hx2 (by omega)] at h; cases h), rfl⟩ | exact g_postA (rs := [.tmp 2, .tmp 3]) rfl (.tmp rfl (.tmp rfl .nil)) ⟨_, by rw [hx3 (fun e => by have := hdn.2 e; contradiction) (by assumption) (by first | exact .inl (by omega) | exact .inr (by assumption))]; rfl, fun m h => by (rw [hx3 (fun e => by have := hdn.2 e; contradiction) (by assumption) (by first | exact .inl (by omega) | exact .inr (by assumption))] at h; cases h), rfl⟩
       ·refine g_yesA ?_
        refine g_mv ?_
        refine g_yesA ?_
        first | refine g_pkt ?_ | refine g_pkf ?_
        refine g_yesA ?_
        first | refine g_pkt ?_ | refine g_pkf ?_
        first | refine g_pkt ?_ | refine g_pkf ?_
        refine g_nil <| g_qt ?_
        refine g_ifL rfl (fun h13 => ?_) (fun h13 => ?_)
        ·refine g_seq <| g_region ?_
         refine g_as ?_
         refine g_as ?_
         refine g_nil <| g_qt <| g_ret <| g_qn_ret <| g_qt_ret ?_
         first | exact g_postA (rs := [.tmp 2, .tmp 3]) rfl (.tmp rfl (.tmp rfl .nil)) ⟨_, by rw [hx1 (hdn.1 (by assumption))]; rfl, fun m h => by (rw [hx1 (hdn.1 (by assumption))] at h; cases h), rfl⟩ | exact g_postA (rs := [.tmp 2, .tmp 3]) rfl (.tmp rfl (.tmp rfl .nil)) ⟨_, by rw [hx2 (by omega)]; rfl, fun m h => by (rw [hx2 (by omega)] at h; cases h), rfl⟩ | exact g_postA (rs := [.tmp 2, .tmp 3]) rfl (.tmp rfl (.tmp rfl .nil)) ⟨_, by rw [hx3 (fun e => by have := hdn.2 e; contradiction) (by assumption) (by first | exact .inl (by omega) | exact .inr (by assumption))]; rfl, fun m h => by (rw [hx3 (fun e => by have := hdn.2 e; contradiction) (by assumption) (by first | exact .inl (by omega) | exact .inr (by assumption))] at h; cases h), rfl⟩
        ·refine g_skip <| g_qn ?_
         exact g_joinedA () (hf1 (fun e => by have := hdn.2 e; contradiction) (by omega) (fun e => by first | (obtain ⟨e1, e2 | e2⟩ := e; omega; simp_all) | (have := e.1; contradiction)))
      ·refine g_noA ?_
       refine g_noA ?_
       refine g_noA ?_
       refine g_noA ?_
       refine g_nou rfl rfl rfl ?_
       refine g_noA ?_
       refine g_yesA ?_
       first | refine g_pkt ?_ | refine g_pkf ?_
       first | refine g_pkt ?_ | refine g_pkf ?_
       refine g_nil <| g_qt ?_
       refine g_iff rfl ?_
       refine g_skip <| g_qn ?_
       exact g_joinedA () (hf1 (fun e => by have := hdn.2 e; contradiction) (by omega) (fun e => by first | (obtain ⟨e1, e2 | e2⟩ := e; omega; simp_all) | (have := e.1; contradiction)))
   rintro _ hfd
   refine g_qt ?_
   obtain ⟨k1, k2, k3⟩ := hform.1 hfd
   refine g_seq <| g_region ?_
   refine g_as ?_
   refine g_nil <| g_qt <| g_seq <| g_seq <| g_region ?_
   refine g_as ?_
   refine g_nil <| g_qt <| g_block ?_
   refine g_loop (fun q : Nat × Int => [(4, .bool nb), (5, .string (strB d)), (6, .int .i64 q.2), (7, .int .i64 q.1)]) (fun _ => []) (fun q => q.1 ≤ d.length ∧ digs (d.take q.1) ∧ q.2 = valD (d.take q.1)) (fun q => d.length - q.1) (0, 0) ⟨Nat.zero_le _, fun c hc => absurd hc (by simp), rfl⟩ (by (repeat (first | exact trivial | refine ⟨by rfl, ?_⟩)); done) (by repeat' (first | exact Cover.nil | exact Take.here | apply Cover.cons | apply Take.there)) ?_
   rintro ⟨k, z⟩ ⟨hk1, hk2, hk3⟩
   dsimp only at hk1 hk2 hk3 ⊢
   have hzb := valD_lt hk2 (by rw [List.length_take]; omega)
   refine g_seq <| g_seq <| g_region ?_
   refine g_mv ?_
   refine g_mv ?_
   refine g_pure (p_lens (by rfl) rfl) rfl ?_
   refine g_pure (p_lss rfl rfl) rfl ?_
   refine g_nil <| g_qt ?_
   refine g_ifd rfl (fun q => ?_) (fun q => ?_)
   ·have hkl : k < d.length := by omega
    have hx := strB_at d hkl
    have hmem := List.getElem_mem hkl
    have hta : d.take (k + 1) = d.take k ++ [d[k]] := by rw [List.take_add_one, List.getElem?_eq_getElem hkl]; rfl
    have hno2 : ¬ (48 ≤ d[k].toNat ∧ d[k].toNat ≤ 57) → NA = none := fun h => hno fun e => h ((hok.1 e).2 _ hmem)
    have hstep : 48 ≤ d[k].toNat ∧ d[k].toNat ≤ 57 → digs (d.take (k + 1)) := fun h c hc => by
     rw [hta] at hc
     rcases List.mem_append.1 hc with hc | hc
     ·exact hk2 c hc
     ·rw [List.mem_singleton.1 hc]; exact h
    have hvs : valD (d.take (k + 1)) = 10 * valD (d.take k) + (d[k].toNat : Int) - 48 := by rw [hta, valD_snoc]
    rw [← hk3] at hvs hzb
    generalize d[k] = ch at hx hno2 hstep hvs
    have hch : ch.toNat < 256 := ch.toNat_lt
    refine g_skip <| g_qt <| g_seq <| g_block <| g_seq <| g_seq <| g_region ?_
    refine g_mv ?_
    refine g_mv ?_
    refine g_pure (p_indexs (by rfl) rfl rfl (by omega) hx) rfl ?_
    refine g_pure (p_lss rfl rfl) rfl ?_
    refine g_mv ?_
    refine g_splitd rfl rfl (fun h1 => ?_) (fun h1 => ?_)
    ·refine g_noA ?_
     refine g_noA ?_
     refine g_noA ?_
     refine g_noA ?_
     first | refine g_pkt ?_ | refine g_pkf ?_
     refine g_nil <| g_qt ?_
     refine g_ift rfl ?_
     refine g_seq <| g_region ?_
     refine g_as ?_
     refine g_as ?_
     refine g_nil <| g_qt <| g_ret <| g_qt_ret <| g_qb_ret <| g_qt_ret <| g_qn_ret <| g_qb_ret ?_
     refine g_qt_ret ?_
     exact g_postA (rs := [.tmp 2, .tmp 3]) rfl (.tmp rfl (.tmp rfl .nil)) ⟨_, by rw [hno2 (by omega)]; rfl, fun m h => by (rw [hno2 (by omega)] at h; cases h), rfl⟩
    ·refine g_yesA ?_
     refine g_mv ?_
     refine g_yesA ?_
     refine g_mv ?_
     refine g_yesA ?_
     refine g_pure (p_indexs (by rfl) rfl rfl (by omega) hx) rfl ?_
     refine g_yesA ?_
     refine g_pure (p_gtr rfl rfl) rfl ?_
     first | refine g_pkt ?_ | refine g_pkf ?_
     refine g_nil <| g_qt ?_
     refine g_ifdL rfl (fun h3 => ?_) (fun h3 => ?_)
     ·refine g_seq <| g_region ?_
      refine g_as ?_
      refine g_as ?_
      refine g_nil <| g_qt <| g_ret <| g_qt_ret <| g_qb_ret <| g_qt_ret <| g_qn_ret <| g_qb_ret ?_
      refine g_qt_ret ?_
      exact g_postA (rs := [.tmp 2, .tmp 3]) rfl (.tmp rfl (.tmp rfl .nil)) ⟨_, by rw [hno2 (by omega)]; rfl, fun m h => by (rw [hno2 (by omega)] at h; cases h), rfl⟩
     ·refine g_skip <| g_qt <| g_region ?_
      refine g_mv ?_
      first | refine g_pure (p_muli rfl rfl (by omega)) rfl ?_ | refine g_pure (p_mul rfl rfl) rfl ?_
      refine g_mv ?_
      refine g_mv ?_
      refine g_pure (p_indexs (by rfl) rfl rfl (by omega) hx) rfl ?_
      refine g_pure (p_convi (by rfl) rfl (by omega)) rfl ?_
      first | refine g_pure (p_addi rfl rfl (by omega)) rfl ?_ | refine g_pure (p_add rfl rfl) rfl ?_
      first | refine g_pure (p_subi rfl rfl (by omega)) rfl ?_ | refine g_pure (p_sub rfl rfl) rfl ?_
      refine g_as ?_
      refine g_nil <| g_qb <| g_qt <| g_region ?_
      refine g_mv ?_
      first | refine g_pure (p_addi rfl rfl (by omega)) rfl ?_ | refine g_pure (p_add rfl rfl) rfl ?_
      refine g_as ?_
      refine g_nil <| g_qn ?_
      exact g_nextA (k + 1, 10 * z + (ch.toNat : Int) - 48) ⟨hkl, hstep (by omega), hvs.symm⟩ (by dsimp only; omega)
   ·rw [List.take_of_length_le (by omega)] at hk2 hk3 hzb
    have hNAv := hyes (hok.2 ⟨hfd, hk2⟩)
    rw [← hk3] at hzb
    refine g_exit <| g_qt_exit <| g_qn_exit <| g_qb_exit <| g_qt <| g_seq <| g_seq <| g_region ?_
    refine g_mv ?_
    refine g_nil <| g_qt ?_
    refine g_join (fun _ : Unit => [(6, .int .i64 vw)]) (fun _ => []) (fun _ => True) ?_ ?_
    ·refine g_if rfl (fun t => ?_) (fun t => ?_)
     ·rw [if_pos t, ← hk3] at hval
      refine g_region ?_
      refine g_mv ?_
      first | refine g_pure (p_negi rfl (by omega)) rfl ?_ | refine g_pure (p_neg rfl) rfl ?_
      refine g_as ?_
      refine g_nil <| g_qn ?_
      rw [← hval]
      exact g_joinedA () trivial
     ·rw [if_neg (by rw [t]; decide), ← hk3] at hval
      refine g_skip <| g_qn ?_
      rw [← hval]
      exact g_joinedA () trivial
    rintro _ -
    refine g_qt <| g_seq <| g_region ?_
    refine g_mv ?_
    refine g_mv ?_
    refine g_pure (p_geq rfl rfl) rfl ?_
    refine g_mv ?_
    refine g_splitd rfl rfl (fun h1 => ?_) (fun h1 => ?_)
    ·refine g_yesA ?_
     refine g_mv ?_
     refine g_yesA ?_
     refine g_pure (p_leq rfl rfl) rfl ?_
     first | refine g_pkt ?_ | refine g_pkf ?_
     refine g_as ?_
     refine g_as ?_
     refine g_nil <| g_qt <| g_ret ?_
     first | exact g_postA (rs := [.tmp 2, .tmp 3]) rfl (.tmp rfl (.tmp rfl .nil)) ⟨vw, by (rw [hNAv]; by_cases h9 : vw ≤ 2147483647; rw [if_pos ⟨by omega, h9⟩, decide_eq_true h9]; rfl; rw [if_neg (fun h => h9 h.2), decide_eq_false h9]; rfl), fun m h => by (rw [hNAv] at h; split at h; injection h; cases h), rfl⟩ | exact g_postA (rs := [.tmp 2, .tmp 3]) rfl (.tmp rfl (.tmp rfl .nil)) ⟨vw, by (rw [hNAv, if_neg (fun h => by omega)]; rfl), fun m h => by (rw [hNAv, if_neg (fun h => by omega)] at h; cases h), rfl⟩
    ·refine g_noA ?_
     refine g_noA ?_
     first | refine g_pkt ?_ | refine g_pkf ?_
     refine g_as ?_
     refine g_as ?_
     refine g_nil <| g_qt <| g_ret ?_
     first | exact g_postA (rs := [.tmp 2, .tmp 3]) rfl (.tmp rfl (.tmp rfl .nil)) ⟨vw, by (rw [hNAv]; by_cases h9 : vw ≤ 2147483647; rw [if_pos ⟨by omega, h9⟩, decide_eq_true h9]; rfl; rw [if_neg (fun h => h9 h.2), decide_eq_false h9]; rfl), fun m h => by (rw [hNAv] at h; split at h; injection h; cases h), rfl⟩ | exact g_postA (rs := [.tmp 2, .tmp 3]) rfl (.tmp rfl (.tmp rfl .nil)) ⟨vw, by (rw [hNAv, if_neg (fun h => by omega)]; rfl), fun m h => by (rw [hNAv, if_neg (fun h => by omega)] at h; cases h), rfl⟩
  ·exfalso; omega
end Go.Proofs.YtcnfcoojmbjdlaaGreatDoor
/- Chapter 26: the document's way to read words, numbers, an operation. Conditions: none. -/
namespace Go.Z.Asm
set_option maxRecDepth 8000
set_option linter.unusedVariables false
set_option linter.unusedSimpArgs false
set_option linter.unusedSectionVars false
open Go Go.Z Go.Lib Go.Z.Txt Go.Z.Val
theorem nums_step {W : List (List UInt8)} {k : Nat} (hk : k < W.length) {out : List Int} (h : numsO (W.take k) = some out) {m : Int} (hm : numA W[k] = some m) : numsO (W.take (k + 1)) = some (out ++ [m]) := by
 have hl := numsO_len h
 unfold numsO at h ⊢
 split at h
 ·cases h
 ·rename_i h0
  have h0' : (W.take k).any (fun w => (numA w).isNone) = false := by simpa using h0
  have h1 : (W.take (k + 1)).any (fun w => (numA w).isNone) = false := by
   rw [List.take_add_one, List.getElem?_eq_getElem hk, Option.toList_some, List.any_append, h0']; simp [hm]
  rw [h1, if_neg (by decide), hl.2]
  unfold numsV
  rw [List.take_add_one, List.getElem?_eq_getElem hk, Option.toList_some, List.map_append]; simp [hm]
theorem nums_bad {W : List (List UInt8)} {k : Nat} (hk : k < W.length) (hm : numA W[k] = none) : numsO W = none := by
 unfold numsO
 rw [if_pos]
 rw [List.any_eq_true]
 exact ⟨W[k], List.getElem_mem hk, by rw [hm]; rfl⟩
def opR (w : List UInt8) : Int := match opF w with | some k => k | none => 0
theorem wordR_ne : ∀ k, 1 ≤ k → k < 11 → wordR k ≠ [] := by
 intro k h1 h2
 have : k = 1 ∨ k = 2 ∨ k = 3 ∨ k = 4 ∨ k = 5 ∨ k = 6 ∨ k = 7 ∨ k = 8 ∨ k = 9 ∨ k = 10 := by omega
 rcases this with rfl | rfl | rfl | rfl | rfl | rfl | rfl | rfl | rfl | rfl <;> decide
theorem wordR_row (k : Nat) (h1 : 1 ≤ k) (h2 : k < 11) : (opRow (k : Int)).1 = wordR k := by
 have : k = 1 ∨ k = 2 ∨ k = 3 ∨ k = 4 ∨ k = 5 ∨ k = 6 ∨ k = 7 ∨ k = 8 ∨ k = 9 ∨ k = 10 := by omega
 rcases this with rfl | rfl | rfl | rfl | rfl | rfl | rfl | rfl | rfl | rfl <;> rfl
/-- a word that is begun, ahead of the pieces that are left -/
def prep (w : List UInt8) : List (List UInt8) → List (List UInt8)
 | [] => []
 | x :: r => (w ++ x) :: r
theorem prep_nil {P : List (List UInt8)} : prep [] P = P := by cases P <;> rfl
theorem prep_hit {s : List UInt8} {i : Nat} (hi : i < s.length) (h : s[i] = 32) (w : List UInt8) : prep w (pieces 32 (s.drop i)) = w :: pieces 32 (s.drop (i + 1)) := by
 rw [List.drop_eq_getElem_cons hi, h, pieces, if_pos rfl]
 show (w ++ []) :: _ = _
 rw [List.append_nil]
theorem prep_miss {s : List UInt8} {i : Nat} (hi : i < s.length) (h : s[i] ≠ 32) (w : List UInt8) : prep w (pieces 32 (s.drop i)) = prep (w ++ [s[i]]) (pieces 32 (s.drop (i + 1))) := by
 rw [List.drop_eq_getElem_cons hi, pieces, if_neg h]
 cases e : pieces 32 (s.drop (i + 1)) with
 | nil => exact absurd e (pieces_ne _ _)
 | cons x r => simp [prep]
theorem prep_end {s : List UInt8} (w : List UInt8) : prep w (pieces 32 (s.drop s.length)) = [w] := by rw [List.drop_length]; simp [pieces, prep]
end Go.Z.Asm
namespace Go.Proofs.YtcnfcoojmbjdlaaGreatDoor
set_option maxRecDepth 8000
set_option linter.unusedVariables false
set_option linter.unusedSimpArgs false
set_option linter.unusedSectionVars false
open Go Go.Z Go.Z.Asm Go.RowKit Go.Z.Val Go.Z.Txt

def NumsPost (TI : TypeId) (W : List (List UInt8)) (v : Value) (H : List Assn) : Prop := match numsO W with
 | none => v = .tuple #[.slice none 0 0, .bool false] ∧ H = []
 | some l => ∃ oa oc, v = .tuple #[.slice oa l.length oc, .bool true] ∧ H = [OwnSl TI 1 oa l.length oc (l.map encI)]
theorem rnumbers_ok {ρ : Nat → Obj → Prop} (a : Option Addr) (c : Nat) (W : List (List UInt8)) (hW : RSl ρ 1 a W.length (W.map strV)) (hl : W.length ≤ 4294967296) (hlen : ∀ w ∈ W, w.length ≤ 4294967296) :
  Con Tryz.prog ρ 79 #[.slice a W.length c] [] (NumsPost 3 W) := by
 obtain ⟨b, off, cs, T, fz, hr⟩ := strs_at hW
 have hbad : ∀ k (hk : k < W.length), numA W[k] = none → numsO W = none := fun k hk h => nums_bad hk h
 unfold NumsPost
 generalize hO : numsO W = O at hbad ⊢
 refine con_intro Tryz.func79 Tryz.call79 rfl Tryz.ntmps79 rfl (L := [(0, _)]) rfl fun w hh => ?_
 refine g_seq <| g_region ?_
 refine g_as ?_
 refine g_as ?_
 refine g_nil <| g_qt <| g_seq <| g_region ?_
 refine g_as ?_
 refine g_nil <| g_qt <| g_seq <| g_seq <| g_region ?_
 refine g_as ?_
 refine g_nil <| g_qt <| g_block ?_
 refine g_ownnil (e := 3) (size := 1) ?_
 refine g_loop (fun q : List Int × Option Addr × Nat => [(0, .slice a W.length c), (4, .slice q.2.1 q.1.length q.2.2), (5, .int .i64 q.1.length)])
  (fun q => [OwnSl 3 1 q.2.1 q.1.length q.2.2 (q.1.map encI)]) (fun q => q.1.length ≤ W.length ∧ numsO (W.take q.1.length) = some q.1) (fun q => W.length - q.1.length) ([], none, 0) ⟨Nat.zero_le _, rfl⟩ (by (repeat (first | exact trivial | refine ⟨by rfl, ?_⟩)); done) (by repeat' (first | exact Cover.nil | exact Take.here | apply Cover.cons | apply Take.there)) ?_
 rintro ⟨out, oa, oc⟩ ⟨hk1, hk2⟩
 dsimp only at hk1 hk2 ⊢
 refine g_seq <| g_seq <| g_region ?_
 refine g_mv ?_
 refine g_mv ?_
 refine g_pure (p_len (by rfl) rfl) rfl ?_
 refine g_pure (p_lss rfl rfl) rfl ?_
 refine g_nil <| g_qt ?_
 refine g_ifd rfl (fun q => ?_) (fun q => ?_)
 ·have hkl : out.length < W.length := by omega
  obtain ⟨r1, r2, r3⟩ := hr (by omega)
  have hst := fun m => nums_step hkl hk2 (m := m)
  have hb2 := hbad out.length hkl
  refine g_skip <| g_qt <| g_seq <| g_block <| g_seq <| g_region ?_
  refine g_mv ?_
  refine g_mv ?_
  refine g_pure (p_indexAddr rfl rfl (by omega) (fun _ => r1)) rfl ?_
  refine g_pure (p_load (by rfl) rfl (Has.ro r2) (r3 out.length hkl)) rfl ?_
  refine g_call (Hin := []) (Hr := ?hr1) (R := ?rr1) rfl rfl rfl ?hin1 ?hc1 ?hk1
  case hin1 => repeat' (first | exact Cover.nil | exact Take.here | apply Cover.cons | apply Take.there)
  case hc1 => intro ρ' hρ hR; exact rparsed_ok W[out.length] (hlen _ (List.getElem_mem hkl))
  rintro _ _ ⟨n, rfl, hn, rfl⟩
  rcases hNA : numA W[out.length] with _ | m
  ·rw [show (none : Option Int).isSome = false from rfl]
   have hOn := hb2 hNA
   subst hOn
   refine g_mv ?_
   refine g_pure (p_extract rfl rfl) rfl ?_
   refine g_pure (p_extract rfl rfl) rfl ?_
   refine g_as ?_
   refine g_as ?_
   refine g_nil <| g_qt <| g_seq <| g_seq <| g_region ?_
   refine g_mv ?_
   refine g_pure (p_not rfl) rfl ?_
   refine g_nil <| g_qt ?_
   refine g_ift rfl ?_
   refine g_seq <| g_region ?_
   refine g_as ?_
   refine g_as ?_
   refine g_nil <| g_qt <| g_ret <| g_qt_ret <| g_qb_ret <| g_qt_ret <| g_qn_ret <| g_qb_ret ?_
   refine g_qt_ret ?_
   exact g_postA (rs := [.tmp 2, .tmp 3]) rfl (.tmp rfl (.tmp rfl .nil)) ⟨rfl, rfl⟩
  ·rw [show (some m).isSome = true from rfl]
   have hnm := hn m hNA
   subst hnm
   refine g_mv ?_
   refine g_pure (p_extract rfl rfl) rfl ?_
   refine g_pure (p_extract rfl rfl) rfl ?_
   refine g_as ?_
   refine g_as ?_
   refine g_nil <| g_qt <| g_seq <| g_seq <| g_region ?_
   refine g_mv ?_
   refine g_pure (p_not rfl) rfl ?_
   refine g_nil <| g_qt ?_
   refine g_iff rfl ?_
   refine g_skip <| g_qt <| g_region ?_
   refine g_mv ?_
   refine g_mv ?_
   refine g_eff (e_bs (xs := [.tmp 25]) rfl rfl rfl (by rfl) (by rfl) rfl (by rfl)) rfl (fun _ _ => ?_)
   rintro ⟨b26, rfl, rfl⟩
   refine g_eff (e_appendO (by rfl) (by rfl) rfl rfl (by first | (apply Has.own; (repeat' (first | exact Take.here | apply Take.there)); done) | exact Has.ro (by assumption)) (by rfl) (by rfl) (by repeat' (first | exact Take.here | apply Take.there)) (by omega) (by first | omega | (dsimp only; omega) | (simp <;> omega)) (by omega)) rfl (fun _ _ => ?_)
   rintro ⟨a27, c27, rfl, rfl⟩
   refine g_as ?_
   refine g_nil <| g_qb <| g_qt <| g_region ?_
   refine g_mv ?_
   first | refine g_pure (p_addi rfl rfl (by omega)) rfl ?_ | refine g_pure (p_add rfl rfl) rfl ?_
   refine g_as ?_
   refine g_nil <| g_qn ?_
   rw [show out.map encI ++ [Value.int IntKind.i64 n] = (out ++ [n]).map encI by rw [List.map_append]; rfl, show out.length + 1 = (out ++ [n]).length by simp, show (out.length : Int) + 1 = ((out ++ [n]).length : Int) by simp]
   exact g_nextA (out ++ [n], a27, c27) ⟨by dsimp only; rw [List.length_append, List.length_singleton]; exact hkl, by dsimp only; rw [List.length_append, List.length_singleton]; exact hst n hNA⟩ (by dsimp only; rw [List.length_append, List.length_singleton]; omega)
 ·have hke : out.length = W.length := by omega
  rw [hke, List.take_length, hO] at hk2
  subst hk2
  refine g_exit <| g_qt_exit <| g_qn_exit <| g_qb_exit <| g_qt <| g_seq <| g_region ?_
  refine g_mv ?_
  refine g_as ?_
  refine g_as ?_
  refine g_nil <| g_qt <| g_ret ?_
  exact g_postA (Ho := [OwnSl 3 1 oa out.length oc (out.map encI)]) (rs := [.tmp 2, .tmp 3]) rfl (.tmp rfl (.tmp rfl .nil)) ⟨oa, oc, rfl, rfl⟩
theorem roperation_ok {ρ : Nat → Obj → Prop} (wd : List UInt8) : Con Tryz.prog ρ 108 #[.string (strB wd)] [] (fun v H => v = .int .i64 (opR wd) ∧ H = []) := by
 have w0 : wordR 0 = [] := rfl
 refine con_intro Tryz.func108 Tryz.call108 rfl Tryz.ntmps108 rfl (L := [(0, _)]) rfl fun w hh => ?_
 refine g_seq <| g_region ?_
 refine g_as ?_
 refine g_nil <| g_qt <| g_seq <| g_seq <| g_region ?_
 refine g_as ?_
 refine g_nil <| g_qt <| g_block ?_
 refine g_loop (fun k : Nat => [(0, .string (strB wd)), (3, .int .i64 ((k + 1 : Nat) : Int))]) (fun _ => []) (fun k => k ≤ 10 ∧ ∀ j, j < k + 1 → ¬ (wordR j = wd ∧ wd ≠ [])) (fun k => 10 - k) 0 ⟨Nat.zero_le _, fun j hj h => by
  obtain rfl : j = 0 := by omega
  exact h.2 (by rw [← h.1]; rfl)⟩ (by (repeat (first | exact trivial | refine ⟨by rfl, ?_⟩)); done) (by repeat' (first | exact Cover.nil | exact Take.here | apply Cover.cons | apply Take.there)) ?_
 rintro k ⟨hk1, hk2⟩
 refine g_seq <| g_seq <| g_region ?_
 refine g_mv ?_
 refine g_pure (p_leq rfl rfl) rfl ?_
 refine g_nil <| g_qt ?_
 refine g_ifd rfl (fun q => ?_) (fun q => ?_)
 ·have hr := wordR_row (k + 1) (by omega) (by omega)
  have hne := wordR_ne (k + 1) (by omega) (by omega)
  have hkn : knownP ((k + 1 : Nat) : Int) := ⟨by omega, by omega⟩
  refine g_skip <| g_qt <| g_seq <| g_block <| g_seq <| g_region ?_
  refine g_mv ?_
  refine g_call (Hin := []) (Hr := ?hr2) (R := ?rr2) rfl rfl rfl ?hin2 ?hc2 ?hk2
  case hin2 => repeat' (first | exact Cover.nil | exact Take.here | apply Cover.cons | apply Take.there)
  case hc2 => intro ρ' hρ hR; exact (by have := rword_ok (ρ := ρ') ((k + 1 : Nat) : Int) hkn; rw [hr] at this; exact this)
  rintro _ _ ⟨rfl, rfl⟩
  refine g_mv ?_
  refine g_pure (p_eqls (i := strB (wordR (k + 1))) (j := strB wd) (by rfl) rfl rfl) rfl ?_
  refine g_nil <| g_qt ?_
  refine g_ifd rfl (fun h => ?_) (fun h => ?_)
  ·have he : wordR (k + 1) = wd := strB_inj.1 h
   have ho : opF wd = some (k + 1) := opF_hit (by omega) ⟨he, by rw [← he]; exact hne⟩ hk2
   refine g_seq <| g_region ?_
   refine g_mv ?_
   refine g_as ?_
   refine g_nil <| g_qt <| g_ret <| g_qb_ret <| g_qt_ret <| g_qn_ret <| g_qb_ret <| g_qt_ret ?_
   exact g_postA (rs := [.tmp 2]) rfl (.tmp rfl .nil) ⟨by unfold opR; rw [ho]; rfl, rfl⟩
  ·have he : wordR (k + 1) ≠ wd := fun e => h (strB_inj.2 e)
   refine g_skip <| g_qb <| g_qt <| g_region ?_
   refine g_mv ?_
   first | refine g_pure (p_addi rfl rfl (by omega)) rfl ?_ | refine g_pure (p_add rfl rfl) rfl ?_
   refine g_as ?_
   refine g_nil <| g_qn ?_
   exact g_nextA (k + 1) ⟨by omega, fun j hj hx => by
    by_cases e : j = k + 1
    ·rw [e] at hx; exact he hx.1
    ·exact hk2 j (by omega) hx⟩ (by omega)
 ·have ho : opF wd = none := opF_miss (fun j hj => hk2 j (by omega))
  refine g_exit <| g_qt_exit <| g_qn_exit <| g_qb_exit <| g_qt <| g_seq <| g_region ?_
  refine g_as ?_
  refine g_nil <| g_qt <| g_ret ?_
  exact g_postA (rs := [.tmp 2]) rfl (.tmp rfl .nil) ⟨by unfold opR; rw [ho]; rfl, rfl⟩

def SplitPost (TS : TypeId) (s : List UInt8) (v : Value) (H : List Assn) : Prop :=
 ([] ∈ pieces 32 s → v = .tuple #[.slice none 0 0, .bool false] ∧ H = []) ∧
 ([] ∉ pieces 32 s → ∃ a c, v = .tuple #[.slice a (pieces 32 s).length c, .bool true] ∧ H = [OwnSl TS 1 a (pieces 32 s).length c ((pieces 32 s).map strV)])
theorem rsplit_ok {ρ : Nat → Obj → Prop} (s : List UInt8) (hs : s.length ≤ 4294967296) : Con Tryz.prog ρ 53 #[.string (strB s)] [] (SplitPost 9 s) := by
 have hsz : (strB s).size = s.length := rfl
 unfold SplitPost
 generalize hP : pieces 32 s = P
 refine con_intro Tryz.func53 Tryz.call53 rfl Tryz.ntmps53 rfl (L := [(0, _)]) rfl fun w hh => ?_
 refine g_seq <| g_region ?_
 refine g_as ?_
 refine g_as ?_
 refine g_nil <| g_qt <| g_seq <| g_region ?_
 refine g_as ?_
 refine g_nil <| g_qt <| g_seq <| g_region ?_
 refine g_as ?_
 refine g_nil <| g_qt <| g_seq <| g_seq <| g_region ?_
 refine g_as ?_
 refine g_nil <| g_qt <| g_block ?_
 refine g_ownnil (e := 9) (size := 1) ?_
 refine g_loop (fun q : Nat × List (List UInt8) × List UInt8 × Option Addr × Nat => [(0, .string (strB s)), (4, .slice q.2.2.2.1 q.2.1.length q.2.2.2.2), (5, .string (strB q.2.2.1)), (6, .int .i64 q.1)])
  (fun q => [OwnSl 9 1 q.2.2.2.1 q.2.1.length q.2.2.2.2 (q.2.1.map strV)])
  (fun q => q.1 ≤ s.length + 1 ∧ (q.1 ≤ s.length → P = q.2.1 ++ prep q.2.2.1 (pieces 32 (s.drop q.1))) ∧ (q.1 = s.length + 1 → P = q.2.1) ∧ [] ∉ q.2.1 ∧ q.2.1.length ≤ q.1 ∧ q.2.2.1.length ≤ q.1) (fun q => s.length + 1 - q.1) (0, [], [], none, 0)
  ⟨Nat.zero_le _, fun _ => by rw [prep_nil, List.drop_zero, hP]; rfl, fun h => by omega, by simp, Nat.le_refl 0, Nat.le_refl 0⟩ (by (repeat (first | exact trivial | refine ⟨by rfl, ?_⟩)); done) (by repeat' (first | exact Cover.nil | exact Take.here | apply Cover.cons | apply Take.there)) ?_
 rintro ⟨i, out, cw, oa, oc⟩ ⟨hi1, hi2, hi3, hi4, hi5, hi6⟩
 dsimp only at hi1 hi2 hi3 hi4 hi5 hi6 ⊢
 refine g_seq <| g_seq <| g_region ?_
 refine g_mv ?_
 refine g_mv ?_
 refine g_pure (p_lens (by rfl) rfl) rfl ?_
 refine g_pure (p_leq rfl rfl) rfl ?_
 refine g_nil <| g_qt ?_
 refine g_ifd rfl (fun q => ?_) (fun q => ?_)
 ·have hil : i ≤ s.length := by omega
  have hPi := hi2 hil
  obtain ⟨ch, hch⟩ : ∃ ch, ∀ h : i < s.length, s[i] = ch := by
   by_cases h : i < s.length
   ·exact ⟨s[i], fun _ => rfl⟩
   ·exact ⟨0, fun h' => absurd h' h⟩
  have h32 : (ch.toNat : Int) = 32 ↔ ch = 32 := u8_eq (c := ch) (m := 32) (by decide)
  have hcut : (i = s.length ∨ ch = 32) → P = out ++ (cw :: (if i = s.length then [] else pieces 32 (s.drop (i + 1)))) := fun h => by
   by_cases e : i = s.length
   ·rw [if_pos e, hPi, e, prep_end]
   ·have hlt : i < s.length := by omega
    have hc : s[i] = 32 := by rw [hch hlt]; exact h.resolve_left e
    rw [if_neg e, hPi, prep_hit hlt hc]
  have hcws : strB cw = ⟨#[]⟩ ↔ cw = [] := strB_inj (b := [])
  have hfail : (i = s.length ∨ ch = 32) → cw = [] → [] ∈ P := fun h h' => by rw [hcut h, h']; simp
  have hne : cw ≠ [] → [] ∉ out ++ [cw] := fun h hm => by
   rcases List.mem_append.1 hm with hm | hm
   ·exact hi4 hm
   ·exact h (List.mem_singleton.1 hm).symm
  have hnext : (i = s.length ∨ ch = 32) → (i + 1 ≤ s.length → P = (out ++ [cw]) ++ prep [] (pieces 32 (s.drop (i + 1)))) ∧ (i + 1 = s.length + 1 → P = out ++ [cw]) := fun h => by
   rw [hcut h, prep_nil]
   refine ⟨fun h2 => ?_, fun h2 => ?_⟩
   ·rw [if_neg (by omega)]; simp
   ·rw [if_pos (by omega)]
  have hadd : i < s.length → ch ≠ 32 → P = out ++ prep (cw ++ [ch]) (pieces 32 (s.drop (i + 1))) := fun h h' => by
   have := prep_miss h (by rw [hch h]; exact h') cw
   rw [hPi, this, hch h]
  have hcat : i < s.length → strB cw ++ (⟨((s.drop (i : Int).toNat).take (((i : Int) + 1).toNat - (i : Int).toNat)).toArray⟩ : ByteArray) = strB (cw ++ [ch]) := fun h => by
   rw [strB_app]
   congr 1
   rw [Int.toNat_natCast, show ((i : Int) + 1).toNat - i = 1 by omega, List.drop_eq_getElem_cons h, hch h]; rfl
  have hmap : out.map strV ++ [Value.string (strB cw)] = (out ++ [cw]).map strV := by rw [List.map_append]; rfl
  have hlen1 : out.length + 1 = (out ++ [cw]).length := by simp
  have hszw : (strB cw).size = cw.length := rfl
  refine g_skip <| g_qt <| g_seq <| g_block <| g_seq <| g_region ?_
  refine g_mv ?_
  refine g_mv ?_
  refine g_pure (p_lens (by rfl) rfl) rfl ?_
  refine g_pure (p_eql rfl rfl) rfl ?_
  refine g_mv ?_
  refine g_splitd rfl rfl (fun h1 => ?_) (fun h1 => ?_)
  ·refine g_noA ?_
   refine g_noA ?_
   refine g_noA ?_
   refine g_noA ?_
   first | refine g_pkt ?_ | refine g_pkf ?_
   refine g_nil <| g_qt ?_
   refine g_ift rfl ?_
   refine g_seq <| g_seq <| g_region ?_
   refine g_mv ?_
   refine g_pure (p_eqls (i := strB cw) (j := ⟨#[]⟩) (by rfl) rfl rfl) rfl ?_
   refine g_nil <| g_qt ?_
   refine g_ifdL rfl (fun h3 => ?_) (fun h3 => ?_)
   ·refine g_seq <| g_region ?_
    refine g_as ?_
    refine g_as ?_
    refine g_nil <| g_qt <| g_ret <| g_qt_ret <| g_qb_ret <| g_qt_ret <| g_qn_ret <| g_qb_ret ?_
    refine g_qt_ret ?_
    exact g_postA (rs := [.tmp 2, .tmp 3]) rfl (.tmp rfl (.tmp rfl .nil)) ⟨fun _ => ⟨rfl, rfl⟩, fun h => absurd (hfail (by first | exact .inl (by omega) | exact .inr (h32.1 (by assumption))) (hcws.1 (by assumption))) h⟩
   ·refine g_skip <| g_qt <| g_seq <| g_region ?_
    refine g_mv ?_
    refine g_mv ?_
    refine g_eff (e_bs (xs := [.tmp 26]) rfl rfl rfl (by rfl) (by rfl) rfl (by rfl)) rfl (fun _ _ => ?_)
    rintro ⟨b27, rfl, rfl⟩
    refine g_eff (e_appendO (by rfl) (by rfl) rfl rfl (by first | (apply Has.own; (repeat' (first | exact Take.here | apply Take.there)); done) | exact Has.ro (by assumption)) (by rfl) (by rfl) (by repeat' (first | exact Take.here | apply Take.there)) (by omega) (by first | omega | (dsimp only; omega) | (simp <;> omega)) (by omega)) rfl (fun _ _ => ?_)
    rintro ⟨a28, c28, rfl, rfl⟩
    refine g_as ?_
    refine g_nil <| g_qt <| g_region ?_
    refine g_as ?_
    refine g_nil <| g_qb <| g_qt <| g_region ?_
    refine g_mv ?_
    first | refine g_pure (p_addi rfl rfl (by omega)) rfl ?_ | refine g_pure (p_add rfl rfl) rfl ?_
    refine g_as ?_
    refine g_nil <| g_qn ?_
    first | (rw [hmap, hlen1]; exact g_nextA (i + 1, out ++ [cw], [], a28, c28) ⟨by dsimp only; omega, (hnext (by first | exact .inl (by omega) | exact .inr (h32.1 (by assumption)))).1, (hnext (by first | exact .inl (by omega) | exact .inr (h32.1 (by assumption)))).2, hne (fun e => by have := hcws.2 e; contradiction), by dsimp only; rw [← hlen1]; omega, by dsimp only; exact Nat.zero_le _⟩ (by dsimp only; omega)) | (rw [hcat (by omega)]; exact g_nextA (i + 1, out, cw ++ [ch], oa, oc) ⟨by dsimp only; omega, fun _ => hadd (by omega) (fun e => by have := h32.2 e; contradiction), fun h => by dsimp only at h; omega, hi4, by dsimp only; omega, by dsimp only; rw [List.length_append, List.length_singleton]; omega⟩ (by dsimp only; omega))
  ·refine g_yesA ?_
   refine g_mv ?_
   refine g_yesA ?_
   refine g_mv ?_
   refine g_yesA ?_
   refine g_pure (p_indexs (by rfl) rfl rfl (by omega) (by have := strB_at s (k := i) (by omega); rw [hch (by omega)] at this; exact this)) rfl ?_
   refine g_yesA ?_
   refine g_pure (p_eql rfl rfl) rfl ?_
   first | refine g_pkt ?_ | refine g_pkf ?_
   refine g_nil <| g_qt ?_
   refine g_ifdL rfl (fun h4 => ?_) (fun h4 => ?_)
   ·refine g_seq <| g_seq <| g_region ?_
    refine g_mv ?_
    refine g_pure (p_eqls (i := strB cw) (j := ⟨#[]⟩) (by rfl) rfl rfl) rfl ?_
    refine g_nil <| g_qt ?_
    refine g_ifdL rfl (fun h5 => ?_) (fun h5 => ?_)
    ·refine g_seq <| g_region ?_
     refine g_as ?_
     refine g_as ?_
     refine g_nil <| g_qt <| g_ret <| g_qt_ret <| g_qb_ret <| g_qt_ret <| g_qn_ret <| g_qb_ret ?_
     refine g_qt_ret ?_
     exact g_postA (rs := [.tmp 2, .tmp 3]) rfl (.tmp rfl (.tmp rfl .nil)) ⟨fun _ => ⟨rfl, rfl⟩, fun h => absurd (hfail (by first | exact .inl (by omega) | exact .inr (h32.1 (by assumption))) (hcws.1 (by assumption))) h⟩
    ·refine g_skip <| g_qt <| g_seq <| g_region ?_
     refine g_mv ?_
     refine g_mv ?_
     refine g_eff (e_bs (xs := [.tmp 26]) rfl rfl rfl (by rfl) (by rfl) rfl (by rfl)) rfl (fun _ _ => ?_)
     rintro ⟨b27, rfl, rfl⟩
     refine g_eff (e_appendO (by rfl) (by rfl) rfl rfl (by first | (apply Has.own; (repeat' (first | exact Take.here | apply Take.there)); done) | exact Has.ro (by assumption)) (by rfl) (by rfl) (by repeat' (first | exact Take.here | apply Take.there)) (by omega) (by first | omega | (dsimp only; omega) | (simp <;> omega)) (by omega)) rfl (fun _ _ => ?_)
     rintro ⟨a28, c28, rfl, rfl⟩
     refine g_as ?_
     refine g_nil <| g_qt <| g_region ?_
     refine g_as ?_
     refine g_nil <| g_qb <| g_qt <| g_region ?_
     refine g_mv ?_
     first | refine g_pure (p_addi rfl rfl (by omega)) rfl ?_ | refine g_pure (p_add rfl rfl) rfl ?_
     refine g_as ?_
     refine g_nil <| g_qn ?_
     first | (rw [hmap, hlen1]; exact g_nextA (i + 1, out ++ [cw], [], a28, c28) ⟨by dsimp only; omega, (hnext (by first | exact .inl (by omega) | exact .inr (h32.1 (by assumption)))).1, (hnext (by first | exact .inl (by omega) | exact .inr (h32.1 (by assumption)))).2, hne (fun e => by have := hcws.2 e; contradiction), by dsimp only; rw [← hlen1]; omega, by dsimp only; exact Nat.zero_le _⟩ (by dsimp only; omega)) | (rw [hcat (by omega)]; exact g_nextA (i + 1, out, cw ++ [ch], oa, oc) ⟨by dsimp only; omega, fun _ => hadd (by omega) (fun e => by have := h32.2 e; contradiction), fun h => by dsimp only at h; omega, hi4, by dsimp only; omega, by dsimp only; rw [List.length_append, List.length_singleton]; omega⟩ (by dsimp only; omega))
   ·refine g_region ?_
    refine g_mv ?_
    refine g_mv ?_
    refine g_mv ?_
    refine g_mv ?_
    first | refine g_pure (p_addi rfl rfl (by omega)) rfl ?_ | refine g_pure (p_add rfl rfl) rfl ?_
    refine g_pure (p_slices (l := s) (by rfl) rfl rfl rfl (by omega) (by omega)) rfl ?_
    refine g_pure (p_adds (by rfl) rfl rfl (by rw [hszw]; show cw.length + ((s.drop (i : Int).toNat).take (((i : Int) + 1).toNat - (i : Int).toNat)).length ≤ _; rw [List.length_take]; omega)) rfl ?_
    refine g_as ?_
    refine g_nil <| g_qb <| g_qt <| g_region ?_
    refine g_mv ?_
    first | refine g_pure (p_addi rfl rfl (by omega)) rfl ?_ | refine g_pure (p_add rfl rfl) rfl ?_
    refine g_as ?_
    refine g_nil <| g_qn ?_
    first | (rw [hmap, hlen1]; exact g_nextA (i + 1, out ++ [cw], [], a28, c28) ⟨by dsimp only; omega, (hnext (by first | exact .inl (by omega) | exact .inr (h32.1 (by assumption)))).1, (hnext (by first | exact .inl (by omega) | exact .inr (h32.1 (by assumption)))).2, hne (fun e => by have := hcws.2 e; contradiction), by dsimp only; rw [← hlen1]; omega, by dsimp only; exact Nat.zero_le _⟩ (by dsimp only; omega)) | (rw [hcat (by omega)]; exact g_nextA (i + 1, out, cw ++ [ch], oa, oc) ⟨by dsimp only; omega, fun _ => hadd (by omega) (fun e => by have := h32.2 e; contradiction), fun h => by dsimp only at h; omega, hi4, by dsimp only; omega, by dsimp only; rw [List.length_append, List.length_singleton]; omega⟩ (by dsimp only; omega))
 ·have hie : i = s.length + 1 := by omega
  have hPo := hi3 hie
  subst hPo
  refine g_exit <| g_qt_exit <| g_qn_exit <| g_qb_exit <| g_qt <| g_seq <| g_region ?_
  refine g_mv ?_
  refine g_as ?_
  refine g_as ?_
  refine g_nil <| g_qt <| g_ret ?_
  exact g_postA (Ho := [OwnSl 9 1 oa P.length oc (P.map strV)]) (rs := [.tmp 2, .tmp 3]) rfl (.tmp rfl (.tmp rfl .nil)) ⟨fun h => absurd h hi4, fun _ => ⟨oa, oc, rfl, rfl⟩⟩
end Go.Proofs.YtcnfcoojmbjdlaaGreatDoor
/- Chapter 26: the document's way to read an instruction. Conditions: none. -/
namespace Go.Z.Asm
set_option maxRecDepth 8000
set_option linter.unusedVariables false
set_option linter.unusedSimpArgs false
set_option linter.unusedSectionVars false
open Go Go.Z Go.Lib Go.Z.Txt Go.Z.Val
theorem places_eq (op : Nat) : placesOf op = (fieldsR op).map fun c => c.toNat - 65 := rfl
theorem letters (op : Nat) : ∀ c ∈ fieldsR op, c = 65 ∨ c = 66 ∨ c = 67 ∨ c = 68 := by
 unfold fieldsR
 split
 ·rename_i h
  have h' : 1 ≤ op ∧ op ≤ 10 := by unfold knownP at h; omega
  have : op = 1 ∨ op = 2 ∨ op = 3 ∨ op = 4 ∨ op = 5 ∨ op = 6 ∨ op = 7 ∨ op = 8 ∨ op = 9 ∨ op = 10 := by omega
  rcases this with rfl | rfl | rfl | rfl | rfl | rfl | rfl | rfl | rfl | rfl <;> decide
 ·intro c h; exact absurd h List.not_mem_nil
theorem insV_no {w0 : List UInt8} {W : List (List UInt8)} (h : opF w0 = none) : insV (w0 :: W) = none := by
 unfold insV; rw [List.headD_cons, h]
theorem insV_bad {w0 : List UInt8} {W : List (List UInt8)} {op : Nat} (h : opF w0 = some op) (h2 : numsO W = none) : insV (w0 :: W) = none := by
 unfold insV; rw [List.headD_cons, h, List.tail_cons, h2]
theorem insV_some {w0 : List UInt8} {W : List (List UInt8)} {op : Nat} {v : List Int} (h : opF w0 = some op) (h2 : numsO W = some v) : insV (w0 :: W) = if v.length = (placesOf op).length then some (mkIns op v) else none := by
 unfold insV; rw [List.headD_cons, h, List.tail_cons, h2]
end Go.Z.Asm
namespace Go.Proofs.YtcnfcoojmbjdlaaGreatDoor
set_option maxRecDepth 8000
set_option linter.unusedVariables false
set_option linter.unusedSimpArgs false
set_option linter.unusedSectionVars false
open Go Go.Z Go.Z.Asm Go.RowKit Go.Z.Val Go.Z.Txt

theorem rins_ok {ρ : Nat → Obj → Prop} {wb : Nat} {wc : Nat} (w0 : List UInt8) (W : List (List UInt8)) {T : TypeId} {fz : Nat × Nat} {tl : List Value} (hb : ρ wb (.cells ((w0 :: W).map strV ++ tl).toArray T fz)) (hl : W.length ≤ 4294967296) (hlen : ∀ w ∈ W, w.length ≤ 4294967296) (hwc : (w0 :: W).length ≤ wc) :
  Con Tryz.prog ρ 78 #[.slice (some ⟨wb, 0, none⟩) (w0 :: W).length wc] [] (fun v H => ∃ i : Ins, v = .tuple #[.agg (encIns i).toArray, .bool (insV (w0 :: W)).isSome] ∧ (∀ j, insV (w0 :: W) = some j → i = j) ∧ H = []) := by
 have hln : (w0 :: W).length = W.length + 1 := rfl
 have htail : ∀ {ρ' : Nat → Obj → Prop} {a : Option Addr}, (∀ b o, ρ b o → ρ' b o) → (0 < W.length → a = some ⟨wb, 1, none⟩) → RSl ρ' 1 a W.length (W.map strV) := fun hs ha =>
  ⟨by simp, wb, 1, (w0 :: W).map strV ++ tl, T, fz, fun h0 => ⟨ha h0, hs _ _ hb, fun j v hj => by
   rw [Nat.add_comm, List.map_cons, List.cons_append, List.getElem?_cons_succ]
   have hjl : j < (W.map strV).length := by
    cases e : (W.map strV)[j]? with
    | none => rw [e] at hj; cases hj
    | some x => exact (List.getElem?_eq_some_iff.1 e).1
   rw [List.getElem?_append_left hjl]; exact hj⟩⟩
 have hta : ∀ h : 0 < W.length, (if wc = (1 : Int).toNat then some (⟨wb, 0, none⟩ : Addr) else (some (⟨wb, 0, none⟩ : Addr)).map (·.add ((1 : Int).toNat * 1))) = some ⟨wb, 1, none⟩ := fun h => by
  rw [if_neg (by show ¬ wc = 1; omega)]; rfl
 have hopR : opR w0 = match opF w0 with | some k => (k : Int) | none => 0 := rfl
 have cO := fun {ρ' : Nat → Obj → Prop} => roperation_ok (ρ := ρ') w0
 have cN := fun {ρ' : Nat → Obj → Prop} {a : Option Addr} {c : Nat} (h : RSl ρ' 1 a W.length (W.map strV)) => rnumbers_ok a c W h hl hlen
 unfold NumsPost at cN
 rcases hop : opF w0 with _ | op
 ·rw [insV_no hop]
  rw [hop] at hopR
  rw [hopR] at cO
  rcases hO : numsO W with _ | v
  ·rw [hO] at cN
   refine con_intro Tryz.func78 Tryz.call78 rfl Tryz.ntmps78 rfl (L := [(0, _)]) rfl fun w hh => ?_
   refine g_seq <| g_region ?_
   refine g_eff (e_alloc (by rfl)) rfl (fun _ _ => ?_)
   rintro ⟨b2, rfl, rfl⟩
   refine g_as ?_
   refine g_nil <| g_qt <| g_seq <| g_region ?_
   refine g_mv ?_
   refine g_pure (p_indexAddr rfl rfl (by omega) (fun _ => rfl)) rfl ?_
   refine g_pure (p_load (v := .string (strB w0)) (by rfl) rfl (Has.ro hb) (by rfl)) rfl ?_
   refine g_call (Hin := []) (Hr := ?hr1) (R := ?rr1) rfl rfl rfl ?hin1 ?hc1 ?hk1
   case hin1 => repeat' (first | exact Cover.nil | exact Take.here | apply Cover.cons | apply Take.there)
   case hc1 => intro ρ' hρ hR; exact cO
   rintro _ _ ⟨rfl, rfl⟩
   refine g_as ?_
   refine g_nil <| g_qt <| g_seq <| g_region ?_
   refine g_mv ?_
   refine g_pure (p_slicel rfl rfl (by omega)) rfl ?_
   refine g_call (Hin := []) (Hr := ?hr2) (R := ?rr2) rfl rfl rfl ?hin2 ?hc2 ?hk2
   case hin2 => repeat' (first | exact Cover.nil | exact Take.here | apply Cover.cons | apply Take.there)
   case hc2 => intro ρ' hρ hR; exact cN (htail hρ hta)
   rintro _ _ ⟨rfl, rfl⟩
   refine g_mv ?_
   refine g_pure (p_extract rfl rfl) rfl ?_
   refine g_pure (p_extract rfl rfl) rfl ?_
   refine g_as ?_
   refine g_as ?_
   refine g_nil <| g_qt <| g_seq <| g_region ?_
   refine g_mv ?_
   refine g_call (Hin := []) (Hr := ?hr3) (R := ?rr3) rfl rfl rfl ?hin3 ?hc3 ?hk3
   case hin3 => repeat' (first | exact Cover.nil | exact Take.here | apply Cover.cons | apply Take.there)
   case hc3 => intro ρ' hρ hR; exact rfields_ok 0
   rintro _ _ ⟨rfl, rfl⟩
   refine g_as ?_
   refine g_nil <| g_qt <| g_seq <| g_seq <| g_region ?_
   refine g_mv ?_
   refine g_pure (p_eqlT rfl rfl rfl) rfl ?_
   refine g_mv ?_
   refine g_noA ?_
   refine g_noA ?_
   first | refine g_pkt ?_ | refine g_pkf ?_
   refine g_mv ?_
   refine g_noA ?_
   refine g_noA ?_
   refine g_noA ?_
   refine g_noA ?_
   refine g_noA ?_
   first | refine g_pkt ?_ | refine g_pkf ?_
   refine g_nil <| g_qt ?_
   refine g_ift rfl ?_
   refine g_seq <| g_region ?_
   refine g_pure (p_build (by rfl) rfl (by rfl)) rfl ?_
   first | refine g_eff0 (e_storeO rfl rfl (by rfl) (by rfl) (by rfl) (by repeat' (first | exact Take.here | apply Take.there)) (by rfl)) (fun _ _ => ?_) | refine g_eff0 (e_storeN rfl rfl (by rfl) (by rfl) (by rfl) (by repeat' (first | exact Take.here | apply Take.there)) (by simp)) (fun _ _ => ?_)
   rintro rfl
   refine g_as ?_
   refine g_nil <| g_qt <| g_ret <| g_qt_ret ?_
   exact g_postA (rs := [.cell 2 32, .tmp 3]) rfl (Res.cellN (by rfl) rfl (Has.own (by repeat' (first | exact Take.here | apply Take.there))) (by rfl) (.tmp rfl .nil)) ⟨(0, 0, 0, 0, 0), rfl, fun j h => by (cases h), rfl⟩
  ·rw [hO] at cN
   refine con_intro Tryz.func78 Tryz.call78 rfl Tryz.ntmps78 rfl (L := [(0, _)]) rfl fun w hh => ?_
   refine g_seq <| g_region ?_
   refine g_eff (e_alloc (by rfl)) rfl (fun _ _ => ?_)
   rintro ⟨b2, rfl, rfl⟩
   refine g_as ?_
   refine g_nil <| g_qt <| g_seq <| g_region ?_
   refine g_mv ?_
   refine g_pure (p_indexAddr rfl rfl (by omega) (fun _ => rfl)) rfl ?_
   refine g_pure (p_load (v := .string (strB w0)) (by rfl) rfl (Has.ro hb) (by rfl)) rfl ?_
   refine g_call (Hin := []) (Hr := ?hr4) (R := ?rr4) rfl rfl rfl ?hin4 ?hc4 ?hk4
   case hin4 => repeat' (first | exact Cover.nil | exact Take.here | apply Cover.cons | apply Take.there)
   case hc4 => intro ρ' hρ hR; exact cO
   rintro _ _ ⟨rfl, rfl⟩
   refine g_as ?_
   refine g_nil <| g_qt <| g_seq <| g_region ?_
   refine g_mv ?_
   refine g_pure (p_slicel rfl rfl (by omega)) rfl ?_
   refine g_call (Hin := []) (Hr := ?hr5) (R := ?rr5) rfl rfl rfl ?hin5 ?hc5 ?hk5
   case hin5 => repeat' (first | exact Cover.nil | exact Take.here | apply Cover.cons | apply Take.there)
   case hc5 => intro ρ' hρ hR; exact cN (htail hρ hta)
   rintro _ _ ⟨va, vc, rfl, rfl⟩
   refine g_mv ?_
   refine g_pure (p_extract rfl rfl) rfl ?_
   refine g_pure (p_extract rfl rfl) rfl ?_
   refine g_as ?_
   refine g_as ?_
   refine g_nil <| g_qt <| g_seq <| g_region ?_
   refine g_mv ?_
   refine g_call (Hin := []) (Hr := ?hr6) (R := ?rr6) rfl rfl rfl ?hin6 ?hc6 ?hk6
   case hin6 => repeat' (first | exact Cover.nil | exact Take.here | apply Cover.cons | apply Take.there)
   case hc6 => intro ρ' hρ hR; exact rfields_ok 0
   rintro _ _ ⟨rfl, rfl⟩
   refine g_as ?_
   refine g_nil <| g_qt <| g_seq <| g_seq <| g_region ?_
   refine g_mv ?_
   refine g_pure (p_eqlT rfl rfl rfl) rfl ?_
   refine g_mv ?_
   refine g_noA ?_
   refine g_noA ?_
   first | refine g_pkt ?_ | refine g_pkf ?_
   refine g_mv ?_
   refine g_noA ?_
   refine g_noA ?_
   refine g_noA ?_
   refine g_noA ?_
   refine g_noA ?_
   first | refine g_pkt ?_ | refine g_pkf ?_
   refine g_nil <| g_qt ?_
   refine g_ift rfl ?_
   refine g_seq <| g_region ?_
   refine g_pure (p_build (by rfl) rfl (by rfl)) rfl ?_
   first | refine g_eff0 (e_storeO rfl rfl (by rfl) (by rfl) (by rfl) (by repeat' (first | exact Take.here | apply Take.there)) (by rfl)) (fun _ _ => ?_) | refine g_eff0 (e_storeN rfl rfl (by rfl) (by rfl) (by rfl) (by repeat' (first | exact Take.here | apply Take.there)) (by simp)) (fun _ _ => ?_)
   rintro rfl
   refine g_as ?_
   refine g_nil <| g_qt <| g_ret <| g_qt_ret ?_
   exact g_postA (rs := [.cell 2 32, .tmp 3]) rfl (Res.cellN (by rfl) rfl (Has.own (by repeat' (first | exact Take.here | apply Take.there))) (by rfl) (.tmp rfl .nil)) ⟨(0, 0, 0, 0, 0), rfl, fun j h => by (cases h), rfl⟩
 ·rw [hop] at hopR
  rw [hopR] at cO
  dsimp only at cO
  obtain ⟨n1, n2, n3⟩ := opF_some hop
  rcases hO : numsO W with _ | v
  ·rw [insV_bad hop hO]
   rw [hO] at cN
   refine con_intro Tryz.func78 Tryz.call78 rfl Tryz.ntmps78 rfl (L := [(0, _)]) rfl fun w hh => ?_
   refine g_seq <| g_region ?_
   refine g_eff (e_alloc (by rfl)) rfl (fun _ _ => ?_)
   rintro ⟨b2, rfl, rfl⟩
   refine g_as ?_
   refine g_nil <| g_qt <| g_seq <| g_region ?_
   refine g_mv ?_
   refine g_pure (p_indexAddr rfl rfl (by omega) (fun _ => rfl)) rfl ?_
   refine g_pure (p_load (v := .string (strB w0)) (by rfl) rfl (Has.ro hb) (by rfl)) rfl ?_
   refine g_call (Hin := []) (Hr := ?hr7) (R := ?rr7) rfl rfl rfl ?hin7 ?hc7 ?hk7
   case hin7 => repeat' (first | exact Cover.nil | exact Take.here | apply Cover.cons | apply Take.there)
   case hc7 => intro ρ' hρ hR; exact cO
   rintro _ _ ⟨rfl, rfl⟩
   refine g_as ?_
   refine g_nil <| g_qt <| g_seq <| g_region ?_
   refine g_mv ?_
   refine g_pure (p_slicel rfl rfl (by omega)) rfl ?_
   refine g_call (Hin := []) (Hr := ?hr8) (R := ?rr8) rfl rfl rfl ?hin8 ?hc8 ?hk8
   case hin8 => repeat' (first | exact Cover.nil | exact Take.here | apply Cover.cons | apply Take.there)
   case hc8 => intro ρ' hρ hR; exact cN (htail hρ hta)
   rintro _ _ ⟨rfl, rfl⟩
   refine g_mv ?_
   refine g_pure (p_extract rfl rfl) rfl ?_
   refine g_pure (p_extract rfl rfl) rfl ?_
   refine g_as ?_
   refine g_as ?_
   refine g_nil <| g_qt <| g_seq <| g_region ?_
   refine g_mv ?_
   refine g_call (Hin := []) (Hr := ?hr9) (R := ?rr9) rfl rfl rfl ?hin9 ?hc9 ?hk9
   case hin9 => repeat' (first | exact Cover.nil | exact Take.here | apply Cover.cons | apply Take.there)
   case hc9 => intro ρ' hρ hR; exact rfields_ok (op : Int)
   rintro _ _ ⟨rfl, rfl⟩
   refine g_as ?_
   refine g_nil <| g_qt <| g_seq <| g_seq <| g_region ?_
   refine g_mv ?_
   refine g_pure (p_eqlF rfl rfl (by omega)) rfl ?_
   refine g_mv ?_
   refine g_yesA ?_
   refine g_mv ?_
   refine g_yesA ?_
   refine g_pure (p_not rfl) rfl ?_
   first | refine g_pkt ?_ | refine g_pkf ?_
   refine g_mv ?_
   refine g_noA ?_
   refine g_noA ?_
   refine g_noA ?_
   refine g_noA ?_
   refine g_noA ?_
   first | refine g_pkt ?_ | refine g_pkf ?_
   refine g_nil <| g_qt ?_
   refine g_ift rfl ?_
   refine g_seq <| g_region ?_
   refine g_pure (p_build (by rfl) rfl (by rfl)) rfl ?_
   first | refine g_eff0 (e_storeO rfl rfl (by rfl) (by rfl) (by rfl) (by repeat' (first | exact Take.here | apply Take.there)) (by rfl)) (fun _ _ => ?_) | refine g_eff0 (e_storeN rfl rfl (by rfl) (by rfl) (by rfl) (by repeat' (first | exact Take.here | apply Take.there)) (by simp)) (fun _ _ => ?_)
   rintro rfl
   refine g_as ?_
   refine g_nil <| g_qt <| g_ret <| g_qt_ret ?_
   exact g_postA (rs := [.cell 2 32, .tmp 3]) rfl (Res.cellN (by rfl) rfl (Has.own (by repeat' (first | exact Take.here | apply Take.there))) (by rfl) (.tmp rfl .nil)) ⟨(0, 0, 0, 0, 0), rfl, fun j h => by (cases h), rfl⟩
  ·rw [insV_some hop hO]
   rw [hO] at cN
   have hpl : (placesOf op).length = (fieldsR op).length := by rw [places_eq, List.length_map]
   have hlet := letters op
   have hpe := places_eq op
   have hfs : (strB (fieldsR op)).size = (fieldsR op).length := rfl
   have hmk : ∀ F, fillC (placesOf op) v = F → mkIns op v = ((op : Int), F.getD 0 0, F.getD 1 0, F.getD 2 0, F.getD 3 0) := fun F h => by rw [← h]; rfl
   have cF := fun {ρ' : Nat → Obj → Prop} => rfields_ok (ρ := ρ') (op : Int)
   generalize hFL : fieldsR (op : Int) = FL at hpl hlet hpe hfs cF
   generalize placesOf op = ps at hpl hpe hmk ⊢
   have hvl := numsO_len hO
   refine con_intro Tryz.func78 Tryz.call78 rfl Tryz.ntmps78 rfl (L := [(0, _)]) rfl fun w hh => ?_
   refine g_seq <| g_region ?_
   refine g_eff (e_alloc (by rfl)) rfl (fun _ _ => ?_)
   rintro ⟨b2, rfl, rfl⟩
   refine g_as ?_
   refine g_nil <| g_qt <| g_seq <| g_region ?_
   refine g_mv ?_
   refine g_pure (p_indexAddr rfl rfl (by omega) (fun _ => rfl)) rfl ?_
   refine g_pure (p_load (v := .string (strB w0)) (by rfl) rfl (Has.ro hb) (by rfl)) rfl ?_
   refine g_call (Hin := []) (Hr := ?hr10) (R := ?rr10) rfl rfl rfl ?hin10 ?hc10 ?hk10
   case hin10 => repeat' (first | exact Cover.nil | exact Take.here | apply Cover.cons | apply Take.there)
   case hc10 => intro ρ' hρ hR; exact cO
   rintro _ _ ⟨rfl, rfl⟩
   refine g_as ?_
   refine g_nil <| g_qt <| g_seq <| g_region ?_
   refine g_mv ?_
   refine g_pure (p_slicel rfl rfl (by omega)) rfl ?_
   refine g_call (Hin := []) (Hr := ?hr11) (R := ?rr11) rfl rfl rfl ?hin11 ?hc11 ?hk11
   case hin11 => repeat' (first | exact Cover.nil | exact Take.here | apply Cover.cons | apply Take.there)
   case hc11 => intro ρ' hρ hR; exact cN (htail hρ hta)
   rintro _ _ ⟨va, vc, rfl, rfl⟩
   refine g_mv ?_
   refine g_pure (p_extract rfl rfl) rfl ?_
   refine g_pure (p_extract rfl rfl) rfl ?_
   refine g_as ?_
   refine g_as ?_
   refine g_nil <| g_qt <| g_seq <| g_region ?_
   refine g_mv ?_
   refine g_call (Hin := []) (Hr := ?hr12) (R := ?rr12) rfl rfl rfl ?hin12 ?hc12 ?hk12
   case hin12 => repeat' (first | exact Cover.nil | exact Take.here | apply Cover.cons | apply Take.there)
   case hc12 => intro ρ' hρ hR; exact cF
   rintro _ _ ⟨rfl, rfl⟩
   refine g_as ?_
   refine g_nil <| g_qt <| g_seq ?_
   refine g_join (fun _ : Option Addr × Nat × Nat => [(2, .pointer (some ⟨b2, 0, none⟩)), (4, .int .i64 op), (5, .slice va v.length vc), (7, .string (strB FL))]) (fun _ => [OwnSl 3 1 va v.length vc (v.map encI), Blk b2 (.cells [.int .i64 0, .int .i64 0, .int .i64 0, .int .i64 0, .int .i64 0].toArray 32 (0, 0))]) (fun _ => v.length = ps.length) ?_ ?_
   ·refine g_seq <| g_region ?_
    refine g_mv ?_
    refine g_pure (p_eqlF rfl rfl (by omega)) rfl ?_
    refine g_mv ?_
    refine g_yesA ?_
    refine g_mv ?_
    refine g_yesA ?_
    refine g_pure (p_not rfl) rfl ?_
    first | refine g_pkt ?_ | refine g_pkf ?_
    refine g_mv ?_
    refine g_yesA ?_
    refine g_mv ?_
    refine g_yesA ?_
    refine g_pure (p_len (by rfl) rfl) rfl ?_
    refine g_yesA ?_
    refine g_mv ?_
    refine g_yesA ?_
    refine g_pure (p_lens (by rfl) rfl) rfl ?_
    refine g_yesA ?_
    refine g_pure (p_neq rfl rfl) rfl ?_
    first | refine g_pkt ?_ | refine g_pkf ?_
    refine g_nil <| g_qt ?_
    refine g_ifndL rfl (fun h3 => ?_) (fun h3 => ?_)
    ·refine g_seq <| g_region ?_
     refine g_pure (p_build (by rfl) rfl (by rfl)) rfl ?_
     first | refine g_eff0 (e_storeO rfl rfl (by rfl) (by rfl) (by rfl) (by repeat' (first | exact Take.here | apply Take.there)) (by rfl)) (fun _ _ => ?_) | refine g_eff0 (e_storeN rfl rfl (by rfl) (by rfl) (by rfl) (by repeat' (first | exact Take.here | apply Take.there)) (by simp)) (fun _ _ => ?_)
     rintro rfl
     refine g_as ?_
     refine g_nil <| g_qt <| g_ret <| g_qn_ret <| g_qt_ret ?_
     (rw [if_neg (show ¬ v.length = ps.length by omega)]; exact g_postA (rs := [.cell 2 32, .tmp 3]) rfl (Res.cellN (by rfl) rfl (Has.own (by repeat' (first | exact Take.here | apply Take.there))) (by rfl) (.tmp rfl .nil)) ⟨(0, 0, 0, 0, 0), rfl, fun j h => by (cases h), rfl⟩)
    ·refine g_skip <| g_qn ?_
     exact g_joinedA (none, 0, 0) (by omega)
   rintro _ hvp
   refine g_qt ?_
   rw [if_pos hvp]
   refine g_seq <| g_region ?_
   refine g_mv ?_
   refine g_pure (p_build (by rfl) rfl (by rfl)) rfl ?_
   refine g_eff (e_alloc (by rfl)) rfl (fun _ _ => ?_)
   rintro ⟨b8, rfl, rfl⟩
   first | refine g_eff0 (e_storeO rfl rfl (by rfl) (by rfl) (by rfl) (by repeat' (first | exact Take.here | apply Take.there)) (by rfl)) (fun _ _ => ?_) | refine g_eff0 (e_storeN rfl rfl (by rfl) (by rfl) (by rfl) (by repeat' (first | exact Take.here | apply Take.there)) (by simp)) (fun _ _ => ?_)
   rintro rfl
   refine g_nil <| g_qt <| g_seq <| g_seq <| g_region ?_
   refine g_as ?_
   refine g_nil <| g_qt <| g_block ?_
   have hf0 : [Value.int IntKind.i64 op, .int .i64 0, .int .i64 0, .int .i64 0, .int .i64 0] = Value.int IntKind.i64 op :: (fillC (ps.take 0) (v.take 0)).map encI := rfl
   rw [hf0]
   refine g_loop (fun k : Nat => [(2, .pointer (some ⟨b2, 0, none⟩)), (5, .slice va v.length vc), (7, .string (strB FL)), (8, .pointer (some ⟨b8, 0, none⟩)), (9, .int .i64 k)])
    (fun k => [Blk b8 (.cells (Value.int IntKind.i64 op :: (fillC (ps.take k) (v.take k)).map encI).toArray 32 (0, 0)), OwnSl 3 1 va v.length vc (v.map encI), Blk b2 (.cells [.int .i64 0, .int .i64 0, .int .i64 0, .int .i64 0, .int .i64 0].toArray 32 (0, 0))])
    (fun k => k ≤ v.length) (fun k => v.length - k) 0 (Nat.zero_le _) (by (repeat (first | exact trivial | refine ⟨by rfl, ?_⟩)); done) (by repeat' (first | exact Cover.nil | exact Take.here | apply Cover.cons | apply Take.there)) ?_
   rintro k hk1
   refine g_seq <| g_seq <| g_region ?_
   refine g_mv ?_
   refine g_mv ?_
   refine g_pure (p_len (by rfl) rfl) rfl ?_
   refine g_pure (p_lss rfl rfl) rfl ?_
   refine g_nil <| g_qt ?_
   refine g_ifd rfl (fun q => ?_) (fun q => ?_)
   ·have hkv : k < v.length := by omega
    have hkp : k < ps.length := by omega
    have hkf : k < FL.length := by omega
    have hx := strB_at FL hkf
    have hxv := mapI2 v hkv
    have hlc := hlet FL[k] (List.getElem_mem hkf)
    have hpk : ps[k] = FL[k].toNat - 65 := by
     have : ps[k]? = some (FL[k].toNat - 65) := by rw [hpe, List.getElem?_map, List.getElem?_eq_getElem hkf]; rfl
     rw [List.getElem?_eq_getElem hkp] at this
     injection this
    have hst := fillC_step hkp hkv
    have hfl := fillC_len (ps.take k) (v.take k)
    generalize FL[k] = c at hx hlc hpk
    generalize v[k] = x at hxv hst
    rw [hpk] at hst
    have c65 : (c.toNat : Int) = 65 ↔ c = 65 := u8_eq (c := c) (m := 65) (by decide)
    have c66 : (c.toNat : Int) = 66 ↔ c = 66 := u8_eq (c := c) (m := 66) (by decide)
    have c67 : (c.toNat : Int) = 67 ↔ c = 67 := u8_eq (c := c) (m := 67) (by decide)
    generalize fillC (ps.take k) (v.take k) = F at hst hfl ⊢
    have hs1 : c = 65 → (Value.int IntKind.i64 op :: F.map encI).set 1 (.int .i64 x) = Value.int IntKind.i64 op :: (fillC (ps.take (k + 1)) (v.take (k + 1))).map encI := fun h => by subst h; rw [hst]; show _ = Value.int IntKind.i64 op :: (F.set 0 x).map encI; rw [List.map_set]; rfl
    have hs2 : c = 66 → (Value.int IntKind.i64 op :: F.map encI).set 2 (.int .i64 x) = Value.int IntKind.i64 op :: (fillC (ps.take (k + 1)) (v.take (k + 1))).map encI := fun h => by subst h; rw [hst]; show _ = Value.int IntKind.i64 op :: (F.set 1 x).map encI; rw [List.map_set]; rfl
    have hs3 : c = 67 → (Value.int IntKind.i64 op :: F.map encI).set 3 (.int .i64 x) = Value.int IntKind.i64 op :: (fillC (ps.take (k + 1)) (v.take (k + 1))).map encI := fun h => by subst h; rw [hst]; show _ = Value.int IntKind.i64 op :: (F.set 2 x).map encI; rw [List.map_set]; rfl
    have hs4 : c = 68 → (Value.int IntKind.i64 op :: F.map encI).set 4 (.int .i64 x) = Value.int IntKind.i64 op :: (fillC (ps.take (k + 1)) (v.take (k + 1))).map encI := fun h => by subst h; rw [hst]; show _ = Value.int IntKind.i64 op :: (F.set 3 x).map encI; rw [List.map_set]; rfl
    refine g_own (e := 3) (size := 1) (a1 := va) (k := v.length) (cap := vc) (xs := v.map encI) (by repeat' (first | exact Take.here | apply Take.there)) (fun _ h _ _ => absurd h (by omega)) ?_
    rintro g cur rfl hc1 hc2 hcl htk hxl
    have hcur : cur[0 + (k : Int).toNat * 1]? = some (.int .i64 x) := own_at (k := k) htk (by show 0 + (k : Int).toNat * 1 = _; omega) hxv
    refine g_skip <| g_qt <| g_seq <| g_block <| g_seq <| g_region ?_
    refine g_mv ?_
    refine g_mv ?_
    refine g_pure (p_indexs (by rfl) rfl rfl (by omega) hx) rfl ?_
    refine g_nil <| g_qt <| g_block <| g_seq <| g_region ?_
    refine g_pure (p_eql rfl rfl) rfl ?_
    refine g_as ?_
    refine g_nil <| g_qt ?_
    refine g_ifdL rfl (fun h1 => ?_) (fun h1 => ?_)
    ·refine g_region ?_
     refine g_mv ?_
     refine g_mv ?_
     refine g_pure (p_indexAddr rfl rfl (by omega) (fun _ => rfl)) rfl ?_
     refine g_pure (p_load (v := .int .i64 x) (by rfl) rfl (Has.own (by repeat' (first | exact Take.here | apply Take.there))) hcur) rfl ?_
     refine g_fa ?_
     first | refine g_eff0 (e_storeO rfl rfl (by rfl) (by rfl) (by rfl) (by repeat' (first | exact Take.here | apply Take.there)) (by rfl)) (fun _ _ => ?_) | refine g_eff0 (e_store1 (by rfl) rfl rfl rfl (by repeat' (first | exact Take.here | apply Take.there)) (by first | decide | (simp <;> omega) | omega)) (fun _ _ => ?_)
     rintro rfl
     refine g_nil <| g_qb <| g_qb <| g_qt <| g_region ?_
     refine g_mv ?_
     first | refine g_pure (p_addi rfl rfl (by omega)) rfl ?_ | refine g_pure (p_add rfl rfl) rfl ?_
     refine g_as ?_
     refine g_nil <| g_qn ?_
     (refine g_fold (e := 3) (size := 1) (g := g) (k := v.length) (cap := vc) (cur := cur) (xs := v.map encI) (by repeat' (first | exact Take.here | apply Take.there)) hc1 hc2 hcl htk ?_; (first | rw [hs1 (c65.1 (by assumption))] | rw [hs2 (c66.1 (by assumption))] | rw [hs3 (c67.1 (by assumption))] | rw [hs4 (by rcases hlc with h | h | h | h; exact absurd (c65.2 h) (by assumption); exact absurd (c66.2 h) (by assumption); exact absurd (c67.2 h) (by assumption); exact h)]); exact g_nextA (k + 1) hkv (by omega))
    ·refine g_seq <| g_region ?_
     refine g_pure (p_eql rfl rfl) rfl ?_
     refine g_as ?_
     refine g_nil <| g_qt ?_
     refine g_ifdL rfl (fun h2 => ?_) (fun h2 => ?_)
     ·refine g_region ?_
      refine g_mv ?_
      refine g_mv ?_
      refine g_pure (p_indexAddr rfl rfl (by omega) (fun _ => rfl)) rfl ?_
      refine g_pure (p_load (v := .int .i64 x) (by rfl) rfl (Has.own (by repeat' (first | exact Take.here | apply Take.there))) hcur) rfl ?_
      refine g_fa ?_
      first | refine g_eff0 (e_storeO rfl rfl (by rfl) (by rfl) (by rfl) (by repeat' (first | exact Take.here | apply Take.there)) (by rfl)) (fun _ _ => ?_) | refine g_eff0 (e_store1 (by rfl) rfl rfl rfl (by repeat' (first | exact Take.here | apply Take.there)) (by first | decide | (simp <;> omega) | omega)) (fun _ _ => ?_)
      rintro rfl
      refine g_nil <| g_qb <| g_qb <| g_qt <| g_region ?_
      refine g_mv ?_
      first | refine g_pure (p_addi rfl rfl (by omega)) rfl ?_ | refine g_pure (p_add rfl rfl) rfl ?_
      refine g_as ?_
      refine g_nil <| g_qn ?_
      (refine g_fold (e := 3) (size := 1) (g := g) (k := v.length) (cap := vc) (cur := cur) (xs := v.map encI) (by repeat' (first | exact Take.here | apply Take.there)) hc1 hc2 hcl htk ?_; (first | rw [hs1 (c65.1 (by assumption))] | rw [hs2 (c66.1 (by assumption))] | rw [hs3 (c67.1 (by assumption))] | rw [hs4 (by rcases hlc with h | h | h | h; exact absurd (c65.2 h) (by assumption); exact absurd (c66.2 h) (by assumption); exact absurd (c67.2 h) (by assumption); exact h)]); exact g_nextA (k + 1) hkv (by omega))
     ·refine g_seq <| g_region ?_
      refine g_pure (p_eql rfl rfl) rfl ?_
      refine g_as ?_
      refine g_nil <| g_qt ?_
      refine g_ifdL rfl (fun h3 => ?_) (fun h3 => ?_)
      ·refine g_region ?_
       refine g_mv ?_
       refine g_mv ?_
       refine g_pure (p_indexAddr rfl rfl (by omega) (fun _ => rfl)) rfl ?_
       refine g_pure (p_load (v := .int .i64 x) (by rfl) rfl (Has.own (by repeat' (first | exact Take.here | apply Take.there))) hcur) rfl ?_
       refine g_fa ?_
       first | refine g_eff0 (e_storeO rfl rfl (by rfl) (by rfl) (by rfl) (by repeat' (first | exact Take.here | apply Take.there)) (by rfl)) (fun _ _ => ?_) | refine g_eff0 (e_store1 (by rfl) rfl rfl rfl (by repeat' (first | exact Take.here | apply Take.there)) (by first | decide | (simp <;> omega) | omega)) (fun _ _ => ?_)
       rintro rfl
       refine g_nil <| g_qb <| g_qb <| g_qt <| g_region ?_
       refine g_mv ?_
       first | refine g_pure (p_addi rfl rfl (by omega)) rfl ?_ | refine g_pure (p_add rfl rfl) rfl ?_
       refine g_as ?_
       refine g_nil <| g_qn ?_
       (refine g_fold (e := 3) (size := 1) (g := g) (k := v.length) (cap := vc) (cur := cur) (xs := v.map encI) (by repeat' (first | exact Take.here | apply Take.there)) hc1 hc2 hcl htk ?_; (first | rw [hs1 (c65.1 (by assumption))] | rw [hs2 (c66.1 (by assumption))] | rw [hs3 (c67.1 (by assumption))] | rw [hs4 (by rcases hlc with h | h | h | h; exact absurd (c65.2 h) (by assumption); exact absurd (c66.2 h) (by assumption); exact absurd (c67.2 h) (by assumption); exact h)]); exact g_nextA (k + 1) hkv (by omega))
      ·refine g_region ?_
       refine g_mv ?_
       refine g_mv ?_
       refine g_pure (p_indexAddr rfl rfl (by omega) (fun _ => rfl)) rfl ?_
       refine g_pure (p_load (v := .int .i64 x) (by rfl) rfl (Has.own (by repeat' (first | exact Take.here | apply Take.there))) hcur) rfl ?_
       refine g_fa ?_
       first | refine g_eff0 (e_storeO rfl rfl (by rfl) (by rfl) (by rfl) (by repeat' (first | exact Take.here | apply Take.there)) (by rfl)) (fun _ _ => ?_) | refine g_eff0 (e_store1 (by rfl) rfl rfl rfl (by repeat' (first | exact Take.here | apply Take.there)) (by first | decide | (simp <;> omega) | omega)) (fun _ _ => ?_)
       rintro rfl
       refine g_nil <| g_qb <| g_qb <| g_qt <| g_region ?_
       refine g_mv ?_
       first | refine g_pure (p_addi rfl rfl (by omega)) rfl ?_ | refine g_pure (p_add rfl rfl) rfl ?_
       refine g_as ?_
       refine g_nil <| g_qn ?_
       (refine g_fold (e := 3) (size := 1) (g := g) (k := v.length) (cap := vc) (cur := cur) (xs := v.map encI) (by repeat' (first | exact Take.here | apply Take.there)) hc1 hc2 hcl htk ?_; (first | rw [hs1 (c65.1 (by assumption))] | rw [hs2 (c66.1 (by assumption))] | rw [hs3 (c67.1 (by assumption))] | rw [hs4 (by rcases hlc with h | h | h | h; exact absurd (c65.2 h) (by assumption); exact absurd (c66.2 h) (by assumption); exact absurd (c67.2 h) (by assumption); exact h)]); exact g_nextA (k + 1) hkv (by omega))
   ·have hke : k = v.length := by omega
    subst hke
    rw [List.take_of_length_le (by omega : ps.length ≤ v.length), List.take_length]
    have hfl := fillC_len ps v
    have hmk2 := hmk _ rfl
    rw [hmk2]
    generalize fillC ps v = F at hfl
    match F, hfl with
    | [f0, f1, f2, f3], _ =>
    refine g_exit <| g_qt_exit <| g_qn_exit <| g_qb_exit <| g_qt <| g_seq <| g_region ?_
    first | refine g_pure (p_loadO (by rfl) rfl (by first | (apply Has.own; (repeat' (first | exact Take.here | apply Take.there)); done) | exact Has.ro (by assumption)) (by rfl)) rfl ?_ | refine g_pure (p_loadN (by rfl) rfl (by first | (apply Has.own; (repeat' (first | exact Take.here | apply Take.there)); done) | exact Has.ro (by assumption)) (by first | rfl | assumption)) rfl ?_
    first | refine g_eff0 (e_storeO rfl rfl (by rfl) (by rfl) (by rfl) (by repeat' (first | exact Take.here | apply Take.there)) (by rfl)) (fun _ _ => ?_) | refine g_eff0 (e_storeN rfl rfl (by rfl) (by rfl) (by rfl) (by repeat' (first | exact Take.here | apply Take.there)) (by simp)) (fun _ _ => ?_)
    rintro rfl
    refine g_as ?_
    refine g_nil <| g_qt <| g_ret ?_
    exact g_postA (rs := [.cell 2 32, .tmp 3]) rfl (Res.cellN (by rfl) rfl (Has.own (by repeat' (first | exact Take.here | apply Take.there))) (by rfl) (.tmp rfl .nil)) ⟨((op : Int), f0, f1, f2, f3), rfl, fun j h => by (injection h), rfl⟩
end Go.Proofs.YtcnfcoojmbjdlaaGreatDoor
/- Chapter 26: the last routine of an image of one's own; one line read by the document. Conditions: none. -/
namespace Go.Z.Asm
set_option maxRecDepth 8000
set_option linter.unusedVariables false
set_option linter.unusedSimpArgs false
set_option linter.unusedSectionVars false
open Go Go.Z Go.Lib Go.Z.Txt Go.Z.Val
section
variable {P : Program} {n : Nat} {L : Fr} {H H' : List Assn} {M : Mx} {T : Act → World → Prop}
theorem g_alsnoc1 {l : List Assn} {X : Assn} (tk : Take H (Al (l ++ [X])) H') (k : G M n L (X :: Al l :: H') T) : G M n L H T :=
 g_sat (fun h s => by
  obtain ⟨h1, h2, s1, s2, d, e⟩ := tk.sat s
  subst e
  obtain ⟨k1, k2, t1, ⟨x, z, hx, hz, dz, ez⟩, d2, e⟩ := sat_split s1
  subst e
  have hz : z = fun _ => none := hz
  subst hz
  have : k2 = x := by rw [ez]; funext b; simp [join]
  subst this
  obtain ⟨d3, d4⟩ := Disj.join_right.1 d.symm
  exact ⟨k2, join k1 h2, hx, ⟨k1, h2, t1, s2, d3.symm, rfl⟩, Disj.join_right.2 ⟨d2.symm, d4.symm⟩, by rw [← join_assoc, join_comm d2]⟩) k
theorem g_focus {TI TC TR : TypeId} {ea ra : Option Addr} {ec rc : Nat} {es : List Int} {done : List Rt} {cur : Rt} (tk : Take H (OwnIm TI TC TR ea ra ec rc (es, done ++ [cur])) H')
  (k : ∀ (Q : List (Hd × Rt)) (h : Hd), Q.map (·.2) = done → G M n L (ownR TI TC (h, cur) ++ (Al (Q.map (fragP TI TC)) :: OwnSl TI 1 ea es.length ec (es.map encI) :: OwnSl TR 6 ra (Q.length + 1) rc (Q.flatMap rowO ++ rowO (h, cur)) :: H')) T) : G M n L H T := by
 refine g_open tk ?_
 rintro H1 ⟨Q0, hQ, rfl⟩
 dsimp only at hQ
 obtain ⟨Q, Q2, rfl, h1, h2⟩ := List.map_eq_append_iff.1 hQ
 obtain ⟨⟨h, c⟩, rfl, h3⟩ := List.map_eq_singleton_iff.1 h2
 dsimp only at h3
 subst h3
 have hl : (done ++ [c]).length = Q.length + 1 := by rw [← h1]; simp
 rw [hl, List.flatMap_append, List.map_append]
 simp only [List.flatMap_singleton, List.map_cons, List.map_nil]
 refine g_alsnoc1 (.there (.there .here)) ?_
 exact g_al .here (k Q h h1)
theorem g_unfocus {TI TC TR : TypeId} {ea ra : Option Addr} {ec rc : Nat} {es : List Int} {Q : List (Hd × Rt)} (q : Hd × Rt) {done : List Rt} (hQ : Q.map (·.2) = done) {H1 H2 H3 H4 H5 H6 H7 : List Assn}
  (a1 : Take H (OwnSl TI 1 q.1.1.1 q.2.2.1.length q.1.1.2 (q.2.2.1.map encI)) H1) (a2 : Take H1 (OwnSl TI 1 q.1.2.1.1 q.2.2.2.1.length q.1.2.1.2 (q.2.2.2.1.map encI)) H2) (a3 : Take H2 (OwnSl TI 1 q.1.2.2.1.1 q.2.2.2.2.2.1.length q.1.2.2.1.2 (q.2.2.2.2.2.1.map encI)) H3) (a4 : Take H3 (OwnSl TC 5 q.1.2.2.2.1 q.2.2.2.2.2.2.length q.1.2.2.2.2 (q.2.2.2.2.2.2.flatMap encIns)) H4)
  (b : Take H4 (Al (Q.map (fragP TI TC))) H5) (c : Take H5 (OwnSl TI 1 ea es.length ec (es.map encI)) H6) (d : Take H6 (OwnSl TR 6 ra (Q.length + 1) rc (Q.flatMap rowO ++ rowO q)) H7)
  (k : G M n L (OwnIm TI TC TR ea ra ec rc (es, done ++ [q.2]) :: H7) T) : G M n L H T := by
 refine g_emp al_nil ?_
 refine g_alpush .here a1 ?_
 refine g_alpush .here a2 ?_
 refine g_alpush .here a3 ?_
 refine g_alpush .here a4 ?_
 refine g_alpush (l := Q.map (fragP TI TC)) (X := fragP TI TC q) (.there b) .here ?_
 have e1 : Q.flatMap rowO ++ rowO q = (Q ++ [q]).flatMap rowO := by simp
 have e2 : Q.length + 1 = (done ++ [q.2]).length := by rw [← hQ]; simp
 have e3 : Q.map (fragP TI TC) ++ [fragP TI TC q] = (Q ++ [q]).map (fragP TI TC) := by simp
 rw [e1, e2] at d
 rw [e3]
 exact g_close (K := OwnImK TI TC TR ea ra ec rc (es, done ++ [q.2])) (H1 := [OwnSl TI 1 ea es.length ec (es.map encI), OwnSl TR 6 ra (done ++ [q.2]).length rc ((Q ++ [q]).flatMap rowO), Al ((Q ++ [q]).map (fragP TI TC))]) ⟨Q ++ [q], by rw [List.map_append, hQ]; rfl, rfl⟩ (Cover.cons (.there c) (Cover.cons (.there d) (Cover.cons .here .nil))) k
end
theorem row_cell {Q : List (Hd × Rt)} {q : Hd × Rt} {cur : List Value} (h : cur.take ((Q.length + 1) * 6) = Q.flatMap rowO ++ rowO q) {j : Nat} {v : Value} (hv : (rowO q)[j]? = some v) : cur[0 + Q.length * 6 + j]? = some v := by
 have hl : (Q.flatMap rowO).length = Q.length * 6 := rows_len rowO 6 rowO_len Q
 have h1 : (Q.flatMap rowO ++ rowO q)[Q.length * 6 + j]? = some v := by
  rw [List.getElem?_append_right (by omega), hl, show Q.length * 6 + j - Q.length * 6 = j by omega]; exact hv
 rw [← h, List.getElem?_take] at h1
 split at h1
 ·rw [Nat.zero_add]; exact h1
 ·cases h1
theorem row_set {Q : List (Hd × Rt)} {q : Hd × Rt} {cur : List Value} (h : cur.take ((Q.length + 1) * 6) = Q.flatMap rowO ++ rowO q) {j : Nat} (v : Value) : (cur.set (0 + Q.length * 6 + j) v).take ((Q.length + 1) * 6) = Q.flatMap rowO ++ (rowO q).set j v := by
 have hl : (Q.flatMap rowO).length = Q.length * 6 := rows_len rowO 6 rowO_len Q
 rw [List.take_set, h, List.set_append_right _ _ (by omega), hl]
 congr 2; omega
def listO (p : PS) : List Rt := if 2 ≤ p.2.2.2 then p.2.1 ++ [p.2.2.1] else p.2.1
theorem step_six {es : List Int} {done : List Rt} {cur : Rt} {w0 : List UInt8} {W : List (List UInt8)} (hn : [] ∉ w0 :: W) :
  (w0 = endW → W.length = 0 → stepL (es, done, cur, 6) (w0 :: W) = some (endP (es, done, cur, 6))) ∧ (w0 = endW → W.length ≠ 0 → stepL (es, done, cur, 6) (w0 :: W) = none) ∧ (w0 ≠ endW → stepL (es, done, cur, 6) (w0 :: W) = (insV (w0 :: W)).map (addI (es, done, cur, 6))) := by
 have e : stepL (es, done, cur, 6) (w0 :: W) = if w0 = endW then (if W.length + 1 = 1 then some (endP (es, done, cur, 6)) else none) else (insV (w0 :: W)).map (addI (es, done, cur, 6)) := by
  unfold stepL
  rw [if_neg hn]; rfl
 rw [e]
 exact ⟨fun h h2 => by rw [if_pos h, if_pos (by omega)], fun h h2 => by rw [if_pos h, if_neg (by omega)], fun h => by rw [if_neg h]⟩
theorem step_one {es : List Int} {done : List Rt} {cur : Rt} {w0 : List UInt8} {W : List (List UInt8)} (hn : [] ∉ w0 :: W) :
  (w0 ≠ routW → stepL (es, done, cur, 1) (w0 :: W) = none) ∧ (w0 = routW → W.length ≠ 1 → stepL (es, done, cur, 1) (w0 :: W) = none) ∧ (w0 = routW → ∀ nm, W = [nm] → stepL (es, done, cur, 1) (w0 :: W) = some (es, done, (nm, [], [], 0, [], []), 2)) := by
 have e : stepL (es, done, cur, 1) (w0 :: W) = if w0 ≠ routW then none else if W.length + 1 = 2 then some (newP (es, done, cur, 1) (W.headD [])) else none := by
  unfold stepL
  rw [if_neg hn]; rfl
 rw [e]
 refine ⟨fun h => by rw [if_pos h], fun h h2 => by rw [if_neg (fun h' => h' h), if_neg (by omega)], fun h nm h2 => ?_⟩
 rw [if_neg (fun h' => h' h), h2]; rfl
theorem step_num {es : List Int} {done : List Rt} {cur : Rt} {w : Nat} (h1 : w ≠ 1) (h6 : w ≠ 6) {w0 : List UInt8} {W : List (List UInt8)} (hn : [] ∉ w0 :: W) :
  (w0 ≠ headW w → stepL (es, done, cur, w) (w0 :: W) = none) ∧ (w0 = headW w → numsO W = none → stepL (es, done, cur, w) (w0 :: W) = none) ∧ (w0 = headW w → ∀ l, numsO W = some l → stepL (es, done, cur, w) (w0 :: W) = if w = 4 ∧ l.length ≠ 1 then none else some (putW (es, done, cur, w) l)) := by
 have e : stepL (es, done, cur, w) (w0 :: W) = if w0 ≠ headW w then none else match numsO W with | none => none | some v => if w = 4 ∧ v.length ≠ 1 then none else some (putW (es, done, cur, w) v) := by
  unfold stepL
  rw [if_neg hn, if_neg (c := (es, done, cur, w).2.2.2 = 6) h6, if_neg (c := (es, done, cur, w).2.2.2 = 1) h1]; rfl
 rw [e]
 exact ⟨fun h => by rw [if_pos h], fun h h2 => by rw [if_neg (fun h' => h' h), h2], fun h l h2 => by rw [if_neg (fun h' => h' h), h2]⟩
def NextPost (TI TC TR : TypeId) (p : PS) (W : List (List UInt8)) (v : Value) (H : List Assn) : Prop := match stepL p W with
 | none => ∃ (a : Option Addr) (k c : Nat) (b : Option Addr) (m d : Nat) (z : Int), v = .tuple #[.agg #[.slice a k c, .slice b m d, .int .i64 z], .bool false] ∧ H = []
 | some q => ∃ ea ec ra rc, v = .tuple #[.agg #[.slice ea q.1.length ec, .slice ra (listO q).length rc, .int .i64 q.2.2.2], .bool true] ∧ H = [OwnIm TI TC TR ea ra ec rc (q.1, listO q)]
theorem next_none {TI TC TR : TypeId} {p : PS} {W : List (List UInt8)} (h : stepL p W = none) (a : Option Addr) (k c : Nat) (b : Option Addr) (m d : Nat) (z : Int) : NextPost TI TC TR p W (.tuple #[.agg #[.slice a k c, .slice b m d, .int .i64 z], .bool false]) [] := by
 unfold NextPost; rw [h]; exact ⟨a, k, c, b, m, d, z, rfl, rfl⟩
theorem next_some {TI TC TR : TypeId} {p q : PS} {W : List (List UInt8)} (h : stepL p W = some q) {ea ra : Option Addr} {ec rc : Nat} {n1 n2 : Nat} {z : Int} {im : Im} (e1 : n1 = q.1.length) (e2 : n2 = (listO q).length) (e3 : z = q.2.2.2) (e4 : im = (q.1, listO q)) : NextPost TI TC TR p W (.tuple #[.agg #[.slice ea n1 ec, .slice ra n2 rc, .int .i64 z], .bool true]) [OwnIm TI TC TR ea ra ec rc im] := by
 subst e1 e2 e3 e4
 unfold NextPost; rw [h]; exact ⟨ea, ec, ra, rc, rfl, rfl⟩
end Go.Z.Asm
/- Chapter 26: one line of a routine's code read by the document. Conditions: none. -/
namespace Go.Proofs.YtcnfcoojmbjdlaaGreatDoor
set_option maxRecDepth 8000
set_option linter.unusedVariables false
set_option linter.unusedSimpArgs false
set_option linter.unusedSectionVars false
open Go Go.Z Go.Z.Asm Go.RowKit Go.Z.Val Go.Z.Txt

set_option maxHeartbeats 400000 in
theorem next6_ok {ρ : Nat → Obj → Prop} {ea ra : Option Addr} {ec rc : Nat} {es : List Int} {done : List Rt} {cur : Rt} (hdl : done.length ≤ 5000000) (hcl : cur.2.2.2.2.2.length ≤ 5000000) {wb wc : Nat} (w0 : List UInt8) (W : List (List UInt8)) {T : TypeId} {fz : Nat × Nat} {tl : List Value} (hb : ρ wb (.cells ((w0 :: W).map strV ++ tl).toArray T fz)) (hl : W.length ≤ 4294967296) (hlen : ∀ w ∈ W, w.length ≤ 4294967296) (hwc : (w0 :: W).length ≤ wc) (hn : [] ∉ w0 :: W) :
  Con Tryz.prog ρ 54 #[.agg #[.slice ea es.length ec, .slice ra (done ++ [cur]).length rc, .int .i64 6], .slice (some ⟨wb, 0, none⟩) (w0 :: W).length wc] [OwnIm 3 32 45 ea ra ec rc (es, done ++ [cur])]
  (NextPost 3 32 45 (es, done, cur, 6) (w0 :: W)) := by
 have hln : (w0 :: W).length = W.length + 1 := rfl
 have hdc : (done ++ [cur]).length = done.length + 1 := by simp
 obtain ⟨s1, s2, s3⟩ := step_six (es := es) (done := done) (cur := cur) hn
 have hend : strB w0 = ⟨#[101, 110, 100]⟩ ↔ w0 = endW := strB_inj (b := endW)
 refine con_intro Tryz.func54 Tryz.call54 rfl Tryz.ntmps54 rfl (L := [(0, _), (1, _)]) rfl fun w hh => ?_
 refine g_seq <| g_region ?_
 refine g_eff (e_box rfl (by rfl)) rfl (fun _ _ => ?_)
 rintro ⟨b2, rfl, rfl⟩
 refine g_eff (e_alloc (by rfl)) rfl (fun _ _ => ?_)
 rintro ⟨b4, rfl, rfl⟩
 refine g_as ?_
 refine g_nil <| g_qt <| g_seq <| g_region ?_
 refine g_eff (e_bs (xs := [.const (.string (⟨#[101, 110, 117, 109, 115]⟩)), .const (.string (⟨#[114, 111, 117, 116, 105, 110, 101]⟩)), .const (.string (⟨#[105, 110]⟩)), .const (.string (⟨#[111, 117, 116]⟩)), .const (.string (⟨#[114, 101, 103, 115]⟩)), .const (.string (⟨#[105, 110, 105, 116]⟩))]) rfl rfl rfl (by rfl) (by rfl) rfl (by rfl)) rfl (fun _ _ => ?_)
 rintro ⟨b12, rfl, rfl⟩
 refine g_as ?_
 refine g_nil <| g_qt <| g_seq <| g_region ?_
 refine g_fa ?_
 refine g_fa ?_
 refine g_ld ?_
 refine g_pure (p_len (by rfl) rfl) rfl ?_
 first | refine g_pure (p_subi rfl rfl (by omega)) rfl ?_ | refine g_pure (p_sub rfl rfl) rfl ?_
 refine g_as ?_
 refine g_nil <| g_qt <| g_seq <| g_seq <| g_region ?_
 refine g_fa ?_
 refine g_ld ?_
 refine g_pure (p_eqlT rfl rfl rfl) rfl ?_
 refine g_nil <| g_qt ?_
 refine g_ift rfl ?_
 refine g_seq <| g_seq <| g_region ?_
 refine g_mv ?_
 refine g_pure (p_indexAddr rfl rfl (by omega) (fun _ => rfl)) rfl ?_
 refine g_pure (p_load (v := .string (strB w0)) (by rfl) rfl (Has.ro hb) (by rfl)) rfl ?_
 refine g_pure (p_eqls (i := strB w0) (j := ⟨#[101, 110, 100]⟩) (by rfl) rfl rfl) rfl ?_
 refine g_nil <| g_qt ?_
 refine g_ifd rfl (fun h1 => ?_) (fun h1 => ?_)
 ·have he : w0 = endW := hend.1 h1
  refine g_seq <| g_region ?_
  refine g_fa ?_
  first | refine g_eff0 (e_storeO rfl rfl (by rfl) (by rfl) (by rfl) (by repeat' (first | exact Take.here | apply Take.there)) (by rfl)) (fun _ _ => ?_) | refine g_eff0 (e_store1 (by rfl) rfl rfl rfl (by repeat' (first | exact Take.here | apply Take.there)) (by first | decide | (simp <;> omega) | omega)) (fun _ _ => ?_)
  rintro rfl
  refine g_nil <| g_qt <| g_seq <| g_region ?_
  first | refine g_pure (p_loadO (by rfl) rfl (by first | (apply Has.own; (repeat' (first | exact Take.here | apply Take.there)); done) | exact Has.ro (by assumption)) (by rfl)) rfl ?_ | refine g_pure (p_loadN (by rfl) rfl (by first | (apply Has.own; (repeat' (first | exact Take.here | apply Take.there)); done) | exact Has.ro (by assumption)) (by first | rfl | assumption)) rfl ?_
  refine g_mv ?_
  refine g_pure (p_len (by rfl) rfl) rfl ?_
  refine g_pure (p_eql rfl rfl) rfl ?_
  first | refine g_eff0 (e_storeO rfl rfl (by rfl) (by rfl) (by rfl) (by repeat' (first | exact Take.here | apply Take.there)) (by rfl)) (fun _ _ => ?_) | refine g_eff0 (e_storeN rfl rfl (by rfl) (by rfl) (by rfl) (by repeat' (first | exact Take.here | apply Take.there)) (by simp)) (fun _ _ => ?_)
  rintro rfl
  refine g_as ?_
  refine g_nil <| g_qt <| g_ret <| g_qt_ret <| g_qt_ret ?_
  by_cases hw : W.length = 0
  ·rw [decide_eq_true (p := ((w0 :: W).length : Int) = 1) (by omega)]
   exact g_postA (Ho := [OwnIm 3 32 45 ea ra ec rc (es, done ++ [cur])]) (rs := [.cell 4 77, .tmp 5]) rfl (Res.cellN (by rfl) rfl (Has.own (by repeat' (first | exact Take.here | apply Take.there))) (by rfl) (.tmp rfl .nil)) (next_some (s1 he hw) rfl rfl rfl rfl)
  ·rw [decide_eq_false (p := ((w0 :: W).length : Int) = 1) (by omega)]
   exact g_postA (Ho := []) (rs := [.cell 4 77, .tmp 5]) rfl (Res.cellN (by rfl) rfl (Has.own (by repeat' (first | exact Take.here | apply Take.there))) (by rfl) (.tmp rfl .nil)) (next_none (s2 he hw) _ _ _ _ _ _ _)
 ·have hst := s3 (fun e => h1 (hend.2 e))
  refine g_skip <| g_qt <| g_seq <| g_region ?_
  refine g_mv ?_
  refine g_call (Hin := []) (Hr := ?hr1) (R := ?rr1) rfl rfl rfl ?hin1 ?hc1 ?hk1
  case hin1 => repeat' (first | exact Cover.nil | exact Take.here | apply Cover.cons | apply Take.there)
  case hc1 => intro ρ' hρ hR; exact rins_ok w0 W (hρ _ _ hb) hl hlen hwc
  rintro _ _ ⟨i, rfl, hi, rfl⟩
  rcases hV : insV (w0 :: W) with _ | j
  ·rw [show (none : Option Ins).isSome = false from rfl]
   rw [hV] at hst
   refine g_mv ?_
   refine g_pure (p_extract rfl rfl) rfl ?_
   refine g_pure (p_extract rfl rfl) rfl ?_
   refine g_eff (e_alloc (by rfl)) rfl (fun _ _ => ?_)
   rintro ⟨b8, rfl, rfl⟩
   first | refine g_eff0 (e_storeO rfl rfl (by rfl) (by rfl) (by rfl) (by repeat' (first | exact Take.here | apply Take.there)) (by rfl)) (fun _ _ => ?_) | refine g_eff0 (e_storeN rfl rfl (by rfl) (by rfl) (by rfl) (by repeat' (first | exact Take.here | apply Take.there)) (by simp)) (fun _ _ => ?_)
   rintro rfl
   refine g_as ?_
   refine g_nil <| g_qt <| g_seq <| g_seq <| g_region ?_
   refine g_mv ?_
   refine g_nil <| g_qt ?_
   refine g_iff rfl ?_
   refine g_skip <| g_qt <| g_seq <| g_region ?_
   first | refine g_pure (p_loadO (by rfl) rfl (by first | (apply Has.own; (repeat' (first | exact Take.here | apply Take.there)); done) | exact Has.ro (by assumption)) (by rfl)) rfl ?_ | refine g_pure (p_loadN (by rfl) rfl (by first | (apply Has.own; (repeat' (first | exact Take.here | apply Take.there)); done) | exact Has.ro (by assumption)) (by first | rfl | assumption)) rfl ?_
   refine g_mv ?_
   first | refine g_eff0 (e_storeO rfl rfl (by rfl) (by rfl) (by rfl) (by repeat' (first | exact Take.here | apply Take.there)) (by rfl)) (fun _ _ => ?_) | refine g_eff0 (e_storeN rfl rfl (by rfl) (by rfl) (by rfl) (by repeat' (first | exact Take.here | apply Take.there)) (by simp)) (fun _ _ => ?_)
   rintro rfl
   refine g_as ?_
   refine g_nil <| g_qt <| g_ret <| g_qt_ret ?_
   exact g_postA (Ho := []) (rs := [.cell 4 77, .tmp 5]) rfl (Res.cellN (by rfl) rfl (Has.own (by repeat' (first | exact Take.here | apply Take.there))) (by rfl) (.tmp rfl .nil)) (next_none hst _ _ _ _ _ _ _)
  ·rw [show (some j).isSome = true from rfl]
   have hij := hi j hV
   subst hij
   rw [hV] at hst
   refine g_mv ?_
   refine g_pure (p_extract rfl rfl) rfl ?_
   refine g_pure (p_extract rfl rfl) rfl ?_
   refine g_eff (e_alloc (by rfl)) rfl (fun _ _ => ?_)
   rintro ⟨b8, rfl, rfl⟩
   first | refine g_eff0 (e_storeO rfl rfl (by rfl) (by rfl) (by rfl) (by repeat' (first | exact Take.here | apply Take.there)) (by rfl)) (fun _ _ => ?_) | refine g_eff0 (e_storeN rfl rfl (by rfl) (by rfl) (by rfl) (by repeat' (first | exact Take.here | apply Take.there)) (by simp)) (fun _ _ => ?_)
   rintro rfl
   refine g_as ?_
   refine g_nil <| g_qt <| g_seq <| g_seq <| g_region ?_
   refine g_mv ?_
   refine g_nil <| g_qt ?_
   refine g_focus (by repeat' (first | exact Take.here | apply Take.there)) ?_
   intro Q h hQ
   have hQl : done.length = Q.length := by rw [← hQ]; simp
   obtain ⟨⟨h1a, h1c⟩, ⟨h2a, h2c⟩, ⟨h3a, h3c⟩, h4a, h4c⟩ := h
   unfold ownR
   dsimp only [List.cons_append, List.nil_append]
   refine g_own (e := 45) (size := 6) (a1 := ra) (k := Q.length + 1) (cap := rc) (xs := Q.flatMap rowO ++ rowO (((h1a, h1c), (h2a, h2c), (h3a, h3c), h4a, h4c), cur)) (by repeat' (first | exact Take.here | apply Take.there)) (fun _ h _ _ => absurd h (by omega)) ?_
   rintro g cu rfl hc1 hc2 hcl2 htk hxl
   have hidx : (((done ++ [cur]).length : Int) - 1).toNat = Q.length := by omega
   have hc5 := row_cell htk (j := 5) (v := .slice h4a cur.2.2.2.2.2.length h4c) rfl
   refine g_ift rfl ?_
   refine m_begin (.fl 0 0 (.fl 1 0 (.fl 2 1 (.fl 3 0 (.fl 4 0 (.fl 5 0 (.fl 6 1 (.fl 7 0 (.fl 8 0 (.fl 9 0 (.fl 10 1 (.fl 11 1 (.ef 12 (.ef 13 (.fl 14 0 (.fl 15 0 (.ef 16 .done))))))))))))))))) [Blk g (.cells cu.toArray 45 (0, 0)), OwnSl 3 1 h1a cur.2.1.length h1c (cur.2.1.map encI), OwnSl 3 1 h2a cur.2.2.1.length h2c (cur.2.2.1.map encI), OwnSl 3 1 h3a cur.2.2.2.2.1.length h3c (cur.2.2.2.2.1.map encI), Al (Q.map (fragP 3 32)), OwnSl 3 1 ea es.length ec (es.map encI), Blk b8 (.cells [.int .i64 i.1, .int .i64 i.2.1, .int .i64 i.2.2.1, .int .i64 i.2.2.2.1, .int .i64 i.2.2.2.2].toArray 32 (0, 0)), Blk b4 (.cells [.slice none 0 0, .slice none 0 0, .int .i64 0].toArray 77 (0, 0)), Blk b2 (.cells [.slice ea es.length ec, .slice (some ⟨g, 0, none⟩) (done ++ [cur]).length rc, .int .i64 6].toArray 77 (0, 0))] (by kernel_rfl) (by kernel_rfl) (by repeat' (first | exact Cover.nil | exact Take.here | apply Cover.cons | apply Take.there)) ?_
   refine m_float0 rfl (fun _ _ => p_fieldAddr rfl) rfl ?_
   refine m_float0 rfl (fun _ _ => p_fieldAddr rfl) rfl ?_
   refine m_float rfl (p_loadA) rfl ?_
   refine m_float0 rfl (fun _ _ => p_move rfl) rfl ?_
   refine m_float0 rfl (fun _ _ => p_fieldAddr rfl) rfl ?_
   refine m_float0 rfl (fun _ _ => p_fieldAddr rfl) rfl ?_
   refine m_float rfl (p_loadA) rfl ?_
   refine m_float0 rfl (fun _ _ => p_move rfl) rfl ?_
   refine m_float0 rfl (fun _ _ => p_indexAddr rfl rfl (by omega) (fun _ => rfl)) rfl ?_
   refine m_float0 rfl (fun _ _ => p_fieldAddr rfl) rfl ?_
   refine m_float rfl (p_load (v := .slice h4a cur.2.2.2.2.2.length h4c) (by rfl) rfl (Has.own (by repeat' (first | exact Take.here | apply Take.there))) (by rw [hidx]; exact hc5)) rfl ?_
   first | refine m_float rfl (p_loadO (by rfl) rfl (by first | (apply Has.own; (repeat' (first | exact Take.here | apply Take.there)); done) | exact Has.ro (by assumption)) (by rfl)) rfl ?_ | refine m_float rfl (p_loadN (by rfl) rfl (by first | (apply Has.own; (repeat' (first | exact Take.here | apply Take.there)); done) | exact Has.ro (by assumption)) (by first | rfl | assumption)) rfl ?_
   refine m_eff rfl (e_bs (xs := [.tmp 47]) rfl rfl rfl (by rfl) (by rfl) rfl (by rfl)) rfl (fun _ _ => ?_)
   rintro ⟨b48, rfl, rfl⟩
   refine ⟨.some (by repeat' (first | exact Cover.nil | exact Take.here | apply Cover.cons | apply Take.there)), ?_⟩
   refine m_eff rfl (e_appendO (by rfl) (by rfl) rfl rfl (by first | (apply Has.own; (repeat' (first | exact Take.here | apply Take.there)); done) | exact Has.ro (by assumption)) (by rfl) (by rfl) (by repeat' (first | exact Take.here | apply Take.there)) (by omega) (by first | omega | (dsimp only; omega) | (simp <;> omega)) (by omega)) rfl (fun _ _ => ?_)
   rintro ⟨a49, c49, rfl, rfl⟩
   refine ⟨.some (by repeat' (first | exact Cover.nil | exact Take.here | apply Cover.cons | apply Take.there)), ?_⟩
   refine m_float0 rfl (fun _ _ => p_indexAddr rfl rfl (by omega) (fun _ => rfl)) rfl ?_
   refine m_float0 rfl (fun _ _ => p_fieldAddr rfl) rfl ?_
   first | refine m_eff0 rfl (e_storeO rfl rfl (by rfl) (by rfl) (by rfl) (by repeat' (first | exact Take.here | apply Take.there)) (by rfl)) (fun _ _ => ?_) | refine m_eff0 rfl (e_store1 (by rfl) rfl rfl rfl (by repeat' (first | exact Take.here | apply Take.there)) (by first | decide | (simp <;> omega) | omega)) (fun _ _ => ?_)
   rintro rfl
   refine ⟨.none (by kernel_rfl), ?_⟩
   refine m_nil ?_
   refine g_qt <| g_seq <| g_region ?_
   first | refine g_pure (p_loadO (by rfl) rfl (by first | (apply Has.own; (repeat' (first | exact Take.here | apply Take.there)); done) | exact Has.ro (by assumption)) (by rfl)) rfl ?_ | refine g_pure (p_loadN (by rfl) rfl (by first | (apply Has.own; (repeat' (first | exact Take.here | apply Take.there)); done) | exact Has.ro (by assumption)) (by first | rfl | assumption)) rfl ?_
   refine g_mv ?_
   first | refine g_eff0 (e_storeO rfl rfl (by rfl) (by rfl) (by rfl) (by repeat' (first | exact Take.here | apply Take.there)) (by rfl)) (fun _ _ => ?_) | refine g_eff0 (e_storeN rfl rfl (by rfl) (by rfl) (by rfl) (by repeat' (first | exact Take.here | apply Take.there)) (by simp)) (fun _ _ => ?_)
   rintro rfl
   refine g_as ?_
   refine g_nil <| g_qt <| g_ret <| g_qt_ret ?_
   rw [hidx, show (Value.slice a49 (cur.2.2.2.2.2.length + 1) c49) = .slice a49 (cur.2.2.2.2.2 ++ [i]).length c49 by simp]
   have hset := row_set htk (j := 5) (.slice a49 (cur.2.2.2.2.2 ++ [i]).length c49)
   have hrow : (rowO (((h1a, h1c), (h2a, h2c), (h3a, h3c), h4a, h4c), cur)).set 5 (.slice a49 (cur.2.2.2.2.2 ++ [i]).length c49) = rowO (((h1a, h1c), (h2a, h2c), (h3a, h3c), a49, c49), (cur.1, cur.2.1, cur.2.2.1, cur.2.2.2.1, cur.2.2.2.2.1, cur.2.2.2.2.2 ++ [i])) := rfl
   rw [hrow] at hset
   refine g_fold (e := 45) (size := 6) (g := g) (k := Q.length + 1) (cap := rc) (cur := cu.set (0 + Q.length * 6 + 5) (.slice a49 (cur.2.2.2.2.2 ++ [i]).length c49)) (xs := Q.flatMap rowO ++ rowO (((h1a, h1c), (h2a, h2c), (h3a, h3c), a49, c49), (cur.1, cur.2.1, cur.2.2.1, cur.2.2.2.1, cur.2.2.2.2.1, cur.2.2.2.2.2 ++ [i]))) (by repeat' (first | exact Take.here | apply Take.there)) hc1 hc2 (by rw [List.length_set]; exact hcl2) hset ?_
   rw [show cur.2.2.2.2.2.flatMap encIns ++ [Value.int IntKind.i64 i.1, .int .i64 i.2.1, .int .i64 i.2.2.1, .int .i64 i.2.2.2.1, .int .i64 i.2.2.2.2] = (cur.2.2.2.2.2 ++ [i]).flatMap encIns by simp [encIns], show cur.2.2.2.2.2.length + 1 = (cur.2.2.2.2.2 ++ [i]).length by simp]
   refine g_unfocus (TI := 3) (TC := 32) (TR := 45) (ea := ea) (ec := ec) (es := es) (((h1a, h1c), (h2a, h2c), (h3a, h3c), a49, c49), (cur.1, cur.2.1, cur.2.2.1, cur.2.2.2.1, cur.2.2.2.2.1, cur.2.2.2.2.2 ++ [i])) hQ (by repeat' (first | exact Take.here | apply Take.there)) (by repeat' (first | exact Take.here | apply Take.there)) (by repeat' (first | exact Take.here | apply Take.there)) (by repeat' (first | exact Take.here | apply Take.there)) (by repeat' (first | exact Take.here | apply Take.there)) (by repeat' (first | exact Take.here | apply Take.there)) (by repeat' (first | exact Take.here | apply Take.there)) ?_
   exact g_postA (Ho := [OwnIm 3 32 45 ea (some ⟨g, 0, none⟩) ec rc (es, done ++ [(cur.1, cur.2.1, cur.2.2.1, cur.2.2.2.1, cur.2.2.2.2.1, cur.2.2.2.2.2 ++ [i])])]) (rs := [.cell 4 77, .tmp 5]) rfl (Res.cellN (by rfl) rfl (Has.own (by repeat' (first | exact Take.here | apply Take.there))) (by rfl) (.tmp rfl .nil)) (next_some hst rfl (by rw [hdc]; simp [listO, addI]) rfl rfl)
end Go.Proofs.YtcnfcoojmbjdlaaGreatDoor
/- Chapter 26: lines with numbers read by the document: the lines in front of a routine's code. Conditions: none. Printed by genOf.py. -/
namespace Go.Z.Asm
set_option maxRecDepth 8000
set_option linter.unusedVariables false
set_option linter.unusedSimpArgs false
set_option linter.unusedSectionVars false
open Go Go.Z Go.Lib Go.Z.Txt
theorem tail_words {ρ ρ' : Nat → Obj → Prop} {wb : Nat} {w0 : List UInt8} {W : List (List UInt8)} {T : TypeId} {fz : Nat × Nat} {tl : List Value} {a : Option Addr} (hs : ∀ b o, ρ b o → ρ' b o) (hb : ρ wb (.cells ((w0 :: W).map strV ++ tl).toArray T fz)) (ha : 0 < W.length → a = some ⟨wb, 1, none⟩) : RSl ρ' 1 a W.length (W.map strV) :=
 ⟨by simp, wb, 1, (w0 :: W).map strV ++ tl, T, fz, fun h0 => ⟨ha h0, hs _ _ hb, fun j v hj => by
  rw [Nat.add_comm, List.map_cons, List.cons_append, List.getElem?_cons_succ]
  have hjl : j < (W.map strV).length := by
   cases e : (W.map strV)[j]? with
   | none => rw [e] at hj; cases hj
   | some x => exact (List.getElem?_eq_some_iff.1 e).1
  rw [List.getElem?_append_left hjl]; exact hj⟩⟩
theorem tail_words_addr {wb wc : Nat} {w0 : List UInt8} {W : List (List UInt8)} (h : 0 < W.length) (hwc : (w0 :: W).length ≤ wc) : (if wc = (1 : Int).toNat then some (⟨wb, 0, none⟩ : Addr) else (some (⟨wb, 0, none⟩ : Addr)).map (·.add ((1 : Int).toNat * 1))) = some ⟨wb, 1, none⟩ := by
 rw [if_neg (by rw [List.length_cons] at hwc; show ¬ wc = 1; omega)]; rfl
end Go.Z.Asm
namespace Go.Proofs.YtcnfcoojmbjdlaaGreatDoor
set_option maxRecDepth 8000
set_option linter.unusedVariables false
set_option linter.unusedSimpArgs false
set_option linter.unusedSectionVars false
open Go Go.Z Go.Z.Asm Go.RowKit Go.Z.Val Go.Z.Txt

set_option maxHeartbeats 400000 in
theorem next2_ok {ρ : Nat → Obj → Prop} {ea ra : Option Addr} {ec rc : Nat} {es : List Int} {done : List Rt} {cur : Rt} (hdl : done.length ≤ 5000000) {wb wc : Nat} (w0 : List UInt8) (W : List (List UInt8)) {T : TypeId} {fz : Nat × Nat} {tl : List Value} (hb : ρ wb (.cells ((w0 :: W).map strV ++ tl).toArray T fz)) (hl : W.length ≤ 4294967296) (hlen : ∀ w ∈ W, w.length ≤ 4294967296) (hwc : (w0 :: W).length ≤ wc) (hn : [] ∉ w0 :: W) :
  Con Tryz.prog ρ 54 #[.agg #[.slice ea es.length ec, .slice ra (done ++ [cur]).length rc, .int .i64 2], .slice (some ⟨wb, 0, none⟩) (w0 :: W).length wc] [OwnIm 3 32 45 ea ra ec rc (es, done ++ [cur])]
  (NextPost 3 32 45 (es, done, cur, 2) (w0 :: W)) := by
 have hln : (w0 :: W).length = W.length + 1 := rfl
 have hdc : (done ++ [cur]).length = done.length + 1 := by simp
 obtain ⟨s1, s2, s3⟩ := step_num (es := es) (done := done) (cur := cur) (w := 2) (by decide) (by decide) hn
 have cN := fun {ρ' : Nat → Obj → Prop} {a : Option Addr} {c : Nat} (hr : RSl ρ' 1 a W.length (W.map strV)) => rnumbers_ok a c W hr hl hlen
 unfold NumsPost at cN
 by_cases hwd : w0 = headW 2
 ·rcases hO : numsO W with _ | l
  ·rw [hO] at cN
   refine con_intro Tryz.func54 Tryz.call54 rfl Tryz.ntmps54 rfl (L := [(0, _), (1, _)]) rfl fun w hh => ?_
   refine g_seq <| g_region ?_
   refine g_eff (e_box rfl (by rfl)) rfl (fun _ _ => ?_)
   rintro ⟨b2, rfl, rfl⟩
   refine g_eff (e_alloc (by rfl)) rfl (fun _ _ => ?_)
   rintro ⟨b4, rfl, rfl⟩
   refine g_as ?_
   refine g_nil <| g_qt <| g_seq <| g_region ?_
   refine g_eff (e_bs (xs := [.const (.string (⟨#[101, 110, 117, 109, 115]⟩)), .const (.string (⟨#[114, 111, 117, 116, 105, 110, 101]⟩)), .const (.string (⟨#[105, 110]⟩)), .const (.string (⟨#[111, 117, 116]⟩)), .const (.string (⟨#[114, 101, 103, 115]⟩)), .const (.string (⟨#[105, 110, 105, 116]⟩))]) rfl rfl rfl (by rfl) (by rfl) rfl (by rfl)) rfl (fun _ _ => ?_)
   rintro ⟨b12, rfl, rfl⟩
   refine g_as ?_
   refine g_nil <| g_qt <| g_seq <| g_region ?_
   refine g_fa ?_
   refine g_fa ?_
   refine g_ld ?_
   refine g_pure (p_len (by rfl) rfl) rfl ?_
   first | refine g_pure (p_subi rfl rfl (by omega)) rfl ?_ | refine g_pure (p_sub rfl rfl) rfl ?_
   refine g_as ?_
   refine g_nil <| g_qt <| g_seq <| g_seq <| g_region ?_
   refine g_fa ?_
   refine g_ld ?_
   refine g_pure (p_eqlF rfl rfl (by decide)) rfl ?_
   refine g_nil <| g_qt ?_
   refine g_iff rfl ?_
   refine g_skip <| g_qt <| g_seq <| g_seq ?_
   refine m_begin0 (.fl 0 0 (.fl 1 0 (.fl 2 1 (.fl 3 0 (.fl 4 0 (.fl 5 1 (.fl 6 0 (.fl 7 1 (.fl 8 0 .done))))))))) (by kernel_rfl) (by kernel_rfl) ?_
   refine m_float0 rfl (fun _ _ => p_move rfl) rfl ?_
   refine m_float0 rfl (fun _ _ => p_indexAddr rfl rfl (by omega) (fun _ => rfl)) rfl ?_
   refine m_float rfl (p_load (v := .string (strB w0)) (by rfl) rfl (Has.ro hb) (by rfl)) rfl ?_
   refine m_float0 rfl (fun _ _ => p_move rfl) rfl ?_
   refine m_float0 rfl (fun _ _ => p_fieldAddr rfl) rfl ?_
   refine m_float rfl (p_loadA) rfl ?_
   refine m_float0 rfl (fun _ _ => p_indexAddr rfl rfl (by decide) (fun _ => rfl)) rfl ?_
   refine m_float rfl (p_load (v := .string (strB (headW 2))) (by rfl) rfl (Has.own (by repeat' (first | exact Take.here | apply Take.there))) (by rfl)) rfl ?_
   refine m_float0 rfl (fun _ _ => p_neqsF (by rfl) rfl rfl (by rw [hwd])) rfl ?_
   refine m_nil ?_
   refine g_qt ?_
   refine g_iff rfl ?_
   refine g_skip <| g_qt <| g_seq <| g_seq <| g_region ?_
   refine g_fa ?_
   refine g_ld ?_
   refine g_pure (p_eqlF rfl rfl (by decide)) rfl ?_
   refine g_nil <| g_qt ?_
   refine g_iff rfl ?_
   refine g_skip <| g_qt <| g_seq <| g_region ?_
   refine g_mv ?_
   refine g_pure (p_slicel rfl rfl (by omega)) rfl ?_
   refine g_call (Hin := []) (Hr := ?hr1) (R := ?rr1) rfl rfl rfl ?hin1 ?hc1 ?hk1
   case hin1 => repeat' (first | exact Cover.nil | exact Take.here | apply Cover.cons | apply Take.there)
   case hc1 => intro ρ' hρ hR; exact cN (tail_words hρ hb (fun h => tail_words_addr h hwc))
   rintro _ _ ⟨rfl, rfl⟩
   refine g_mv ?_
   refine g_pure (p_extract rfl rfl) rfl ?_
   refine g_pure (p_extract rfl rfl) rfl ?_
   refine g_as ?_
   refine g_as ?_
   refine g_nil <| g_qt <| g_seq <| g_seq <| g_region ?_
   refine g_mv ?_
   refine g_pure (p_not rfl) rfl ?_
   refine g_mv ?_
   refine g_noA ?_
   refine g_noA ?_
   refine g_noA ?_
   refine g_noA ?_
   refine g_nou rfl rfl rfl ?_
   refine g_nou rfl rfl rfl ?_
   refine g_nou rfl rfl rfl ?_
   refine g_noA ?_
   first | refine g_pkt ?_ | refine g_pkf ?_
   refine g_nil <| g_qt ?_
   refine g_ift rfl ?_
   refine g_seq <| g_region ?_
   first | refine g_pure (p_loadO (by rfl) rfl (by first | (apply Has.own; (repeat' (first | exact Take.here | apply Take.there)); done) | exact Has.ro (by assumption)) (by rfl)) rfl ?_ | refine g_pure (p_loadN (by rfl) rfl (by first | (apply Has.own; (repeat' (first | exact Take.here | apply Take.there)); done) | exact Has.ro (by assumption)) (by first | rfl | assumption)) rfl ?_
   first | refine g_eff0 (e_storeO rfl rfl (by rfl) (by rfl) (by rfl) (by repeat' (first | exact Take.here | apply Take.there)) (by rfl)) (fun _ _ => ?_) | refine g_eff0 (e_storeN rfl rfl (by rfl) (by rfl) (by rfl) (by repeat' (first | exact Take.here | apply Take.there)) (by simp)) (fun _ _ => ?_)
   rintro rfl
   refine g_as ?_
   refine g_nil <| g_qt <| g_ret <| g_qt_ret ?_
   exact g_postA (Ho := []) (rs := [.cell 4 77, .tmp 5]) rfl (Res.cellN (by rfl) rfl (Has.own (by repeat' (first | exact Take.here | apply Take.there))) (by rfl) (.tmp rfl .nil)) (next_none (s2 hwd hO) _ _ _ _ _ _ _)
  ·rw [hO] at cN
   have hst := s3 hwd l hO
   rw [if_neg (fun h => absurd h.1 (by decide))] at hst
   refine con_intro Tryz.func54 Tryz.call54 rfl Tryz.ntmps54 rfl (L := [(0, _), (1, _)]) rfl fun w hh => ?_
   refine g_seq <| g_region ?_
   refine g_eff (e_box rfl (by rfl)) rfl (fun _ _ => ?_)
   rintro ⟨b2, rfl, rfl⟩
   refine g_eff (e_alloc (by rfl)) rfl (fun _ _ => ?_)
   rintro ⟨b4, rfl, rfl⟩
   refine g_as ?_
   refine g_nil <| g_qt <| g_seq <| g_region ?_
   refine g_eff (e_bs (xs := [.const (.string (⟨#[101, 110, 117, 109, 115]⟩)), .const (.string (⟨#[114, 111, 117, 116, 105, 110, 101]⟩)), .const (.string (⟨#[105, 110]⟩)), .const (.string (⟨#[111, 117, 116]⟩)), .const (.string (⟨#[114, 101, 103, 115]⟩)), .const (.string (⟨#[105, 110, 105, 116]⟩))]) rfl rfl rfl (by rfl) (by rfl) rfl (by rfl)) rfl (fun _ _ => ?_)
   rintro ⟨b12, rfl, rfl⟩
   refine g_as ?_
   refine g_nil <| g_qt <| g_seq <| g_region ?_
   refine g_fa ?_
   refine g_fa ?_
   refine g_ld ?_
   refine g_pure (p_len (by rfl) rfl) rfl ?_
   first | refine g_pure (p_subi rfl rfl (by omega)) rfl ?_ | refine g_pure (p_sub rfl rfl) rfl ?_
   refine g_as ?_
   refine g_nil <| g_qt <| g_seq <| g_seq <| g_region ?_
   refine g_fa ?_
   refine g_ld ?_
   refine g_pure (p_eqlF rfl rfl (by decide)) rfl ?_
   refine g_nil <| g_qt ?_
   refine g_iff rfl ?_
   refine g_skip <| g_qt <| g_seq <| g_seq ?_
   refine m_begin0 (.fl 0 0 (.fl 1 0 (.fl 2 1 (.fl 3 0 (.fl 4 0 (.fl 5 1 (.fl 6 0 (.fl 7 1 (.fl 8 0 .done))))))))) (by kernel_rfl) (by kernel_rfl) ?_
   refine m_float0 rfl (fun _ _ => p_move rfl) rfl ?_
   refine m_float0 rfl (fun _ _ => p_indexAddr rfl rfl (by omega) (fun _ => rfl)) rfl ?_
   refine m_float rfl (p_load (v := .string (strB w0)) (by rfl) rfl (Has.ro hb) (by rfl)) rfl ?_
   refine m_float0 rfl (fun _ _ => p_move rfl) rfl ?_
   refine m_float0 rfl (fun _ _ => p_fieldAddr rfl) rfl ?_
   refine m_float rfl (p_loadA) rfl ?_
   refine m_float0 rfl (fun _ _ => p_indexAddr rfl rfl (by decide) (fun _ => rfl)) rfl ?_
   refine m_float rfl (p_load (v := .string (strB (headW 2))) (by rfl) rfl (Has.own (by repeat' (first | exact Take.here | apply Take.there))) (by rfl)) rfl ?_
   refine m_float0 rfl (fun _ _ => p_neqsF (by rfl) rfl rfl (by rw [hwd])) rfl ?_
   refine m_nil ?_
   refine g_qt ?_
   refine g_iff rfl ?_
   refine g_skip <| g_qt <| g_seq <| g_seq <| g_region ?_
   refine g_fa ?_
   refine g_ld ?_
   refine g_pure (p_eqlF rfl rfl (by decide)) rfl ?_
   refine g_nil <| g_qt ?_
   refine g_iff rfl ?_
   refine g_skip <| g_qt <| g_seq <| g_region ?_
   refine g_mv ?_
   refine g_pure (p_slicel rfl rfl (by omega)) rfl ?_
   refine g_call (Hin := []) (Hr := ?hr2) (R := ?rr2) rfl rfl rfl ?hin2 ?hc2 ?hk2
   case hin2 => repeat' (first | exact Cover.nil | exact Take.here | apply Cover.cons | apply Take.there)
   case hc2 => intro ρ' hρ hR; exact cN (tail_words hρ hb (fun h => tail_words_addr h hwc))
   rintro _ _ ⟨va, vc, rfl, rfl⟩
   refine g_mv ?_
   refine g_pure (p_extract rfl rfl) rfl ?_
   refine g_pure (p_extract rfl rfl) rfl ?_
   refine g_as ?_
   refine g_as ?_
   refine g_nil <| g_qt <| g_seq <| g_seq <| g_region ?_
   refine g_mv ?_
   refine g_pure (p_not rfl) rfl ?_
   refine g_mv ?_
   refine g_yesA ?_
   refine g_fa ?_
   refine g_yesA ?_
   refine g_ld ?_
   refine g_yesA ?_
   refine g_pure (p_eqlF rfl rfl (by decide)) rfl ?_
   refine g_yesA ?_
   refine g_mv ?_
   refine g_noA ?_
   refine g_noA ?_
   refine g_noA ?_
   refine g_yesA ?_
   first | refine g_pkt ?_ | refine g_pkf ?_
   first | refine g_pkt ?_ | refine g_pkf ?_
   refine g_nil <| g_qt ?_
   refine g_iff rfl ?_
   refine g_skip <| g_qt <| g_seq <| g_seq <| g_region ?_
   refine g_fa ?_
   refine g_ld ?_
   refine g_nil <| g_qt <| g_block <| g_seq <| g_region ?_
   refine g_pure (p_eql rfl rfl) rfl ?_
   refine g_as ?_
   refine g_nil <| g_qt ?_
   refine g_focus (by repeat' (first | exact Take.here | apply Take.there)) ?_
   intro Q h hQ
   have hQl : done.length = Q.length := by rw [← hQ]; simp
   obtain ⟨⟨h1a, h1c⟩, ⟨h2a, h2c⟩, ⟨h3a, h3c⟩, h4a, h4c⟩ := h
   unfold ownR
   dsimp only [List.cons_append, List.nil_append]
   refine g_own (e := 45) (size := 6) (a1 := ra) (k := Q.length + 1) (cap := rc) (xs := Q.flatMap rowO ++ rowO ((((h1a, h1c), (h2a, h2c), (h3a, h3c), h4a, h4c), cur))) (by repeat' (first | exact Take.here | apply Take.there)) (fun _ h _ _ => absurd h (by omega)) ?_
   rintro g cu rfl hc1 hc2 hcl2 htk hxl
   have hidx : (((done ++ [cur]).length : Int) - 1).toNat = Q.length := by omega
   have hset := row_set htk (j := 1) (.slice va l.length vc)
   have hrow : (rowO ((((h1a, h1c), (h2a, h2c), (h3a, h3c), h4a, h4c), cur))).set 1 (.slice va l.length vc) = rowO ((((va, vc), (h2a, h2c), (h3a, h3c), h4a, h4c), (cur.1, l, cur.2.2))) := rfl
   rw [hrow] at hset
   refine g_iff rfl ?_
   refine g_seq <| g_region ?_
   refine g_pure (p_eqlT rfl rfl rfl) rfl ?_
   refine g_as ?_
   refine g_nil <| g_qt ?_
   refine g_ift rfl ?_
   refine g_region ?_
   refine g_fa ?_
   refine g_fa ?_
   refine g_ld ?_
   refine g_mv ?_
   refine g_mv ?_
   refine g_pure (p_indexAddr rfl rfl (by omega) (fun _ => rfl)) rfl ?_
   refine g_fa ?_
   first | refine g_eff0 (e_storeO rfl rfl (by rfl) (by rfl) (by rfl) (by repeat' (first | exact Take.here | apply Take.there)) (by rfl)) (fun _ _ => ?_) | refine g_eff0 (e_store1 (by rfl) rfl rfl rfl (by repeat' (first | exact Take.here | apply Take.there)) (by first | decide | (simp <;> omega) | omega)) (fun _ _ => ?_)
   rintro rfl
   refine g_nil <| g_qb <| g_qt <| g_seq <| g_region ?_
   refine g_fa ?_
   refine g_ld ?_
   first | refine g_pure (p_addi rfl rfl (by omega)) rfl ?_ | refine g_pure (p_add rfl rfl) rfl ?_
   refine g_fa ?_
   first | refine g_eff0 (e_storeO rfl rfl (by rfl) (by rfl) (by rfl) (by repeat' (first | exact Take.here | apply Take.there)) (by rfl)) (fun _ _ => ?_) | refine g_eff0 (e_store1 (by rfl) rfl rfl rfl (by repeat' (first | exact Take.here | apply Take.there)) (by first | decide | (simp <;> omega) | omega)) (fun _ _ => ?_)
   rintro rfl
   refine g_nil <| g_qt <| g_seq <| g_region ?_
   first | refine g_pure (p_loadO (by rfl) rfl (by first | (apply Has.own; (repeat' (first | exact Take.here | apply Take.there)); done) | exact Has.ro (by assumption)) (by rfl)) rfl ?_ | refine g_pure (p_loadN (by rfl) rfl (by first | (apply Has.own; (repeat' (first | exact Take.here | apply Take.there)); done) | exact Has.ro (by assumption)) (by first | rfl | assumption)) rfl ?_
   first | refine g_eff0 (e_storeO rfl rfl (by rfl) (by rfl) (by rfl) (by repeat' (first | exact Take.here | apply Take.there)) (by rfl)) (fun _ _ => ?_) | refine g_eff0 (e_storeN rfl rfl (by rfl) (by rfl) (by rfl) (by repeat' (first | exact Take.here | apply Take.there)) (by simp)) (fun _ _ => ?_)
   rintro rfl
   refine g_as ?_
   refine g_nil <| g_qt <| g_ret ?_
   rw [hidx]
   refine g_fold (e := 45) (size := 6) (g := g) (k := Q.length + 1) (cap := rc) (cur := cu.set (0 + Q.length * 6 + 1) (.slice va l.length vc)) (xs := Q.flatMap rowO ++ rowO ((((va, vc), (h2a, h2c), (h3a, h3c), h4a, h4c), (cur.1, l, cur.2.2)))) (by repeat' (first | exact Take.here | apply Take.there)) hc1 hc2 (by rw [List.length_set]; exact hcl2) hset ?_
   refine g_unfocus (TI := 3) (TC := 32) (TR := 45) (ea := ea) (ec := ec) (es := es) ((((va, vc), (h2a, h2c), (h3a, h3c), h4a, h4c), (cur.1, l, cur.2.2))) hQ (by repeat' (first | exact Take.here | apply Take.there)) (by repeat' (first | exact Take.here | apply Take.there)) (by repeat' (first | exact Take.here | apply Take.there)) (by repeat' (first | exact Take.here | apply Take.there)) (by repeat' (first | exact Take.here | apply Take.there)) (by repeat' (first | exact Take.here | apply Take.there)) (by repeat' (first | exact Take.here | apply Take.there)) ?_
   exact g_postA (Ho := [OwnIm 3 32 45 ea (some ⟨g, 0, none⟩) ec rc (es, done ++ [(cur.1, l, cur.2.2)])]) (rs := [.cell 4 77, .tmp 5]) rfl (Res.cellN (by rfl) rfl (Has.own (by repeat' (first | exact Take.here | apply Take.there))) (by rfl) (.tmp rfl .nil)) (next_some hst rfl (by rw [hdc]; simp [listO, putW]) rfl rfl)
 ·refine con_intro Tryz.func54 Tryz.call54 rfl Tryz.ntmps54 rfl (L := [(0, _), (1, _)]) rfl fun w hh => ?_
  refine g_seq <| g_region ?_
  refine g_eff (e_box rfl (by rfl)) rfl (fun _ _ => ?_)
  rintro ⟨b2, rfl, rfl⟩
  refine g_eff (e_alloc (by rfl)) rfl (fun _ _ => ?_)
  rintro ⟨b4, rfl, rfl⟩
  refine g_as ?_
  refine g_nil <| g_qt <| g_seq <| g_region ?_
  refine g_eff (e_bs (xs := [.const (.string (⟨#[101, 110, 117, 109, 115]⟩)), .const (.string (⟨#[114, 111, 117, 116, 105, 110, 101]⟩)), .const (.string (⟨#[105, 110]⟩)), .const (.string (⟨#[111, 117, 116]⟩)), .const (.string (⟨#[114, 101, 103, 115]⟩)), .const (.string (⟨#[105, 110, 105, 116]⟩))]) rfl rfl rfl (by rfl) (by rfl) rfl (by rfl)) rfl (fun _ _ => ?_)
  rintro ⟨b12, rfl, rfl⟩
  refine g_as ?_
  refine g_nil <| g_qt <| g_seq <| g_region ?_
  refine g_fa ?_
  refine g_fa ?_
  refine g_ld ?_
  refine g_pure (p_len (by rfl) rfl) rfl ?_
  first | refine g_pure (p_subi rfl rfl (by omega)) rfl ?_ | refine g_pure (p_sub rfl rfl) rfl ?_
  refine g_as ?_
  refine g_nil <| g_qt <| g_seq <| g_seq <| g_region ?_
  refine g_fa ?_
  refine g_ld ?_
  refine g_pure (p_eqlF rfl rfl (by decide)) rfl ?_
  refine g_nil <| g_qt ?_
  refine g_iff rfl ?_
  refine g_skip <| g_qt <| g_seq <| g_seq ?_
  refine m_begin0 (.fl 0 0 (.fl 1 0 (.fl 2 1 (.fl 3 0 (.fl 4 0 (.fl 5 1 (.fl 6 0 (.fl 7 1 (.fl 8 0 .done))))))))) (by kernel_rfl) (by kernel_rfl) ?_
  refine m_float0 rfl (fun _ _ => p_move rfl) rfl ?_
  refine m_float0 rfl (fun _ _ => p_indexAddr rfl rfl (by omega) (fun _ => rfl)) rfl ?_
  refine m_float rfl (p_load (v := .string (strB w0)) (by rfl) rfl (Has.ro hb) (by rfl)) rfl ?_
  refine m_float0 rfl (fun _ _ => p_move rfl) rfl ?_
  refine m_float0 rfl (fun _ _ => p_fieldAddr rfl) rfl ?_
  refine m_float rfl (p_loadA) rfl ?_
  refine m_float0 rfl (fun _ _ => p_indexAddr rfl rfl (by decide) (fun _ => rfl)) rfl ?_
  refine m_float rfl (p_load (v := .string (strB (headW 2))) (by rfl) rfl (Has.own (by repeat' (first | exact Take.here | apply Take.there))) (by rfl)) rfl ?_
  refine m_float0 rfl (fun _ _ => p_neqsT (by rfl) rfl rfl (fun e => hwd (strB_inj.1 e))) rfl ?_
  refine m_nil ?_
  refine g_qt ?_
  refine g_ift rfl ?_
  refine g_seq <| g_region ?_
  first | refine g_pure (p_loadO (by rfl) rfl (by first | (apply Has.own; (repeat' (first | exact Take.here | apply Take.there)); done) | exact Has.ro (by assumption)) (by rfl)) rfl ?_ | refine g_pure (p_loadN (by rfl) rfl (by first | (apply Has.own; (repeat' (first | exact Take.here | apply Take.there)); done) | exact Has.ro (by assumption)) (by first | rfl | assumption)) rfl ?_
  first | refine g_eff0 (e_storeO rfl rfl (by rfl) (by rfl) (by rfl) (by repeat' (first | exact Take.here | apply Take.there)) (by rfl)) (fun _ _ => ?_) | refine g_eff0 (e_storeN rfl rfl (by rfl) (by rfl) (by rfl) (by repeat' (first | exact Take.here | apply Take.there)) (by simp)) (fun _ _ => ?_)
  rintro rfl
  refine g_as ?_
  refine g_nil <| g_qt <| g_ret <| g_qt_ret ?_
  exact g_postA (Ho := []) (rs := [.cell 4 77, .tmp 5]) rfl (Res.cellN (by rfl) rfl (Has.own (by repeat' (first | exact Take.here | apply Take.there))) (by rfl) (.tmp rfl .nil)) (next_none (s1 hwd) _ _ _ _ _ _ _)

set_option maxHeartbeats 400000 in
theorem next3_ok {ρ : Nat → Obj → Prop} {ea ra : Option Addr} {ec rc : Nat} {es : List Int} {done : List Rt} {cur : Rt} (hdl : done.length ≤ 5000000) {wb wc : Nat} (w0 : List UInt8) (W : List (List UInt8)) {T : TypeId} {fz : Nat × Nat} {tl : List Value} (hb : ρ wb (.cells ((w0 :: W).map strV ++ tl).toArray T fz)) (hl : W.length ≤ 4294967296) (hlen : ∀ w ∈ W, w.length ≤ 4294967296) (hwc : (w0 :: W).length ≤ wc) (hn : [] ∉ w0 :: W) :
  Con Tryz.prog ρ 54 #[.agg #[.slice ea es.length ec, .slice ra (done ++ [cur]).length rc, .int .i64 3], .slice (some ⟨wb, 0, none⟩) (w0 :: W).length wc] [OwnIm 3 32 45 ea ra ec rc (es, done ++ [cur])]
  (NextPost 3 32 45 (es, done, cur, 3) (w0 :: W)) := by
 have hln : (w0 :: W).length = W.length + 1 := rfl
 have hdc : (done ++ [cur]).length = done.length + 1 := by simp
 obtain ⟨s1, s2, s3⟩ := step_num (es := es) (done := done) (cur := cur) (w := 3) (by decide) (by decide) hn
 have cN := fun {ρ' : Nat → Obj → Prop} {a : Option Addr} {c : Nat} (hr : RSl ρ' 1 a W.length (W.map strV)) => rnumbers_ok a c W hr hl hlen
 unfold NumsPost at cN
 by_cases hwd : w0 = headW 3
 ·rcases hO : numsO W with _ | l
  ·rw [hO] at cN
   refine con_intro Tryz.func54 Tryz.call54 rfl Tryz.ntmps54 rfl (L := [(0, _), (1, _)]) rfl fun w hh => ?_
   refine g_seq <| g_region ?_
   refine g_eff (e_box rfl (by rfl)) rfl (fun _ _ => ?_)
   rintro ⟨b2, rfl, rfl⟩
   refine g_eff (e_alloc (by rfl)) rfl (fun _ _ => ?_)
   rintro ⟨b4, rfl, rfl⟩
   refine g_as ?_
   refine g_nil <| g_qt <| g_seq <| g_region ?_
   refine g_eff (e_bs (xs := [.const (.string (⟨#[101, 110, 117, 109, 115]⟩)), .const (.string (⟨#[114, 111, 117, 116, 105, 110, 101]⟩)), .const (.string (⟨#[105, 110]⟩)), .const (.string (⟨#[111, 117, 116]⟩)), .const (.string (⟨#[114, 101, 103, 115]⟩)), .const (.string (⟨#[105, 110, 105, 116]⟩))]) rfl rfl rfl (by rfl) (by rfl) rfl (by rfl)) rfl (fun _ _ => ?_)
   rintro ⟨b12, rfl, rfl⟩
   refine g_as ?_
   refine g_nil <| g_qt <| g_seq <| g_region ?_
   refine g_fa ?_
   refine g_fa ?_
   refine g_ld ?_
   refine g_pure (p_len (by rfl) rfl) rfl ?_
   first | refine g_pure (p_subi rfl rfl (by omega)) rfl ?_ | refine g_pure (p_sub rfl rfl) rfl ?_
   refine g_as ?_
   refine g_nil <| g_qt <| g_seq <| g_seq <| g_region ?_
   refine g_fa ?_
   refine g_ld ?_
   refine g_pure (p_eqlF rfl rfl (by decide)) rfl ?_
   refine g_nil <| g_qt ?_
   refine g_iff rfl ?_
   refine g_skip <| g_qt <| g_seq <| g_seq ?_
   refine m_begin0 (.fl 0 0 (.fl 1 0 (.fl 2 1 (.fl 3 0 (.fl 4 0 (.fl 5 1 (.fl 6 0 (.fl 7 1 (.fl 8 0 .done))))))))) (by kernel_rfl) (by kernel_rfl) ?_
   refine m_float0 rfl (fun _ _ => p_move rfl) rfl ?_
   refine m_float0 rfl (fun _ _ => p_indexAddr rfl rfl (by omega) (fun _ => rfl)) rfl ?_
   refine m_float rfl (p_load (v := .string (strB w0)) (by rfl) rfl (Has.ro hb) (by rfl)) rfl ?_
   refine m_float0 rfl (fun _ _ => p_move rfl) rfl ?_
   refine m_float0 rfl (fun _ _ => p_fieldAddr rfl) rfl ?_
   refine m_float rfl (p_loadA) rfl ?_
   refine m_float0 rfl (fun _ _ => p_indexAddr rfl rfl (by decide) (fun _ => rfl)) rfl ?_
   refine m_float rfl (p_load (v := .string (strB (headW 3))) (by rfl) rfl (Has.own (by repeat' (first | exact Take.here | apply Take.there))) (by rfl)) rfl ?_
   refine m_float0 rfl (fun _ _ => p_neqsF (by rfl) rfl rfl (by rw [hwd])) rfl ?_
   refine m_nil ?_
   refine g_qt ?_
   refine g_iff rfl ?_
   refine g_skip <| g_qt <| g_seq <| g_seq <| g_region ?_
   refine g_fa ?_
   refine g_ld ?_
   refine g_pure (p_eqlF rfl rfl (by decide)) rfl ?_
   refine g_nil <| g_qt ?_
   refine g_iff rfl ?_
   refine g_skip <| g_qt <| g_seq <| g_region ?_
   refine g_mv ?_
   refine g_pure (p_slicel rfl rfl (by omega)) rfl ?_
   refine g_call (Hin := []) (Hr := ?hr3) (R := ?rr3) rfl rfl rfl ?hin3 ?hc3 ?hk3
   case hin3 => repeat' (first | exact Cover.nil | exact Take.here | apply Cover.cons | apply Take.there)
   case hc3 => intro ρ' hρ hR; exact cN (tail_words hρ hb (fun h => tail_words_addr h hwc))
   rintro _ _ ⟨rfl, rfl⟩
   refine g_mv ?_
   refine g_pure (p_extract rfl rfl) rfl ?_
   refine g_pure (p_extract rfl rfl) rfl ?_
   refine g_as ?_
   refine g_as ?_
   refine g_nil <| g_qt <| g_seq <| g_seq <| g_region ?_
   refine g_mv ?_
   refine g_pure (p_not rfl) rfl ?_
   refine g_mv ?_
   refine g_noA ?_
   refine g_noA ?_
   refine g_noA ?_
   refine g_noA ?_
   refine g_nou rfl rfl rfl ?_
   refine g_nou rfl rfl rfl ?_
   refine g_nou rfl rfl rfl ?_
   refine g_noA ?_
   first | refine g_pkt ?_ | refine g_pkf ?_
   refine g_nil <| g_qt ?_
   refine g_ift rfl ?_
   refine g_seq <| g_region ?_
   first | refine g_pure (p_loadO (by rfl) rfl (by first | (apply Has.own; (repeat' (first | exact Take.here | apply Take.there)); done) | exact Has.ro (by assumption)) (by rfl)) rfl ?_ | refine g_pure (p_loadN (by rfl) rfl (by first | (apply Has.own; (repeat' (first | exact Take.here | apply Take.there)); done) | exact Has.ro (by assumption)) (by first | rfl | assumption)) rfl ?_
   first | refine g_eff0 (e_storeO rfl rfl (by rfl) (by rfl) (by rfl) (by repeat' (first | exact Take.here | apply Take.there)) (by rfl)) (fun _ _ => ?_) | refine g_eff0 (e_storeN rfl rfl (by rfl) (by rfl) (by rfl) (by repeat' (first | exact Take.here | apply Take.there)) (by simp)) (fun _ _ => ?_)
   rintro rfl
   refine g_as ?_
   refine g_nil <| g_qt <| g_ret <| g_qt_ret ?_
   exact g_postA (Ho := []) (rs := [.cell 4 77, .tmp 5]) rfl (Res.cellN (by rfl) rfl (Has.own (by repeat' (first | exact Take.here | apply Take.there))) (by rfl) (.tmp rfl .nil)) (next_none (s2 hwd hO) _ _ _ _ _ _ _)
  ·rw [hO] at cN
   have hst := s3 hwd l hO
   rw [if_neg (fun h => absurd h.1 (by decide))] at hst
   refine con_intro Tryz.func54 Tryz.call54 rfl Tryz.ntmps54 rfl (L := [(0, _), (1, _)]) rfl fun w hh => ?_
   refine g_seq <| g_region ?_
   refine g_eff (e_box rfl (by rfl)) rfl (fun _ _ => ?_)
   rintro ⟨b2, rfl, rfl⟩
   refine g_eff (e_alloc (by rfl)) rfl (fun _ _ => ?_)
   rintro ⟨b4, rfl, rfl⟩
   refine g_as ?_
   refine g_nil <| g_qt <| g_seq <| g_region ?_
   refine g_eff (e_bs (xs := [.const (.string (⟨#[101, 110, 117, 109, 115]⟩)), .const (.string (⟨#[114, 111, 117, 116, 105, 110, 101]⟩)), .const (.string (⟨#[105, 110]⟩)), .const (.string (⟨#[111, 117, 116]⟩)), .const (.string (⟨#[114, 101, 103, 115]⟩)), .const (.string (⟨#[105, 110, 105, 116]⟩))]) rfl rfl rfl (by rfl) (by rfl) rfl (by rfl)) rfl (fun _ _ => ?_)
   rintro ⟨b12, rfl, rfl⟩
   refine g_as ?_
   refine g_nil <| g_qt <| g_seq <| g_region ?_
   refine g_fa ?_
   refine g_fa ?_
   refine g_ld ?_
   refine g_pure (p_len (by rfl) rfl) rfl ?_
   first | refine g_pure (p_subi rfl rfl (by omega)) rfl ?_ | refine g_pure (p_sub rfl rfl) rfl ?_
   refine g_as ?_
   refine g_nil <| g_qt <| g_seq <| g_seq <| g_region ?_
   refine g_fa ?_
   refine g_ld ?_
   refine g_pure (p_eqlF rfl rfl (by decide)) rfl ?_
   refine g_nil <| g_qt ?_
   refine g_iff rfl ?_
   refine g_skip <| g_qt <| g_seq <| g_seq ?_
   refine m_begin0 (.fl 0 0 (.fl 1 0 (.fl 2 1 (.fl 3 0 (.fl 4 0 (.fl 5 1 (.fl 6 0 (.fl 7 1 (.fl 8 0 .done))))))))) (by kernel_rfl) (by kernel_rfl) ?_
   refine m_float0 rfl (fun _ _ => p_move rfl) rfl ?_
   refine m_float0 rfl (fun _ _ => p_indexAddr rfl rfl (by omega) (fun _ => rfl)) rfl ?_
   refine m_float rfl (p_load (v := .string (strB w0)) (by rfl) rfl (Has.ro hb) (by rfl)) rfl ?_
   refine m_float0 rfl (fun _ _ => p_move rfl) rfl ?_
   refine m_float0 rfl (fun _ _ => p_fieldAddr rfl) rfl ?_
   refine m_float rfl (p_loadA) rfl ?_
   refine m_float0 rfl (fun _ _ => p_indexAddr rfl rfl (by decide) (fun _ => rfl)) rfl ?_
   refine m_float rfl (p_load (v := .string (strB (headW 3))) (by rfl) rfl (Has.own (by repeat' (first | exact Take.here | apply Take.there))) (by rfl)) rfl ?_
   refine m_float0 rfl (fun _ _ => p_neqsF (by rfl) rfl rfl (by rw [hwd])) rfl ?_
   refine m_nil ?_
   refine g_qt ?_
   refine g_iff rfl ?_
   refine g_skip <| g_qt <| g_seq <| g_seq <| g_region ?_
   refine g_fa ?_
   refine g_ld ?_
   refine g_pure (p_eqlF rfl rfl (by decide)) rfl ?_
   refine g_nil <| g_qt ?_
   refine g_iff rfl ?_
   refine g_skip <| g_qt <| g_seq <| g_region ?_
   refine g_mv ?_
   refine g_pure (p_slicel rfl rfl (by omega)) rfl ?_
   refine g_call (Hin := []) (Hr := ?hr4) (R := ?rr4) rfl rfl rfl ?hin4 ?hc4 ?hk4
   case hin4 => repeat' (first | exact Cover.nil | exact Take.here | apply Cover.cons | apply Take.there)
   case hc4 => intro ρ' hρ hR; exact cN (tail_words hρ hb (fun h => tail_words_addr h hwc))
   rintro _ _ ⟨va, vc, rfl, rfl⟩
   refine g_mv ?_
   refine g_pure (p_extract rfl rfl) rfl ?_
   refine g_pure (p_extract rfl rfl) rfl ?_
   refine g_as ?_
   refine g_as ?_
   refine g_nil <| g_qt <| g_seq <| g_seq <| g_region ?_
   refine g_mv ?_
   refine g_pure (p_not rfl) rfl ?_
   refine g_mv ?_
   refine g_yesA ?_
   refine g_fa ?_
   refine g_yesA ?_
   refine g_ld ?_
   refine g_yesA ?_
   refine g_pure (p_eqlF rfl rfl (by decide)) rfl ?_
   refine g_yesA ?_
   refine g_mv ?_
   refine g_noA ?_
   refine g_noA ?_
   refine g_noA ?_
   refine g_yesA ?_
   first | refine g_pkt ?_ | refine g_pkf ?_
   first | refine g_pkt ?_ | refine g_pkf ?_
   refine g_nil <| g_qt ?_
   refine g_iff rfl ?_
   refine g_skip <| g_qt <| g_seq <| g_seq <| g_region ?_
   refine g_fa ?_
   refine g_ld ?_
   refine g_nil <| g_qt <| g_block <| g_seq <| g_region ?_
   refine g_pure (p_eql rfl rfl) rfl ?_
   refine g_as ?_
   refine g_nil <| g_qt ?_
   refine g_focus (by repeat' (first | exact Take.here | apply Take.there)) ?_
   intro Q h hQ
   have hQl : done.length = Q.length := by rw [← hQ]; simp
   obtain ⟨⟨h1a, h1c⟩, ⟨h2a, h2c⟩, ⟨h3a, h3c⟩, h4a, h4c⟩ := h
   unfold ownR
   dsimp only [List.cons_append, List.nil_append]
   refine g_own (e := 45) (size := 6) (a1 := ra) (k := Q.length + 1) (cap := rc) (xs := Q.flatMap rowO ++ rowO ((((h1a, h1c), (h2a, h2c), (h3a, h3c), h4a, h4c), cur))) (by repeat' (first | exact Take.here | apply Take.there)) (fun _ h _ _ => absurd h (by omega)) ?_
   rintro g cu rfl hc1 hc2 hcl2 htk hxl
   have hidx : (((done ++ [cur]).length : Int) - 1).toNat = Q.length := by omega
   have hset := row_set htk (j := 2) (.slice va l.length vc)
   have hrow : (rowO ((((h1a, h1c), (h2a, h2c), (h3a, h3c), h4a, h4c), cur))).set 2 (.slice va l.length vc) = rowO ((((h1a, h1c), (va, vc), (h3a, h3c), h4a, h4c), (cur.1, cur.2.1, l, cur.2.2.2))) := rfl
   rw [hrow] at hset
   refine g_iff rfl ?_
   refine g_seq <| g_region ?_
   refine g_pure (p_eqlF rfl rfl (by decide)) rfl ?_
   refine g_as ?_
   refine g_nil <| g_qt ?_
   refine g_iff rfl ?_
   refine g_seq <| g_region ?_
   refine g_pure (p_eqlT rfl rfl rfl) rfl ?_
   refine g_as ?_
   refine g_nil <| g_qt ?_
   refine g_ift rfl ?_
   refine g_region ?_
   refine g_fa ?_
   refine g_fa ?_
   refine g_ld ?_
   refine g_mv ?_
   refine g_mv ?_
   refine g_pure (p_indexAddr rfl rfl (by omega) (fun _ => rfl)) rfl ?_
   refine g_fa ?_
   first | refine g_eff0 (e_storeO rfl rfl (by rfl) (by rfl) (by rfl) (by repeat' (first | exact Take.here | apply Take.there)) (by rfl)) (fun _ _ => ?_) | refine g_eff0 (e_store1 (by rfl) rfl rfl rfl (by repeat' (first | exact Take.here | apply Take.there)) (by first | decide | (simp <;> omega) | omega)) (fun _ _ => ?_)
   rintro rfl
   refine g_nil <| g_qb <| g_qt <| g_seq <| g_region ?_
   refine g_fa ?_
   refine g_ld ?_
   first | refine g_pure (p_addi rfl rfl (by omega)) rfl ?_ | refine g_pure (p_add rfl rfl) rfl ?_
   refine g_fa ?_
   first | refine g_eff0 (e_storeO rfl rfl (by rfl) (by rfl) (by rfl) (by repeat' (first | exact Take.here | apply Take.there)) (by rfl)) (fun _ _ => ?_) | refine g_eff0 (e_store1 (by rfl) rfl rfl rfl (by repeat' (first | exact Take.here | apply Take.there)) (by first | decide | (simp <;> omega) | omega)) (fun _ _ => ?_)
   rintro rfl
   refine g_nil <| g_qt <| g_seq <| g_region ?_
   first | refine g_pure (p_loadO (by rfl) rfl (by first | (apply Has.own; (repeat' (first | exact Take.here | apply Take.there)); done) | exact Has.ro (by assumption)) (by rfl)) rfl ?_ | refine g_pure (p_loadN (by rfl) rfl (by first | (apply Has.own; (repeat' (first | exact Take.here | apply Take.there)); done) | exact Has.ro (by assumption)) (by first | rfl | assumption)) rfl ?_
   first | refine g_eff0 (e_storeO rfl rfl (by rfl) (by rfl) (by rfl) (by repeat' (first | exact Take.here | apply Take.there)) (by rfl)) (fun _ _ => ?_) | refine g_eff0 (e_storeN rfl rfl (by rfl) (by rfl) (by rfl) (by repeat' (first | exact Take.here | apply Take.there)) (by simp)) (fun _ _ => ?_)
   rintro rfl
   refine g_as ?_
   refine g_nil <| g_qt <| g_ret ?_
   rw [hidx]
   refine g_fold (e := 45) (size := 6) (g := g) (k := Q.length + 1) (cap := rc) (cur := cu.set (0 + Q.length * 6 + 2) (.slice va l.length vc)) (xs := Q.flatMap rowO ++ rowO ((((h1a, h1c), (va, vc), (h3a, h3c), h4a, h4c), (cur.1, cur.2.1, l, cur.2.2.2)))) (by repeat' (first | exact Take.here | apply Take.there)) hc1 hc2 (by rw [List.length_set]; exact hcl2) hset ?_
   refine g_unfocus (TI := 3) (TC := 32) (TR := 45) (ea := ea) (ec := ec) (es := es) ((((h1a, h1c), (va, vc), (h3a, h3c), h4a, h4c), (cur.1, cur.2.1, l, cur.2.2.2))) hQ (by repeat' (first | exact Take.here | apply Take.there)) (by repeat' (first | exact Take.here | apply Take.there)) (by repeat' (first | exact Take.here | apply Take.there)) (by repeat' (first | exact Take.here | apply Take.there)) (by repeat' (first | exact Take.here | apply Take.there)) (by repeat' (first | exact Take.here | apply Take.there)) (by repeat' (first | exact Take.here | apply Take.there)) ?_
   exact g_postA (Ho := [OwnIm 3 32 45 ea (some ⟨g, 0, none⟩) ec rc (es, done ++ [(cur.1, cur.2.1, l, cur.2.2.2)])]) (rs := [.cell 4 77, .tmp 5]) rfl (Res.cellN (by rfl) rfl (Has.own (by repeat' (first | exact Take.here | apply Take.there))) (by rfl) (.tmp rfl .nil)) (next_some hst rfl (by rw [hdc]; simp [listO, putW]) rfl rfl)
 ·refine con_intro Tryz.func54 Tryz.call54 rfl Tryz.ntmps54 rfl (L := [(0, _), (1, _)]) rfl fun w hh => ?_
  refine g_seq <| g_region ?_
  refine g_eff (e_box rfl (by rfl)) rfl (fun _ _ => ?_)
  rintro ⟨b2, rfl, rfl⟩
  refine g_eff (e_alloc (by rfl)) rfl (fun _ _ => ?_)
  rintro ⟨b4, rfl, rfl⟩
  refine g_as ?_
  refine g_nil <| g_qt <| g_seq <| g_region ?_
  refine g_eff (e_bs (xs := [.const (.string (⟨#[101, 110, 117, 109, 115]⟩)), .const (.string (⟨#[114, 111, 117, 116, 105, 110, 101]⟩)), .const (.string (⟨#[105, 110]⟩)), .const (.string (⟨#[111, 117, 116]⟩)), .const (.string (⟨#[114, 101, 103, 115]⟩)), .const (.string (⟨#[105, 110, 105, 116]⟩))]) rfl rfl rfl (by rfl) (by rfl) rfl (by rfl)) rfl (fun _ _ => ?_)
  rintro ⟨b12, rfl, rfl⟩
  refine g_as ?_
  refine g_nil <| g_qt <| g_seq <| g_region ?_
  refine g_fa ?_
  refine g_fa ?_
  refine g_ld ?_
  refine g_pure (p_len (by rfl) rfl) rfl ?_
  first | refine g_pure (p_subi rfl rfl (by omega)) rfl ?_ | refine g_pure (p_sub rfl rfl) rfl ?_
  refine g_as ?_
  refine g_nil <| g_qt <| g_seq <| g_seq <| g_region ?_
  refine g_fa ?_
  refine g_ld ?_
  refine g_pure (p_eqlF rfl rfl (by decide)) rfl ?_
  refine g_nil <| g_qt ?_
  refine g_iff rfl ?_
  refine g_skip <| g_qt <| g_seq <| g_seq ?_
  refine m_begin0 (.fl 0 0 (.fl 1 0 (.fl 2 1 (.fl 3 0 (.fl 4 0 (.fl 5 1 (.fl 6 0 (.fl 7 1 (.fl 8 0 .done))))))))) (by kernel_rfl) (by kernel_rfl) ?_
  refine m_float0 rfl (fun _ _ => p_move rfl) rfl ?_
  refine m_float0 rfl (fun _ _ => p_indexAddr rfl rfl (by omega) (fun _ => rfl)) rfl ?_
  refine m_float rfl (p_load (v := .string (strB w0)) (by rfl) rfl (Has.ro hb) (by rfl)) rfl ?_
  refine m_float0 rfl (fun _ _ => p_move rfl) rfl ?_
  refine m_float0 rfl (fun _ _ => p_fieldAddr rfl) rfl ?_
  refine m_float rfl (p_loadA) rfl ?_
  refine m_float0 rfl (fun _ _ => p_indexAddr rfl rfl (by decide) (fun _ => rfl)) rfl ?_
  refine m_float rfl (p_load (v := .string (strB (headW 3))) (by rfl) rfl (Has.own (by repeat' (first | exact Take.here | apply Take.there))) (by rfl)) rfl ?_
  refine m_float0 rfl (fun _ _ => p_neqsT (by rfl) rfl rfl (fun e => hwd (strB_inj.1 e))) rfl ?_
  refine m_nil ?_
  refine g_qt ?_
  refine g_ift rfl ?_
  refine g_seq <| g_region ?_
  first | refine g_pure (p_loadO (by rfl) rfl (by first | (apply Has.own; (repeat' (first | exact Take.here | apply Take.there)); done) | exact Has.ro (by assumption)) (by rfl)) rfl ?_ | refine g_pure (p_loadN (by rfl) rfl (by first | (apply Has.own; (repeat' (first | exact Take.here | apply Take.there)); done) | exact Has.ro (by assumption)) (by first | rfl | assumption)) rfl ?_
  first | refine g_eff0 (e_storeO rfl rfl (by rfl) (by rfl) (by rfl) (by repeat' (first | exact Take.here | apply Take.there)) (by rfl)) (fun _ _ => ?_) | refine g_eff0 (e_storeN rfl rfl (by rfl) (by rfl) (by rfl) (by repeat' (first | exact Take.here | apply Take.there)) (by simp)) (fun _ _ => ?_)
  rintro rfl
  refine g_as ?_
  refine g_nil <| g_qt <| g_ret <| g_qt_ret ?_
  exact g_postA (Ho := []) (rs := [.cell 4 77, .tmp 5]) rfl (Res.cellN (by rfl) rfl (Has.own (by repeat' (first | exact Take.here | apply Take.there))) (by rfl) (.tmp rfl .nil)) (next_none (s1 hwd) _ _ _ _ _ _ _)

set_option maxHeartbeats 400000 in
theorem next4_ok {ρ : Nat → Obj → Prop} {ea ra : Option Addr} {ec rc : Nat} {es : List Int} {done : List Rt} {cur : Rt} (hdl : done.length ≤ 5000000) {wb wc : Nat} (w0 : List UInt8) (W : List (List UInt8)) {T : TypeId} {fz : Nat × Nat} {tl : List Value} (hb : ρ wb (.cells ((w0 :: W).map strV ++ tl).toArray T fz)) (hl : W.length ≤ 4294967296) (hlen : ∀ w ∈ W, w.length ≤ 4294967296) (hwc : (w0 :: W).length ≤ wc) (hn : [] ∉ w0 :: W) :
  Con Tryz.prog ρ 54 #[.agg #[.slice ea es.length ec, .slice ra (done ++ [cur]).length rc, .int .i64 4], .slice (some ⟨wb, 0, none⟩) (w0 :: W).length wc] [OwnIm 3 32 45 ea ra ec rc (es, done ++ [cur])]
  (NextPost 3 32 45 (es, done, cur, 4) (w0 :: W)) := by
 have hln : (w0 :: W).length = W.length + 1 := rfl
 have hdc : (done ++ [cur]).length = done.length + 1 := by simp
 obtain ⟨s1, s2, s3⟩ := step_num (es := es) (done := done) (cur := cur) (w := 4) (by decide) (by decide) hn
 have cN := fun {ρ' : Nat → Obj → Prop} {a : Option Addr} {c : Nat} (hr : RSl ρ' 1 a W.length (W.map strV)) => rnumbers_ok a c W hr hl hlen
 unfold NumsPost at cN
 by_cases hwd : w0 = headW 4
 ·rcases hO : numsO W with _ | l
  ·rw [hO] at cN
   refine con_intro Tryz.func54 Tryz.call54 rfl Tryz.ntmps54 rfl (L := [(0, _), (1, _)]) rfl fun w hh => ?_
   refine g_seq <| g_region ?_
   refine g_eff (e_box rfl (by rfl)) rfl (fun _ _ => ?_)
   rintro ⟨b2, rfl, rfl⟩
   refine g_eff (e_alloc (by rfl)) rfl (fun _ _ => ?_)
   rintro ⟨b4, rfl, rfl⟩
   refine g_as ?_
   refine g_nil <| g_qt <| g_seq <| g_region ?_
   refine g_eff (e_bs (xs := [.const (.string (⟨#[101, 110, 117, 109, 115]⟩)), .const (.string (⟨#[114, 111, 117, 116, 105, 110, 101]⟩)), .const (.string (⟨#[105, 110]⟩)), .const (.string (⟨#[111, 117, 116]⟩)), .const (.string (⟨#[114, 101, 103, 115]⟩)), .const (.string (⟨#[105, 110, 105, 116]⟩))]) rfl rfl rfl (by rfl) (by rfl) rfl (by rfl)) rfl (fun _ _ => ?_)
   rintro ⟨b12, rfl, rfl⟩
   refine g_as ?_
   refine g_nil <| g_qt <| g_seq <| g_region ?_
   refine g_fa ?_
   refine g_fa ?_
   refine g_ld ?_
   refine g_pure (p_len (by rfl) rfl) rfl ?_
   first | refine g_pure (p_subi rfl rfl (by omega)) rfl ?_ | refine g_pure (p_sub rfl rfl) rfl ?_
   refine g_as ?_
   refine g_nil <| g_qt <| g_seq <| g_seq <| g_region ?_
   refine g_fa ?_
   refine g_ld ?_
   refine g_pure (p_eqlF rfl rfl (by decide)) rfl ?_
   refine g_nil <| g_qt ?_
   refine g_iff rfl ?_
   refine g_skip <| g_qt <| g_seq <| g_seq ?_
   refine m_begin0 (.fl 0 0 (.fl 1 0 (.fl 2 1 (.fl 3 0 (.fl 4 0 (.fl 5 1 (.fl 6 0 (.fl 7 1 (.fl 8 0 .done))))))))) (by kernel_rfl) (by kernel_rfl) ?_
   refine m_float0 rfl (fun _ _ => p_move rfl) rfl ?_
   refine m_float0 rfl (fun _ _ => p_indexAddr rfl rfl (by omega) (fun _ => rfl)) rfl ?_
   refine m_float rfl (p_load (v := .string (strB w0)) (by rfl) rfl (Has.ro hb) (by rfl)) rfl ?_
   refine m_float0 rfl (fun _ _ => p_move rfl) rfl ?_
   refine m_float0 rfl (fun _ _ => p_fieldAddr rfl) rfl ?_
   refine m_float rfl (p_loadA) rfl ?_
   refine m_float0 rfl (fun _ _ => p_indexAddr rfl rfl (by decide) (fun _ => rfl)) rfl ?_
   refine m_float rfl (p_load (v := .string (strB (headW 4))) (by rfl) rfl (Has.own (by repeat' (first | exact Take.here | apply Take.there))) (by rfl)) rfl ?_
   refine m_float0 rfl (fun _ _ => p_neqsF (by rfl) rfl rfl (by rw [hwd])) rfl ?_
   refine m_nil ?_
   refine g_qt ?_
   refine g_iff rfl ?_
   refine g_skip <| g_qt <| g_seq <| g_seq <| g_region ?_
   refine g_fa ?_
   refine g_ld ?_
   refine g_pure (p_eqlF rfl rfl (by decide)) rfl ?_
   refine g_nil <| g_qt ?_
   refine g_iff rfl ?_
   refine g_skip <| g_qt <| g_seq <| g_region ?_
   refine g_mv ?_
   refine g_pure (p_slicel rfl rfl (by omega)) rfl ?_
   refine g_call (Hin := []) (Hr := ?hr5) (R := ?rr5) rfl rfl rfl ?hin5 ?hc5 ?hk5
   case hin5 => repeat' (first | exact Cover.nil | exact Take.here | apply Cover.cons | apply Take.there)
   case hc5 => intro ρ' hρ hR; exact cN (tail_words hρ hb (fun h => tail_words_addr h hwc))
   rintro _ _ ⟨rfl, rfl⟩
   refine g_mv ?_
   refine g_pure (p_extract rfl rfl) rfl ?_
   refine g_pure (p_extract rfl rfl) rfl ?_
   refine g_as ?_
   refine g_as ?_
   refine g_nil <| g_qt <| g_seq <| g_seq <| g_region ?_
   refine g_mv ?_
   refine g_pure (p_not rfl) rfl ?_
   refine g_mv ?_
   refine g_noA ?_
   refine g_noA ?_
   refine g_noA ?_
   refine g_noA ?_
   refine g_nou rfl rfl rfl ?_
   refine g_nou rfl rfl rfl ?_
   refine g_nou rfl rfl rfl ?_
   refine g_noA ?_
   first | refine g_pkt ?_ | refine g_pkf ?_
   refine g_nil <| g_qt ?_
   refine g_ift rfl ?_
   refine g_seq <| g_region ?_
   first | refine g_pure (p_loadO (by rfl) rfl (by first | (apply Has.own; (repeat' (first | exact Take.here | apply Take.there)); done) | exact Has.ro (by assumption)) (by rfl)) rfl ?_ | refine g_pure (p_loadN (by rfl) rfl (by first | (apply Has.own; (repeat' (first | exact Take.here | apply Take.there)); done) | exact Has.ro (by assumption)) (by first | rfl | assumption)) rfl ?_
   first | refine g_eff0 (e_storeO rfl rfl (by rfl) (by rfl) (by rfl) (by repeat' (first | exact Take.here | apply Take.there)) (by rfl)) (fun _ _ => ?_) | refine g_eff0 (e_storeN rfl rfl (by rfl) (by rfl) (by rfl) (by repeat' (first | exact Take.here | apply Take.there)) (by simp)) (fun _ _ => ?_)
   rintro rfl
   refine g_as ?_
   refine g_nil <| g_qt <| g_ret <| g_qt_ret ?_
   exact g_postA (Ho := []) (rs := [.cell 4 77, .tmp 5]) rfl (Res.cellN (by rfl) rfl (Has.own (by repeat' (first | exact Take.here | apply Take.there))) (by rfl) (.tmp rfl .nil)) (next_none (s2 hwd hO) _ _ _ _ _ _ _)
  ·rw [hO] at cN
   have hst := s3 hwd l hO
   refine con_intro Tryz.func54 Tryz.call54 rfl Tryz.ntmps54 rfl (L := [(0, _), (1, _)]) rfl fun w hh => ?_
   refine g_seq <| g_region ?_
   refine g_eff (e_box rfl (by rfl)) rfl (fun _ _ => ?_)
   rintro ⟨b2, rfl, rfl⟩
   refine g_eff (e_alloc (by rfl)) rfl (fun _ _ => ?_)
   rintro ⟨b4, rfl, rfl⟩
   refine g_as ?_
   refine g_nil <| g_qt <| g_seq <| g_region ?_
   refine g_eff (e_bs (xs := [.const (.string (⟨#[101, 110, 117, 109, 115]⟩)), .const (.string (⟨#[114, 111, 117, 116, 105, 110, 101]⟩)), .const (.string (⟨#[105, 110]⟩)), .const (.string (⟨#[111, 117, 116]⟩)), .const (.string (⟨#[114, 101, 103, 115]⟩)), .const (.string (⟨#[105, 110, 105, 116]⟩))]) rfl rfl rfl (by rfl) (by rfl) rfl (by rfl)) rfl (fun _ _ => ?_)
   rintro ⟨b12, rfl, rfl⟩
   refine g_as ?_
   refine g_nil <| g_qt <| g_seq <| g_region ?_
   refine g_fa ?_
   refine g_fa ?_
   refine g_ld ?_
   refine g_pure (p_len (by rfl) rfl) rfl ?_
   first | refine g_pure (p_subi rfl rfl (by omega)) rfl ?_ | refine g_pure (p_sub rfl rfl) rfl ?_
   refine g_as ?_
   refine g_nil <| g_qt <| g_seq <| g_seq <| g_region ?_
   refine g_fa ?_
   refine g_ld ?_
   refine g_pure (p_eqlF rfl rfl (by decide)) rfl ?_
   refine g_nil <| g_qt ?_
   refine g_iff rfl ?_
   refine g_skip <| g_qt <| g_seq <| g_seq ?_
   refine m_begin0 (.fl 0 0 (.fl 1 0 (.fl 2 1 (.fl 3 0 (.fl 4 0 (.fl 5 1 (.fl 6 0 (.fl 7 1 (.fl 8 0 .done))))))))) (by kernel_rfl) (by kernel_rfl) ?_
   refine m_float0 rfl (fun _ _ => p_move rfl) rfl ?_
   refine m_float0 rfl (fun _ _ => p_indexAddr rfl rfl (by omega) (fun _ => rfl)) rfl ?_
   refine m_float rfl (p_load (v := .string (strB w0)) (by rfl) rfl (Has.ro hb) (by rfl)) rfl ?_
   refine m_float0 rfl (fun _ _ => p_move rfl) rfl ?_
   refine m_float0 rfl (fun _ _ => p_fieldAddr rfl) rfl ?_
   refine m_float rfl (p_loadA) rfl ?_
   refine m_float0 rfl (fun _ _ => p_indexAddr rfl rfl (by decide) (fun _ => rfl)) rfl ?_
   refine m_float rfl (p_load (v := .string (strB (headW 4))) (by rfl) rfl (Has.own (by repeat' (first | exact Take.here | apply Take.there))) (by rfl)) rfl ?_
   refine m_float0 rfl (fun _ _ => p_neqsF (by rfl) rfl rfl (by rw [hwd])) rfl ?_
   refine m_nil ?_
   refine g_qt ?_
   refine g_iff rfl ?_
   refine g_skip <| g_qt <| g_seq <| g_seq <| g_region ?_
   refine g_fa ?_
   refine g_ld ?_
   refine g_pure (p_eqlF rfl rfl (by decide)) rfl ?_
   refine g_nil <| g_qt ?_
   refine g_iff rfl ?_
   refine g_skip <| g_qt <| g_seq <| g_region ?_
   refine g_mv ?_
   refine g_pure (p_slicel rfl rfl (by omega)) rfl ?_
   refine g_call (Hin := []) (Hr := ?hr6) (R := ?rr6) rfl rfl rfl ?hin6 ?hc6 ?hk6
   case hin6 => repeat' (first | exact Cover.nil | exact Take.here | apply Cover.cons | apply Take.there)
   case hc6 => intro ρ' hρ hR; exact cN (tail_words hρ hb (fun h => tail_words_addr h hwc))
   rintro _ _ ⟨va, vc, rfl, rfl⟩
   refine g_mv ?_
   refine g_pure (p_extract rfl rfl) rfl ?_
   refine g_pure (p_extract rfl rfl) rfl ?_
   refine g_as ?_
   refine g_as ?_
   refine g_nil <| g_qt <| g_seq <| g_seq <| g_region ?_
   refine g_mv ?_
   refine g_pure (p_not rfl) rfl ?_
   refine g_mv ?_
   refine g_yesA ?_
   refine g_fa ?_
   refine g_yesA ?_
   refine g_ld ?_
   refine g_yesA ?_
   refine g_pure (p_eqlT rfl rfl rfl) rfl ?_
   refine g_yesA ?_
   refine g_mv ?_
   refine g_yesA ?_
   refine g_mv ?_
   refine g_yesA ?_
   refine g_pure (p_len (by rfl) rfl) rfl ?_
   refine g_yesA ?_
   refine g_pure (p_neq rfl rfl) rfl ?_
   refine g_yesA ?_
   first | refine g_pkt ?_ | refine g_pkf ?_
   first | refine g_pkt ?_ | refine g_pkf ?_
   refine g_nil <| g_qt ?_
   refine g_ifnd rfl (fun h4 => ?_) (fun h4 => ?_)
   ·rw [if_pos ⟨rfl, by omega⟩] at hst
    refine g_seq <| g_region ?_
    first | refine g_pure (p_loadO (by rfl) rfl (by first | (apply Has.own; (repeat' (first | exact Take.here | apply Take.there)); done) | exact Has.ro (by assumption)) (by rfl)) rfl ?_ | refine g_pure (p_loadN (by rfl) rfl (by first | (apply Has.own; (repeat' (first | exact Take.here | apply Take.there)); done) | exact Has.ro (by assumption)) (by first | rfl | assumption)) rfl ?_
    first | refine g_eff0 (e_storeO rfl rfl (by rfl) (by rfl) (by rfl) (by repeat' (first | exact Take.here | apply Take.there)) (by rfl)) (fun _ _ => ?_) | refine g_eff0 (e_storeN rfl rfl (by rfl) (by rfl) (by rfl) (by repeat' (first | exact Take.here | apply Take.there)) (by simp)) (fun _ _ => ?_)
    rintro rfl
    refine g_as ?_
    refine g_nil <| g_qt <| g_ret <| g_qt_ret ?_
    exact g_postA (Ho := []) (rs := [.cell 4 77, .tmp 5]) rfl (Res.cellN (by rfl) rfl (Has.own (by repeat' (first | exact Take.here | apply Take.there))) (by rfl) (.tmp rfl .nil)) (next_none hst _ _ _ _ _ _ _)
   ·have hl1 : l.length = 1 := by omega
    rw [if_neg (fun h => h.2 hl1)] at hst
    refine g_focus (by repeat' (first | exact Take.here | apply Take.there)) ?_
    intro Q h hQ
    have hQl : done.length = Q.length := by rw [← hQ]; simp
    obtain ⟨⟨h1a, h1c⟩, ⟨h2a, h2c⟩, ⟨h3a, h3c⟩, h4a, h4c⟩ := h
    unfold ownR
    dsimp only [List.cons_append, List.nil_append]
    refine g_own (e := 45) (size := 6) (a1 := ra) (k := Q.length + 1) (cap := rc) (xs := Q.flatMap rowO ++ rowO ((((h1a, h1c), (h2a, h2c), (h3a, h3c), h4a, h4c), cur))) (by repeat' (first | exact Take.here | apply Take.there)) (fun _ h _ _ => absurd h (by omega)) ?_
    rintro g cu rfl hc1 hc2 hcl2 htk hxl
    have hidx : (((done ++ [cur]).length : Int) - 1).toNat = Q.length := by omega
    have hset := row_set htk (j := 3) (.int .i64 (l.headD 0))
    have hrow : (rowO ((((h1a, h1c), (h2a, h2c), (h3a, h3c), h4a, h4c), cur))).set 3 (.int .i64 (l.headD 0)) = rowO ((((h1a, h1c), (h2a, h2c), (h3a, h3c), h4a, h4c), (cur.1, cur.2.1, cur.2.2.1, l.headD 0, cur.2.2.2.2))) := rfl
    rw [hrow] at hset
    refine g_own (e := 3) (size := 1) (a1 := va) (k := l.length) (cap := vc) (xs := l.map encI) (by repeat' (first | exact Take.here | apply Take.there)) (fun _ h _ _ => absurd h (by omega)) ?_
    rintro g' cu' rfl hd1 hd2 hd3 htk' hxl'
    have hx0 : cu'[0 + (0 : Int).toNat * 1]? = some (.int .i64 (l.headD 0)) := own_at (k := 0) htk' rfl (by cases l with | nil => cases hl1 | cons a b => rfl)
    refine g_skip <| g_qt <| g_seq <| g_seq <| g_region ?_
    refine g_fa ?_
    refine g_ld ?_
    refine g_nil <| g_qt <| g_block <| g_seq <| g_region ?_
    refine g_pure (p_eqlF rfl rfl (by decide)) rfl ?_
    refine g_as ?_
    refine g_nil <| g_qt ?_
    refine g_iff rfl ?_
    refine g_seq <| g_region ?_
    refine g_pure (p_eqlF rfl rfl (by decide)) rfl ?_
    refine g_as ?_
    refine g_nil <| g_qt ?_
    refine g_iff rfl ?_
    refine g_seq <| g_region ?_
    refine g_pure (p_eqlF rfl rfl (by decide)) rfl ?_
    refine g_as ?_
    refine g_nil <| g_qt ?_
    refine g_iff rfl ?_
    refine g_seq <| g_region ?_
    refine g_pure (p_eqlT rfl rfl rfl) rfl ?_
    refine g_as ?_
    refine g_nil <| g_qt ?_
    refine g_ift rfl ?_
    refine m_begin0 (.fl 0 0 (.fl 1 0 (.fl 2 1 (.fl 3 0 (.fl 4 0 (.fl 5 0 (.fl 6 1 (.fl 7 0 (.fl 8 0 (.ef 9 .done)))))))))) (by kernel_rfl) (by kernel_rfl) ?_
    refine m_float0 rfl (fun _ _ => p_fieldAddr rfl) rfl ?_
    refine m_float0 rfl (fun _ _ => p_fieldAddr rfl) rfl ?_
    refine m_float rfl (p_loadA) rfl ?_
    refine m_float0 rfl (fun _ _ => p_move rfl) rfl ?_
    refine m_float0 rfl (fun _ _ => p_move rfl) rfl ?_
    refine m_float0 rfl (fun _ _ => p_indexAddr rfl rfl (by omega) (fun _ => rfl)) rfl ?_
    refine m_float rfl (p_load (v := .int .i64 (l.headD 0)) (by rfl) rfl (Has.own (by repeat' (first | exact Take.here | apply Take.there))) hx0) rfl ?_
    refine m_float0 rfl (fun _ _ => p_indexAddr rfl rfl (by omega) (fun _ => rfl)) rfl ?_
    refine m_float0 rfl (fun _ _ => p_fieldAddr rfl) rfl ?_
    first | refine m_eff0 rfl (e_storeO rfl rfl (by rfl) (by rfl) (by rfl) (by repeat' (first | exact Take.here | apply Take.there)) (by rfl)) (fun _ _ => ?_) | refine m_eff0 rfl (e_store1 (by rfl) rfl rfl rfl (by repeat' (first | exact Take.here | apply Take.there)) (by first | decide | (simp <;> omega) | omega)) (fun _ _ => ?_)
    rintro rfl
    refine ⟨.none (by kernel_rfl), ?_⟩
    refine m_nil ?_
    refine g_qb <| g_qt <| g_seq <| g_region ?_
    refine g_fa ?_
    refine g_ld ?_
    first | refine g_pure (p_addi rfl rfl (by omega)) rfl ?_ | refine g_pure (p_add rfl rfl) rfl ?_
    refine g_fa ?_
    first | refine g_eff0 (e_storeO rfl rfl (by rfl) (by rfl) (by rfl) (by repeat' (first | exact Take.here | apply Take.there)) (by rfl)) (fun _ _ => ?_) | refine g_eff0 (e_store1 (by rfl) rfl rfl rfl (by repeat' (first | exact Take.here | apply Take.there)) (by first | decide | (simp <;> omega) | omega)) (fun _ _ => ?_)
    rintro rfl
    refine g_nil <| g_qt <| g_seq <| g_region ?_
    first | refine g_pure (p_loadO (by rfl) rfl (by first | (apply Has.own; (repeat' (first | exact Take.here | apply Take.there)); done) | exact Has.ro (by assumption)) (by rfl)) rfl ?_ | refine g_pure (p_loadN (by rfl) rfl (by first | (apply Has.own; (repeat' (first | exact Take.here | apply Take.there)); done) | exact Has.ro (by assumption)) (by first | rfl | assumption)) rfl ?_
    first | refine g_eff0 (e_storeO rfl rfl (by rfl) (by rfl) (by rfl) (by repeat' (first | exact Take.here | apply Take.there)) (by rfl)) (fun _ _ => ?_) | refine g_eff0 (e_storeN rfl rfl (by rfl) (by rfl) (by rfl) (by repeat' (first | exact Take.here | apply Take.there)) (by simp)) (fun _ _ => ?_)
    rintro rfl
    refine g_as ?_
    refine g_nil <| g_qt <| g_ret ?_
    rw [hidx]
    refine g_fold (e := 45) (size := 6) (g := g) (k := Q.length + 1) (cap := rc) (cur := cu.set (0 + Q.length * 6 + 3) (.int .i64 (l.headD 0))) (xs := Q.flatMap rowO ++ rowO ((((h1a, h1c), (h2a, h2c), (h3a, h3c), h4a, h4c), (cur.1, cur.2.1, cur.2.2.1, l.headD 0, cur.2.2.2.2)))) (by repeat' (first | exact Take.here | apply Take.there)) hc1 hc2 (by rw [List.length_set]; exact hcl2) hset ?_
    refine g_unfocus (TI := 3) (TC := 32) (TR := 45) (ea := ea) (ec := ec) (es := es) ((((h1a, h1c), (h2a, h2c), (h3a, h3c), h4a, h4c), (cur.1, cur.2.1, cur.2.2.1, l.headD 0, cur.2.2.2.2))) hQ (by repeat' (first | exact Take.here | apply Take.there)) (by repeat' (first | exact Take.here | apply Take.there)) (by repeat' (first | exact Take.here | apply Take.there)) (by repeat' (first | exact Take.here | apply Take.there)) (by repeat' (first | exact Take.here | apply Take.there)) (by repeat' (first | exact Take.here | apply Take.there)) (by repeat' (first | exact Take.here | apply Take.there)) ?_
    exact g_postA (Ho := [OwnIm 3 32 45 ea (some ⟨g, 0, none⟩) ec rc (es, done ++ [(cur.1, cur.2.1, cur.2.2.1, l.headD 0, cur.2.2.2.2)])]) (rs := [.cell 4 77, .tmp 5]) rfl (Res.cellN (by rfl) rfl (Has.own (by repeat' (first | exact Take.here | apply Take.there))) (by rfl) (.tmp rfl .nil)) (next_some hst rfl (by rw [hdc]; simp [listO, putW]) rfl rfl)
 ·refine con_intro Tryz.func54 Tryz.call54 rfl Tryz.ntmps54 rfl (L := [(0, _), (1, _)]) rfl fun w hh => ?_
  refine g_seq <| g_region ?_
  refine g_eff (e_box rfl (by rfl)) rfl (fun _ _ => ?_)
  rintro ⟨b2, rfl, rfl⟩
  refine g_eff (e_alloc (by rfl)) rfl (fun _ _ => ?_)
  rintro ⟨b4, rfl, rfl⟩
  refine g_as ?_
  refine g_nil <| g_qt <| g_seq <| g_region ?_
  refine g_eff (e_bs (xs := [.const (.string (⟨#[101, 110, 117, 109, 115]⟩)), .const (.string (⟨#[114, 111, 117, 116, 105, 110, 101]⟩)), .const (.string (⟨#[105, 110]⟩)), .const (.string (⟨#[111, 117, 116]⟩)), .const (.string (⟨#[114, 101, 103, 115]⟩)), .const (.string (⟨#[105, 110, 105, 116]⟩))]) rfl rfl rfl (by rfl) (by rfl) rfl (by rfl)) rfl (fun _ _ => ?_)
  rintro ⟨b12, rfl, rfl⟩
  refine g_as ?_
  refine g_nil <| g_qt <| g_seq <| g_region ?_
  refine g_fa ?_
  refine g_fa ?_
  refine g_ld ?_
  refine g_pure (p_len (by rfl) rfl) rfl ?_
  first | refine g_pure (p_subi rfl rfl (by omega)) rfl ?_ | refine g_pure (p_sub rfl rfl) rfl ?_
  refine g_as ?_
  refine g_nil <| g_qt <| g_seq <| g_seq <| g_region ?_
  refine g_fa ?_
  refine g_ld ?_
  refine g_pure (p_eqlF rfl rfl (by decide)) rfl ?_
  refine g_nil <| g_qt ?_
  refine g_iff rfl ?_
  refine g_skip <| g_qt <| g_seq <| g_seq ?_
  refine m_begin0 (.fl 0 0 (.fl 1 0 (.fl 2 1 (.fl 3 0 (.fl 4 0 (.fl 5 1 (.fl 6 0 (.fl 7 1 (.fl 8 0 .done))))))))) (by kernel_rfl) (by kernel_rfl) ?_
  refine m_float0 rfl (fun _ _ => p_move rfl) rfl ?_
  refine m_float0 rfl (fun _ _ => p_indexAddr rfl rfl (by omega) (fun _ => rfl)) rfl ?_
  refine m_float rfl (p_load (v := .string (strB w0)) (by rfl) rfl (Has.ro hb) (by rfl)) rfl ?_
  refine m_float0 rfl (fun _ _ => p_move rfl) rfl ?_
  refine m_float0 rfl (fun _ _ => p_fieldAddr rfl) rfl ?_
  refine m_float rfl (p_loadA) rfl ?_
  refine m_float0 rfl (fun _ _ => p_indexAddr rfl rfl (by decide) (fun _ => rfl)) rfl ?_
  refine m_float rfl (p_load (v := .string (strB (headW 4))) (by rfl) rfl (Has.own (by repeat' (first | exact Take.here | apply Take.there))) (by rfl)) rfl ?_
  refine m_float0 rfl (fun _ _ => p_neqsT (by rfl) rfl rfl (fun e => hwd (strB_inj.1 e))) rfl ?_
  refine m_nil ?_
  refine g_qt ?_
  refine g_ift rfl ?_
  refine g_seq <| g_region ?_
  first | refine g_pure (p_loadO (by rfl) rfl (by first | (apply Has.own; (repeat' (first | exact Take.here | apply Take.there)); done) | exact Has.ro (by assumption)) (by rfl)) rfl ?_ | refine g_pure (p_loadN (by rfl) rfl (by first | (apply Has.own; (repeat' (first | exact Take.here | apply Take.there)); done) | exact Has.ro (by assumption)) (by first | rfl | assumption)) rfl ?_
  first | refine g_eff0 (e_storeO rfl rfl (by rfl) (by rfl) (by rfl) (by repeat' (first | exact Take.here | apply Take.there)) (by rfl)) (fun _ _ => ?_) | refine g_eff0 (e_storeN rfl rfl (by rfl) (by rfl) (by rfl) (by repeat' (first | exact Take.here | apply Take.there)) (by simp)) (fun _ _ => ?_)
  rintro rfl
  refine g_as ?_
  refine g_nil <| g_qt <| g_ret <| g_qt_ret ?_
  exact g_postA (Ho := []) (rs := [.cell 4 77, .tmp 5]) rfl (Res.cellN (by rfl) rfl (Has.own (by repeat' (first | exact Take.here | apply Take.there))) (by rfl) (.tmp rfl .nil)) (next_none (s1 hwd) _ _ _ _ _ _ _)

set_option maxHeartbeats 400000 in
theorem next5_ok {ρ : Nat → Obj → Prop} {ea ra : Option Addr} {ec rc : Nat} {es : List Int} {done : List Rt} {cur : Rt} (hdl : done.length ≤ 5000000) {wb wc : Nat} (w0 : List UInt8) (W : List (List UInt8)) {T : TypeId} {fz : Nat × Nat} {tl : List Value} (hb : ρ wb (.cells ((w0 :: W).map strV ++ tl).toArray T fz)) (hl : W.length ≤ 4294967296) (hlen : ∀ w ∈ W, w.length ≤ 4294967296) (hwc : (w0 :: W).length ≤ wc) (hn : [] ∉ w0 :: W) :
  Con Tryz.prog ρ 54 #[.agg #[.slice ea es.length ec, .slice ra (done ++ [cur]).length rc, .int .i64 5], .slice (some ⟨wb, 0, none⟩) (w0 :: W).length wc] [OwnIm 3 32 45 ea ra ec rc (es, done ++ [cur])]
  (NextPost 3 32 45 (es, done, cur, 5) (w0 :: W)) := by
 have hln : (w0 :: W).length = W.length + 1 := rfl
 have hdc : (done ++ [cur]).length = done.length + 1 := by simp
 obtain ⟨s1, s2, s3⟩ := step_num (es := es) (done := done) (cur := cur) (w := 5) (by decide) (by decide) hn
 have cN := fun {ρ' : Nat → Obj → Prop} {a : Option Addr} {c : Nat} (hr : RSl ρ' 1 a W.length (W.map strV)) => rnumbers_ok a c W hr hl hlen
 unfold NumsPost at cN
 by_cases hwd : w0 = headW 5
 ·rcases hO : numsO W with _ | l
  ·rw [hO] at cN
   refine con_intro Tryz.func54 Tryz.call54 rfl Tryz.ntmps54 rfl (L := [(0, _), (1, _)]) rfl fun w hh => ?_
   refine g_seq <| g_region ?_
   refine g_eff (e_box rfl (by rfl)) rfl (fun _ _ => ?_)
   rintro ⟨b2, rfl, rfl⟩
   refine g_eff (e_alloc (by rfl)) rfl (fun _ _ => ?_)
   rintro ⟨b4, rfl, rfl⟩
   refine g_as ?_
   refine g_nil <| g_qt <| g_seq <| g_region ?_
   refine g_eff (e_bs (xs := [.const (.string (⟨#[101, 110, 117, 109, 115]⟩)), .const (.string (⟨#[114, 111, 117, 116, 105, 110, 101]⟩)), .const (.string (⟨#[105, 110]⟩)), .const (.string (⟨#[111, 117, 116]⟩)), .const (.string (⟨#[114, 101, 103, 115]⟩)), .const (.string (⟨#[105, 110, 105, 116]⟩))]) rfl rfl rfl (by rfl) (by rfl) rfl (by rfl)) rfl (fun _ _ => ?_)
   rintro ⟨b12, rfl, rfl⟩
   refine g_as ?_
   refine g_nil <| g_qt <| g_seq <| g_region ?_
   refine g_fa ?_
   refine g_fa ?_
   refine g_ld ?_
   refine g_pure (p_len (by rfl) rfl) rfl ?_
   first | refine g_pure (p_subi rfl rfl (by omega)) rfl ?_ | refine g_pure (p_sub rfl rfl) rfl ?_
   refine g_as ?_
   refine g_nil <| g_qt <| g_seq <| g_seq <| g_region ?_
   refine g_fa ?_
   refine g_ld ?_
   refine g_pure (p_eqlF rfl rfl (by decide)) rfl ?_
   refine g_nil <| g_qt ?_
   refine g_iff rfl ?_
   refine g_skip <| g_qt <| g_seq <| g_seq ?_
   refine m_begin0 (.fl 0 0 (.fl 1 0 (.fl 2 1 (.fl 3 0 (.fl 4 0 (.fl 5 1 (.fl 6 0 (.fl 7 1 (.fl 8 0 .done))))))))) (by kernel_rfl) (by kernel_rfl) ?_
   refine m_float0 rfl (fun _ _ => p_move rfl) rfl ?_
   refine m_float0 rfl (fun _ _ => p_indexAddr rfl rfl (by omega) (fun _ => rfl)) rfl ?_
   refine m_float rfl (p_load (v := .string (strB w0)) (by rfl) rfl (Has.ro hb) (by rfl)) rfl ?_
   refine m_float0 rfl (fun _ _ => p_move rfl) rfl ?_
   refine m_float0 rfl (fun _ _ => p_fieldAddr rfl) rfl ?_
   refine m_float rfl (p_loadA) rfl ?_
   refine m_float0 rfl (fun _ _ => p_indexAddr rfl rfl (by decide) (fun _ => rfl)) rfl ?_
   refine m_float rfl (p_load (v := .string (strB (headW 5))) (by rfl) rfl (Has.own (by repeat' (first | exact Take.here | apply Take.there))) (by rfl)) rfl ?_
   refine m_float0 rfl (fun _ _ => p_neqsF (by rfl) rfl rfl (by rw [hwd])) rfl ?_
   refine m_nil ?_
   refine g_qt ?_
   refine g_iff rfl ?_
   refine g_skip <| g_qt <| g_seq <| g_seq <| g_region ?_
   refine g_fa ?_
   refine g_ld ?_
   refine g_pure (p_eqlF rfl rfl (by decide)) rfl ?_
   refine g_nil <| g_qt ?_
   refine g_iff rfl ?_
   refine g_skip <| g_qt <| g_seq <| g_region ?_
   refine g_mv ?_
   refine g_pure (p_slicel rfl rfl (by omega)) rfl ?_
   refine g_call (Hin := []) (Hr := ?hr7) (R := ?rr7) rfl rfl rfl ?hin7 ?hc7 ?hk7
   case hin7 => repeat' (first | exact Cover.nil | exact Take.here | apply Cover.cons | apply Take.there)
   case hc7 => intro ρ' hρ hR; exact cN (tail_words hρ hb (fun h => tail_words_addr h hwc))
   rintro _ _ ⟨rfl, rfl⟩
   refine g_mv ?_
   refine g_pure (p_extract rfl rfl) rfl ?_
   refine g_pure (p_extract rfl rfl) rfl ?_
   refine g_as ?_
   refine g_as ?_
   refine g_nil <| g_qt <| g_seq <| g_seq <| g_region ?_
   refine g_mv ?_
   refine g_pure (p_not rfl) rfl ?_
   refine g_mv ?_
   refine g_noA ?_
   refine g_noA ?_
   refine g_noA ?_
   refine g_noA ?_
   refine g_nou rfl rfl rfl ?_
   refine g_nou rfl rfl rfl ?_
   refine g_nou rfl rfl rfl ?_
   refine g_noA ?_
   first | refine g_pkt ?_ | refine g_pkf ?_
   refine g_nil <| g_qt ?_
   refine g_ift rfl ?_
   refine g_seq <| g_region ?_
   first | refine g_pure (p_loadO (by rfl) rfl (by first | (apply Has.own; (repeat' (first | exact Take.here | apply Take.there)); done) | exact Has.ro (by assumption)) (by rfl)) rfl ?_ | refine g_pure (p_loadN (by rfl) rfl (by first | (apply Has.own; (repeat' (first | exact Take.here | apply Take.there)); done) | exact Has.ro (by assumption)) (by first | rfl | assumption)) rfl ?_
   first | refine g_eff0 (e_storeO rfl rfl (by rfl) (by rfl) (by rfl) (by repeat' (first | exact Take.here | apply Take.there)) (by rfl)) (fun _ _ => ?_) | refine g_eff0 (e_storeN rfl rfl (by rfl) (by rfl) (by rfl) (by repeat' (first | exact Take.here | apply Take.there)) (by simp)) (fun _ _ => ?_)
   rintro rfl
   refine g_as ?_
   refine g_nil <| g_qt <| g_ret <| g_qt_ret ?_
   exact g_postA (Ho := []) (rs := [.cell 4 77, .tmp 5]) rfl (Res.cellN (by rfl) rfl (Has.own (by repeat' (first | exact Take.here | apply Take.there))) (by rfl) (.tmp rfl .nil)) (next_none (s2 hwd hO) _ _ _ _ _ _ _)
  ·rw [hO] at cN
   have hst := s3 hwd l hO
   rw [if_neg (fun h => absurd h.1 (by decide))] at hst
   refine con_intro Tryz.func54 Tryz.call54 rfl Tryz.ntmps54 rfl (L := [(0, _), (1, _)]) rfl fun w hh => ?_
   refine g_seq <| g_region ?_
   refine g_eff (e_box rfl (by rfl)) rfl (fun _ _ => ?_)
   rintro ⟨b2, rfl, rfl⟩
   refine g_eff (e_alloc (by rfl)) rfl (fun _ _ => ?_)
   rintro ⟨b4, rfl, rfl⟩
   refine g_as ?_
   refine g_nil <| g_qt <| g_seq <| g_region ?_
   refine g_eff (e_bs (xs := [.const (.string (⟨#[101, 110, 117, 109, 115]⟩)), .const (.string (⟨#[114, 111, 117, 116, 105, 110, 101]⟩)), .const (.string (⟨#[105, 110]⟩)), .const (.string (⟨#[111, 117, 116]⟩)), .const (.string (⟨#[114, 101, 103, 115]⟩)), .const (.string (⟨#[105, 110, 105, 116]⟩))]) rfl rfl rfl (by rfl) (by rfl) rfl (by rfl)) rfl (fun _ _ => ?_)
   rintro ⟨b12, rfl, rfl⟩
   refine g_as ?_
   refine g_nil <| g_qt <| g_seq <| g_region ?_
   refine g_fa ?_
   refine g_fa ?_
   refine g_ld ?_
   refine g_pure (p_len (by rfl) rfl) rfl ?_
   first | refine g_pure (p_subi rfl rfl (by omega)) rfl ?_ | refine g_pure (p_sub rfl rfl) rfl ?_
   refine g_as ?_
   refine g_nil <| g_qt <| g_seq <| g_seq <| g_region ?_
   refine g_fa ?_
   refine g_ld ?_
   refine g_pure (p_eqlF rfl rfl (by decide)) rfl ?_
   refine g_nil <| g_qt ?_
   refine g_iff rfl ?_
   refine g_skip <| g_qt <| g_seq <| g_seq ?_
   refine m_begin0 (.fl 0 0 (.fl 1 0 (.fl 2 1 (.fl 3 0 (.fl 4 0 (.fl 5 1 (.fl 6 0 (.fl 7 1 (.fl 8 0 .done))))))))) (by kernel_rfl) (by kernel_rfl) ?_
   refine m_float0 rfl (fun _ _ => p_move rfl) rfl ?_
   refine m_float0 rfl (fun _ _ => p_indexAddr rfl rfl (by omega) (fun _ => rfl)) rfl ?_
   refine m_float rfl (p_load (v := .string (strB w0)) (by rfl) rfl (Has.ro hb) (by rfl)) rfl ?_
   refine m_float0 rfl (fun _ _ => p_move rfl) rfl ?_
   refine m_float0 rfl (fun _ _ => p_fieldAddr rfl) rfl ?_
   refine m_float rfl (p_loadA) rfl ?_
   refine m_float0 rfl (fun _ _ => p_indexAddr rfl rfl (by decide) (fun _ => rfl)) rfl ?_
   refine m_float rfl (p_load (v := .string (strB (headW 5))) (by rfl) rfl (Has.own (by repeat' (first | exact Take.here | apply Take.there))) (by rfl)) rfl ?_
   refine m_float0 rfl (fun _ _ => p_neqsF (by rfl) rfl rfl (by rw [hwd])) rfl ?_
   refine m_nil ?_
   refine g_qt ?_
   refine g_iff rfl ?_
   refine g_skip <| g_qt <| g_seq <| g_seq <| g_region ?_
   refine g_fa ?_
   refine g_ld ?_
   refine g_pure (p_eqlF rfl rfl (by decide)) rfl ?_
   refine g_nil <| g_qt ?_
   refine g_iff rfl ?_
   refine g_skip <| g_qt <| g_seq <| g_region ?_
   refine g_mv ?_
   refine g_pure (p_slicel rfl rfl (by omega)) rfl ?_
   refine g_call (Hin := []) (Hr := ?hr8) (R := ?rr8) rfl rfl rfl ?hin8 ?hc8 ?hk8
   case hin8 => repeat' (first | exact Cover.nil | exact Take.here | apply Cover.cons | apply Take.there)
   case hc8 => intro ρ' hρ hR; exact cN (tail_words hρ hb (fun h => tail_words_addr h hwc))
   rintro _ _ ⟨va, vc, rfl, rfl⟩
   refine g_mv ?_
   refine g_pure (p_extract rfl rfl) rfl ?_
   refine g_pure (p_extract rfl rfl) rfl ?_
   refine g_as ?_
   refine g_as ?_
   refine g_nil <| g_qt <| g_seq <| g_seq <| g_region ?_
   refine g_mv ?_
   refine g_pure (p_not rfl) rfl ?_
   refine g_mv ?_
   refine g_yesA ?_
   refine g_fa ?_
   refine g_yesA ?_
   refine g_ld ?_
   refine g_yesA ?_
   refine g_pure (p_eqlF rfl rfl (by decide)) rfl ?_
   refine g_yesA ?_
   refine g_mv ?_
   refine g_noA ?_
   refine g_noA ?_
   refine g_noA ?_
   refine g_yesA ?_
   first | refine g_pkt ?_ | refine g_pkf ?_
   first | refine g_pkt ?_ | refine g_pkf ?_
   refine g_nil <| g_qt ?_
   refine g_iff rfl ?_
   refine g_skip <| g_qt <| g_seq <| g_seq <| g_region ?_
   refine g_fa ?_
   refine g_ld ?_
   refine g_nil <| g_qt <| g_block <| g_seq <| g_region ?_
   refine g_pure (p_eql rfl rfl) rfl ?_
   refine g_as ?_
   refine g_nil <| g_qt ?_
   refine g_focus (by repeat' (first | exact Take.here | apply Take.there)) ?_
   intro Q h hQ
   have hQl : done.length = Q.length := by rw [← hQ]; simp
   obtain ⟨⟨h1a, h1c⟩, ⟨h2a, h2c⟩, ⟨h3a, h3c⟩, h4a, h4c⟩ := h
   unfold ownR
   dsimp only [List.cons_append, List.nil_append]
   refine g_own (e := 45) (size := 6) (a1 := ra) (k := Q.length + 1) (cap := rc) (xs := Q.flatMap rowO ++ rowO ((((h1a, h1c), (h2a, h2c), (h3a, h3c), h4a, h4c), cur))) (by repeat' (first | exact Take.here | apply Take.there)) (fun _ h _ _ => absurd h (by omega)) ?_
   rintro g cu rfl hc1 hc2 hcl2 htk hxl
   have hidx : (((done ++ [cur]).length : Int) - 1).toNat = Q.length := by omega
   have hset := row_set htk (j := 4) (.slice va l.length vc)
   have hrow : (rowO ((((h1a, h1c), (h2a, h2c), (h3a, h3c), h4a, h4c), cur))).set 4 (.slice va l.length vc) = rowO ((((h1a, h1c), (h2a, h2c), (va, vc), h4a, h4c), (cur.1, cur.2.1, cur.2.2.1, cur.2.2.2.1, l, cur.2.2.2.2.2))) := rfl
   rw [hrow] at hset
   refine g_iff rfl ?_
   refine g_seq <| g_region ?_
   refine g_pure (p_eqlF rfl rfl (by decide)) rfl ?_
   refine g_as ?_
   refine g_nil <| g_qt ?_
   refine g_iff rfl ?_
   refine g_seq <| g_region ?_
   refine g_pure (p_eqlF rfl rfl (by decide)) rfl ?_
   refine g_as ?_
   refine g_nil <| g_qt ?_
   refine g_iff rfl ?_
   refine g_seq <| g_region ?_
   refine g_pure (p_eqlF rfl rfl (by decide)) rfl ?_
   refine g_as ?_
   refine g_nil <| g_qt ?_
   refine g_iff rfl ?_
   refine g_region ?_
   refine g_fa ?_
   refine g_fa ?_
   refine g_ld ?_
   refine g_mv ?_
   refine g_mv ?_
   refine g_pure (p_indexAddr rfl rfl (by omega) (fun _ => rfl)) rfl ?_
   refine g_fa ?_
   first | refine g_eff0 (e_storeO rfl rfl (by rfl) (by rfl) (by rfl) (by repeat' (first | exact Take.here | apply Take.there)) (by rfl)) (fun _ _ => ?_) | refine g_eff0 (e_store1 (by rfl) rfl rfl rfl (by repeat' (first | exact Take.here | apply Take.there)) (by first | decide | (simp <;> omega) | omega)) (fun _ _ => ?_)
   rintro rfl
   refine g_nil <| g_qb <| g_qt <| g_seq <| g_region ?_
   refine g_fa ?_
   refine g_ld ?_
   first | refine g_pure (p_addi rfl rfl (by omega)) rfl ?_ | refine g_pure (p_add rfl rfl) rfl ?_
   refine g_fa ?_
   first | refine g_eff0 (e_storeO rfl rfl (by rfl) (by rfl) (by rfl) (by repeat' (first | exact Take.here | apply Take.there)) (by rfl)) (fun _ _ => ?_) | refine g_eff0 (e_store1 (by rfl) rfl rfl rfl (by repeat' (first | exact Take.here | apply Take.there)) (by first | decide | (simp <;> omega) | omega)) (fun _ _ => ?_)
   rintro rfl
   refine g_nil <| g_qt <| g_seq <| g_region ?_
   first | refine g_pure (p_loadO (by rfl) rfl (by first | (apply Has.own; (repeat' (first | exact Take.here | apply Take.there)); done) | exact Has.ro (by assumption)) (by rfl)) rfl ?_ | refine g_pure (p_loadN (by rfl) rfl (by first | (apply Has.own; (repeat' (first | exact Take.here | apply Take.there)); done) | exact Has.ro (by assumption)) (by first | rfl | assumption)) rfl ?_
   first | refine g_eff0 (e_storeO rfl rfl (by rfl) (by rfl) (by rfl) (by repeat' (first | exact Take.here | apply Take.there)) (by rfl)) (fun _ _ => ?_) | refine g_eff0 (e_storeN rfl rfl (by rfl) (by rfl) (by rfl) (by repeat' (first | exact Take.here | apply Take.there)) (by simp)) (fun _ _ => ?_)
   rintro rfl
   refine g_as ?_
   refine g_nil <| g_qt <| g_ret ?_
   rw [hidx]
   refine g_fold (e := 45) (size := 6) (g := g) (k := Q.length + 1) (cap := rc) (cur := cu.set (0 + Q.length * 6 + 4) (.slice va l.length vc)) (xs := Q.flatMap rowO ++ rowO ((((h1a, h1c), (h2a, h2c), (va, vc), h4a, h4c), (cur.1, cur.2.1, cur.2.2.1, cur.2.2.2.1, l, cur.2.2.2.2.2)))) (by repeat' (first | exact Take.here | apply Take.there)) hc1 hc2 (by rw [List.length_set]; exact hcl2) hset ?_
   refine g_unfocus (TI := 3) (TC := 32) (TR := 45) (ea := ea) (ec := ec) (es := es) ((((h1a, h1c), (h2a, h2c), (va, vc), h4a, h4c), (cur.1, cur.2.1, cur.2.2.1, cur.2.2.2.1, l, cur.2.2.2.2.2))) hQ (by repeat' (first | exact Take.here | apply Take.there)) (by repeat' (first | exact Take.here | apply Take.there)) (by repeat' (first | exact Take.here | apply Take.there)) (by repeat' (first | exact Take.here | apply Take.there)) (by repeat' (first | exact Take.here | apply Take.there)) (by repeat' (first | exact Take.here | apply Take.there)) (by repeat' (first | exact Take.here | apply Take.there)) ?_
   exact g_postA (Ho := [OwnIm 3 32 45 ea (some ⟨g, 0, none⟩) ec rc (es, done ++ [(cur.1, cur.2.1, cur.2.2.1, cur.2.2.2.1, l, cur.2.2.2.2.2)])]) (rs := [.cell 4 77, .tmp 5]) rfl (Res.cellN (by rfl) rfl (Has.own (by repeat' (first | exact Take.here | apply Take.there))) (by rfl) (.tmp rfl .nil)) (next_some hst rfl (by rw [hdc]; simp [listO, putW]) rfl rfl)
 ·refine con_intro Tryz.func54 Tryz.call54 rfl Tryz.ntmps54 rfl (L := [(0, _), (1, _)]) rfl fun w hh => ?_
  refine g_seq <| g_region ?_
  refine g_eff (e_box rfl (by rfl)) rfl (fun _ _ => ?_)
  rintro ⟨b2, rfl, rfl⟩
  refine g_eff (e_alloc (by rfl)) rfl (fun _ _ => ?_)
  rintro ⟨b4, rfl, rfl⟩
  refine g_as ?_
  refine g_nil <| g_qt <| g_seq <| g_region ?_
  refine g_eff (e_bs (xs := [.const (.string (⟨#[101, 110, 117, 109, 115]⟩)), .const (.string (⟨#[114, 111, 117, 116, 105, 110, 101]⟩)), .const (.string (⟨#[105, 110]⟩)), .const (.string (⟨#[111, 117, 116]⟩)), .const (.string (⟨#[114, 101, 103, 115]⟩)), .const (.string (⟨#[105, 110, 105, 116]⟩))]) rfl rfl rfl (by rfl) (by rfl) rfl (by rfl)) rfl (fun _ _ => ?_)
  rintro ⟨b12, rfl, rfl⟩
  refine g_as ?_
  refine g_nil <| g_qt <| g_seq <| g_region ?_
  refine g_fa ?_
  refine g_fa ?_
  refine g_ld ?_
  refine g_pure (p_len (by rfl) rfl) rfl ?_
  first | refine g_pure (p_subi rfl rfl (by omega)) rfl ?_ | refine g_pure (p_sub rfl rfl) rfl ?_
  refine g_as ?_
  refine g_nil <| g_qt <| g_seq <| g_seq <| g_region ?_
  refine g_fa ?_
  refine g_ld ?_
  refine g_pure (p_eqlF rfl rfl (by decide)) rfl ?_
  refine g_nil <| g_qt ?_
  refine g_iff rfl ?_
  refine g_skip <| g_qt <| g_seq <| g_seq ?_
  refine m_begin0 (.fl 0 0 (.fl 1 0 (.fl 2 1 (.fl 3 0 (.fl 4 0 (.fl 5 1 (.fl 6 0 (.fl 7 1 (.fl 8 0 .done))))))))) (by kernel_rfl) (by kernel_rfl) ?_
  refine m_float0 rfl (fun _ _ => p_move rfl) rfl ?_
  refine m_float0 rfl (fun _ _ => p_indexAddr rfl rfl (by omega) (fun _ => rfl)) rfl ?_
  refine m_float rfl (p_load (v := .string (strB w0)) (by rfl) rfl (Has.ro hb) (by rfl)) rfl ?_
  refine m_float0 rfl (fun _ _ => p_move rfl) rfl ?_
  refine m_float0 rfl (fun _ _ => p_fieldAddr rfl) rfl ?_
  refine m_float rfl (p_loadA) rfl ?_
  refine m_float0 rfl (fun _ _ => p_indexAddr rfl rfl (by decide) (fun _ => rfl)) rfl ?_
  refine m_float rfl (p_load (v := .string (strB (headW 5))) (by rfl) rfl (Has.own (by repeat' (first | exact Take.here | apply Take.there))) (by rfl)) rfl ?_
  refine m_float0 rfl (fun _ _ => p_neqsT (by rfl) rfl rfl (fun e => hwd (strB_inj.1 e))) rfl ?_
  refine m_nil ?_
  refine g_qt ?_
  refine g_ift rfl ?_
  refine g_seq <| g_region ?_
  first | refine g_pure (p_loadO (by rfl) rfl (by first | (apply Has.own; (repeat' (first | exact Take.here | apply Take.there)); done) | exact Has.ro (by assumption)) (by rfl)) rfl ?_ | refine g_pure (p_loadN (by rfl) rfl (by first | (apply Has.own; (repeat' (first | exact Take.here | apply Take.there)); done) | exact Has.ro (by assumption)) (by first | rfl | assumption)) rfl ?_
  first | refine g_eff0 (e_storeO rfl rfl (by rfl) (by rfl) (by rfl) (by repeat' (first | exact Take.here | apply Take.there)) (by rfl)) (fun _ _ => ?_) | refine g_eff0 (e_storeN rfl rfl (by rfl) (by rfl) (by rfl) (by repeat' (first | exact Take.here | apply Take.there)) (by simp)) (fun _ _ => ?_)
  rintro rfl
  refine g_as ?_
  refine g_nil <| g_qt <| g_ret <| g_qt_ret ?_
  exact g_postA (Ho := []) (rs := [.cell 4 77, .tmp 5]) rfl (Res.cellN (by rfl) rfl (Has.own (by repeat' (first | exact Take.here | apply Take.there))) (by rfl) (.tmp rfl .nil)) (next_none (s1 hwd) _ _ _ _ _ _ _)
end Go.Proofs.YtcnfcoojmbjdlaaGreatDoor
/- Chapter 26: the first line of a text, the first line of a routine, any line, read by the document. Conditions: none. -/
namespace Go.Proofs.YtcnfcoojmbjdlaaGreatDoor
set_option maxRecDepth 8000
set_option linter.unusedVariables false
set_option linter.unusedSimpArgs false
set_option linter.unusedSectionVars false
open Go Go.Z Go.Z.Asm Go.RowKit Go.Z.Val Go.Z.Txt

theorem next0_ok {ρ : Nat → Obj → Prop} {ea ra : Option Addr} {ec rc : Nat} {es : List Int} {done : List Rt} {cur : Rt} {wb wc : Nat} (w0 : List UInt8) (W : List (List UInt8)) {T : TypeId} {fz : Nat × Nat} {tl : List Value} (hb : ρ wb (.cells ((w0 :: W).map strV ++ tl).toArray T fz)) (hl : W.length ≤ 4294967296) (hlen : ∀ w ∈ W, w.length ≤ 4294967296) (hwc : (w0 :: W).length ≤ wc) (hn : [] ∉ w0 :: W) :
  Con Tryz.prog ρ 54 #[.agg #[.slice ea es.length ec, .slice ra done.length rc, .int .i64 0], .slice (some ⟨wb, 0, none⟩) (w0 :: W).length wc] [OwnIm 3 32 45 ea ra ec rc (es, done)]
  (NextPost 3 32 45 (es, done, cur, 0) (w0 :: W)) := by
 have hln : (w0 :: W).length = W.length + 1 := rfl
 obtain ⟨s1, s2, s3⟩ := step_num (es := es) (done := done) (cur := cur) (w := 0) (by decide) (by decide) hn
 have cN := fun {ρ' : Nat → Obj → Prop} {a : Option Addr} {c : Nat} (hr : RSl ρ' 1 a W.length (W.map strV)) => rnumbers_ok a c W hr hl hlen
 unfold NumsPost at cN
 by_cases hwd : w0 = headW 0
 ·rcases hO : numsO W with _ | l
  ·rw [hO] at cN
   refine con_intro Tryz.func54 Tryz.call54 rfl Tryz.ntmps54 rfl (L := [(0, _), (1, _)]) rfl fun w hh => ?_
   refine g_seq <| g_region ?_
   refine g_eff (e_box rfl (by rfl)) rfl (fun _ _ => ?_)
   rintro ⟨b2, rfl, rfl⟩
   refine g_eff (e_alloc (by rfl)) rfl (fun _ _ => ?_)
   rintro ⟨b4, rfl, rfl⟩
   refine g_as ?_
   refine g_nil <| g_qt <| g_seq <| g_region ?_
   refine g_eff (e_bs (xs := [.const (.string (⟨#[101, 110, 117, 109, 115]⟩)), .const (.string (⟨#[114, 111, 117, 116, 105, 110, 101]⟩)), .const (.string (⟨#[105, 110]⟩)), .const (.string (⟨#[111, 117, 116]⟩)), .const (.string (⟨#[114, 101, 103, 115]⟩)), .const (.string (⟨#[105, 110, 105, 116]⟩))]) rfl rfl rfl (by rfl) (by rfl) rfl (by rfl)) rfl (fun _ _ => ?_)
   rintro ⟨b12, rfl, rfl⟩
   refine g_as ?_
   refine g_nil <| g_qt <| g_seq <| g_region ?_
   refine g_fa ?_
   refine g_fa ?_
   refine g_ld ?_
   refine g_pure (p_len (by rfl) rfl) rfl ?_
   first | refine g_pure (p_subi rfl rfl (by omega)) rfl ?_ | refine g_pure (p_sub rfl rfl) rfl ?_
   refine g_as ?_
   refine g_nil <| g_qt <| g_seq <| g_seq <| g_region ?_
   refine g_fa ?_
   refine g_ld ?_
   refine g_pure (p_eqlF rfl rfl (by decide)) rfl ?_
   refine g_nil <| g_qt ?_
   refine g_iff rfl ?_
   refine g_skip <| g_qt <| g_seq <| g_seq ?_
   refine m_begin0 (.fl 0 0 (.fl 1 0 (.fl 2 1 (.fl 3 0 (.fl 4 0 (.fl 5 1 (.fl 6 0 (.fl 7 1 (.fl 8 0 .done))))))))) (by kernel_rfl) (by kernel_rfl) ?_
   refine m_float0 rfl (fun _ _ => p_move rfl) rfl ?_
   refine m_float0 rfl (fun _ _ => p_indexAddr rfl rfl (by omega) (fun _ => rfl)) rfl ?_
   refine m_float rfl (p_load (v := .string (strB w0)) (by rfl) rfl (Has.ro hb) (by rfl)) rfl ?_
   refine m_float0 rfl (fun _ _ => p_move rfl) rfl ?_
   refine m_float0 rfl (fun _ _ => p_fieldAddr rfl) rfl ?_
   refine m_float rfl (p_loadA) rfl ?_
   refine m_float0 rfl (fun _ _ => p_indexAddr rfl rfl (by decide) (fun _ => rfl)) rfl ?_
   refine m_float rfl (p_load (v := .string (strB (headW 0))) (by rfl) rfl (Has.own (by repeat' (first | exact Take.here | apply Take.there))) (by rfl)) rfl ?_
   refine m_float0 rfl (fun _ _ => p_neqsF (by rfl) rfl rfl (by rw [hwd])) rfl ?_
   refine m_nil ?_
   refine g_qt ?_
   refine g_iff rfl ?_
   refine g_skip <| g_qt <| g_seq <| g_seq <| g_region ?_
   refine g_fa ?_
   refine g_ld ?_
   refine g_pure (p_eqlF rfl rfl (by decide)) rfl ?_
   refine g_nil <| g_qt ?_
   refine g_iff rfl ?_
   refine g_skip <| g_qt <| g_seq <| g_region ?_
   refine g_mv ?_
   refine g_pure (p_slicel rfl rfl (by omega)) rfl ?_
   refine g_call (Hin := []) (Hr := ?hr1) (R := ?rr1) rfl rfl rfl ?hin1 ?hc1 ?hk1
   case hin1 => repeat' (first | exact Cover.nil | exact Take.here | apply Cover.cons | apply Take.there)
   case hc1 => intro ρ' hρ hR; exact cN (tail_words hρ hb (fun h => tail_words_addr h hwc))
   rintro _ _ ⟨rfl, rfl⟩
   refine g_mv ?_
   refine g_pure (p_extract rfl rfl) rfl ?_
   refine g_pure (p_extract rfl rfl) rfl ?_
   refine g_as ?_
   refine g_as ?_
   refine g_nil <| g_qt <| g_seq <| g_seq <| g_region ?_
   refine g_mv ?_
   refine g_pure (p_not rfl) rfl ?_
   refine g_mv ?_
   refine g_noA ?_
   refine g_noA ?_
   refine g_noA ?_
   refine g_noA ?_
   refine g_nou rfl rfl rfl ?_
   refine g_nou rfl rfl rfl ?_
   refine g_nou rfl rfl rfl ?_
   refine g_noA ?_
   first | refine g_pkt ?_ | refine g_pkf ?_
   refine g_nil <| g_qt ?_
   refine g_ift rfl ?_
   refine g_seq <| g_region ?_
   first | refine g_pure (p_loadO (by rfl) rfl (by first | (apply Has.own; (repeat' (first | exact Take.here | apply Take.there)); done) | exact Has.ro (by assumption)) (by rfl)) rfl ?_ | refine g_pure (p_loadN (by rfl) rfl (by first | (apply Has.own; (repeat' (first | exact Take.here | apply Take.there)); done) | exact Has.ro (by assumption)) (by first | rfl | assumption)) rfl ?_
   first | refine g_eff0 (e_storeO rfl rfl (by rfl) (by rfl) (by rfl) (by repeat' (first | exact Take.here | apply Take.there)) (by rfl)) (fun _ _ => ?_) | refine g_eff0 (e_storeN rfl rfl (by rfl) (by rfl) (by rfl) (by repeat' (first | exact Take.here | apply Take.there)) (by simp)) (fun _ _ => ?_)
   rintro rfl
   refine g_as ?_
   refine g_nil <| g_qt <| g_ret <| g_qt_ret ?_
   exact g_postA (Ho := []) (rs := [.cell 4 77, .tmp 5]) rfl (Res.cellN (by rfl) rfl (Has.own (by repeat' (first | exact Take.here | apply Take.there))) (by rfl) (.tmp rfl .nil)) (next_none (s2 hwd hO) _ _ _ _ _ _ _)
  ·rw [hO] at cN
   have hst := s3 hwd l hO
   rw [if_neg (fun h => absurd h.1 (by decide))] at hst
   refine con_intro Tryz.func54 Tryz.call54 rfl Tryz.ntmps54 rfl (L := [(0, _), (1, _)]) rfl fun w hh => ?_
   refine g_seq <| g_region ?_
   refine g_eff (e_box rfl (by rfl)) rfl (fun _ _ => ?_)
   rintro ⟨b2, rfl, rfl⟩
   refine g_eff (e_alloc (by rfl)) rfl (fun _ _ => ?_)
   rintro ⟨b4, rfl, rfl⟩
   refine g_as ?_
   refine g_nil <| g_qt <| g_seq <| g_region ?_
   refine g_eff (e_bs (xs := [.const (.string (⟨#[101, 110, 117, 109, 115]⟩)), .const (.string (⟨#[114, 111, 117, 116, 105, 110, 101]⟩)), .const (.string (⟨#[105, 110]⟩)), .const (.string (⟨#[111, 117, 116]⟩)), .const (.string (⟨#[114, 101, 103, 115]⟩)), .const (.string (⟨#[105, 110, 105, 116]⟩))]) rfl rfl rfl (by rfl) (by rfl) rfl (by rfl)) rfl (fun _ _ => ?_)
   rintro ⟨b12, rfl, rfl⟩
   refine g_as ?_
   refine g_nil <| g_qt <| g_seq <| g_region ?_
   refine g_fa ?_
   refine g_fa ?_
   refine g_ld ?_
   refine g_pure (p_len (by rfl) rfl) rfl ?_
   first | refine g_pure (p_subi rfl rfl (by omega)) rfl ?_ | refine g_pure (p_sub rfl rfl) rfl ?_
   refine g_as ?_
   refine g_nil <| g_qt <| g_seq <| g_seq <| g_region ?_
   refine g_fa ?_
   refine g_ld ?_
   refine g_pure (p_eqlF rfl rfl (by decide)) rfl ?_
   refine g_nil <| g_qt ?_
   refine g_iff rfl ?_
   refine g_skip <| g_qt <| g_seq <| g_seq ?_
   refine m_begin0 (.fl 0 0 (.fl 1 0 (.fl 2 1 (.fl 3 0 (.fl 4 0 (.fl 5 1 (.fl 6 0 (.fl 7 1 (.fl 8 0 .done))))))))) (by kernel_rfl) (by kernel_rfl) ?_
   refine m_float0 rfl (fun _ _ => p_move rfl) rfl ?_
   refine m_float0 rfl (fun _ _ => p_indexAddr rfl rfl (by omega) (fun _ => rfl)) rfl ?_
   refine m_float rfl (p_load (v := .string (strB w0)) (by rfl) rfl (Has.ro hb) (by rfl)) rfl ?_
   refine m_float0 rfl (fun _ _ => p_move rfl) rfl ?_
   refine m_float0 rfl (fun _ _ => p_fieldAddr rfl) rfl ?_
   refine m_float rfl (p_loadA) rfl ?_
   refine m_float0 rfl (fun _ _ => p_indexAddr rfl rfl (by decide) (fun _ => rfl)) rfl ?_
   refine m_float rfl (p_load (v := .string (strB (headW 0))) (by rfl) rfl (Has.own (by repeat' (first | exact Take.here | apply Take.there))) (by rfl)) rfl ?_
   refine m_float0 rfl (fun _ _ => p_neqsF (by rfl) rfl rfl (by rw [hwd])) rfl ?_
   refine m_nil ?_
   refine g_qt ?_
   refine g_iff rfl ?_
   refine g_skip <| g_qt <| g_seq <| g_seq <| g_region ?_
   refine g_fa ?_
   refine g_ld ?_
   refine g_pure (p_eqlF rfl rfl (by decide)) rfl ?_
   refine g_nil <| g_qt ?_
   refine g_iff rfl ?_
   refine g_skip <| g_qt <| g_seq <| g_region ?_
   refine g_mv ?_
   refine g_pure (p_slicel rfl rfl (by omega)) rfl ?_
   refine g_call (Hin := []) (Hr := ?hr2) (R := ?rr2) rfl rfl rfl ?hin2 ?hc2 ?hk2
   case hin2 => repeat' (first | exact Cover.nil | exact Take.here | apply Cover.cons | apply Take.there)
   case hc2 => intro ρ' hρ hR; exact cN (tail_words hρ hb (fun h => tail_words_addr h hwc))
   rintro _ _ ⟨va, vc, rfl, rfl⟩
   refine g_mv ?_
   refine g_pure (p_extract rfl rfl) rfl ?_
   refine g_pure (p_extract rfl rfl) rfl ?_
   refine g_as ?_
   refine g_as ?_
   refine g_nil <| g_qt <| g_seq <| g_seq <| g_region ?_
   refine g_mv ?_
   refine g_pure (p_not rfl) rfl ?_
   refine g_mv ?_
   refine g_yesA ?_
   refine g_fa ?_
   refine g_yesA ?_
   refine g_ld ?_
   refine g_yesA ?_
   refine g_pure (p_eqlF rfl rfl (by decide)) rfl ?_
   refine g_yesA ?_
   refine g_mv ?_
   refine g_noA ?_
   refine g_noA ?_
   refine g_noA ?_
   refine g_yesA ?_
   first | refine g_pkt ?_ | refine g_pkf ?_
   first | refine g_pkt ?_ | refine g_pkf ?_
   refine g_nil <| g_qt ?_
   refine g_iff rfl ?_
   refine g_skip <| g_qt <| g_seq <| g_seq <| g_region ?_
   refine g_fa ?_
   refine g_ld ?_
   refine g_nil <| g_qt <| g_block <| g_seq <| g_region ?_
   refine g_pure (p_eql rfl rfl) rfl ?_
   refine g_as ?_
   refine g_nil <| g_qt ?_
   refine g_ift rfl ?_
   refine g_region ?_
   refine g_mv ?_
   refine g_fa ?_
   refine g_fa ?_
   first | refine g_eff0 (e_storeO rfl rfl (by rfl) (by rfl) (by rfl) (by repeat' (first | exact Take.here | apply Take.there)) (by rfl)) (fun _ _ => ?_) | refine g_eff0 (e_store1 (by rfl) rfl rfl rfl (by repeat' (first | exact Take.here | apply Take.there)) (by first | decide | (simp <;> omega) | omega)) (fun _ _ => ?_)
   rintro rfl
   refine g_nil <| g_qb <| g_qt <| g_seq <| g_region ?_
   refine g_fa ?_
   refine g_ld ?_
   first | refine g_pure (p_addi rfl rfl (by omega)) rfl ?_ | refine g_pure (p_add rfl rfl) rfl ?_
   refine g_fa ?_
   first | refine g_eff0 (e_storeO rfl rfl (by rfl) (by rfl) (by rfl) (by repeat' (first | exact Take.here | apply Take.there)) (by rfl)) (fun _ _ => ?_) | refine g_eff0 (e_store1 (by rfl) rfl rfl rfl (by repeat' (first | exact Take.here | apply Take.there)) (by first | decide | (simp <;> omega) | omega)) (fun _ _ => ?_)
   rintro rfl
   refine g_nil <| g_qt <| g_seq <| g_region ?_
   first | refine g_pure (p_loadO (by rfl) rfl (by first | (apply Has.own; (repeat' (first | exact Take.here | apply Take.there)); done) | exact Has.ro (by assumption)) (by rfl)) rfl ?_ | refine g_pure (p_loadN (by rfl) rfl (by first | (apply Has.own; (repeat' (first | exact Take.here | apply Take.there)); done) | exact Has.ro (by assumption)) (by first | rfl | assumption)) rfl ?_
   first | refine g_eff0 (e_storeO rfl rfl (by rfl) (by rfl) (by rfl) (by repeat' (first | exact Take.here | apply Take.there)) (by rfl)) (fun _ _ => ?_) | refine g_eff0 (e_storeN rfl rfl (by rfl) (by rfl) (by rfl) (by repeat' (first | exact Take.here | apply Take.there)) (by simp)) (fun _ _ => ?_)
   rintro rfl
   refine g_as ?_
   refine g_nil <| g_qt <| g_ret ?_
   refine g_open (K := OwnImK 3 32 45 ea ra ec rc (es, done)) (by repeat' (first | exact Take.here | apply Take.there)) ?_
   rintro H1 ⟨Q, hQ, rfl⟩
   refine g_close (K := OwnImK 3 32 45 va ra vc rc (l, done)) (H1 := [OwnSl 3 1 va l.length vc (l.map encI), OwnSl 45 6 ra done.length rc (Q.flatMap rowO), Al (Q.map (fragP 3 32))]) ⟨Q, hQ, rfl⟩ (by repeat' (first | exact Cover.nil | exact Take.here | apply Cover.cons | apply Take.there)) ?_
   exact g_postA (Ho := [OwnIm 3 32 45 va ra vc rc (l, done)]) (rs := [.cell 4 77, .tmp 5]) rfl (Res.cellN (by rfl) rfl (Has.own (by repeat' (first | exact Take.here | apply Take.there))) (by rfl) (.tmp rfl .nil)) (next_some hst rfl rfl rfl rfl)
 ·refine con_intro Tryz.func54 Tryz.call54 rfl Tryz.ntmps54 rfl (L := [(0, _), (1, _)]) rfl fun w hh => ?_
  refine g_seq <| g_region ?_
  refine g_eff (e_box rfl (by rfl)) rfl (fun _ _ => ?_)
  rintro ⟨b2, rfl, rfl⟩
  refine g_eff (e_alloc (by rfl)) rfl (fun _ _ => ?_)
  rintro ⟨b4, rfl, rfl⟩
  refine g_as ?_
  refine g_nil <| g_qt <| g_seq <| g_region ?_
  refine g_eff (e_bs (xs := [.const (.string (⟨#[101, 110, 117, 109, 115]⟩)), .const (.string (⟨#[114, 111, 117, 116, 105, 110, 101]⟩)), .const (.string (⟨#[105, 110]⟩)), .const (.string (⟨#[111, 117, 116]⟩)), .const (.string (⟨#[114, 101, 103, 115]⟩)), .const (.string (⟨#[105, 110, 105, 116]⟩))]) rfl rfl rfl (by rfl) (by rfl) rfl (by rfl)) rfl (fun _ _ => ?_)
  rintro ⟨b12, rfl, rfl⟩
  refine g_as ?_
  refine g_nil <| g_qt <| g_seq <| g_region ?_
  refine g_fa ?_
  refine g_fa ?_
  refine g_ld ?_
  refine g_pure (p_len (by rfl) rfl) rfl ?_
  first | refine g_pure (p_subi rfl rfl (by omega)) rfl ?_ | refine g_pure (p_sub rfl rfl) rfl ?_
  refine g_as ?_
  refine g_nil <| g_qt <| g_seq <| g_seq <| g_region ?_
  refine g_fa ?_
  refine g_ld ?_
  refine g_pure (p_eqlF rfl rfl (by decide)) rfl ?_
  refine g_nil <| g_qt ?_
  refine g_iff rfl ?_
  refine g_skip <| g_qt <| g_seq <| g_seq ?_
  refine m_begin0 (.fl 0 0 (.fl 1 0 (.fl 2 1 (.fl 3 0 (.fl 4 0 (.fl 5 1 (.fl 6 0 (.fl 7 1 (.fl 8 0 .done))))))))) (by kernel_rfl) (by kernel_rfl) ?_
  refine m_float0 rfl (fun _ _ => p_move rfl) rfl ?_
  refine m_float0 rfl (fun _ _ => p_indexAddr rfl rfl (by omega) (fun _ => rfl)) rfl ?_
  refine m_float rfl (p_load (v := .string (strB w0)) (by rfl) rfl (Has.ro hb) (by rfl)) rfl ?_
  refine m_float0 rfl (fun _ _ => p_move rfl) rfl ?_
  refine m_float0 rfl (fun _ _ => p_fieldAddr rfl) rfl ?_
  refine m_float rfl (p_loadA) rfl ?_
  refine m_float0 rfl (fun _ _ => p_indexAddr rfl rfl (by decide) (fun _ => rfl)) rfl ?_
  refine m_float rfl (p_load (v := .string (strB (headW 0))) (by rfl) rfl (Has.own (by repeat' (first | exact Take.here | apply Take.there))) (by rfl)) rfl ?_
  refine m_float0 rfl (fun _ _ => p_neqsT (by rfl) rfl rfl (fun e => hwd (strB_inj.1 e))) rfl ?_
  refine m_nil ?_
  refine g_qt ?_
  refine g_ift rfl ?_
  refine g_seq <| g_region ?_
  first | refine g_pure (p_loadO (by rfl) rfl (by first | (apply Has.own; (repeat' (first | exact Take.here | apply Take.there)); done) | exact Has.ro (by assumption)) (by rfl)) rfl ?_ | refine g_pure (p_loadN (by rfl) rfl (by first | (apply Has.own; (repeat' (first | exact Take.here | apply Take.there)); done) | exact Has.ro (by assumption)) (by first | rfl | assumption)) rfl ?_
  first | refine g_eff0 (e_storeO rfl rfl (by rfl) (by rfl) (by rfl) (by repeat' (first | exact Take.here | apply Take.there)) (by rfl)) (fun _ _ => ?_) | refine g_eff0 (e_storeN rfl rfl (by rfl) (by rfl) (by rfl) (by repeat' (first | exact Take.here | apply Take.there)) (by simp)) (fun _ _ => ?_)
  rintro rfl
  refine g_as ?_
  refine g_nil <| g_qt <| g_ret <| g_qt_ret ?_
  exact g_postA (Ho := []) (rs := [.cell 4 77, .tmp 5]) rfl (Res.cellN (by rfl) rfl (Has.own (by repeat' (first | exact Take.here | apply Take.there))) (by rfl) (.tmp rfl .nil)) (next_none (s1 hwd) _ _ _ _ _ _ _)

theorem next1_ok {ρ : Nat → Obj → Prop} {ea ra : Option Addr} {ec rc : Nat} {es : List Int} {done : List Rt} {cur : Rt} (hdl : done.length ≤ 5000000) {wb wc : Nat} (w0 : List UInt8) (W : List (List UInt8)) {T : TypeId} {fz : Nat × Nat} {tl : List Value} (hb : ρ wb (.cells ((w0 :: W).map strV ++ tl).toArray T fz)) (hl : W.length ≤ 4294967296) (hwc : (w0 :: W).length ≤ wc) (hn : [] ∉ w0 :: W) :
  Con Tryz.prog ρ 54 #[.agg #[.slice ea es.length ec, .slice ra done.length rc, .int .i64 1], .slice (some ⟨wb, 0, none⟩) (w0 :: W).length wc] [OwnIm 3 32 45 ea ra ec rc (es, done)]
  (NextPost 3 32 45 (es, done, cur, 1) (w0 :: W)) := by
 have hln : (w0 :: W).length = W.length + 1 := rfl
 obtain ⟨s1, s2, s3⟩ := step_one (es := es) (done := done) (cur := cur) hn
 by_cases hwd : w0 = routW
 ·by_cases hw1 : W.length = 1
  ·obtain ⟨nm, rfl⟩ := List.length_eq_one_iff.1 hw1
   have hst := s3 hwd nm rfl
   refine con_intro Tryz.func54 Tryz.call54 rfl Tryz.ntmps54 rfl (L := [(0, _), (1, _)]) rfl fun w hh => ?_
   refine g_seq <| g_region ?_
   refine g_eff (e_box rfl (by rfl)) rfl (fun _ _ => ?_)
   rintro ⟨b2, rfl, rfl⟩
   refine g_eff (e_alloc (by rfl)) rfl (fun _ _ => ?_)
   rintro ⟨b4, rfl, rfl⟩
   refine g_as ?_
   refine g_nil <| g_qt <| g_seq <| g_region ?_
   refine g_eff (e_bs (xs := [.const (.string (⟨#[101, 110, 117, 109, 115]⟩)), .const (.string (⟨#[114, 111, 117, 116, 105, 110, 101]⟩)), .const (.string (⟨#[105, 110]⟩)), .const (.string (⟨#[111, 117, 116]⟩)), .const (.string (⟨#[114, 101, 103, 115]⟩)), .const (.string (⟨#[105, 110, 105, 116]⟩))]) rfl rfl rfl (by rfl) (by rfl) rfl (by rfl)) rfl (fun _ _ => ?_)
   rintro ⟨b12, rfl, rfl⟩
   refine g_as ?_
   refine g_nil <| g_qt <| g_seq <| g_region ?_
   refine g_fa ?_
   refine g_fa ?_
   refine g_ld ?_
   refine g_pure (p_len (by rfl) rfl) rfl ?_
   first | refine g_pure (p_subi rfl rfl (by omega)) rfl ?_ | refine g_pure (p_sub rfl rfl) rfl ?_
   refine g_as ?_
   refine g_nil <| g_qt <| g_seq <| g_seq <| g_region ?_
   refine g_fa ?_
   refine g_ld ?_
   refine g_pure (p_eqlF rfl rfl (by decide)) rfl ?_
   refine g_nil <| g_qt ?_
   refine g_iff rfl ?_
   refine g_skip <| g_qt <| g_seq <| g_seq ?_
   refine m_begin0 (.fl 0 0 (.fl 1 0 (.fl 2 1 (.fl 3 0 (.fl 4 0 (.fl 5 1 (.fl 6 0 (.fl 7 1 (.fl 8 0 .done))))))))) (by kernel_rfl) (by kernel_rfl) ?_
   refine m_float0 rfl (fun _ _ => p_move rfl) rfl ?_
   refine m_float0 rfl (fun _ _ => p_indexAddr rfl rfl (by omega) (fun _ => rfl)) rfl ?_
   refine m_float rfl (p_load (v := .string (strB w0)) (by rfl) rfl (Has.ro hb) (by rfl)) rfl ?_
   refine m_float0 rfl (fun _ _ => p_move rfl) rfl ?_
   refine m_float0 rfl (fun _ _ => p_fieldAddr rfl) rfl ?_
   refine m_float rfl (p_loadA) rfl ?_
   refine m_float0 rfl (fun _ _ => p_indexAddr rfl rfl (by decide) (fun _ => rfl)) rfl ?_
   refine m_float rfl (p_load (v := .string (strB routW)) (by rfl) rfl (Has.own (by repeat' (first | exact Take.here | apply Take.there))) (by rfl)) rfl ?_
   refine m_float0 rfl (fun _ _ => p_neqsF (by rfl) rfl rfl (by rw [hwd])) rfl ?_
   refine m_nil ?_
   refine g_qt ?_
   refine g_iff rfl ?_
   refine g_skip <| g_qt <| g_seq <| g_seq <| g_region ?_
   refine g_fa ?_
   refine g_ld ?_
   refine g_pure (p_eqlT rfl rfl rfl) rfl ?_
   refine g_nil <| g_qt ?_
   refine g_ift rfl ?_
   refine g_seq <| g_seq <| g_region ?_
   refine g_mv ?_
   refine g_pure (p_len (by rfl) rfl) rfl ?_
   refine g_pure (p_neqF rfl rfl (by rw [hln]; rfl)) rfl ?_
   refine g_nil <| g_qt ?_
   refine g_open (K := OwnImK 3 32 45 ea ra ec rc (es, done)) (by repeat' (first | exact Take.here | apply Take.there)) ?_
   rintro H1 ⟨Q, hQ, rfl⟩
   dsimp only at hQ
   dsimp only [List.cons_append, List.nil_append]
   have hQl : done.length = Q.length := by rw [← hQ]; simp
   refine g_iff rfl ?_
   refine g_skip <| g_qt <| g_seq ?_
   refine m_begin (.fl 0 0 (.fl 1 0 (.fl 2 1 (.fl 3 0 (.fl 4 0 (.fl 5 1 (.fl 6 0 (.ef 7 (.ef 8 (.fl 9 0 (.fl 10 0 (.ef 11 .done)))))))))))) [OwnSl 3 1 ea es.length ec (es.map encI), Al (Q.map (fragP 3 32)), Blk b4 (.cells [.slice none 0 0, .slice none 0 0, .int .i64 0].toArray 77 (0, 0)), Blk b2 (.cells [.slice ea es.length ec, .slice ra done.length rc, .int .i64 1].toArray 77 (0, 0))] (by kernel_rfl) (by kernel_rfl) (by repeat' (first | exact Cover.nil | exact Take.here | apply Cover.cons | apply Take.there)) ?_
   refine m_float0 rfl (fun _ _ => p_fieldAddr rfl) rfl ?_
   refine m_float0 rfl (fun _ _ => p_fieldAddr rfl) rfl ?_
   refine m_float rfl (p_loadA) rfl ?_
   refine m_float0 rfl (fun _ _ => p_move rfl) rfl ?_
   refine m_float0 rfl (fun _ _ => p_indexAddr rfl rfl (by omega) (fun _ => rfl)) rfl ?_
   refine m_float rfl (p_load (v := .string (strB nm)) (by rfl) rfl (Has.ro hb) (by rfl)) rfl ?_
   refine m_float0 rfl (fun _ _ => p_build (by rfl) rfl (by rfl)) rfl ?_
   refine m_eff rfl (e_bs (xs := [.tmp 77]) rfl rfl rfl (by rfl) (by rfl) rfl (by rfl)) rfl (fun _ _ => ?_)
   rintro ⟨b78, rfl, rfl⟩
   refine ⟨.some (by repeat' (first | exact Cover.nil | exact Take.here | apply Cover.cons | apply Take.there)), ?_⟩
   refine m_eff rfl (e_appendO (by rfl) (by rfl) rfl rfl (by first | (apply Has.own; (repeat' (first | exact Take.here | apply Take.there)); done) | exact Has.ro (by assumption)) (by rfl) (by rfl) (by repeat' (first | exact Take.here | apply Take.there)) (by omega) (by first | omega | (dsimp only; omega) | (simp <;> omega)) (by omega)) rfl (fun _ _ => ?_)
   rintro ⟨a79, c79, rfl, rfl⟩
   refine ⟨.none (by kernel_rfl), ?_⟩
   refine m_float0 rfl (fun _ _ => p_fieldAddr rfl) rfl ?_
   refine m_float0 rfl (fun _ _ => p_fieldAddr rfl) rfl ?_
   first | refine m_eff0 rfl (e_storeO rfl rfl (by rfl) (by rfl) (by rfl) (by repeat' (first | exact Take.here | apply Take.there)) (by rfl)) (fun _ _ => ?_) | refine m_eff0 rfl (e_store1 (by rfl) rfl rfl rfl (by repeat' (first | exact Take.here | apply Take.there)) (by first | decide | (simp <;> omega) | omega)) (fun _ _ => ?_)
   rintro rfl
   refine ⟨.none (by kernel_rfl), ?_⟩
   refine m_nil ?_
   refine g_qt <| g_seq <| g_region ?_
   refine g_fa ?_
   first | refine g_eff0 (e_storeO rfl rfl (by rfl) (by rfl) (by rfl) (by repeat' (first | exact Take.here | apply Take.there)) (by rfl)) (fun _ _ => ?_) | refine g_eff0 (e_store1 (by rfl) rfl rfl rfl (by repeat' (first | exact Take.here | apply Take.there)) (by first | decide | (simp <;> omega) | omega)) (fun _ _ => ?_)
   rintro rfl
   refine g_nil <| g_qt <| g_seq <| g_region ?_
   first | refine g_pure (p_loadO (by rfl) rfl (by first | (apply Has.own; (repeat' (first | exact Take.here | apply Take.there)); done) | exact Has.ro (by assumption)) (by rfl)) rfl ?_ | refine g_pure (p_loadN (by rfl) rfl (by first | (apply Has.own; (repeat' (first | exact Take.here | apply Take.there)); done) | exact Has.ro (by assumption)) (by first | rfl | assumption)) rfl ?_
   first | refine g_eff0 (e_storeO rfl rfl (by rfl) (by rfl) (by rfl) (by repeat' (first | exact Take.here | apply Take.there)) (by rfl)) (fun _ _ => ?_) | refine g_eff0 (e_storeN rfl rfl (by rfl) (by rfl) (by rfl) (by repeat' (first | exact Take.here | apply Take.there)) (by simp)) (fun _ _ => ?_)
   rintro rfl
   refine g_as ?_
   refine g_nil <| g_qt <| g_ret <| g_qt_ret ?_
   rw [show Q.flatMap rowO ++ [Value.string (strB nm), .slice none 0 0, .slice none 0 0, .int .i64 0, .slice none 0 0, .slice none 0 0] = Q.flatMap rowO ++ rowO (((none, 0), (none, 0), (none, 0), none, 0), (nm, [], [], 0, [], [])) from rfl, hQl]
   refine g_ownnil (e := 3) (size := 1) ?_
   refine g_ownnil (e := 3) (size := 1) ?_
   refine g_ownnil (e := 3) (size := 1) ?_
   refine g_ownnil (e := 32) (size := 5) ?_
   refine g_unfocus (TI := 3) (TC := 32) (TR := 45) (ea := ea) (ec := ec) (es := es) (Q := Q) (((none, 0), (none, 0), (none, 0), none, 0), (nm, [], [], 0, [], [])) hQ (by repeat' (first | exact Take.here | apply Take.there)) (by repeat' (first | exact Take.here | apply Take.there)) (by repeat' (first | exact Take.here | apply Take.there)) (by repeat' (first | exact Take.here | apply Take.there)) (by repeat' (first | exact Take.here | apply Take.there)) (by repeat' (first | exact Take.here | apply Take.there)) (by repeat' (first | exact Take.here | apply Take.there)) ?_
   exact g_postA (Ho := [OwnIm 3 32 45 ea a79 ec c79 (es, done ++ [(nm, [], [], 0, [], [])])]) (rs := [.cell 4 77, .tmp 5]) rfl (Res.cellN (by rfl) rfl (Has.own (by repeat' (first | exact Take.here | apply Take.there))) (by rfl) (.tmp rfl .nil)) (next_some hst rfl (by simp [listO, hQl]) rfl rfl)
  ·have hst := s2 hwd hw1
   refine con_intro Tryz.func54 Tryz.call54 rfl Tryz.ntmps54 rfl (L := [(0, _), (1, _)]) rfl fun w hh => ?_
   refine g_seq <| g_region ?_
   refine g_eff (e_box rfl (by rfl)) rfl (fun _ _ => ?_)
   rintro ⟨b2, rfl, rfl⟩
   refine g_eff (e_alloc (by rfl)) rfl (fun _ _ => ?_)
   rintro ⟨b4, rfl, rfl⟩
   refine g_as ?_
   refine g_nil <| g_qt <| g_seq <| g_region ?_
   refine g_eff (e_bs (xs := [.const (.string (⟨#[101, 110, 117, 109, 115]⟩)), .const (.string (⟨#[114, 111, 117, 116, 105, 110, 101]⟩)), .const (.string (⟨#[105, 110]⟩)), .const (.string (⟨#[111, 117, 116]⟩)), .const (.string (⟨#[114, 101, 103, 115]⟩)), .const (.string (⟨#[105, 110, 105, 116]⟩))]) rfl rfl rfl (by rfl) (by rfl) rfl (by rfl)) rfl (fun _ _ => ?_)
   rintro ⟨b12, rfl, rfl⟩
   refine g_as ?_
   refine g_nil <| g_qt <| g_seq <| g_region ?_
   refine g_fa ?_
   refine g_fa ?_
   refine g_ld ?_
   refine g_pure (p_len (by rfl) rfl) rfl ?_
   first | refine g_pure (p_subi rfl rfl (by omega)) rfl ?_ | refine g_pure (p_sub rfl rfl) rfl ?_
   refine g_as ?_
   refine g_nil <| g_qt <| g_seq <| g_seq <| g_region ?_
   refine g_fa ?_
   refine g_ld ?_
   refine g_pure (p_eqlF rfl rfl (by decide)) rfl ?_
   refine g_nil <| g_qt ?_
   refine g_iff rfl ?_
   refine g_skip <| g_qt <| g_seq <| g_seq ?_
   refine m_begin0 (.fl 0 0 (.fl 1 0 (.fl 2 1 (.fl 3 0 (.fl 4 0 (.fl 5 1 (.fl 6 0 (.fl 7 1 (.fl 8 0 .done))))))))) (by kernel_rfl) (by kernel_rfl) ?_
   refine m_float0 rfl (fun _ _ => p_move rfl) rfl ?_
   refine m_float0 rfl (fun _ _ => p_indexAddr rfl rfl (by omega) (fun _ => rfl)) rfl ?_
   refine m_float rfl (p_load (v := .string (strB w0)) (by rfl) rfl (Has.ro hb) (by rfl)) rfl ?_
   refine m_float0 rfl (fun _ _ => p_move rfl) rfl ?_
   refine m_float0 rfl (fun _ _ => p_fieldAddr rfl) rfl ?_
   refine m_float rfl (p_loadA) rfl ?_
   refine m_float0 rfl (fun _ _ => p_indexAddr rfl rfl (by decide) (fun _ => rfl)) rfl ?_
   refine m_float rfl (p_load (v := .string (strB routW)) (by rfl) rfl (Has.own (by repeat' (first | exact Take.here | apply Take.there))) (by rfl)) rfl ?_
   refine m_float0 rfl (fun _ _ => p_neqsF (by rfl) rfl rfl (by rw [hwd])) rfl ?_
   refine m_nil ?_
   refine g_qt ?_
   refine g_iff rfl ?_
   refine g_skip <| g_qt <| g_seq <| g_seq <| g_region ?_
   refine g_fa ?_
   refine g_ld ?_
   refine g_pure (p_eqlT rfl rfl rfl) rfl ?_
   refine g_nil <| g_qt ?_
   refine g_ift rfl ?_
   refine g_seq <| g_seq <| g_region ?_
   refine g_mv ?_
   refine g_pure (p_len (by rfl) rfl) rfl ?_
   refine g_pure (p_neqT rfl rfl (by omega)) rfl ?_
   refine g_nil <| g_qt ?_
   refine g_ift rfl ?_
   refine g_seq <| g_region ?_
   first | refine g_pure (p_loadO (by rfl) rfl (by first | (apply Has.own; (repeat' (first | exact Take.here | apply Take.there)); done) | exact Has.ro (by assumption)) (by rfl)) rfl ?_ | refine g_pure (p_loadN (by rfl) rfl (by first | (apply Has.own; (repeat' (first | exact Take.here | apply Take.there)); done) | exact Has.ro (by assumption)) (by first | rfl | assumption)) rfl ?_
   first | refine g_eff0 (e_storeO rfl rfl (by rfl) (by rfl) (by rfl) (by repeat' (first | exact Take.here | apply Take.there)) (by rfl)) (fun _ _ => ?_) | refine g_eff0 (e_storeN rfl rfl (by rfl) (by rfl) (by rfl) (by repeat' (first | exact Take.here | apply Take.there)) (by simp)) (fun _ _ => ?_)
   rintro rfl
   refine g_as ?_
   refine g_nil <| g_qt <| g_ret <| g_qt_ret <| g_qt_ret ?_
   exact g_postA (Ho := []) (rs := [.cell 4 77, .tmp 5]) rfl (Res.cellN (by rfl) rfl (Has.own (by repeat' (first | exact Take.here | apply Take.there))) (by rfl) (.tmp rfl .nil)) (next_none hst _ _ _ _ _ _ _)
 ·refine con_intro Tryz.func54 Tryz.call54 rfl Tryz.ntmps54 rfl (L := [(0, _), (1, _)]) rfl fun w hh => ?_
  refine g_seq <| g_region ?_
  refine g_eff (e_box rfl (by rfl)) rfl (fun _ _ => ?_)
  rintro ⟨b2, rfl, rfl⟩
  refine g_eff (e_alloc (by rfl)) rfl (fun _ _ => ?_)
  rintro ⟨b4, rfl, rfl⟩
  refine g_as ?_
  refine g_nil <| g_qt <| g_seq <| g_region ?_
  refine g_eff (e_bs (xs := [.const (.string (⟨#[101, 110, 117, 109, 115]⟩)), .const (.string (⟨#[114, 111, 117, 116, 105, 110, 101]⟩)), .const (.string (⟨#[105, 110]⟩)), .const (.string (⟨#[111, 117, 116]⟩)), .const (.string (⟨#[114, 101, 103, 115]⟩)), .const (.string (⟨#[105, 110, 105, 116]⟩))]) rfl rfl rfl (by rfl) (by rfl) rfl (by rfl)) rfl (fun _ _ => ?_)
  rintro ⟨b12, rfl, rfl⟩
  refine g_as ?_
  refine g_nil <| g_qt <| g_seq <| g_region ?_
  refine g_fa ?_
  refine g_fa ?_
  refine g_ld ?_
  refine g_pure (p_len (by rfl) rfl) rfl ?_
  first | refine g_pure (p_subi rfl rfl (by omega)) rfl ?_ | refine g_pure (p_sub rfl rfl) rfl ?_
  refine g_as ?_
  refine g_nil <| g_qt <| g_seq <| g_seq <| g_region ?_
  refine g_fa ?_
  refine g_ld ?_
  refine g_pure (p_eqlF rfl rfl (by decide)) rfl ?_
  refine g_nil <| g_qt ?_
  refine g_iff rfl ?_
  refine g_skip <| g_qt <| g_seq <| g_seq ?_
  refine m_begin0 (.fl 0 0 (.fl 1 0 (.fl 2 1 (.fl 3 0 (.fl 4 0 (.fl 5 1 (.fl 6 0 (.fl 7 1 (.fl 8 0 .done))))))))) (by kernel_rfl) (by kernel_rfl) ?_
  refine m_float0 rfl (fun _ _ => p_move rfl) rfl ?_
  refine m_float0 rfl (fun _ _ => p_indexAddr rfl rfl (by omega) (fun _ => rfl)) rfl ?_
  refine m_float rfl (p_load (v := .string (strB w0)) (by rfl) rfl (Has.ro hb) (by rfl)) rfl ?_
  refine m_float0 rfl (fun _ _ => p_move rfl) rfl ?_
  refine m_float0 rfl (fun _ _ => p_fieldAddr rfl) rfl ?_
  refine m_float rfl (p_loadA) rfl ?_
  refine m_float0 rfl (fun _ _ => p_indexAddr rfl rfl (by decide) (fun _ => rfl)) rfl ?_
  refine m_float rfl (p_load (v := .string (strB routW)) (by rfl) rfl (Has.own (by repeat' (first | exact Take.here | apply Take.there))) (by rfl)) rfl ?_
  refine m_float0 rfl (fun _ _ => p_neqsT (by rfl) rfl rfl (fun e => hwd (strB_inj.1 e))) rfl ?_
  refine m_nil ?_
  refine g_qt ?_
  refine g_ift rfl ?_
  refine g_seq <| g_region ?_
  first | refine g_pure (p_loadO (by rfl) rfl (by first | (apply Has.own; (repeat' (first | exact Take.here | apply Take.there)); done) | exact Has.ro (by assumption)) (by rfl)) rfl ?_ | refine g_pure (p_loadN (by rfl) rfl (by first | (apply Has.own; (repeat' (first | exact Take.here | apply Take.there)); done) | exact Has.ro (by assumption)) (by first | rfl | assumption)) rfl ?_
  first | refine g_eff0 (e_storeO rfl rfl (by rfl) (by rfl) (by rfl) (by repeat' (first | exact Take.here | apply Take.there)) (by rfl)) (fun _ _ => ?_) | refine g_eff0 (e_storeN rfl rfl (by rfl) (by rfl) (by rfl) (by repeat' (first | exact Take.here | apply Take.there)) (by simp)) (fun _ _ => ?_)
  rintro rfl
  refine g_as ?_
  refine g_nil <| g_qt <| g_ret <| g_qt_ret ?_
  exact g_postA (Ho := []) (rs := [.cell 4 77, .tmp 5]) rfl (Res.cellN (by rfl) rfl (Has.own (by repeat' (first | exact Take.here | apply Take.there))) (by rfl) (.tmp rfl .nil)) (next_none (s1 hwd) _ _ _ _ _ _ _)

theorem next_any {ρ : Nat → Obj → Prop} {ea ra : Option Addr} {ec rc : Nat} {p : PS} (hp : p.2.2.2 ≤ 6) (hdl : p.2.1.length ≤ 5000000) (hcl : p.2.2.1.2.2.2.2.2.length ≤ 5000000) {wb wc : Nat} (w0 : List UInt8) (W : List (List UInt8)) {T : TypeId} {fz : Nat × Nat} {tl : List Value} (hb : ρ wb (.cells ((w0 :: W).map strV ++ tl).toArray T fz)) (hl : W.length ≤ 4294967296) (hlen : ∀ w ∈ W, w.length ≤ 4294967296) (hwc : (w0 :: W).length ≤ wc) (hn : [] ∉ w0 :: W) :
  Con Tryz.prog ρ 54 #[.agg #[.slice ea p.1.length ec, .slice ra (listO p).length rc, .int .i64 p.2.2.2], .slice (some ⟨wb, 0, none⟩) (w0 :: W).length wc] [OwnIm 3 32 45 ea ra ec rc (p.1, listO p)]
  (NextPost 3 32 45 p (w0 :: W)) := by
 obtain ⟨es, done, cur, w⟩ := p
 dsimp only at hp hdl hcl ⊢
 have hw : w = 0 ∨ w = 1 ∨ w = 2 ∨ w = 3 ∨ w = 4 ∨ w = 5 ∨ w = 6 := by omega
 rcases hw with rfl | rfl | rfl | rfl | rfl | rfl | rfl
 ·exact next0_ok w0 W hb hl hlen hwc hn
 ·exact next1_ok hdl w0 W hb hl hwc hn
 ·exact next2_ok hdl w0 W hb hl hlen hwc hn
 ·exact next3_ok hdl w0 W hb hl hlen hwc hn
 ·exact next4_ok hdl w0 W hb hl hlen hwc hn
 ·exact next5_ok hdl w0 W hb hl hlen hwc hn
 ·exact next6_ok hdl hcl w0 W hb hl hlen hwc hn
end Go.Proofs.YtcnfcoojmbjdlaaGreatDoor
/- Chapter 26: a text read by the document. Conditions: none. -/
namespace Go.Z.Asm
set_option maxRecDepth 8000
set_option linter.unusedVariables false
set_option linter.unusedSimpArgs false
set_option linter.unusedSectionVars false
open Go Go.Z Go.Lib Go.Z.Txt Go.Z.Val
theorem line_hit {s : List UInt8} {f i : Nat} (hf : f ≤ i) (hi : i < s.length) (hc : s[i] = 10) (hn : (10 : UInt8) ∉ (s.drop f).take (i - f)) : pieces 10 (s.drop f) = (s.drop f).take (i - f) :: pieces 10 (s.drop (i + 1)) := by
 have e : s.drop f = (s.drop f).take (i - f) ++ 10 :: s.drop (i + 1) := by
  have h1 : (s.drop f).drop (i - f) = s.drop i := by rw [List.drop_drop]; congr 1; omega
  rw [← hc, ← List.drop_eq_getElem_cons hi, ← h1, List.take_append_drop]
 conv => lhs; rw [e]
 exact pieces_hit _ hn
theorem line_miss {s : List UInt8} {f i : Nat} (hf : f ≤ i) (hi : i < s.length) (hc : s[i] ≠ 10) (hn : (10 : UInt8) ∉ (s.drop f).take (i - f)) : (10 : UInt8) ∉ (s.drop f).take (i + 1 - f) := by
 rw [show i + 1 - f = (i - f) + 1 by omega, List.take_add_one, List.getElem?_drop, show f + (i - f) = i by omega, List.getElem?_eq_getElem hi]
 simp only [Option.toList_some, List.mem_append, List.mem_singleton, not_or]
 exact ⟨hn, fun h => hc h.symm⟩
theorem line_end {s : List UInt8} {f : Nat} (hn : (10 : UInt8) ∉ (s.drop f).take (s.length - f)) : pieces 10 (s.drop f) = [s.drop f] := by
 rw [List.take_of_length_le (by rw [List.length_drop]; omega)] at hn
 exact pieces_free hn
theorem step_sizes {p q : PS} {W : List (List UInt8)} (h : stepL p W = some q) (hp : p.2.2.2 ≤ 6) : q.2.2.2 ≤ 6 ∧ q.2.1.length ≤ p.2.1.length + 1 ∧ q.2.2.1.2.2.2.2.2.length ≤ p.2.2.1.2.2.2.2.2.length + 1 := by
 obtain ⟨es, done, cur, w⟩ := p
 dsimp only at hp
 unfold stepL at h
 dsimp only at h
 split at h
 ·cases h
 ·split at h
  ·split at h
   ·split at h
    ·injection h with h
     subst h
     exact ⟨show 1 ≤ 6 by decide, by simp [endP], by simp [endP]⟩
    ·cases h
   ·cases e : insV W with
    | none => rw [e] at h; cases h
    | some i =>
     rw [e] at h
     injection h with h
     subst h
     exact ⟨show 6 ≤ 6 by decide, by simp [addI], by simp [addI]⟩
  ·split at h
   ·cases h
   ·split at h
    ·split at h
     ·injection h with h
      subst h
      exact ⟨show 2 ≤ 6 by decide, by simp [newP], by simp [newP]⟩
     ·cases h
    ·rename_i hw6 _ hw1
     cases e : numsO W.tail with
     | none => rw [e] at h; cases h
     | some v =>
      rw [e] at h
      dsimp only at h
      split at h
      ·cases h
      ·injection h with h
       subst h
       unfold putW
       dsimp only
       split
       ·exact ⟨show 1 ≤ 6 by decide, by simp, by simp⟩
       ·refine ⟨by dsimp only; omega, by simp, ?_⟩
        dsimp only
        split
        ·simp
        ·split
         ·simp
         ·split <;> simp
theorem read_err : ∀ (ls : List (List UInt8)) (p : PS) (n : Nat) (e : Int × Int), readL p ls n = .error e → e.2 = 4 ∨ e.2 = 5
 | [], p, n, e, h => by injection h with h; rw [← h]; exact .inl rfl
 | [l], p, n, e, h => by
  rw [readL_one] at h
  split at h
  ·cases h
  ·injection h with h; rw [← h]; exact .inl rfl
 | l :: m :: r, p, n, e, h => by
  rw [readL_cons] at h
  cases e1 : stepL p (pieces 32 l) with
  | none => rw [e1] at h; injection h with h; rw [← h]; exact .inr rfl
  | some q => rw [e1] at h; exact read_err (m :: r) q (n + 1) e h
theorem out_ok {s : List UInt8} {o : Im × Int × Int} (h : outP (parseR s) = o) (h0 : o.2.2 = 0) : ∃ im, parseR s = .ok im ∧ checkP im = 0 ∧ o.1 = im := by
 cases e : parseR s with
 | error x =>
  rw [e] at h
  have h1 : o.2.2 = x.2 := by rw [← h]; rfl
  rcases read_err _ _ _ _ e with h2 | h2 <;> omega
 | ok im =>
  rw [e] at h
  unfold outP at h
  dsimp only at h
  by_cases hc : checkP im = 0
  ·rw [if_pos hc] at h
   exact ⟨im, rfl, hc, by rw [← h]⟩
  ·rw [if_neg hc] at h
   rw [← h] at h0
   exact absurd h0 hc
theorem out_bounds {s : List UInt8} {o : Im × Int × Int} (h : outP (parseR s) = o) (hs : s.length ≤ 4194304) : o.1.1.length ≤ 17592186044416 ∧ o.1.2.length ≤ 17592186044416 ∧ (∀ v ∈ o.1.1, I64 v) ∧ ∀ x ∈ o.1.2, RtOk x := by
 have hnil : ((([] : List Int), ([] : List Rt)).1.length ≤ 17592186044416 ∧ (([] : List Int), ([] : List Rt)).2.length ≤ 17592186044416 ∧ (∀ v ∈ (([] : List Int), ([] : List Rt)).1, I64 v) ∧ ∀ x ∈ (([] : List Int), ([] : List Rt)).2, RtOk x) :=
  ⟨by simp, by simp, fun v h => absurd h List.not_mem_nil, fun v h => absurd h List.not_mem_nil⟩
 cases e : parseR s with
 | error x => rw [e] at h; rw [← h]; exact hnil
 | ok im =>
  rw [e] at h
  unfold outP at h
  dsimp only at h
  by_cases hc : checkP im = 0
  ·rw [if_pos hc] at h
   rw [← h]; exact read_bounds e hs
  ·rw [if_neg hc] at h
   rw [← h]; exact hnil
end Go.Z.Asm
namespace Go.Proofs.YtcnfcoojmbjdlaaGreatDoor
set_option maxRecDepth 8000
set_option linter.unusedVariables false
set_option linter.unusedSimpArgs false
set_option linter.unusedSectionVars false
open Go Go.Z Go.Z.Asm Go.RowKit Go.Z.Val Go.Z.Txt

set_option maxHeartbeats 400000 in
theorem rparse_ok {ρ : Nat → Obj → Prop} (s : List UInt8) (hs : s.length ≤ 4194304) {o : Im × Int × Int} (ho : outP (parseR s) = o) :
  Con Tryz.prog ρ 26 #[.string (strB s)] [] (fun v H => ∃ ea ec ra rc, v = .tuple #[.agg #[.slice ea o.1.1.length ec, .slice ra o.1.2.length rc], .int .i64 o.2.1, .int .i64 o.2.2] ∧ H = [OwnIm 3 32 45 ea ra ec rc o.1]) := by
 have hsz : (strB s).size = s.length := rfl
 obtain ⟨R, hR⟩ : ∃ R, parseR s = R := ⟨_, rfl⟩
 have hbd := fun im (h : R = .ok im) => read_bounds (hR.trans h) hs
 have hR0 : R = readL startP (pieces 10 (s.drop 0)) 0 := hR.symm
 rw [hR] at ho
 refine con_intro Tryz.func26 Tryz.call26 rfl Tryz.ntmps26 rfl (L := [(0, _)]) rfl fun w hh => ?_
 refine g_seq <| g_region ?_
 refine g_eff (e_alloc (by rfl)) rfl (fun _ _ => ?_)
 rintro ⟨b2, rfl, rfl⟩
 refine g_as ?_
 refine g_as ?_
 refine g_nil <| g_qt <| g_seq <| g_seq <| g_region ?_
 refine g_mv ?_
 refine g_pure (p_lens (by rfl) rfl) rfl ?_
 refine g_pure (p_gtr rfl rfl) rfl ?_
 refine g_nil <| g_qt ?_
 refine g_ifd rfl (fun q0 => ?_) (fun q0 => ?_)
 ·exfalso; omega
 ·refine g_skip <| g_qt <| g_seq <| g_region ?_
  refine g_pure (p_build (by rfl) rfl (by rfl)) rfl ?_
  refine g_eff (e_alloc (by rfl)) rfl (fun _ _ => ?_)
  rintro ⟨b5, rfl, rfl⟩
  first | refine g_eff0 (e_storeO rfl rfl (by rfl) (by rfl) (by rfl) (by repeat' (first | exact Take.here | apply Take.there)) (by rfl)) (fun _ _ => ?_) | refine g_eff0 (e_storeN rfl rfl (by rfl) (by rfl) (by rfl) (by repeat' (first | exact Take.here | apply Take.there)) (by simp)) (fun _ _ => ?_)
  rintro rfl
  refine g_nil <| g_qt <| g_seq <| g_region ?_
  refine g_as ?_
  refine g_as ?_
  refine g_nil <| g_qt <| g_seq <| g_block ?_
  refine g_emp (own_empty 3 32 45) ?_
  refine g_loop (fun q : Nat × Nat × PS × (Option Addr × Nat) × (Option Addr × Nat) => [(0, .string (strB s)), (2, .pointer (some ⟨b2, 0, none⟩)), (5, .pointer (some ⟨b5, 0, none⟩)), (6, .int .i64 q.1), (7, .int .i64 q.2.1)])
   (fun q => [OwnIm 3 32 45 q.2.2.2.1.1 q.2.2.2.2.1 q.2.2.2.1.2 q.2.2.2.2.2 (q.2.2.1.1, listO q.2.2.1), Blk b5 (.cells [.slice q.2.2.2.1.1 q.2.2.1.1.length q.2.2.2.1.2, .slice q.2.2.2.2.1 (listO q.2.2.1).length q.2.2.2.2.2, .int .i64 q.2.2.1.2.2.2].toArray 77 (0, 0)), Blk b2 (.cells [.slice none 0 0, .slice none 0 0].toArray 25 (0, 0))])
   (fun q => q.1 ≤ s.length ∧ q.2.1 ≤ q.1 ∧ R = readL q.2.2.1 (pieces 10 (s.drop q.1)) q.2.1 ∧ q.2.2.1.2.2.2 ≤ 6 ∧ q.2.2.1.2.1.length ≤ q.2.1 ∧ q.2.2.1.2.2.1.2.2.2.2.2.length ≤ q.2.1) (fun q => s.length + 1 - q.1) (0, 0, startP, (none, 0), (none, 0)) ⟨Nat.zero_le _, Nat.le_refl 0, hR0, by decide, Nat.le_refl 0, Nat.le_refl 0⟩ (by (repeat (first | exact trivial | refine ⟨by rfl, ?_⟩)); done) (by repeat' (first | exact Cover.nil | exact Take.here | apply Cover.cons | apply Take.there)) ?_
  rintro ⟨at', no, p, ⟨ea, ec⟩, ⟨ra, rc⟩⟩ ⟨ha1, ha2, hRp, hp6, hpd, hpc⟩
  dsimp only at ha1 ha2 hRp hp6 hpd hpc ⊢
  have hbool : (!decide ((p.2.2.2 : Int) = 1)) = false → p.2.2.2 = 1 := fun h => by
   simp at h
   omega
  refine g_seq <| g_seq ?_
  refine g_join (fun b : Bool => [(0, .string (strB s)), (2, .pointer (some ⟨b2, 0, none⟩)), (5, .pointer (some ⟨b5, 0, none⟩)), (6, .int .i64 at'), (7, .int .i64 no), (25, .bool b)])
   (fun _ => [OwnIm 3 32 45 ea ra ec rc (p.1, listO p), Blk b5 (.cells [.slice ea p.1.length ec, .slice ra (listO p).length rc, .int .i64 p.2.2.2].toArray 77 (0, 0)), Blk b2 (.cells [.slice none 0 0, .slice none 0 0].toArray 25 (0, 0))]) (fun b => (b = true → at' < s.length ∨ p.2.2.2 ≠ 1) ∧ (b = false → at' = s.length ∧ p.2.2.2 = 1)) ?_ ?_
  ·refine g_region ?_
   refine g_mv ?_
   refine g_mv ?_
   refine g_pure (p_lens (by rfl) rfl) rfl ?_
   refine g_pure (p_lss rfl rfl) rfl ?_
   refine g_mv ?_
   refine g_splitd rfl rfl (fun h1 => ?_) (fun h1 => ?_)
   ·refine g_noA ?_
    refine g_noA ?_
    refine g_noA ?_
    first | refine g_pkt ?_ | refine g_pkf ?_
    refine g_nil <| g_qn ?_
    exact g_joinedA true ⟨fun _ => .inl (by omega), fun h => by cases h⟩
   ·refine g_yesA ?_
    refine g_fa ?_
    refine g_yesA ?_
    refine g_ld ?_
    refine g_yesA ?_
    refine g_pure (p_neq rfl rfl) rfl ?_
    first | refine g_pkt ?_ | refine g_pkf ?_
    refine g_nil <| g_qn ?_
    exact g_joinedA (!decide ((p.2.2.2 : Int) = 1)) ⟨fun h => .inr (fun h2 => by rw [h2] at h; exact absurd h (by decide)), fun h => ⟨by omega, hbool h⟩⟩
  rintro b ⟨hb1, hb2⟩
  refine g_qt ?_
  refine g_if rfl (fun hbb => ?_) (fun hbb => ?_)
  ·have hcond := hb1 hbb
   refine g_skip <| g_qt <| g_block <| g_seq <| g_region ?_
   refine g_mv ?_
   first | refine g_pure (p_addi rfl rfl (by omega)) rfl ?_ | refine g_pure (p_add rfl rfl) rfl ?_
   refine g_as ?_
   refine g_nil <| g_qt <| g_seq <| g_region ?_
   refine g_mv ?_
   refine g_as ?_
   refine g_nil <| g_qt <| g_seq <| g_block ?_
   refine g_loop (fun e : Nat => [(0, .string (strB s)), (2, .pointer (some ⟨b2, 0, none⟩)), (5, .pointer (some ⟨b5, 0, none⟩)), (6, .int .i64 at'), (7, .int .i64 ((no : Int) + 1)), (8, .int .i64 e)])
    (fun _ => [OwnIm 3 32 45 ea ra ec rc (p.1, listO p), Blk b5 (.cells [.slice ea p.1.length ec, .slice ra (listO p).length rc, .int .i64 p.2.2.2].toArray 77 (0, 0)), Blk b2 (.cells [.slice none 0 0, .slice none 0 0].toArray 25 (0, 0))])
    (fun e => (at' ≤ e ∧ e ≤ s.length) ∧ (10 : UInt8) ∉ (s.drop at').take (e - at')) (fun e => s.length - e) at' ⟨⟨Nat.le_refl _, ha1⟩, by simp⟩ (by (repeat (first | exact trivial | refine ⟨by rfl, ?_⟩)); done) (by repeat' (first | exact Cover.nil | exact Take.here | apply Cover.cons | apply Take.there)) ?_
   rintro e ⟨⟨he1, he2⟩, he3⟩
   refine g_seq <| g_seq <| g_region ?_
   refine g_mv ?_
   refine g_mv ?_
   refine g_pure (p_lens (by rfl) rfl) rfl ?_
   refine g_pure (p_lss rfl rfl) rfl ?_
   refine g_mv ?_
   refine g_splitd rfl rfl (fun h3 => ?_) (fun h3 => ?_)
   ·have hel : e < s.length := by omega
    have hx := strB_at s hel
    have hmiss := line_miss (f := at') he1 hel
    have hhit := line_hit (f := at') he1 hel
    have h10 : (s[e].toNat : Int) = 10 ↔ s[e] = 10 := u8_eq (c := s[e]) (m := 10) (by decide)
    refine g_yesA ?_
    refine g_mv ?_
    refine g_yesA ?_
    refine g_mv ?_
    refine g_yesA ?_
    refine g_pure (p_indexs (by rfl) rfl rfl (by omega) hx) rfl ?_
    refine g_yesA ?_
    refine g_pure (p_neq rfl rfl) rfl ?_
    first | refine g_pkt ?_ | refine g_pkf ?_
    refine g_nil <| g_qt ?_
    refine g_ifnd rfl (fun h4 => ?_) (fun h4 => ?_)
    ·refine g_skip <| g_qt <| g_block <| g_region ?_
     refine g_mv ?_
     first | refine g_pure (p_addi rfl rfl (by omega)) rfl ?_ | refine g_pure (p_add rfl rfl) rfl ?_
     refine g_as ?_
     refine g_nil <| g_qb <| g_qn ?_
     exact g_nextA (e + 1) ⟨⟨by omega, hel⟩, hmiss (fun h => h4 (h10.2 h)) he3⟩ (by omega)
    ·have hpc10 := hhit (h10.1 h4) he3
     obtain ⟨line, hline⟩ : ∃ line, (s.drop at').take (e - at') = line := ⟨_, rfl⟩
     rw [hline] at hpc10
     have hll : line.length ≤ s.length := by rw [← hline, List.length_take, List.length_drop]; omega
     obtain ⟨m, r, hmr⟩ : ∃ m r, pieces 10 (s.drop (e + 1)) = m :: r := by
      cases h : pieces 10 (s.drop (e + 1)) with
      | nil => exact absurd h (pieces_ne _ _)
      | cons m r => exact ⟨m, r, rfl⟩
     have hRn : stepL p (pieces 32 line) = none → R = .error ((no : Int) + 1, 5) := fun h => by rw [hRp, hpc10, hmr, readL_cons, h]
     have hRs : ∀ q, stepL p (pieces 32 line) = some q → R = readL q (pieces 10 (s.drop (e + 1))) (no + 1) := fun q h => by rw [hRp, hpc10, hmr, readL_cons, h]
     refine g_exit <| g_qt_exit <| g_qn_exit <| g_qb_exit <| g_qt <| g_seq <| g_seq <| g_region ?_
     refine g_mv ?_
     refine g_mv ?_
     refine g_pure (p_lens (by rfl) rfl) rfl ?_
     refine g_pure (p_geq rfl rfl) rfl ?_
     refine g_nil <| g_qt ?_
     refine g_ifd rfl (fun h5 => ?_) (fun h5 => ?_)
     ·exfalso; omega
     ·refine g_skip <| g_qt <| g_seq <| g_region ?_
      refine g_mv ?_
      refine g_mv ?_
      refine g_mv ?_
      refine g_pure (p_slices (l := s) (by rfl) rfl rfl rfl (by omega) (by omega)) rfl ?_
      rw [show (⟨((s.drop (at' : Int).toNat).take ((e : Int).toNat - (at' : Int).toNat)).toArray⟩ : ByteArray) = strB line by rw [Int.toNat_natCast, Int.toNat_natCast, hline]; rfl]
      by_cases hm : [] ∈ pieces 32 line
      ·have cS := fun {ρ' : Nat → Obj → Prop} => (rsplit_ok (ρ := ρ') line (by omega)).mono fun v H h => h.1 hm
       have hst : stepL p (pieces 32 line) = none := by unfold stepL; rw [if_pos hm]
       have hRstep := hRn hst
       have ho' : o = (([], []), (no : Int) + 1, 5) := by rw [← ho, hRstep]; rfl
       subst ho'
       refine g_call (Hin := []) (Hr := ?hr1) (R := ?rr1) rfl rfl rfl ?hin1 ?hc1 ?hk1
       case hin1 => repeat' (first | exact Cover.nil | exact Take.here | apply Cover.cons | apply Take.there)
       case hc1 => intro ρ' hρ hR; exact cS
       rintro _ _ ⟨rfl, rfl⟩
       refine g_mv ?_
       refine g_pure (p_extract rfl rfl) rfl ?_
       refine g_pure (p_extract rfl rfl) rfl ?_
       refine g_as ?_
       refine g_as ?_
       refine g_nil <| g_qt <| g_seq <| g_seq <| g_region ?_
       refine g_mv ?_
       refine g_nil <| g_qt ?_
       refine g_iff rfl ?_
       refine g_skip <| g_qt <| g_seq <| g_seq <| g_region ?_
       refine g_mv ?_
       refine g_pure (p_not rfl) rfl ?_
       refine g_nil <| g_qt ?_
       refine g_ift rfl ?_
       refine g_seq <| g_region ?_
       refine g_pure (p_build (by rfl) rfl (by rfl)) rfl ?_
       refine g_mv ?_
       first | refine g_eff0 (e_storeO rfl rfl (by rfl) (by rfl) (by rfl) (by repeat' (first | exact Take.here | apply Take.there)) (by rfl)) (fun _ _ => ?_) | refine g_eff0 (e_storeN rfl rfl (by rfl) (by rfl) (by rfl) (by repeat' (first | exact Take.here | apply Take.there)) (by simp)) (fun _ _ => ?_)
       rintro rfl
       refine g_as ?_
       refine g_as ?_
       refine g_nil <| g_qt <| g_ret <| g_qt_ret <| g_qb_ret <| g_qn_ret <| g_qb_ret <| g_qt_ret ?_
       refine g_emp (own_empty 3 32 45) ?_
       exact g_postA (rs := [.cell 2 25, .tmp 3, .tmp 4]) rfl (Res.cellN (by rfl) rfl (Has.own (by repeat' (first | exact Take.here | apply Take.there))) (by rfl) (.tmp rfl (.tmp rfl .nil))) ⟨none, 0, none, 0, rfl, rfl⟩
      ·have cS := fun {ρ' : Nat → Obj → Prop} => (rsplit_ok (ρ := ρ') line (by omega)).mono fun v H h => h.2 hm
       have hpl := pieces_le 32 line
       have hpm : ∀ w ∈ pieces 32 line, w.length ≤ 4294967296 := fun w hw => by have := (pieces_mem hw).2; omega
       have hpn := pieces_ne 32 line
       generalize hW : pieces 32 line = W at hm hRn hRs cS hpl hpm hpn
       match W, hpn with
       | w0 :: W, _ =>
       have hln : (w0 :: W).length = W.length + 1 := rfl
       refine g_call (Hin := []) (Hr := ?hr2) (R := ?rr2) rfl rfl rfl ?hin2 ?hc2 ?hk2
       case hin2 => repeat' (first | exact Cover.nil | exact Take.here | apply Cover.cons | apply Take.there)
       case hc2 => intro ρ' hρ hR; exact cS
       rintro _ _ ⟨wa, wcp, rfl, rfl⟩
       refine g_mv ?_
       refine g_pure (p_extract rfl rfl) rfl ?_
       refine g_pure (p_extract rfl rfl) rfl ?_
       refine g_as ?_
       refine g_as ?_
       refine g_nil <| g_qt <| g_seq <| g_seq <| g_region ?_
       refine g_mv ?_
       refine g_nil <| g_qt ?_
       refine g_own (e := 9) (size := 1) (a1 := wa) (k := (w0 :: W).length) (cap := wcp) (xs := (w0 :: W).map strV) (by repeat' (first | exact Take.here | apply Take.there)) (fun _ h _ _ => absurd h (by omega)) ?_
       rintro g cw rfl hc1 hc2 hcl htk hxl
       have hcw : cw = (w0 :: W).map strV ++ cw.drop ((w0 :: W).length * 1) := by rw [← htk, List.take_append_drop]
       generalize cw.drop ((w0 :: W).length * 1) = tl at hcw
       subst hcw
       have cX := fun {ρ' : Nat → Obj → Prop} (hb : ρ' g (.cells ((w0 :: W).map strV ++ tl).toArray 9 (0, 0))) => next_any (ea := ea) (ra := ra) (ec := ec) (rc := rc) (p := p) hp6 (by omega) (by omega) (wc := wcp) w0 W hb (by omega) (fun w hw => hpm w (List.mem_cons_of_mem _ hw)) hc1 hm
       unfold NextPost at cX
       rcases hst : stepL p (w0 :: W) with _ | q
       ·rw [hst] at cX
        have hRstep := hRn hst
        have ho' : o = (([], []), (no : Int) + 1, 5) := by rw [← ho, hRstep]; rfl
        subst ho'
        refine g_ift rfl ?_
        refine g_region ?_
        first | refine g_pure (p_loadO (by rfl) rfl (by first | (apply Has.own; (repeat' (first | exact Take.here | apply Take.there)); done) | exact Has.ro (by assumption)) (by rfl)) rfl ?_ | refine g_pure (p_loadN (by rfl) rfl (by first | (apply Has.own; (repeat' (first | exact Take.here | apply Take.there)); done) | exact Has.ro (by assumption)) (by first | rfl | assumption)) rfl ?_
        refine g_mv ?_
        refine g_call (Hin := [OwnIm 3 32 45 ea ra ec rc (p.1, listO p)]) (Hr := ?hr3) (R := ?rr3) rfl rfl rfl ?hin3 ?hc3 ?hk3
        case hin3 => repeat' (first | exact Cover.nil | exact Take.here | apply Cover.cons | apply Take.there)
        case hc3 => intro ρ' hρ hR; exact cX (Take.ro (A := Blk g (.cells ((w0 :: W).map strV ++ tl).toArray 9 (0, 0))) (by repeat' (first | exact Take.here | apply Take.there)) hR).blk
        rintro _ _ ⟨xa, xk, xc, yb, ym, yd, z, rfl, rfl⟩
        refine g_mv ?_
        refine g_pure (p_extract rfl rfl) rfl ?_
        refine g_pure (p_extract rfl rfl) rfl ?_
        first | refine g_eff0 (e_storeO rfl rfl (by rfl) (by rfl) (by rfl) (by repeat' (first | exact Take.here | apply Take.there)) (by rfl)) (fun _ _ => ?_) | refine g_eff0 (e_storeN rfl rfl (by rfl) (by rfl) (by rfl) (by repeat' (first | exact Take.here | apply Take.there)) (by simp)) (fun _ _ => ?_)
        rintro rfl
        refine g_as ?_
        refine g_nil <| g_qt <| g_seq <| g_seq <| g_region ?_
        refine g_mv ?_
        refine g_pure (p_not rfl) rfl ?_
        refine g_nil <| g_qt ?_
        refine g_ift rfl ?_
        refine g_seq <| g_region ?_
        refine g_pure (p_build (by rfl) rfl (by rfl)) rfl ?_
        refine g_mv ?_
        first | refine g_eff0 (e_storeO rfl rfl (by rfl) (by rfl) (by rfl) (by repeat' (first | exact Take.here | apply Take.there)) (by rfl)) (fun _ _ => ?_) | refine g_eff0 (e_storeN rfl rfl (by rfl) (by rfl) (by rfl) (by repeat' (first | exact Take.here | apply Take.there)) (by simp)) (fun _ _ => ?_)
        rintro rfl
        refine g_as ?_
        refine g_as ?_
        refine g_nil <| g_qt <| g_ret <| g_qt_ret <| g_qb_ret <| g_qn_ret <| g_qb_ret <| g_qt_ret ?_
        refine g_emp (own_empty 3 32 45) ?_
        exact g_postA (rs := [.cell 2 25, .tmp 3, .tmp 4]) rfl (Res.cellN (by rfl) rfl (Has.own (by repeat' (first | exact Take.here | apply Take.there))) (by rfl) (.tmp rfl (.tmp rfl .nil))) ⟨none, 0, none, 0, rfl, rfl⟩
       ·rw [hst] at cX
        have hRstep := hRs q hst
        obtain ⟨z1, z2, z3⟩ := step_sizes hst hp6
        refine g_ift rfl ?_
        refine g_region ?_
        first | refine g_pure (p_loadO (by rfl) rfl (by first | (apply Has.own; (repeat' (first | exact Take.here | apply Take.there)); done) | exact Has.ro (by assumption)) (by rfl)) rfl ?_ | refine g_pure (p_loadN (by rfl) rfl (by first | (apply Has.own; (repeat' (first | exact Take.here | apply Take.there)); done) | exact Has.ro (by assumption)) (by first | rfl | assumption)) rfl ?_
        refine g_mv ?_
        refine g_call (Hin := [OwnIm 3 32 45 ea ra ec rc (p.1, listO p)]) (Hr := ?hr4) (R := ?rr4) rfl rfl rfl ?hin4 ?hc4 ?hk4
        case hin4 => repeat' (first | exact Cover.nil | exact Take.here | apply Cover.cons | apply Take.there)
        case hc4 => intro ρ' hρ hR; exact cX (Take.ro (A := Blk g (.cells ((w0 :: W).map strV ++ tl).toArray 9 (0, 0))) (by repeat' (first | exact Take.here | apply Take.there)) hR).blk
        rintro _ _ ⟨xa, xc, ya, yc, rfl, rfl⟩
        refine g_mv ?_
        refine g_pure (p_extract rfl rfl) rfl ?_
        refine g_pure (p_extract rfl rfl) rfl ?_
        first | refine g_eff0 (e_storeO rfl rfl (by rfl) (by rfl) (by rfl) (by repeat' (first | exact Take.here | apply Take.there)) (by rfl)) (fun _ _ => ?_) | refine g_eff0 (e_storeN rfl rfl (by rfl) (by rfl) (by rfl) (by repeat' (first | exact Take.here | apply Take.there)) (by simp)) (fun _ _ => ?_)
        rintro rfl
        refine g_as ?_
        refine g_nil <| g_qt <| g_seq <| g_seq <| g_region ?_
        refine g_mv ?_
        refine g_pure (p_not rfl) rfl ?_
        refine g_nil <| g_qt ?_
        refine g_iff rfl ?_
        refine g_skip <| g_qt <| g_region ?_
        refine g_mv ?_
        first | refine g_pure (p_addi rfl rfl (by omega)) rfl ?_ | refine g_pure (p_add rfl rfl) rfl ?_
        refine g_as ?_
        refine g_nil <| g_qb <| g_qn ?_
        exact g_nextA (e + 1, no + 1, q, (xa, xc), (ya, yc)) ⟨hel, by dsimp only; omega, hRstep, z1, by dsimp only; omega, by dsimp only; omega⟩ (by dsimp only; omega)
   ·have hee : e = s.length := by omega
    subst hee
    have hpe := line_end he3
    have hRe : R = .error ((no : Int) + 1, 4) := by
     rw [hRp, hpe, readL_one, if_neg]
     rintro ⟨h, h'⟩
     rcases hcond with h2 | h2
     ·have := congrArg List.length h; rw [List.length_drop] at this; simp at this; omega
     ·exact h2 h'
    have ho' : o = (([], []), (no : Int) + 1, 4) := by rw [← ho, hRe]; rfl
    subst ho'
    refine g_noA ?_
    refine g_noA ?_
    refine g_noA ?_
    refine g_noA ?_
    first | refine g_pkt ?_ | refine g_pkf ?_
    refine g_nil <| g_qt ?_
    refine g_iff rfl ?_
    refine g_exit <| g_qt_exit <| g_qn_exit <| g_qb_exit <| g_qt <| g_seq <| g_seq <| g_region ?_
    refine g_mv ?_
    refine g_mv ?_
    refine g_pure (p_lens (by rfl) rfl) rfl ?_
    refine g_pure (p_geq rfl rfl) rfl ?_
    refine g_nil <| g_qt ?_
    refine g_ifd rfl (fun h5 => ?_) (fun h5 => ?_)
    ·refine g_seq <| g_region ?_
     refine g_pure (p_build (by rfl) rfl (by rfl)) rfl ?_
     refine g_mv ?_
     first | refine g_eff0 (e_storeO rfl rfl (by rfl) (by rfl) (by rfl) (by repeat' (first | exact Take.here | apply Take.there)) (by rfl)) (fun _ _ => ?_) | refine g_eff0 (e_storeN rfl rfl (by rfl) (by rfl) (by rfl) (by repeat' (first | exact Take.here | apply Take.there)) (by simp)) (fun _ _ => ?_)
     rintro rfl
     refine g_as ?_
     refine g_as ?_
     refine g_nil <| g_qt <| g_ret <| g_qt_ret <| g_qb_ret <| g_qn_ret <| g_qb_ret <| g_qt_ret ?_
     refine g_emp (own_empty 3 32 45) ?_
     exact g_postA (rs := [.cell 2 25, .tmp 3, .tmp 4]) rfl (Res.cellN (by rfl) rfl (Has.own (by repeat' (first | exact Take.here | apply Take.there))) (by rfl) (.tmp rfl (.tmp rfl .nil))) ⟨none, 0, none, 0, rfl, rfl⟩
    ·exfalso; omega
  ·obtain ⟨h1', h2'⟩ := hb2 hbb
   obtain ⟨es, done, cur, w'⟩ := p
   dsimp only at hRp hp6 hpd hpc h2' ⊢
   subst h2'
   have hat : at' = s.length := h1'
   obtain ⟨im, him⟩ : ∃ im : Im, im = (es, done) := ⟨_, rfl⟩
   have hRo : R = .ok im := by
    rw [hRp, hat, List.drop_length, him]
    exact if_pos ⟨rfl, rfl⟩
   obtain ⟨m1, m2, m3, m4⟩ := hbd im hRo
   have hlo : listO (es, done, cur, 1) = done := rfl
   have hO1 : es = im.1 := by rw [him]
   have hO2 : done = im.2 := by rw [him]
   have ho' : o = if checkP im = 0 then (im, 0, 0) else (([], []), 0, checkP im) := by rw [← ho, hRo]; rfl
   rw [hlo, hO1, hO2]
   refine g_exit <| g_qt_exit <| g_qn_exit <| g_qb_exit <| g_qt <| g_seq <| g_seq <| g_region ?_
   refine g_fa ?_
   first | refine g_pure (p_loadO (by rfl) rfl (by first | (apply Has.own; (repeat' (first | exact Take.here | apply Take.there)); done) | exact Has.ro (by assumption)) (by rfl)) rfl ?_ | refine g_pure (p_loadN (by rfl) rfl (by first | (apply Has.own; (repeat' (first | exact Take.here | apply Take.there)); done) | exact Has.ro (by assumption)) (by first | rfl | assumption)) rfl ?_
   refine g_call (Hin := []) (Hr := ?hr5) (R := ?rr5) rfl rfl rfl ?hin5 ?hc5 ?hk5
   case hin5 => repeat' (first | exact Cover.nil | exact Take.here | apply Cover.cons | apply Take.there)
   case hc5 => intro ρ' hρ hR; exact rcheck_ok (ec := ec) (rc := rc) (own_im (TI := 3) (TC := 32) (TR := 45) (ec := ec) (rc := rc) (Take.ro (A := OwnIm 3 32 45 ea ra ec rc (im.1, im.2)) (by repeat' (first | exact Take.here | apply Take.there)) hR) m1 m2 m3 m4)
   rintro _ _ ⟨rfl, rfl⟩
   refine g_as ?_
   refine g_nil <| g_qt <| g_seq <| g_region ?_
   refine g_mv ?_
   refine g_pure (p_neq rfl rfl) rfl ?_
   refine g_nil <| g_qt ?_
   refine g_ifnd rfl (fun h3 => ?_) (fun h3 => ?_)
   ·rw [if_neg h3] at ho'
    subst ho'
    refine g_seq <| g_region ?_
    refine g_pure (p_build (by rfl) rfl (by rfl)) rfl ?_
    refine g_mv ?_
    first | refine g_eff0 (e_storeO rfl rfl (by rfl) (by rfl) (by rfl) (by repeat' (first | exact Take.here | apply Take.there)) (by rfl)) (fun _ _ => ?_) | refine g_eff0 (e_storeN rfl rfl (by rfl) (by rfl) (by rfl) (by repeat' (first | exact Take.here | apply Take.there)) (by simp)) (fun _ _ => ?_)
    rintro rfl
    refine g_as ?_
    refine g_as ?_
    refine g_nil <| g_qt <| g_ret <| g_qt_ret ?_
    refine g_emp (own_empty 3 32 45) ?_
    exact g_postA (rs := [.cell 2 25, .tmp 3, .tmp 4]) rfl (Res.cellN (by rfl) rfl (Has.own (by repeat' (first | exact Take.here | apply Take.there))) (by rfl) (.tmp rfl (.tmp rfl .nil))) ⟨none, 0, none, 0, rfl, rfl⟩
   ·rw [if_pos h3] at ho'
    subst ho'
    refine g_skip <| g_qt <| g_seq <| g_region ?_
    refine g_fa ?_
    first | refine g_pure (p_loadO (by rfl) rfl (by first | (apply Has.own; (repeat' (first | exact Take.here | apply Take.there)); done) | exact Has.ro (by assumption)) (by rfl)) rfl ?_ | refine g_pure (p_loadN (by rfl) rfl (by first | (apply Has.own; (repeat' (first | exact Take.here | apply Take.there)); done) | exact Has.ro (by assumption)) (by first | rfl | assumption)) rfl ?_
    first | refine g_eff0 (e_storeO rfl rfl (by rfl) (by rfl) (by rfl) (by repeat' (first | exact Take.here | apply Take.there)) (by rfl)) (fun _ _ => ?_) | refine g_eff0 (e_storeN rfl rfl (by rfl) (by rfl) (by rfl) (by repeat' (first | exact Take.here | apply Take.there)) (by simp)) (fun _ _ => ?_)
    rintro rfl
    refine g_as ?_
    refine g_as ?_
    refine g_nil <| g_qt <| g_ret ?_
    exact g_postA (Ho := [OwnIm 3 32 45 ea ra ec rc im]) (rs := [.cell 2 25, .tmp 3, .tmp 4]) rfl (Res.cellN (by rfl) rfl (Has.own (by repeat' (first | exact Take.here | apply Take.there))) (by rfl) (.tmp rfl (.tmp rfl .nil))) ⟨ea, ec, ra, rc, rfl, rfl⟩
end Go.Proofs.YtcnfcoojmbjdlaaGreatDoor
