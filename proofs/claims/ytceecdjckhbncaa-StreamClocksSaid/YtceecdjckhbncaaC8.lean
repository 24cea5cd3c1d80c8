/- Chapter 16: the program's operations: initial values, operators, constants, words. Conditions: none. -/
import Derived.Test.YtceecdjckhbncaaC7
namespace Go.Z.Val
set_option linter.unusedVariables false
set_option linter.unusedSimpArgs false
set_option linter.unusedSectionVars false
open Go Go.Z
theorem firstF_go {a b : List Ce} {t : Nat} (h : jointF [a, b] t = true) : firstF a b (t + 1) = false := by
  show (_ && _) = _; rw [h]; simp
theorem firstF_skip {a b : List Ce} {t : Nat} (h : jointF [a, b] t = false) : firstF a b (t + 1) = firstF a b t := by
  show (_ && _) = _; rw [h]; simp
theorem lastB_go {a b : List Ce} {t : Nat} (h : jointF [a, b] t = true) : lastB a b (t + 1) = cleanF (at0 b t) := by
  show (if _ then _ else _) = _; rw [if_pos h]
theorem lastB_skip {a b : List Ce} {t : Nat} (h : jointF [a, b] t = false) : lastB a b (t + 1) = lastB a b t := by
  show (if _ then _ else _) = _; rw [if_neg (by rw [h]; simp)]
theorem kF_go {a : List Ce} {t : Nat} (h : jointF [a] t = true) : kF a (t + 1) = kF a t + 1 := by
  rw [joint1] at h; show _ + (if _ then _ else _) = _; rw [if_pos h]
theorem kF_skip {a : List Ce} {t : Nat} (h : jointF [a] t = false) : kF a (t + 1) = kF a t := by
  rw [joint1] at h; show _ + (if _ then _ else _) = _; rw [if_neg (by rw [h]; simp)]; rfl
theorem checkW_lp {hd lp : List Bool} (h : checkW hd lp = 0) : 0 < lp.length ∧ hd.length + lp.length ≤ 64 := by
  unfold checkW at h
  split at h
  · cases h
  · split at h
    · cases h
    · omega
theorem getB {xs : List Bool} {k : Nat} (hk : k < xs.length) : (xs.map encB)[k]? = some (.bool (xs.getD k false)) := by
  rw [List.getElem?_map, List.getElem?_eq_getElem hk, List.getD_eq_getElem?_getD, List.getElem?_eq_getElem hk]; rfl
def arrowG (a b : List Ce) (t : Nat) : Ce := if firstF a b t then cleanF (at0 a t) else cleanF (at0 b t)
def fbyG (a b : List Ce) (t : Nat) : Ce := if firstF a b t then cleanF (at0 a t) else lastB a b t
/-- a word -/
structure WdR (ρ : Nat → Obj → Prop) (ha la : Option Addr) (hd lp : List Bool) : Prop where
  head : RSl ρ 1 ha hd.length (hd.map encB)
  loop : RSl ρ 1 la lp.length (lp.map encB)
  l1 : hd.length ≤ 1000000000000000
  l2 : lp.length ≤ 1000000000000000
theorem WdR.mono {ρ ρ' : Nat → Obj → Prop} {ha la : Option Addr} {hd lp : List Bool} (h : WdR ρ ha la hd lp) (s : ∀ b o, ρ b o → ρ' b o) : WdR ρ' ha la hd lp := ⟨h.head.mono s, h.loop.mono s, h.l1, h.l2⟩
end Go.Z.Val
namespace Go.Proofs.Ytceecdjckhbncaa
open Go Go.Z Go.Z.Val

theorem arrow1_ok {ρ : Nat → Obj → Prop} {a b : List Ce} {t p5 : Nat} (hj : jointF [a, b] t = true) {ca : Option Addr} {k : Nat} (ek : k = [a, b].length) (hc : RSl ρ 2 ca k ((cellsAt [a, b] t).flatMap encC)) :
    Con Try.prog ρ 38 #[.slice ca k k, .pointer (some ⟨p5, 0, none⟩)] [Blk p5 (.cells [.bool (firstF a b t)].toArray 4 (0, 0))] (fun v H => v = aggC (arrowG a b t) ∧ H = [Blk p5 (.cells [.bool (firstF a b (t + 1))].toArray 4 (0, 0))]) := by
  obtain ⟨_, bl, ol, kl, Tl, fl, hl⟩ := hc
  obtain ⟨l1, l2, l3⟩ := hl (by rw [ek]; simp)
  obtain ⟨x0, -, -⟩ := cell_at l3 (k := 0) (by simp [cellsAt])
  obtain ⟨y0, -, -⟩ := cell_at l3 (k := 1) (by simp [cellsAt])
  rw [firstF_go hj]
  unfold arrowG
  have x0' : sub kl (ol + (0 : Int).toNat * 2) 2 = some (encC (cleanF (at0 a t))) := x0
  have y0' : sub kl (ol + (1 : Int).toNat * 2) 2 = some (encC (cleanF (at0 b t))) := y0
  clear x0 y0
  generalize cleanF (at0 a t) = u at *
  generalize cleanF (at0 b t) = z at *
  obtain ⟨u1, u2⟩ := u
  obtain ⟨z1, z2⟩ := z
  subst ek
  refine con_intro Try.func38 Try.call38 rfl Try.ntmps38 rfl (L := [(0, _), (1, _)]) rfl fun w hh => ?_
  refine g_seq ?_
  refine g_region ?_
  refine g_eff (e_alloc (by rfl)) rfl (fun _ _ => ?_)
  rintro ⟨b3, rfl, rfl⟩
  refine g_nil ?_
  refine g_qt ?_
  refine g_seq ?_
  refine g_seq ?_
  refine g_region ?_
  refine g_pure (p_load (by rfl) rfl (by first | (apply Has.own; (repeat' (first | exact Take.here | apply Take.there)); done) | exact Has.ro (by assumption)) (by first | rfl | assumption)) rfl ?_
  refine g_nil ?_
  refine g_qt ?_
  cases hf : firstF a b t with
  | true =>
    refine g_ift rfl ?_
    refine g_seq ?_
    refine g_region ?_
    first | refine g_eff0 (e_storeO rfl rfl (by rfl) (by rfl) (by rfl) (by repeat' (first | exact Take.here | apply Take.there)) (by rfl)) (fun _ _ => ?_) | refine g_eff0 (e_store1 (by rfl) rfl rfl rfl (by repeat' (first | exact Take.here | apply Take.there)) (by first | decide | (simp <;> omega) | omega)) (fun _ _ => ?_)
    rintro rfl
    refine g_nil ?_
    refine g_qt ?_
    refine g_seq ?_
    refine g_region ?_
    refine g_pure (p_move rfl) rfl ?_
    refine g_pure (p_indexAddr rfl rfl (by simp) (fun _ => l1)) rfl ?_
    refine g_pure (p_loadN (by rfl) rfl (Has.ro l2) x0') rfl ?_
    first | refine g_eff0 (e_storeO rfl rfl (by rfl) (by rfl) (by rfl) (by repeat' (first | exact Take.here | apply Take.there)) (by rfl)) (fun _ _ => ?_) | refine g_eff0 (e_storeN rfl rfl (by rfl) (by rfl) (by rfl) (by repeat' (first | exact Take.here | apply Take.there)) (by simp)) (fun _ _ => ?_)
    rintro rfl
    refine g_nil ?_
    refine g_qt ?_
    refine g_ret ?_
    refine g_qt_ret ?_
    exact g_post (Ho := [Blk p5 (.cells [.bool false].toArray 4 (0, 0))]) (rs := [.cell 3 31]) rfl (Res.cellN (by rfl) rfl (Has.own (by repeat' (first | exact Take.here | apply Take.there))) (by rfl) .nil) ⟨rfl, rfl⟩ (by repeat' (first | exact Cover.nil | exact Take.here | apply Cover.cons | apply Take.there))
  | false =>
    refine g_iff rfl ?_
    refine g_skip ?_
    refine g_qt ?_
    refine g_seq ?_
    refine g_region ?_
    refine g_pure (p_move rfl) rfl ?_
    refine g_pure (p_indexAddr rfl rfl (by simp) (fun _ => l1)) rfl ?_
    refine g_pure (p_loadN (by rfl) rfl (Has.ro l2) y0') rfl ?_
    first | refine g_eff0 (e_storeO rfl rfl (by rfl) (by rfl) (by rfl) (by repeat' (first | exact Take.here | apply Take.there)) (by rfl)) (fun _ _ => ?_) | refine g_eff0 (e_storeN rfl rfl (by rfl) (by rfl) (by rfl) (by repeat' (first | exact Take.here | apply Take.there)) (by simp)) (fun _ _ => ?_)
    rintro rfl
    refine g_nil ?_
    refine g_qt ?_
    refine g_ret ?_
    exact g_post (Ho := [Blk p5 (.cells [.bool false].toArray 4 (0, 0))]) (rs := [.cell 3 31]) rfl (Res.cellN (by rfl) rfl (Has.own (by repeat' (first | exact Take.here | apply Take.there))) (by rfl) .nil) ⟨rfl, rfl⟩ (by repeat' (first | exact Cover.nil | exact Take.here | apply Cover.cons | apply Take.there))
theorem arrow_ok {ρ : Nat → Obj → Prop} {a b : List Ce} {aa ba : Option Addr} {ac bc : Nat} (ha : RSl ρ 2 aa a.length (a.flatMap encC)) (hb : RSl ρ 2 ba b.length (b.flatMap encC)) (hl : a.length ≤ 1000000) :
    Con Try.prog ρ 14 #[.slice aa a.length ac, .slice ba b.length bc] [] (StrP (ArrowL a b)) := by
  have heq : (List.range (lenF [a, b])).map (outF true [a, b] (arrowG a b)) = ArrowL a b := outF_map (lenF2 a b) fun t _ => by unfold ArrowF arrowG; (repeat' split) <;> first | rfl | rw [cleanF_idem]
  have hlm : lenF [a, b] ≤ 1000000 := by rw [lenF2]; omega
  refine con_intro Try.func14 Try.call14 rfl Try.ntmps14 rfl (L := [(0, _), (1, _)]) rfl fun w hh => ?_
  refine g_seq ?_
  refine g_region ?_
  refine g_pure (p_assign rfl) rfl ?_
  refine g_nil ?_
  refine g_qt ?_
  refine g_seq ?_
  refine g_region ?_
  refine g_eff (e_alloc (by rfl)) rfl (fun _ _ => ?_)
  rintro ⟨b5, rfl, rfl⟩
  first | refine g_eff0 (e_storeO rfl rfl (by rfl) (by rfl) (by rfl) (by repeat' (first | exact Take.here | apply Take.there)) (by rfl)) (fun _ _ => ?_) | refine g_eff0 (e_store1 (by rfl) rfl rfl rfl (by repeat' (first | exact Take.here | apply Take.there)) (by first | decide | (simp <;> omega) | omega)) (fun _ _ => ?_)
  rintro rfl
  refine g_nil ?_
  refine g_qt ?_
  refine g_seq ?_
  refine g_region ?_
  refine g_pure (p_makeFunc rfl rfl) rfl ?_
  refine g_pure (p_build (by rfl) rfl (by rfl)) rfl ?_
  refine g_pure (p_move rfl) rfl ?_
  refine g_pure (p_move rfl) rfl ?_
  refine g_eff (e_bs (xs := [.tmp 8, .tmp 9]) rfl rfl rfl (by rfl) (by rfl) rfl (by rfl)) rfl (fun _ _ => ?_)
  rintro ⟨b10, rfl, rfl⟩
  refine g_call (Hin := [Blk b5 (.cells [.bool (firstF a b 0)].toArray 4 (0, 0))]) (Hr := ?hr1) (R := ?rr1) rfl rfl rfl ?hin1 ?hc1 ?hk1
  case hin1 => repeat' (first | exact Cover.nil | exact Take.here | apply Cover.cons | apply Take.there)
  case hc1 => intro ρ' hρ hR; exact along_ok (l := [a, b]) (d := 38) (dcap := #[.pointer (some ⟨b5, 0, none⟩)]) (St := fun t => Blk b5 (.cells [Value.bool (firstF a b t)].toArray 4 (0, 0))) (g := arrowG a b) (SlS.of2 hR.1.blk (ha.mono hρ) (hb.mono hρ)) (by simp) hlm (fun t ht hj ρ2 h2 ca k hk hc => arrow1_ok (hj rfl) hk hc) (fun t ht _ hj => congrArg (fun c => Blk b5 (.cells [Value.bool c].toArray 4 (0, 0))) (firstF_skip hj))
  rintro _ _ ⟨o, c, rfl, rfl⟩
  rw [heq]
  refine g_pure (p_assign rfl) rfl ?_
  refine g_nil ?_
  refine g_qt ?_
  refine g_ret ?_
  exact g_post (rs := [.tmp 4]) rfl (.tmp rfl .nil) ⟨o, c, rfl, rfl⟩ (by repeat' (first | exact Cover.nil | exact Take.here | apply Cover.cons | apply Take.there))

def FbyS (p6 p5 : Nat) (l : Ce) (f : Bool) : Assn := Pk fun H => H = [Blk p6 (.cells (encC l).toArray 31 (0, 0)), Blk p5 (.cells [.bool f].toArray 4 (0, 0))]
theorem fby1_ok {ρ : Nat → Obj → Prop} {a b : List Ce} {t p5 p6 : Nat} (hj : jointF [a, b] t = true) {ca : Option Addr} {k : Nat} (ek : k = [a, b].length) (hc : RSl ρ 2 ca k ((cellsAt [a, b] t).flatMap encC)) :
    Con Try.prog ρ 41 #[.slice ca k k, .pointer (some ⟨p6, 0, none⟩), .pointer (some ⟨p5, 0, none⟩)] [FbyS p6 p5 (lastB a b t) (firstF a b t)] (fun v H => v = aggC (fbyG a b t) ∧ H = [FbyS p6 p5 (lastB a b (t + 1)) (firstF a b (t + 1))]) := by
  obtain ⟨_, bl, ol, kl, Tl, fl, hl⟩ := hc
  obtain ⟨l1, l2, l3⟩ := hl (by rw [ek]; simp)
  obtain ⟨x0, -, -⟩ := cell_at l3 (k := 0) (by simp [cellsAt])
  obtain ⟨y0, -, -⟩ := cell_at l3 (k := 1) (by simp [cellsAt])
  rw [firstF_go hj, lastB_go hj]
  unfold fbyG
  have x0' : sub kl (ol + (0 : Int).toNat * 2) 2 = some (encC (cleanF (at0 a t))) := x0
  have y0' : sub kl (ol + (1 : Int).toNat * 2) 2 = some (encC (cleanF (at0 b t))) := y0
  clear x0 y0
  generalize cleanF (at0 a t) = u at *
  generalize cleanF (at0 b t) = z at *
  generalize lastB a b t = y at *
  obtain ⟨u1, u2⟩ := u
  obtain ⟨z1, z2⟩ := z
  obtain ⟨y1, y2⟩ := y
  subst ek
  refine con_intro Try.func41 Try.call41 rfl Try.ntmps41 rfl (L := [(0, _), (1, _), (2, _)]) rfl fun w hh => ?_
  refine g_open .here ?_
  rintro _ rfl
  show G _ _ _ [Blk p6 (.cells [.int .i64 y1, .int .i64 y2].toArray 31 (0, 0)), Blk p5 (.cells [.bool (firstF a b t)].toArray 4 (0, 0))] _
  refine g_seq ?_
  refine g_region ?_
  refine g_eff (e_alloc (by rfl)) rfl (fun _ _ => ?_)
  rintro ⟨b4, rfl, rfl⟩
  refine g_nil ?_
  refine g_qt ?_
  refine g_seq ?_
  refine g_region ?_
  first | refine g_pure (p_loadO (by rfl) rfl (by first | (apply Has.own; (repeat' (first | exact Take.here | apply Take.there)); done) | exact Has.ro (by assumption)) (by rfl)) rfl ?_ | refine g_pure (p_loadN (by rfl) rfl (by first | (apply Has.own; (repeat' (first | exact Take.here | apply Take.there)); done) | exact Has.ro (by assumption)) (by first | rfl | assumption)) rfl ?_
  refine g_eff (e_alloc (by rfl)) rfl (fun _ _ => ?_)
  rintro ⟨b5, rfl, rfl⟩
  first | refine g_eff0 (e_storeO rfl rfl (by rfl) (by rfl) (by rfl) (by repeat' (first | exact Take.here | apply Take.there)) (by rfl)) (fun _ _ => ?_) | refine g_eff0 (e_storeN rfl rfl (by rfl) (by rfl) (by rfl) (by repeat' (first | exact Take.here | apply Take.there)) (by simp)) (fun _ _ => ?_)
  rintro rfl
  refine g_nil ?_
  refine g_qt ?_
  refine g_seq ?_
  refine g_seq ?_
  refine g_region ?_
  refine g_pure (p_load (by rfl) rfl (by first | (apply Has.own; (repeat' (first | exact Take.here | apply Take.there)); done) | exact Has.ro (by assumption)) (by first | rfl | assumption)) rfl ?_
  refine g_nil ?_
  refine g_qt ?_
  cases hf : firstF a b t with
  | true =>
    refine g_ift rfl ?_
    refine g_region ?_
    refine g_pure (p_move rfl) rfl ?_
    refine g_pure (p_indexAddr rfl rfl (by simp) (fun _ => l1)) rfl ?_
    refine g_pure (p_loadN (by rfl) rfl (Has.ro l2) x0') rfl ?_
    first | refine g_eff0 (e_storeO rfl rfl (by rfl) (by rfl) (by rfl) (by repeat' (first | exact Take.here | apply Take.there)) (by rfl)) (fun _ _ => ?_) | refine g_eff0 (e_storeN rfl rfl (by rfl) (by rfl) (by rfl) (by repeat' (first | exact Take.here | apply Take.there)) (by simp)) (fun _ _ => ?_)
    rintro rfl
    refine g_nil ?_
    refine g_qt ?_
    refine g_seq ?_
    refine g_region ?_
    refine g_pure (p_move rfl) rfl ?_
    refine g_pure (p_indexAddr rfl rfl (by simp) (fun _ => l1)) rfl ?_
    refine g_pure (p_loadN (by rfl) rfl (Has.ro l2) y0') rfl ?_
    first | refine g_eff0 (e_storeO rfl rfl (by rfl) (by rfl) (by rfl) (by repeat' (first | exact Take.here | apply Take.there)) (by rfl)) (fun _ _ => ?_) | refine g_eff0 (e_store1 (by rfl) rfl rfl rfl (by repeat' (first | exact Take.here | apply Take.there)) (by first | decide | (simp <;> omega) | omega)) (fun _ _ => ?_)
    rintro rfl
    first | refine g_eff0 (e_storeO rfl rfl (by rfl) (by rfl) (by rfl) (by repeat' (first | exact Take.here | apply Take.there)) (by rfl)) (fun _ _ => ?_) | refine g_eff0 (e_storeN rfl rfl (by rfl) (by rfl) (by rfl) (by repeat' (first | exact Take.here | apply Take.there)) (by simp)) (fun _ _ => ?_)
    rintro rfl
    refine g_nil ?_
    refine g_qt ?_
    refine g_seq ?_
    refine g_region ?_
    first | refine g_pure (p_loadO (by rfl) rfl (by first | (apply Has.own; (repeat' (first | exact Take.here | apply Take.there)); done) | exact Has.ro (by assumption)) (by rfl)) rfl ?_ | refine g_pure (p_loadN (by rfl) rfl (by first | (apply Has.own; (repeat' (first | exact Take.here | apply Take.there)); done) | exact Has.ro (by assumption)) (by first | rfl | assumption)) rfl ?_
    first | refine g_eff0 (e_storeO rfl rfl (by rfl) (by rfl) (by rfl) (by repeat' (first | exact Take.here | apply Take.there)) (by rfl)) (fun _ _ => ?_) | refine g_eff0 (e_storeN rfl rfl (by rfl) (by rfl) (by rfl) (by repeat' (first | exact Take.here | apply Take.there)) (by simp)) (fun _ _ => ?_)
    rintro rfl
    refine g_nil ?_
    refine g_qt ?_
    refine g_ret ?_
    refine g_close (K := fun H => H = [Blk p6 (.cells (encC (z1, z2)).toArray 31 (0, 0)), Blk p5 (.cells [.bool false].toArray 4 (0, 0))]) rfl (by repeat' (first | exact Cover.nil | exact Take.here | apply Cover.cons | apply Take.there)) ?_
    exact g_post (Ho := [FbyS p6 p5 (z1, z2) false]) (rs := [.cell 4 31]) rfl (Res.cellN (by rfl) rfl (Has.own (by repeat' (first | exact Take.here | apply Take.there))) (by rfl) .nil) ⟨rfl, rfl⟩ (by repeat' (first | exact Cover.nil | exact Take.here | apply Cover.cons | apply Take.there))
  | false =>
    refine g_iff rfl ?_
    refine g_skip ?_
    refine g_qt ?_
    refine g_seq ?_
    refine g_region ?_
    refine g_pure (p_move rfl) rfl ?_
    refine g_pure (p_indexAddr rfl rfl (by simp) (fun _ => l1)) rfl ?_
    refine g_pure (p_loadN (by rfl) rfl (Has.ro l2) y0') rfl ?_
    first | refine g_eff0 (e_storeO rfl rfl (by rfl) (by rfl) (by rfl) (by repeat' (first | exact Take.here | apply Take.there)) (by rfl)) (fun _ _ => ?_) | refine g_eff0 (e_store1 (by rfl) rfl rfl rfl (by repeat' (first | exact Take.here | apply Take.there)) (by first | decide | (simp <;> omega) | omega)) (fun _ _ => ?_)
    rintro rfl
    first | refine g_eff0 (e_storeO rfl rfl (by rfl) (by rfl) (by rfl) (by repeat' (first | exact Take.here | apply Take.there)) (by rfl)) (fun _ _ => ?_) | refine g_eff0 (e_storeN rfl rfl (by rfl) (by rfl) (by rfl) (by repeat' (first | exact Take.here | apply Take.there)) (by simp)) (fun _ _ => ?_)
    rintro rfl
    refine g_nil ?_
    refine g_qt ?_
    refine g_seq ?_
    refine g_region ?_
    first | refine g_pure (p_loadO (by rfl) rfl (by first | (apply Has.own; (repeat' (first | exact Take.here | apply Take.there)); done) | exact Has.ro (by assumption)) (by rfl)) rfl ?_ | refine g_pure (p_loadN (by rfl) rfl (by first | (apply Has.own; (repeat' (first | exact Take.here | apply Take.there)); done) | exact Has.ro (by assumption)) (by first | rfl | assumption)) rfl ?_
    first | refine g_eff0 (e_storeO rfl rfl (by rfl) (by rfl) (by rfl) (by repeat' (first | exact Take.here | apply Take.there)) (by rfl)) (fun _ _ => ?_) | refine g_eff0 (e_storeN rfl rfl (by rfl) (by rfl) (by rfl) (by repeat' (first | exact Take.here | apply Take.there)) (by simp)) (fun _ _ => ?_)
    rintro rfl
    refine g_nil ?_
    refine g_qt ?_
    refine g_ret ?_
    refine g_close (K := fun H => H = [Blk p6 (.cells (encC (z1, z2)).toArray 31 (0, 0)), Blk p5 (.cells [.bool false].toArray 4 (0, 0))]) rfl (by repeat' (first | exact Cover.nil | exact Take.here | apply Cover.cons | apply Take.there)) ?_
    exact g_post (Ho := [FbyS p6 p5 (z1, z2) false]) (rs := [.cell 4 31]) rfl (Res.cellN (by rfl) rfl (Has.own (by repeat' (first | exact Take.here | apply Take.there))) (by rfl) .nil) ⟨rfl, rfl⟩ (by repeat' (first | exact Cover.nil | exact Take.here | apply Cover.cons | apply Take.there))
theorem fby_ok {ρ : Nat → Obj → Prop} {a b : List Ce} {aa ba : Option Addr} {ac bc : Nat} (ha : RSl ρ 2 aa a.length (a.flatMap encC)) (hb : RSl ρ 2 ba b.length (b.flatMap encC)) (hl : a.length ≤ 1000000) :
    Con Try.prog ρ 16 #[.slice aa a.length ac, .slice ba b.length bc] [] (StrP (FbyL a b)) := by
  have heq : (List.range (lenF [a, b])).map (outF true [a, b] (fbyG a b)) = FbyL a b := outF_map (lenF2 a b) fun t _ => by unfold FbyF fbyG; (repeat' split) <;> first | rfl | rw [cleanF_idem] | rw [lastB_clean]
  have hlm : lenF [a, b] ≤ 1000000 := by rw [lenF2]; omega
  refine con_intro Try.func16 Try.call16 rfl Try.ntmps16 rfl (L := [(0, _), (1, _)]) rfl fun w hh => ?_
  refine g_seq ?_
  refine g_region ?_
  refine g_pure (p_assign rfl) rfl ?_
  refine g_nil ?_
  refine g_qt ?_
  refine g_seq ?_
  refine g_region ?_
  refine g_pure (p_build (by rfl) rfl (by rfl)) rfl ?_
  refine g_eff (e_alloc (by rfl)) rfl (fun _ _ => ?_)
  rintro ⟨b5, rfl, rfl⟩
  refine g_eff (e_alloc (by rfl)) rfl (fun _ _ => ?_)
  rintro ⟨b6, rfl, rfl⟩
  first | refine g_eff0 (e_storeO rfl rfl (by rfl) (by rfl) (by rfl) (by repeat' (first | exact Take.here | apply Take.there)) (by rfl)) (fun _ _ => ?_) | refine g_eff0 (e_store1 (by rfl) rfl rfl rfl (by repeat' (first | exact Take.here | apply Take.there)) (by first | decide | (simp <;> omega) | omega)) (fun _ _ => ?_)
  rintro rfl
  first | refine g_eff0 (e_storeO rfl rfl (by rfl) (by rfl) (by rfl) (by repeat' (first | exact Take.here | apply Take.there)) (by rfl)) (fun _ _ => ?_) | refine g_eff0 (e_storeN rfl rfl (by rfl) (by rfl) (by rfl) (by repeat' (first | exact Take.here | apply Take.there)) (by simp)) (fun _ _ => ?_)
  rintro rfl
  refine g_nil ?_
  refine g_qt ?_
  refine g_seq ?_
  refine g_region ?_
  refine g_close (K := fun H => H = [Blk b6 (.cells (encC (0, 0)).toArray 31 (0, 0)), Blk b5 (.cells [.bool true].toArray 4 (0, 0))]) rfl (by repeat' (first | exact Cover.nil | exact Take.here | apply Cover.cons | apply Take.there)) ?_
  refine g_pure (p_makeFunc rfl rfl) rfl ?_
  refine g_pure (p_build (by rfl) rfl (by rfl)) rfl ?_
  refine g_pure (p_move rfl) rfl ?_
  refine g_pure (p_move rfl) rfl ?_
  refine g_eff (e_bs (xs := [.tmp 10, .tmp 11]) rfl rfl rfl (by rfl) (by rfl) rfl (by rfl)) rfl (fun _ _ => ?_)
  rintro ⟨b12, rfl, rfl⟩
  refine g_call (Hin := [FbyS b6 b5 (lastB a b 0) (firstF a b 0)]) (Hr := ?hr2) (R := ?rr2) rfl rfl rfl ?hin2 ?hc2 ?hk2
  case hin2 => repeat' (first | exact Cover.nil | exact Take.here | apply Cover.cons | apply Take.there)
  case hc2 => intro ρ' hρ hR; exact along_ok (l := [a, b]) (d := 41) (dcap := #[.pointer (some ⟨b6, 0, none⟩), .pointer (some ⟨b5, 0, none⟩)]) (St := fun t => FbyS b6 b5 (lastB a b t) (firstF a b t)) (g := fbyG a b) (SlS.of2 hR.1.blk (ha.mono hρ) (hb.mono hρ)) (by simp) hlm (fun t ht hj ρ2 h2 ca k hk hc => fby1_ok (hj rfl) hk hc) (fun t ht _ hj => by show FbyS _ _ _ _ = FbyS _ _ _ _; rw [firstF_skip hj, lastB_skip hj])
  rintro _ _ ⟨o, c, rfl, rfl⟩
  rw [heq]
  refine g_pure (p_assign rfl) rfl ?_
  refine g_nil ?_
  refine g_qt ?_
  refine g_ret ?_
  exact g_post (rs := [.tmp 4]) rfl (.tmp rfl .nil) ⟨o, c, rfl, rfl⟩ (by repeat' (first | exact Cover.nil | exact Take.here | apply Cover.cons | apply Take.there))

theorem slift1_ok {ρ : Nat → Obj → Prop} {op : Int} {l : List (List Ce)} {t p2 : Nat} (hl : l.length ≤ 1000000) (h2 : ρ p2 (.cells [.int .i64 op].toArray 3 (0, 0))) {ca : Option Addr} {k : Nat} (ek : k = l.length) (hc : RSl ρ 2 ca k ((cellsAt l t).flatMap encC)) :
    Con Try.prog ρ 42 #[.slice ca k k, .pointer (some ⟨p2, 0, none⟩)] [Al []] (fun v H => v = aggC (liftF op (cellsAt l t)) ∧ H = [Al []]) := by
  have hcl := cellsAt_len l t
  generalize cellsAt l t = xs at *
  obtain rfl : k = xs.length := by omega
  refine con_intro Try.func42 Try.call42 rfl Try.ntmps42 rfl (L := [(0, _), (1, _)]) rfl fun w hh => ?_
  refine g_seq ?_
  refine g_region ?_
  refine g_eff (e_alloc (by rfl)) rfl (fun _ _ => ?_)
  rintro ⟨b3, rfl, rfl⟩
  refine g_nil ?_
  refine g_qt ?_
  refine g_seq ?_
  refine g_region ?_
  refine g_pure (p_load (by rfl) rfl (by first | (apply Has.own; (repeat' (first | exact Take.here | apply Take.there)); done) | exact Has.ro (by assumption)) (by first | rfl | assumption)) rfl ?_
  refine g_pure (p_move rfl) rfl ?_
  refine g_call (Hin := []) (Hr := ?hr3) (R := ?rr3) rfl rfl rfl ?hin3 ?hc3 ?hk3
  case hin3 => repeat' (first | exact Cover.nil | exact Take.here | apply Cover.cons | apply Take.there)
  case hc3 => intro ρ' hρ hR; exact lift_ok op (hc.mono hρ) (by omega)
  rintro _ _ ⟨rfl, rfl⟩
  generalize liftF op xs = u at *
  obtain ⟨u1, u2⟩ := u
  unfold aggC
  first | refine g_eff0 (e_storeO rfl rfl (by rfl) (by rfl) (by rfl) (by repeat' (first | exact Take.here | apply Take.there)) (by rfl)) (fun _ _ => ?_) | refine g_eff0 (e_storeN rfl rfl (by rfl) (by rfl) (by rfl) (by repeat' (first | exact Take.here | apply Take.there)) (by simp)) (fun _ _ => ?_)
  rintro rfl
  refine g_nil ?_
  refine g_qt ?_
  refine g_ret ?_
  exact g_post (Ho := [Al []]) (rs := [.cell 3 31]) rfl (Res.cellN (by rfl) rfl (Has.own (by repeat' (first | exact Take.here | apply Take.there))) (by rfl) .nil) ⟨rfl, rfl⟩ (by repeat' (first | exact Cover.nil | exact Take.here | apply Cover.cons | apply Take.there))
theorem slift_ok {ρ : Nat → Obj → Prop} {op : Int} {l : List (List Ce)} {aa : Option Addr} {ac : Nat} (ha : SlS ρ aa l) (hl : l.length ≤ 1000000) (hlm : lenF l ≤ 1000000) :
    Con Try.prog ρ 19 #[.int .i64 op, .slice aa l.length ac] [] (StrP (LiftL op l)) := by
  have heq : (List.range (lenF l)).map (outF true l (fun t => liftF op (cellsAt l t))) = LiftL op l := outF_map rfl fun t _ => by rw [liftF_clean]; rfl
  refine con_intro Try.func19 Try.call19 rfl Try.ntmps19 rfl (L := [(0, _), (1, _)]) rfl fun w hh => ?_
  refine g_emp (A := Al []) rfl ?_
  refine g_seq ?_
  refine g_region ?_
  refine g_eff (e_box rfl (by rfl)) rfl (fun _ _ => ?_)
  rintro ⟨b2, rfl, rfl⟩
  refine g_pure (p_assign rfl) rfl ?_
  refine g_nil ?_
  refine g_qt ?_
  refine g_seq ?_
  refine g_region ?_
  refine g_pure (p_makeFunc rfl rfl) rfl ?_
  refine g_pure (p_build (by rfl) rfl (by rfl)) rfl ?_
  refine g_pure (p_move rfl) rfl ?_
  refine g_call (Hin := [Al []]) (Hr := ?hr4) (R := ?rr4) rfl rfl rfl ?hin4 ?hc4 ?hk4
  case hin4 => repeat' (first | exact Cover.nil | exact Take.here | apply Cover.cons | apply Take.there)
  case hc4 => intro ρ' hρ hR; exact along_ok (l := l) (d := 42) (dcap := #[.pointer (some ⟨b2, 0, none⟩)]) (St := fun _ => Al []) (g := fun t => liftF op (cellsAt l t)) (ha.mono hρ) hl hlm (fun t ht hj ρ2 h2 ca k hk hc => slift1_ok hl (h2 _ _ hR.1.blk) hk hc) (fun t ht _ hj => rfl)
  rintro _ _ ⟨o, c, rfl, rfl⟩
  rw [heq]
  refine g_pure (p_assign rfl) rfl ?_
  refine g_nil ?_
  refine g_qt ?_
  refine g_ret ?_
  exact g_post (rs := [.tmp 4]) rfl (.tmp rfl .nil) ⟨o, c, rfl, rfl⟩ (by repeat' (first | exact Cover.nil | exact Take.here | apply Cover.cons | apply Take.there))

theorem const1_ok {ρ : Nat → Obj → Prop} {x : Int} {i p2 : Nat} (h2 : ρ p2 (.cells [.int .i64 x].toArray 3 (0, 0))) :
    Con Try.prog ρ 46 #[.int .i64 i, .pointer (some ⟨p2, 0, none⟩)] [Al []] (fun v H => v = aggC (1, x) ∧ H = [Al []]) := by
  refine con_intro Try.func46 Try.call46 rfl Try.ntmps46 rfl (L := [(0, _), (1, _)]) rfl fun w hh => ?_
  refine g_seq ?_
  refine g_region ?_
  refine g_eff (e_alloc (by rfl)) rfl (fun _ _ => ?_)
  rintro ⟨b3, rfl, rfl⟩
  refine g_nil ?_
  refine g_qt ?_
  refine g_seq ?_
  refine g_region ?_
  refine g_pure (p_load (by rfl) rfl (by first | (apply Has.own; (repeat' (first | exact Take.here | apply Take.there)); done) | exact Has.ro (by assumption)) (by first | rfl | assumption)) rfl ?_
  refine g_pure (p_build (by rfl) rfl (by rfl)) rfl ?_
  first | refine g_eff0 (e_storeO rfl rfl (by rfl) (by rfl) (by rfl) (by repeat' (first | exact Take.here | apply Take.there)) (by rfl)) (fun _ _ => ?_) | refine g_eff0 (e_storeN rfl rfl (by rfl) (by rfl) (by rfl) (by repeat' (first | exact Take.here | apply Take.there)) (by simp)) (fun _ _ => ?_)
  rintro rfl
  refine g_nil ?_
  refine g_qt ?_
  refine g_ret ?_
  exact g_post (Ho := [Al []]) (rs := [.cell 3 31]) rfl (Res.cellN (by rfl) rfl (Has.own (by repeat' (first | exact Take.here | apply Take.there))) (by rfl) .nil) ⟨rfl, rfl⟩ (by repeat' (first | exact Cover.nil | exact Take.here | apply Cover.cons | apply Take.there))
theorem const_ok {ρ : Nat → Obj → Prop} (x n : Int) :
    Con Try.prog ρ 21 #[.int .i64 x, .int .i64 n] [] (StrP (ConstL x n)) := by
  obtain ⟨m, hm⟩ : ∃ m : Nat, m = (min (max n 0) 4096).toNat := ⟨_, rfl⟩
  have hm2 : min (max n 0) 4096 = (m : Int) := by omega
  refine con_intro Try.func21 Try.call21 rfl Try.ntmps21 rfl (L := [(0, _), (1, _)]) rfl fun w hh => ?_
  refine g_emp (A := Al []) rfl ?_
  refine g_seq ?_
  refine g_region ?_
  refine g_eff (e_box rfl (by rfl)) rfl (fun _ _ => ?_)
  rintro ⟨b2, rfl, rfl⟩
  refine g_pure (p_assign rfl) rfl ?_
  refine g_nil ?_
  refine g_qt ?_
  refine g_seq ?_
  refine g_region ?_
  refine g_pure (p_move rfl) rfl ?_
  refine g_pure (p_max rfl rfl) rfl ?_
  refine g_pure (p_min rfl rfl) rfl ?_
  refine g_pure (p_makeFunc rfl rfl) rfl ?_
  rw [hm2]
  refine g_call (Hin := [Al []]) (Hr := ?hr5) (R := ?rr5) rfl rfl rfl ?hin5 ?hc5 ?hk5
  case hin5 => repeat' (first | exact Cover.nil | exact Take.here | apply Cover.cons | apply Take.there)
  case hc5 => intro ρ' hρ hR; exact build_ok m (by omega) 46 #[.pointer (some ⟨b2, 0, none⟩)] (fun _ => (1, x)) (fun _ => Al []) (fun i hi ρ2 h2 => const1_ok (h2 _ _ hR.1.blk))
  rintro _ _ ⟨o, c, rfl, rfl⟩
  refine g_pure (p_assign rfl) rfl ?_
  refine g_nil ?_
  refine g_qt ?_
  refine g_ret ?_
  exact g_post (rs := [.tmp 4]) rfl (.tmp rfl .nil) ⟨o, c, by unfold ConstL; rw [← hm]; rfl, by unfold ConstL; rw [← hm]⟩ (by repeat' (first | exact Cover.nil | exact Take.here | apply Cover.cons | apply Take.there))

theorem wcheck_ok {ρ : Nat → Obj → Prop} {ha la : Option Addr} {hc lc : Nat} {hd lp : List Bool} (h : WdR ρ ha la hd lp) :
    Con Try.prog ρ 51 #[.agg #[.slice ha hd.length hc, .slice la lp.length lc]] [] (fun v H => v = .int .i64 (checkW hd lp) ∧ H = []) := by
  have h1 := h.l1
  have h2 := h.l2
  refine con_intro Try.func51 Try.call51 rfl Try.ntmps51 rfl (L := [(0, _)]) rfl fun w hh => ?_
  refine g_seq ?_
  refine g_region ?_
  refine g_eff (e_box rfl (by rfl)) rfl (fun _ _ => ?_)
  rintro ⟨b1, rfl, rfl⟩
  refine g_pure (p_assign rfl) rfl ?_
  refine g_nil ?_
  refine g_qt ?_
  refine g_seq ?_
  refine g_block ?_
  refine g_seq ?_
  refine g_region ?_
  refine g_pure (p_fieldAddr rfl) rfl ?_
  refine g_pure (p_load (by rfl) rfl (by first | (apply Has.own; (repeat' (first | exact Take.here | apply Take.there)); done) | exact Has.ro (by assumption)) (by first | rfl | assumption)) rfl ?_
  refine g_pure (p_len (by rfl) rfl) rfl ?_
  refine g_pure (p_eql rfl rfl) rfl ?_
  refine g_pure (p_assign rfl) rfl ?_
  refine g_nil ?_
  refine g_qt ?_
  refine g_ifdL rfl (fun h1 => ?_) (fun h1 => ?_)
  · refine g_seq ?_
    refine g_region ?_
    refine g_pure (p_assign rfl) rfl ?_
    refine g_nil ?_
    refine g_qt ?_
    refine g_ret ?_
    refine g_qb_ret ?_
    refine g_qt_ret ?_
    exact g_post (Ho := []) (rs := [.tmp 2]) rfl (.tmp rfl .nil) ⟨by unfold checkW; (repeat' split) <;> first | rfl | (exfalso; omega), rfl⟩ (by repeat' (first | exact Cover.nil | exact Take.here | apply Cover.cons | apply Take.there))
  · refine g_seq ?_
    refine g_region ?_
    refine g_pure (p_fieldAddr rfl) rfl ?_
    refine g_pure (p_load (by rfl) rfl (by first | (apply Has.own; (repeat' (first | exact Take.here | apply Take.there)); done) | exact Has.ro (by assumption)) (by first | rfl | assumption)) rfl ?_
    refine g_pure (p_len (by rfl) rfl) rfl ?_
    refine g_pure (p_fieldAddr rfl) rfl ?_
    refine g_pure (p_load (by rfl) rfl (by first | (apply Has.own; (repeat' (first | exact Take.here | apply Take.there)); done) | exact Has.ro (by assumption)) (by first | rfl | assumption)) rfl ?_
    refine g_pure (p_len (by rfl) rfl) rfl ?_
    first | refine g_pure (p_addi rfl rfl (by omega)) rfl ?_ | refine g_pure (p_add rfl rfl) rfl ?_
    refine g_pure (p_gtr rfl rfl) rfl ?_
    refine g_pure (p_assign rfl) rfl ?_
    refine g_nil ?_
    refine g_qt ?_
    refine g_ifdL rfl (fun h2 => ?_) (fun h2 => ?_)
    · refine g_seq ?_
      refine g_region ?_
      refine g_pure (p_assign rfl) rfl ?_
      refine g_nil ?_
      refine g_qt ?_
      refine g_ret ?_
      refine g_qb_ret ?_
      refine g_qt_ret ?_
      exact g_post (Ho := []) (rs := [.tmp 2]) rfl (.tmp rfl .nil) ⟨by unfold checkW; (repeat' split) <;> first | rfl | (exfalso; omega), rfl⟩ (by repeat' (first | exact Cover.nil | exact Take.here | apply Cover.cons | apply Take.there))
    · refine g_skip ?_
      refine g_qb ?_
      refine g_qt ?_
      refine g_seq ?_
      refine g_region ?_
      refine g_pure (p_assign rfl) rfl ?_
      refine g_nil ?_
      refine g_qt ?_
      refine g_ret ?_
      exact g_post (Ho := []) (rs := [.tmp 2]) rfl (.tmp rfl .nil) ⟨by unfold checkW; (repeat' split) <;> first | rfl | (exfalso; omega), rfl⟩ (by repeat' (first | exact Cover.nil | exact Take.here | apply Cover.cons | apply Take.there))
theorem wletter_ok {ρ : Nat → Obj → Prop} {ha la : Option Addr} {hc lc : Nat} {hd lp : List Bool} (h : WdR ρ ha la hd lp) (h0 : 0 < lp.length) {k : Nat} (hk : k ≤ 1000000) :
    Con Try.prog ρ 63 #[.agg #[.slice ha hd.length hc, .slice la lp.length lc], .int .i64 k] [] (fun v H => v = .bool (letterF hd lp k) ∧ H = []) := by
  have h1 := h.l1
  have h2 := h.l2
  obtain ⟨_, bh, oh, kh, Th, fh, hhd⟩ := h.head
  obtain ⟨_, bl, ol, kl, Tl, fl, hl⟩ := h.loop
  obtain ⟨l1, l2, l3⟩ := hl h0
  refine con_intro Try.func63 Try.call63 rfl Try.ntmps63 rfl (L := [(0, _), (1, _)]) rfl fun w hh => ?_
  refine g_seq ?_
  refine g_region ?_
  refine g_eff (e_box rfl (by rfl)) rfl (fun _ _ => ?_)
  rintro ⟨b2, rfl, rfl⟩
  refine g_pure (p_assign rfl) rfl ?_
  refine g_nil ?_
  refine g_qt ?_
  refine g_seq ?_
  refine g_seq ?_
  refine g_region ?_
  refine g_pure (p_move rfl) rfl ?_
  refine g_pure (p_fieldAddr rfl) rfl ?_
  refine g_pure (p_load (by rfl) rfl (by first | (apply Has.own; (repeat' (first | exact Take.here | apply Take.there)); done) | exact Has.ro (by assumption)) (by first | rfl | assumption)) rfl ?_
  refine g_pure (p_len (by rfl) rfl) rfl ?_
  refine g_pure (p_lss rfl rfl) rfl ?_
  refine g_nil ?_
  refine g_qt ?_
  refine g_ifd rfl (fun q => ?_) (fun q => ?_)
  · obtain ⟨m1, m2, m3⟩ := hhd (by omega)
    have x1 : kh[oh + (k : Int).toNat * 1]? = some (.bool (hd.getD k false)) := flat2 m3 (getB (by omega)) (by simp)
    have e : letterF hd lp k = hd.getD k false := by unfold letterF; rw [if_pos (by omega)]
    refine g_seq ?_
    refine g_region ?_
    refine g_pure (p_fieldAddr rfl) rfl ?_
    refine g_pure (p_load (by rfl) rfl (by first | (apply Has.own; (repeat' (first | exact Take.here | apply Take.there)); done) | exact Has.ro (by assumption)) (by first | rfl | assumption)) rfl ?_
    refine g_pure (p_move rfl) rfl ?_
    refine g_pure (p_indexAddr rfl rfl (by omega) (fun _ => m1)) rfl ?_
    refine g_pure (p_load (by rfl) rfl (Has.ro m2) x1) rfl ?_
    refine g_pure (p_assign rfl) rfl ?_
    refine g_nil ?_
    refine g_qt ?_
    refine g_ret ?_
    refine g_qt_ret ?_
    exact g_post (Ho := []) (rs := [.tmp 4]) rfl (.tmp rfl .nil) ⟨by rw [e]; rfl, rfl⟩ (by repeat' (first | exact Cover.nil | exact Take.here | apply Cover.cons | apply Take.there))
  · have hmod := Nat.mod_lt (k - hd.length) h0
    have hi : ((k : Int) - (hd.length : Int)) % (lp.length : Int) = (((k - hd.length) % lp.length : Nat) : Int) := by
      rw [Int.natCast_emod, show ((k - hd.length : Nat) : Int) = (k : Int) - hd.length by omega]
    have x1 : kl[ol + (((k : Int) - (hd.length : Int)) % (lp.length : Int)).toNat * 1]? = some (.bool (lp.getD ((k - hd.length) % lp.length) false)) := flat2 l3 (getB hmod) (by rw [hi, Int.toNat_natCast])
    have e : letterF hd lp k = lp.getD ((k - hd.length) % lp.length) false := by unfold letterF; rw [if_neg (by omega)]
    refine g_skip ?_
    refine g_qt ?_
    refine g_seq ?_
    refine m_begin0 (.fl 0 0 (.fl 1 1 (.fl 2 0 (.fl 3 0 (.fl 4 1 (.fl 5 0 (.fl 6 0 (.fl 7 0 (.fl 8 1 (.fl 9 0 (.fl 10 0 (.fl 11 0 (.fl 12 1 (.fl 13 0 .done)))))))))))))) (by kernel_rfl) (by kernel_rfl) ?_
    refine m_float0 rfl (fun _ _ => p_fieldAddr rfl) rfl ?_
    refine m_float rfl (p_load (by rfl) rfl (by first | (apply Has.own; (repeat' (first | exact Take.here | apply Take.there)); done) | exact Has.ro (by assumption)) (by first | rfl | assumption)) rfl ?_
    refine m_float0 rfl (fun _ _ => p_move rfl) rfl ?_
    refine m_float0 rfl (fun _ _ => p_fieldAddr rfl) rfl ?_
    refine m_float rfl (p_load (by rfl) rfl (by first | (apply Has.own; (repeat' (first | exact Take.here | apply Take.there)); done) | exact Has.ro (by assumption)) (by first | rfl | assumption)) rfl ?_
    refine m_float0 rfl (fun _ _ => p_len (by rfl) rfl) rfl ?_
    first | refine m_float0 rfl (fun _ _ => p_subi rfl rfl (by omega)) rfl ?_ | refine m_float0 rfl (fun _ _ => p_sub rfl rfl) rfl ?_
    refine m_float0 rfl (fun _ _ => p_fieldAddr rfl) rfl ?_
    refine m_float rfl (p_load (by rfl) rfl (by first | (apply Has.own; (repeat' (first | exact Take.here | apply Take.there)); done) | exact Has.ro (by assumption)) (by first | rfl | assumption)) rfl ?_
    refine m_float0 rfl (fun _ _ => p_len (by rfl) rfl) rfl ?_
    refine m_float0 rfl (fun _ _ => p_remn rfl rfl (by omega) (by omega)) rfl ?_
    refine m_float0 rfl (fun _ _ => p_indexAddr rfl rfl (by rw [hi]; omega) (fun _ => l1)) rfl ?_
    refine m_float rfl (p_load (by rfl) rfl (Has.ro l2) x1) rfl ?_
    refine m_float0 rfl (fun _ _ => p_assign rfl) rfl ?_
    refine m_nil ?_
    refine g_qt ?_
    refine g_ret ?_
    exact g_post (Ho := []) (rs := [.tmp 4]) rfl (.tmp rfl .nil) ⟨by rw [e]; rfl, rfl⟩ (by repeat' (first | exact Cover.nil | exact Take.here | apply Cover.cons | apply Take.there))
theorem wat_ok {ρ : Nat → Obj → Prop} {ha la : Option Addr} {hc lc : Nat} {hd lp : List Bool} (h : WdR ρ ha la hd lp) {k : Nat} (hk : k ≤ 1000000) :
    Con Try.prog ρ 53 #[.agg #[.slice ha hd.length hc, .slice la lp.length lc], .int .i64 k] [] (fun v H => v = .bool (decide (checkW hd lp = 0) && letterF hd lp k) ∧ H = []) := by
  refine con_intro Try.func53 Try.call53 rfl Try.ntmps53 rfl (L := [(0, _), (1, _)]) rfl fun w hh => ?_
  refine g_seq ?_
  refine g_region ?_
  refine g_eff (e_box rfl (by rfl)) rfl (fun _ _ => ?_)
  rintro ⟨b2, rfl, rfl⟩
  refine g_pure (p_assign rfl) rfl ?_
  refine g_nil ?_
  refine g_qt ?_
  refine g_seq ?_
  refine g_region ?_
  first | refine g_pure (p_loadO (by rfl) rfl (by first | (apply Has.own; (repeat' (first | exact Take.here | apply Take.there)); done) | exact Has.ro (by assumption)) (by rfl)) rfl ?_ | refine g_pure (p_loadN (by rfl) rfl (by first | (apply Has.own; (repeat' (first | exact Take.here | apply Take.there)); done) | exact Has.ro (by assumption)) (by first | rfl | assumption)) rfl ?_
  refine g_call (Hin := []) (Hr := ?hr6) (R := ?rr6) rfl rfl rfl ?hin6 ?hc6 ?hk6
  case hin6 => repeat' (first | exact Cover.nil | exact Take.here | apply Cover.cons | apply Take.there)
  case hc6 => intro ρ' hρ hR; exact wcheck_ok (h.mono hρ)
  rintro _ _ ⟨rfl, rfl⟩
  refine g_pure (p_eql rfl rfl) rfl ?_
  refine g_pure (p_move rfl) rfl ?_
  refine g_splitd rfl rfl (fun h1 => ?_) (fun h1 => ?_)
  · refine g_yes rfl rfl ?_
    refine g_pure (p_move rfl) rfl ?_
    refine g_yes rfl rfl ?_
    refine g_pure (p_geq rfl rfl) rfl ?_
    first | refine g_pure (p_pickt rfl rfl) rfl ?_ | refine g_pure (p_pickf rfl rfl) rfl ?_
    refine g_pure (p_move rfl) rfl ?_
    refine g_splitd rfl rfl (fun h2 => ?_) (fun h2 => ?_)
    · refine g_yes rfl rfl ?_
      first | refine g_pure (p_loadO (by rfl) rfl (by first | (apply Has.own; (repeat' (first | exact Take.here | apply Take.there)); done) | exact Has.ro (by assumption)) (by rfl)) rfl ?_ | refine g_pure (p_loadN (by rfl) rfl (by first | (apply Has.own; (repeat' (first | exact Take.here | apply Take.there)); done) | exact Has.ro (by assumption)) (by first | rfl | assumption)) rfl ?_
      refine g_yes rfl rfl ?_
      refine g_pure (p_move rfl) rfl ?_
      refine g_yes rfl rfl ?_
      refine g_call (Hin := []) (Hr := ?hr7) (R := ?rr7) rfl rfl rfl ?hin7 ?hc7 ?hk7
      case hin7 => repeat' (first | exact Cover.nil | exact Take.here | apply Cover.cons | apply Take.there)
      case hc7 => intro ρ' hρ hR; exact wletter_ok (h.mono hρ) (checkW_lp (by assumption)).1 hk
      rintro _ _ ⟨rfl, rfl⟩
      first | refine g_pure (p_pickt rfl rfl) rfl ?_ | refine g_pure (p_pickf rfl rfl) rfl ?_
      refine g_pure (p_assign rfl) rfl ?_
      refine g_nil ?_
      refine g_qt ?_
      refine g_ret ?_
      exact g_post (Ho := []) (rs := [.tmp 4]) rfl (.tmp rfl .nil) ⟨by first | (rw [decide_eq_true (by assumption)]; rfl) | (rw [decide_eq_false (by assumption)]; rfl) | (exfalso; omega), rfl⟩ (by repeat' (first | exact Cover.nil | exact Take.here | apply Cover.cons | apply Take.there))
    · refine g_no rfl rfl rfl rfl ?_
      refine g_no rfl rfl rfl rfl ?_
      refine g_no rfl rfl rfl rfl ?_
      first | refine g_pure (p_pickt rfl rfl) rfl ?_ | refine g_pure (p_pickf rfl rfl) rfl ?_
      refine g_pure (p_assign rfl) rfl ?_
      refine g_nil ?_
      refine g_qt ?_
      refine g_ret ?_
      exact g_post (Ho := []) (rs := [.tmp 4]) rfl (.tmp rfl .nil) ⟨by first | (rw [decide_eq_true (by assumption)]; rfl) | (rw [decide_eq_false (by assumption)]; rfl) | (exfalso; omega), rfl⟩ (by repeat' (first | exact Cover.nil | exact Take.here | apply Cover.cons | apply Take.there))
  · refine g_no rfl rfl rfl rfl ?_
    refine g_no rfl rfl rfl rfl ?_
    first | refine g_pure (p_pickt rfl rfl) rfl ?_ | refine g_pure (p_pickf rfl rfl) rfl ?_
    refine g_pure (p_move rfl) rfl ?_
    refine g_no rfl rfl rfl rfl ?_
    refine g_no rfl rfl rfl rfl ?_
    refine g_no rfl rfl rfl rfl ?_
    first | refine g_pure (p_pickt rfl rfl) rfl ?_ | refine g_pure (p_pickf rfl rfl) rfl ?_
    refine g_pure (p_assign rfl) rfl ?_
    refine g_nil ?_
    refine g_qt ?_
    refine g_ret ?_
    exact g_post (Ho := []) (rs := [.tmp 4]) rfl (.tmp rfl .nil) ⟨by first | (rw [decide_eq_true (by assumption)]; rfl) | (rw [decide_eq_false (by assumption)]; rfl) | (exfalso; omega), rfl⟩ (by repeat' (first | exact Cover.nil | exact Take.here | apply Cover.cons | apply Take.there))

theorem word1_ok {ρ : Nat → Obj → Prop} {ha la : Option Addr} {hc lc : Nat} {hd lp : List Bool} (h : WdR ρ ha la hd lp) {a : List Ce} {t p6 p5 p2 : Nat} (ht : t ≤ 1000000) (hj : jointF [a] t = true) (h5 : ρ p5 (.cells [.bool (decide (checkW hd lp = 0))].toArray 4 (0, 0))) (h2 : ρ p2 (.cells [.slice ha hd.length hc, .slice la lp.length lc].toArray 42 (0, 0))) {ca : Option Addr} {k : Nat} :
    Con Try.prog ρ 52 #[.slice ca k k, .pointer (some ⟨p6, 0, none⟩), .pointer (some ⟨p5, 0, none⟩), .pointer (some ⟨p2, 0, none⟩)] [Blk p6 (.cells [.int .i64 ((kF a t : Nat) - 1 : Int)].toArray 3 (0, 0))] (fun v H => v = aggC (wordC hd lp (kF a t)) ∧ H = [Blk p6 (.cells [.int .i64 ((kF a (t + 1) : Nat) - 1 : Int)].toArray 3 (0, 0))]) := by
  have hk := kF_le a t
  rw [kF_go hj, show ((kF a t + 1 : Nat) : Int) - 1 = (kF a t : Int) by omega]
  generalize kF a t = m at *
  have hm1 : (m : Int) - 1 + 1 = m := by omega
  refine con_intro Try.func52 Try.call52 rfl Try.ntmps52 rfl (L := [(0, _), (1, _), (2, _), (3, _)]) rfl fun w hh => ?_
  refine g_seq ?_
  refine g_region ?_
  refine g_eff (e_alloc (by rfl)) rfl (fun _ _ => ?_)
  rintro ⟨b5, rfl, rfl⟩
  refine g_nil ?_
  refine g_qt ?_
  refine g_seq ?_
  refine g_region ?_
  refine g_pure (p_load (by rfl) rfl (by first | (apply Has.own; (repeat' (first | exact Take.here | apply Take.there)); done) | exact Has.ro (by assumption)) (by first | rfl | assumption)) rfl ?_
  refine g_pure (p_addi rfl rfl (by omega)) rfl ?_
  first | refine g_eff0 (e_storeO rfl rfl (by rfl) (by rfl) (by rfl) (by repeat' (first | exact Take.here | apply Take.there)) (by rfl)) (fun _ _ => ?_) | refine g_eff0 (e_store1 (by rfl) rfl rfl rfl (by repeat' (first | exact Take.here | apply Take.there)) (by first | decide | (simp <;> omega) | omega)) (fun _ _ => ?_)
  rintro rfl
  refine g_nil ?_
  refine g_qt ?_
  refine g_seq ?_
  refine g_block ?_
  refine g_seq ?_
  refine g_region ?_
  refine g_pure (p_load (by rfl) rfl (by first | (apply Has.own; (repeat' (first | exact Take.here | apply Take.there)); done) | exact Has.ro (by assumption)) (by first | rfl | assumption)) rfl ?_
  refine g_pure (p_not rfl) rfl ?_
  refine g_pure (p_assign rfl) rfl ?_
  refine g_nil ?_
  refine g_qt ?_
  rw [hm1]
  refine g_ifnd rfl (fun e => ?_) (fun e => ?_)
  · refine g_seq ?_
    refine g_region ?_
    refine g_call (Hin := []) (Hr := ?hr8) (R := ?rr8) rfl rfl rfl ?hin8 ?hc8 ?hk8
    case hin8 => repeat' (first | exact Cover.nil | exact Take.here | apply Cover.cons | apply Take.there)
    case hc8 => intro ρ' hρ hR; exact undef_ok
    rintro _ _ ⟨rfl, rfl⟩
    first | refine g_eff0 (e_storeO rfl rfl (by rfl) (by rfl) (by rfl) (by repeat' (first | exact Take.here | apply Take.there)) (by rfl)) (fun _ _ => ?_) | refine g_eff0 (e_storeN rfl rfl (by rfl) (by rfl) (by rfl) (by repeat' (first | exact Take.here | apply Take.there)) (by simp)) (fun _ _ => ?_)
    rintro rfl
    refine g_nil ?_
    refine g_qt ?_
    refine g_ret ?_
    refine g_qb_ret ?_
    refine g_qt_ret ?_
    exact g_post (Ho := [Blk p6 (.cells [.int .i64 (m : Int)].toArray 3 (0, 0))]) (rs := [.cell 5 31]) rfl (Res.cellN (by rfl) rfl (Has.own (by repeat' (first | exact Take.here | apply Take.there))) (by rfl) .nil) ⟨by unfold wordC; rw [if_neg e]; rfl, rfl⟩ (by repeat' (first | exact Cover.nil | exact Take.here | apply Cover.cons | apply Take.there))
  · refine g_seq ?_
    refine g_region ?_
    first | refine g_pure (p_loadO (by rfl) rfl (by first | (apply Has.own; (repeat' (first | exact Take.here | apply Take.there)); done) | exact Has.ro (by assumption)) (by rfl)) rfl ?_ | refine g_pure (p_loadN (by rfl) rfl (by first | (apply Has.own; (repeat' (first | exact Take.here | apply Take.there)); done) | exact Has.ro (by assumption)) (by first | rfl | assumption)) rfl ?_
    refine g_pure (p_load (by rfl) rfl (by first | (apply Has.own; (repeat' (first | exact Take.here | apply Take.there)); done) | exact Has.ro (by assumption)) (by first | rfl | assumption)) rfl ?_
    refine g_call (Hin := []) (Hr := ?hr9) (R := ?rr9) rfl rfl rfl ?hin9 ?hc9 ?hk9
    case hin9 => repeat' (first | exact Cover.nil | exact Take.here | apply Cover.cons | apply Take.there)
    case hc9 => intro ρ' hρ hR; exact wat_ok (h.mono hρ) (k := m) (by omega)
    rintro _ _ ⟨rfl, rfl⟩
    rw [decide_eq_true e, Bool.true_and]
    refine g_pure (p_assign rfl) rfl ?_
    refine g_nil ?_
    refine g_qt ?_
    refine g_if rfl (fun f => ?_) (fun f => ?_)
    · refine g_seq ?_
      refine g_region ?_
      refine g_pure (p_build (by rfl) rfl (by rfl)) rfl ?_
      first | refine g_eff0 (e_storeO rfl rfl (by rfl) (by rfl) (by rfl) (by repeat' (first | exact Take.here | apply Take.there)) (by rfl)) (fun _ _ => ?_) | refine g_eff0 (e_storeN rfl rfl (by rfl) (by rfl) (by rfl) (by repeat' (first | exact Take.here | apply Take.there)) (by simp)) (fun _ _ => ?_)
      rintro rfl
      refine g_nil ?_
      refine g_qt ?_
      refine g_ret ?_
      refine g_qb_ret ?_
      refine g_qt_ret ?_
      exact g_post (Ho := [Blk p6 (.cells [.int .i64 (m : Int)].toArray 3 (0, 0))]) (rs := [.cell 5 31]) rfl (Res.cellN (by rfl) rfl (Has.own (by repeat' (first | exact Take.here | apply Take.there))) (by rfl) .nil) ⟨by unfold wordC; rw [if_pos e, if_pos f]; rfl, rfl⟩ (by repeat' (first | exact Cover.nil | exact Take.here | apply Cover.cons | apply Take.there))
    · refine g_skip ?_
      refine g_qb ?_
      refine g_qt ?_
      refine g_seq ?_
      refine g_region ?_
      refine g_pure (p_build (by rfl) rfl (by rfl)) rfl ?_
      first | refine g_eff0 (e_storeO rfl rfl (by rfl) (by rfl) (by rfl) (by repeat' (first | exact Take.here | apply Take.there)) (by rfl)) (fun _ _ => ?_) | refine g_eff0 (e_storeN rfl rfl (by rfl) (by rfl) (by rfl) (by repeat' (first | exact Take.here | apply Take.there)) (by simp)) (fun _ _ => ?_)
      rintro rfl
      refine g_nil ?_
      refine g_qt ?_
      refine g_ret ?_
      exact g_post (Ho := [Blk p6 (.cells [.int .i64 (m : Int)].toArray 3 (0, 0))]) (rs := [.cell 5 31]) rfl (Res.cellN (by rfl) rfl (Has.own (by repeat' (first | exact Take.here | apply Take.there))) (by rfl) .nil) ⟨by unfold wordC; rw [if_pos e, if_neg (by rw [f]; simp)]; rfl, rfl⟩ (by repeat' (first | exact Cover.nil | exact Take.here | apply Cover.cons | apply Take.there))
theorem word_ok {ρ : Nat → Obj → Prop} {ha la : Option Addr} {hc lc : Nat} {hd lp : List Bool} (h : WdR ρ ha la hd lp) {a : List Ce} {aa : Option Addr} {ac : Nat} (h3 : RSl ρ 2 aa a.length (a.flatMap encC)) (hl : a.length ≤ 1000000) :
    Con Try.prog ρ 28 #[.agg #[.slice ha hd.length hc, .slice la lp.length lc], .slice aa a.length ac] [] (StrP (WordL hd lp a)) := by
  have heq : (List.range (lenF [a])).map (outF true [a] (fun t => wordC hd lp (kF a t))) = WordL hd lp a := outF_map rfl fun t _ => by rw [joint1, wordC_clean]; rfl
  refine con_intro Try.func28 Try.call28 rfl Try.ntmps28 rfl (L := [(0, _), (1, _)]) rfl fun w hh => ?_
  refine g_seq ?_
  refine g_region ?_
  refine g_eff (e_box rfl (by rfl)) rfl (fun _ _ => ?_)
  rintro ⟨b2, rfl, rfl⟩
  refine g_pure (p_assign rfl) rfl ?_
  refine g_nil ?_
  refine g_qt ?_
  refine g_seq ?_
  refine g_region ?_
  first | refine g_pure (p_loadO (by rfl) rfl (by first | (apply Has.own; (repeat' (first | exact Take.here | apply Take.there)); done) | exact Has.ro (by assumption)) (by rfl)) rfl ?_ | refine g_pure (p_loadN (by rfl) rfl (by first | (apply Has.own; (repeat' (first | exact Take.here | apply Take.there)); done) | exact Has.ro (by assumption)) (by first | rfl | assumption)) rfl ?_
  refine g_call (Hin := []) (Hr := ?hr10) (R := ?rr10) rfl rfl rfl ?hin10 ?hc10 ?hk10
  case hin10 => repeat' (first | exact Cover.nil | exact Take.here | apply Cover.cons | apply Take.there)
  case hc10 => intro ρ' hρ hR; exact wcheck_ok (h.mono hρ)
  rintro _ _ ⟨rfl, rfl⟩
  refine g_pure (p_eql rfl rfl) rfl ?_
  refine g_eff (e_alloc (by rfl)) rfl (fun _ _ => ?_)
  rintro ⟨b5, rfl, rfl⟩
  first | refine g_eff0 (e_storeO rfl rfl (by rfl) (by rfl) (by rfl) (by repeat' (first | exact Take.here | apply Take.there)) (by rfl)) (fun _ _ => ?_) | refine g_eff0 (e_store1 (by rfl) rfl rfl rfl (by repeat' (first | exact Take.here | apply Take.there)) (by first | decide | (simp <;> omega) | omega)) (fun _ _ => ?_)
  rintro rfl
  refine g_nil ?_
  refine g_qt ?_
  refine g_seq ?_
  refine g_region ?_
  refine g_eff (e_alloc (by rfl)) rfl (fun _ _ => ?_)
  rintro ⟨b6, rfl, rfl⟩
  first | refine g_eff0 (e_storeO rfl rfl (by rfl) (by rfl) (by rfl) (by repeat' (first | exact Take.here | apply Take.there)) (by rfl)) (fun _ _ => ?_) | refine g_eff0 (e_store1 (by rfl) rfl rfl rfl (by repeat' (first | exact Take.here | apply Take.there)) (by first | decide | (simp <;> omega) | omega)) (fun _ _ => ?_)
  rintro rfl
  refine g_nil ?_
  refine g_qt ?_
  refine g_seq ?_
  refine g_region ?_
  refine g_pure (p_makeFunc rfl rfl) rfl ?_
  refine g_pure (p_build (by rfl) rfl (by rfl)) rfl ?_
  refine g_pure (p_move rfl) rfl ?_
  refine g_eff (e_bs (xs := [.tmp 12]) rfl rfl rfl (by rfl) (by rfl) rfl (by rfl)) rfl (fun _ _ => ?_)
  rintro ⟨b13, rfl, rfl⟩
  refine g_call (Hin := [Blk b6 (.cells [.int .i64 ((kF a 0 : Nat) - 1 : Int)].toArray 3 (0, 0))]) (Hr := ?hr11) (R := ?rr11) rfl rfl rfl ?hin11 ?hc11 ?hk11
  case hin11 => repeat' (first | exact Cover.nil | exact Take.here | apply Cover.cons | apply Take.there)
  case hc11 => intro ρ' hρ hR; exact along_ok (l := [a]) (d := 52) (dcap := #[.pointer (some ⟨b6, 0, none⟩), .pointer (some ⟨b5, 0, none⟩), .pointer (some ⟨b2, 0, none⟩)]) (St := fun t => Blk b6 (.cells [Value.int .i64 ((kF a t : Nat) - 1 : Int)].toArray 3 (0, 0))) (g := fun t => wordC hd lp (kF a t)) (SlS.of1 hR.1.blk (h3.mono hρ)) (by simp) hl (fun t ht hj ρ2 h2 ca k hk hc => word1_ok (h.mono fun b o hb => h2 b o (hρ b o hb)) (by rw [lenF1] at ht; omega) (hj rfl) (h2 _ _ hR.2.1.blk) (h2 _ _ hR.2.2.1.blk)) (fun t ht _ hj => congrArg (fun c => Blk b6 (.cells [Value.int .i64 ((c : Nat) - 1 : Int)].toArray 3 (0, 0))) (kF_skip hj))
  rintro _ _ ⟨o, c, rfl, rfl⟩
  rw [heq]
  refine g_pure (p_assign rfl) rfl ?_
  refine g_nil ?_
  refine g_qt ?_
  refine g_ret ?_
  exact g_post (rs := [.tmp 4]) rfl (.tmp rfl .nil) ⟨o, c, rfl, rfl⟩ (by repeat' (first | exact Cover.nil | exact Take.here | apply Cover.cons | apply Take.there))
end Go.Proofs.Ytceecdjckhbncaa
