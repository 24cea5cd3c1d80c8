/- Chapter 16: the program's operations: delays, operators, constants, words. Conditions: none. -/
import Derived.Test.YtceecdjckhbncaaC6
namespace Go.Z.Val
set_option linter.unusedVariables false
set_option linter.unusedSimpArgs false
set_option linter.unusedSectionVars false
open Go Go.Z
theorem SlS.of1 {ρ : Nat → Obj → Prop} {b : Nat} {T : TypeId} {fz : Nat × Nat} {a1 : Option Addr} {c1 : Nat} {x : List Ce} (h : ρ b (.cells [.slice a1 x.length c1].toArray T fz)) (h1 : RSl ρ 2 a1 x.length (x.flatMap encC)) : SlS ρ (some ⟨b, 0, none⟩) [x] := by
  refine ⟨_, rfl, fun j hj => ?_, RSl.of_blk (size := 1) (k := 1) h (by simp)⟩
  match j, hj with
  | 0, _ => exact ⟨a1, c1, rfl, h1⟩
theorem SlS.of2 {ρ : Nat → Obj → Prop} {b : Nat} {T : TypeId} {fz : Nat × Nat} {a1 a2 : Option Addr} {c1 c2 : Nat} {x y : List Ce} (h : ρ b (.cells [.slice a1 x.length c1, .slice a2 y.length c2].toArray T fz)) (h1 : RSl ρ 2 a1 x.length (x.flatMap encC)) (h2 : RSl ρ 2 a2 y.length (y.flatMap encC)) : SlS ρ (some ⟨b, 0, none⟩) [x, y] := by
  refine ⟨_, rfl, fun j hj => ?_, RSl.of_blk (size := 1) (k := 2) h (by simp)⟩
  match j, hj with
  | 0, _ => exact ⟨a1, c1, rfl, h1⟩
  | 1, _ => exact ⟨a2, c2, rfl, h2⟩
theorem lenF1 (x : List Ce) : lenF [x] = x.length := rfl
theorem lenF2 (x y : List Ce) : lenF [x, y] = min x.length y.length := rfl
theorem joint1 (x : List Ce) (t : Nat) : jointF [x] t = thereB (at0 x t) := by simp [jointF]
theorem joint2 (x y : List Ce) (t : Nat) : jointF [x, y] t = (thereB (at0 x t) && thereB (at0 y t)) := by simp [jointF]

/-- a delay: what was there last -/
def lastF (a : List Ce) : Nat → Ce
  | 0 => (2, 0)
  | t + 1 => if thereB (at0 a t) then cleanF (at0 a t) else lastF a t
theorem lastF_skip {a : List Ce} {t : Nat} (h : jointF [a] t = false) : lastF a (t + 1) = lastF a t := by
  rw [joint1] at h; show (if _ then _ else _) = _; rw [if_neg (by rw [h]; simp)]
theorem lastF_clean (a : List Ce) : ∀ t, cleanF (lastF a t) = lastF a t
  | 0 => rfl
  | t + 1 => by unfold lastF; split; exact cleanF_idem _; exact lastF_clean a t
def PreF (a : List Ce) (t : Nat) : Ce := if thereB (at0 a t) then lastF a t else (0, 0)
def PreL (a : List Ce) : List Ce := (List.range a.length).map (PreF a)
/-- no instant at which both are there came before t -/
def firstF (a b : List Ce) : Nat → Bool
  | 0 => true
  | t + 1 => firstF a b t && !jointF [a, b] t
def ArrowF (a b : List Ce) (t : Nat) : Ce := if jointF [a, b] t then (if firstF a b t then cleanF (at0 a t) else cleanF (at0 b t)) else (0, 0)
def ArrowL (a b : List Ce) : List Ce := (List.range (min a.length b.length)).map (ArrowF a b)
def lastB (a b : List Ce) : Nat → Ce
  | 0 => (0, 0)
  | t + 1 => if jointF [a, b] t then cleanF (at0 b t) else lastB a b t
theorem lastB_clean (a b : List Ce) : ∀ t, cleanF (lastB a b t) = lastB a b t
  | 0 => rfl
  | t + 1 => by unfold lastB; split; exact cleanF_idem _; exact lastB_clean a b t
def FbyF (a b : List Ce) (t : Nat) : Ce := if jointF [a, b] t then (if firstF a b t then cleanF (at0 a t) else lastB a b t) else (0, 0)
def FbyL (a b : List Ce) : List Ce := (List.range (min a.length b.length)).map (FbyF a b)
theorem liftF_clean (op : Int) (l : List Ce) : cleanF (liftF op l) = liftF op l := by
  unfold liftF; (repeat' split) <;> simp [cleanF]
def LiftG (op : Int) (l : List (List Ce)) (t : Nat) : Ce := if jointF l t then liftF op (cellsAt l t) else (0, 0)
def LiftL (op : Int) (l : List (List Ce)) : List Ce := (List.range (lenF l)).map (LiftG op l)
def ConstL (v n : Int) : List Ce := (List.range (min (max n 0) 4096).toNat).map fun _ => (1, v)
def checkW (hd lp : List Bool) : Int := if lp.length = 0 then 5 else if 64 < hd.length + lp.length then 3 else 0
def letterF (hd lp : List Bool) (k : Nat) : Bool := if k < hd.length then hd.getD k false else lp.getD ((k - hd.length) % lp.length) false
def kF (a : List Ce) : Nat → Nat
  | 0 => 0
  | t + 1 => kF a t + if thereB (at0 a t) then 1 else 0
theorem kF_le (a : List Ce) : ∀ t, kF a t ≤ t
  | 0 => Nat.le_refl _
  | t + 1 => by have := kF_le a t; unfold kF; split <;> omega
def wordC (hd lp : List Bool) (k : Nat) : Ce := if checkW hd lp = 0 then (if letterF hd lp k then (1, 1) else (1, 0)) else (2, 0)
theorem wordC_clean (hd lp : List Bool) (k : Nat) : cleanF (wordC hd lp k) = wordC hd lp k := by
  unfold wordC; (repeat' split) <;> rfl
def WordF (hd lp : List Bool) (a : List Ce) (t : Nat) : Ce := if thereB (at0 a t) then wordC hd lp (kF a t) else (0, 0)
def WordL (hd lp : List Bool) (a : List Ce) : List Ce := (List.range a.length).map (WordF hd lp a)
theorem outF_eq {l : List (List Ce)} {g out : Nat → Ce} {n : Nat} (hn : lenF l = n) (h : ∀ t, t < n → out t = if jointF l t then cleanF (g t) else (0, 0)) : (List.range (lenF l)).map (fun t => if true && !jointF l t then ((0, 0) : Ce) else cleanF (g t)) = (List.range n).map out := by
  rw [hn]
  refine List.map_congr_left fun t ht => ?_
  rw [h t (List.mem_range.1 ht)]
  cases jointF l t <;> rfl
end Go.Z.Val
namespace Go.Proofs.Ytceecdjckhbncaa
open Go Go.Z Go.Z.Val
/-- an answer that is a stream -/
def StrP (xs : List Ce) (v : Value) (H : List Assn) : Prop := ∃ o c, v = .slice o xs.length c ∧ H = [OwnSl 31 2 o xs.length c (xs.flatMap encC)]
theorem outF_map {l : List (List Ce)} {g out : Nat → Ce} {n : Nat} (hn : lenF l = n) (h : ∀ t, t < n → out t = if jointF l t then cleanF (g t) else (0, 0)) : (List.range (lenF l)).map (outF true l g) = (List.range n).map out := outF_eq hn h
theorem cells_of {ρ : Nat → Obj → Prop} {ca : Option Addr} {k : Nat} {l : List (List Ce)} {t : Nat} (ek : k = l.length) (h : RSl ρ 2 ca k ((cellsAt l t).flatMap encC)) : RSl ρ 2 ca (cellsAt l t).length ((cellsAt l t).flatMap encC) := by
  rw [cellsAt_len, ← ek]; exact h

theorem pre1_ok {ρ : Nat → Obj → Prop} {a : List Ce} {t p3 : Nat} (hj : thereB (at0 a t) = true) {ca : Option Addr} {k : Nat} (ek : k = [a].length) (hc : RSl ρ 2 ca k ((cellsAt [a] t).flatMap encC)) :
    Con Try.prog ρ 36 #[.slice ca k k, .pointer (some ⟨p3, 0, none⟩)] [Blk p3 (.cells (encC (lastF a t)).toArray 31 (0, 0))] (fun v H => v = aggC (lastF a t) ∧ H = [Blk p3 (.cells (encC (lastF a (t + 1))).toArray 31 (0, 0))]) := by
  obtain ⟨_, bl, ol, kl, Tl, fl, hl⟩ := hc
  obtain ⟨l1, l2, l3⟩ := hl (by rw [ek]; simp)
  obtain ⟨x0, -, -⟩ := cell_at l3 (k := 0) (by simp [cellsAt])
  have hn : lastF a (t + 1) = cleanF (at0 a t) := by show (if _ then _ else _) = _; rw [if_pos hj]
  rw [hn]
  have x0' : sub kl (ol + (0 : Int).toNat * 2) 2 = some (encC (cleanF (at0 a t))) := x0
  clear x0
  generalize cleanF (at0 a t) = u at *
  generalize lastF a t = z at *
  obtain ⟨u1, u2⟩ := u
  obtain ⟨z1, z2⟩ := z
  subst ek
  show Con _ _ _ _ [Blk p3 (.cells [.int .i64 z1, .int .i64 z2].toArray 31 (0, 0))] _
  refine con_intro Try.func36 Try.call36 rfl Try.ntmps36 rfl (L := [(0, _), (1, _)]) rfl fun w hh => ?_
  refine g_seq ?_
  refine g_region ?_
  refine g_eff (e_alloc (by rfl)) rfl (fun _ _ => ?_)
  rintro ⟨b3, rfl, rfl⟩
  refine g_nil ?_
  refine g_qt ?_
  refine g_seq ?_
  refine g_region ?_
  first | refine g_pure (p_loadO (by rfl) rfl (by first | (apply Has.own; (repeat' (first | exact Take.here | apply Take.there)); done) | exact Has.ro (by assumption)) (by rfl)) rfl ?_ | refine g_pure (p_loadN (by rfl) rfl (by first | (apply Has.own; (repeat' (first | exact Take.here | apply Take.there)); done) | exact Has.ro (by assumption)) (by first | rfl | assumption)) rfl ?_
  refine g_eff (e_alloc (by rfl)) rfl (fun _ _ => ?_)
  rintro ⟨b4, rfl, rfl⟩
  first | refine g_eff0 (e_storeO rfl rfl (by rfl) (by rfl) (by rfl) (by repeat' (first | exact Take.here | apply Take.there)) (by rfl)) (fun _ _ => ?_) | refine g_eff0 (e_storeN rfl rfl (by rfl) (by rfl) (by rfl) (by repeat' (first | exact Take.here | apply Take.there)) (by simp)) (fun _ _ => ?_)
  rintro rfl
  refine g_nil ?_
  refine g_qt ?_
  refine g_seq ?_
  refine g_region ?_
  refine g_pure (p_move rfl) rfl ?_
  refine g_pure (p_indexAddr rfl rfl (by simp) (fun _ => l1)) rfl ?_
  refine g_pure (p_loadN (by rfl) rfl (Has.ro l2) x0') rfl ?_
  first | refine g_eff0 (e_storeO rfl rfl (by rfl) (by rfl) (by rfl) (by repeat' (first | exact Take.here | apply Take.there)) (by rfl)) (fun _ _ => ?_) | refine g_eff0 (e_storeN rfl rfl (by rfl) (by rfl) (by rfl) (by repeat' (first | exact Take.here | apply Take.there)) (by simp)) (fun _ _ => ?_)
  rintro rfl
  refine g_nil ?_
  refine g_qt ?_
  refine g_seq ?_
  refine g_region ?_
  first | refine g_pure (p_loadO (by rfl) rfl (by first | (apply Has.own; (repeat' (first | exact Take.here | apply Take.there)); done) | exact Has.ro (by assumption)) (by rfl)) rfl ?_ | refine g_pure (p_loadN (by rfl) rfl (by first | (apply Has.own; (repeat' (first | exact Take.here | apply Take.there)); done) | exact Has.ro (by assumption)) (by first | rfl | assumption)) rfl ?_
  first | refine g_eff0 (e_storeO rfl rfl (by rfl) (by rfl) (by rfl) (by repeat' (first | exact Take.here | apply Take.there)) (by rfl)) (fun _ _ => ?_) | refine g_eff0 (e_storeN rfl rfl (by rfl) (by rfl) (by rfl) (by repeat' (first | exact Take.here | apply Take.there)) (by simp)) (fun _ _ => ?_)
  rintro rfl
  refine g_nil ?_
  refine g_qt ?_
  refine g_ret ?_
  exact g_post (Ho := [Blk p3 (.cells (encC (u1, u2)).toArray 31 (0, 0))]) (rs := [.cell 3 31]) rfl (Res.cellN (by rfl) rfl (Has.own (by repeat' (first | exact Take.here | apply Take.there))) (by rfl) .nil) ⟨rfl, rfl⟩ (by repeat' (first | exact Cover.nil | exact Take.here | apply Cover.cons | apply Take.there))
theorem pre_ok {ρ : Nat → Obj → Prop} {a : List Ce} {aa : Option Addr} {ac : Nat} (ha : RSl ρ 2 aa a.length (a.flatMap encC)) (hl : a.length ≤ 1000000) :
    Con Try.prog ρ 12 #[.slice aa a.length ac] [] (StrP (PreL a)) := by
  have heq : (List.range (lenF [a])).map (outF true [a] (lastF a)) = PreL a := outF_map rfl fun t _ => by rw [joint1, lastF_clean]; rfl
  refine con_intro Try.func12 Try.call12 rfl Try.ntmps12 rfl (L := [(0, _)]) rfl fun w hh => ?_
  refine g_seq ?_
  refine g_region ?_
  refine g_pure (p_assign rfl) rfl ?_
  refine g_nil ?_
  refine g_qt ?_
  refine g_seq ?_
  refine g_region ?_
  refine g_call (Hin := []) (Hr := ?hr1) (R := ?rr1) rfl rfl rfl ?hin1 ?hc1 ?hk1
  case hin1 => repeat' (first | exact Cover.nil | exact Take.here | apply Cover.cons | apply Take.there)
  case hc1 => intro ρ' hρ hR; exact undef_ok
  rintro _ _ ⟨rfl, rfl⟩
  unfold aggC
  refine g_eff (e_alloc (by rfl)) rfl (fun _ _ => ?_)
  rintro ⟨b3, rfl, rfl⟩
  first | refine g_eff0 (e_storeO rfl rfl (by rfl) (by rfl) (by rfl) (by repeat' (first | exact Take.here | apply Take.there)) (by rfl)) (fun _ _ => ?_) | refine g_eff0 (e_storeN rfl rfl (by rfl) (by rfl) (by rfl) (by repeat' (first | exact Take.here | apply Take.there)) (by simp)) (fun _ _ => ?_)
  rintro rfl
  refine g_nil ?_
  refine g_qt ?_
  refine g_seq ?_
  refine g_region ?_
  refine g_pure (p_makeFunc rfl rfl) rfl ?_
  refine g_pure (p_build (by rfl) rfl (by rfl)) rfl ?_
  refine g_pure (p_move rfl) rfl ?_
  refine g_eff (e_bs (xs := [.tmp 7]) rfl rfl rfl (by rfl) (by rfl) rfl (by rfl)) rfl (fun _ _ => ?_)
  rintro ⟨b8, rfl, rfl⟩
  refine g_call (Hin := [Blk b3 (.cells (encC (lastF a 0)).toArray 31 (0, 0))]) (Hr := ?hr2) (R := ?rr2) rfl rfl rfl ?hin2 ?hc2 ?hk2
  case hin2 => repeat' (first | exact Cover.nil | exact Take.here | apply Cover.cons | apply Take.there)
  case hc2 => intro ρ' hρ hR; exact along_ok (l := [a]) (d := 36) (dcap := #[.pointer (some ⟨b3, 0, none⟩)]) (St := fun t => Blk b3 (.cells (encC (lastF a t)).toArray 31 (0, 0))) (g := lastF a) (SlS.of1 hR.1.blk (ha.mono hρ)) (by simp) hl (fun t ht hj ρ2 h2 ca k hk hc => pre1_ok ((joint1 a t).symm.trans (hj rfl)) hk hc) (fun t ht _ hj => congrArg (fun c => Blk b3 (.cells (encC c).toArray 31 (0, 0))) (lastF_skip hj))
  rintro _ _ ⟨o, c, rfl, rfl⟩
  rw [heq]
  refine g_pure (p_assign rfl) rfl ?_
  refine g_nil ?_
  refine g_qt ?_
  refine g_ret ?_
  exact g_post (rs := [.tmp 2]) rfl (.tmp rfl .nil) ⟨o, c, rfl, rfl⟩ (by repeat' (first | exact Cover.nil | exact Take.here | apply Cover.cons | apply Take.there))
end Go.Proofs.Ytceecdjckhbncaa
