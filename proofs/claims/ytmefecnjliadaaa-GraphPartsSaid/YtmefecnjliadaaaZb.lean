/- Own layer, part 2: single operations. Conditions: none; generic in the program. -/
import Derived.Test.YtmefecnjliadaaaZa
namespace Go.Z
set_option maxRecDepth 8000
set_option linter.unusedVariables false
set_option linter.unusedSimpArgs false
set_option linter.unusedSectionVars false
open Go

structure Ty where
  d : TypeDesc
  size : Nat
  zero : Value
  bytes : Nat

class TyC (P : Program) (t : Nat) (y : outParam Ty) : Prop where
  u : P.underlying t = some y.d
  i : ∃ i, P.info? t = some i ∧ i.size = y.size ∧ i.zero = some y.zero ∧ i.bytes = y.bytes

variable {P : Program} {n : Nat} {L L' : Fr} {H H' Hi Hr : List Assn} {M : Mx} {Q : Exit → Act → World → Prop} {ops : Array Oper} {rest : List Oper}
variable {dd : Option Tmp} {ty t : TypeId} {ps : String} {af : Array Edge} {gd : Option (Nat × Bool)} {x y z : Operand} {v u : Value}

class SlC (P : Program) (t : Nat) (e : outParam Nat) (ye : outParam Ty) : Prop where
  t : ∃ yt, TyC P t yt ∧ yt.d = .slice e
  e : TyC P e ye
class MapC (P : Program) (t : Nat) (k : outParam Nat) (e : outParam Nat) (ye : outParam Ty) : Prop where
  t : ∃ yt, TyC P t yt ∧ yt.d = .map k e
  e : TyC P e ye

theorem TyC.run_u {t : Nat} {yy : Ty} (h : TyC P t yy) (w : World) : (underlying t).run P w = .ok yy.d w := by simp [underlying, h.u]
theorem TyC.run_size {t : Nat} {yy : Ty} (h : TyC P t yy) (w : World) : (sizeOf t).run P w = .ok yy.size w := by
  obtain ⟨i, h1, h2, h3, h4⟩ := h.i; simp [sizeOf, typeInfo, h1, h2]
theorem TyC.run_zero {t : Nat} {yy : Ty} (h : TyC P t yy) (w : World) : (zeroValue t).run P w = .ok yy.zero w := by
  obtain ⟨i, h1, h2, h3, h4⟩ := h.i; simp [zeroValue, typeInfo, h1, h3]
theorem TyC.run_info {t : Nat} {yy : Ty} (h : TyC P t yy) : ∃ i, (∀ w, (typeInfo t).run P w = .ok i w) ∧ i.bytes = yy.bytes ∧ i.size = yy.size ∧ P.info? t = some i ∧ i.zero = some yy.zero := by
  obtain ⟨i, h1, h2, h3, h4⟩ := h.i; exact ⟨i, fun w => by simp [typeInfo, h1], h4, h2, h1, h3⟩
def aggD : TypeDesc → Bool
  | .struct _ | .array _ _ => true
  | _ => false
theorem TyC.run_agg {t : Nat} {yy : Ty} (h : TyC P t yy) (w : World) : (isAgg t).run P w = .ok (aggD yy.d) w := by
  simp only [isAgg, Sem.run_bind, h.run_u, Result.andThen_ok]
  cases yy.d <;> rfl

/-- The operation yields v and leaves the world alone, in every world of the state. -/
def Pur (P : Program) (M : Mx) (n : Nat) (L : Fr) (H : List Assn) (o : Oper) (v : Value) : Prop :=
  ∀ a w, Holds n L a → Ms M H w → (execOp a.eval o).run P w = .ok (.value v) w
/-- The operation yields a value and a state as told. -/
def Eff (P : Program) (M : Mx) (n : Nat) (L : Fr) (H : List Assn) (o : Oper) (post : Value → List Assn → Prop) : Prop :=
  ∀ a w, Holds n L a → Ms M H w → ∀ (K : Act → World → Prop) (Q : Exit → Act → World → Prop), (∀ v H' w', post v H' → Ms M H' w' → K (a.put o.dst v) w') → o.wp P a w K Q

/-- in every world -/
def PurA (P : Program) (n : Nat) (L : Fr) (o : Oper) (v : Value) : Prop := ∀ M H, Pur P M n L H o v
theorem PurA.run {o : Oper} (h : PurA P n L o v) : ∀ a w, Holds n L a → (execOp a.eval o).run P w = .ok (.value v) w := fun a w ha =>
  h ⟨fun _ _ => False, w, fun _ => none⟩ [] a w ha ⟨rfl, rfl, rfl, Nat.le_refl _, fun _ _ _ => rfl, fun _ _ h => h.elim, fun _ => none, rfl, fun b o e => by simp at e, fun b e => absurd rfl e, fun _ _ h => h.elim⟩
theorem Pur.eff {o : Oper} (h : Pur P M n L H o v) : Eff P M n L H o (fun v' H' => v' = v ∧ H' = H) := by
  intro a w ha hm K Q hk
  unfold Oper.wp
  rw [h a w ha hm]
  exact hk v H w ⟨rfl, rfl⟩ hm

theorem Eff.of_run {o : Oper} {post : Value → List Assn → Prop} (h : ∀ a w, Holds n L a → Ms M H w → ∃ v H' w', (execOp a.eval o).run P w = .ok (.value v) w' ∧ post v H' ∧ Ms M H' w') : Eff P M n L H o post := by
  intro a w ha hm K Q hk
  obtain ⟨v, H', w', h1, h2, h3⟩ := h a w ha hm
  unfold Oper.wp
  rw [h1]
  exact hk v H' w' h2 h3

theorem Eff.of_skip {o : Oper} {post : Value → List Assn → Prop} (h : ∀ a w, Holds n L a → Ms M H w → ∃ H' w', (execOp a.eval o).run P w = .ok .skip w' ∧ post undef H' ∧ Ms M H' w') : Eff P M n L H o post := by
  intro a w ha hm K Q hk
  obtain ⟨H', w', h1, h2, h3⟩ := h a w ha hm
  unfold Oper.wp
  rw [h1]
  exact hk undef H' w' h2 h3

/-! ### rules of a list of operations -/
theorem g_pure {d : Nat} {op : Op} (hp : Pur P M n L H ⟨some d, op, ty, ps, af, none⟩ v) (hn : Nat.blt d n = true) (k : G M n ((d, v) :: L) H (TL P ops rest Q)) :
    G M n L H (TL P ops (⟨some d, op, ty, ps, af, none⟩ :: rest) Q) := by
  unfold G TL at *
  intro a w ha hm
  refine wpList_plain rfl fun K hK => ?_
  unfold Oper.wp
  rw [hp a w ha hm]
  exact hK _ _ (k _ _ (ha.put (by simpa using hn) v) hm)

theorem g_pure0 {op : Op} (hp : Pur P M n L H ⟨none, op, ty, ps, af, none⟩ v) (k : G M n L H (TL P ops rest Q)) :
    G M n L H (TL P ops (⟨none, op, ty, ps, af, none⟩ :: rest) Q) := by
  unfold G TL at *
  intro a w ha hm
  refine wpList_plain rfl fun K hK => ?_
  unfold Oper.wp
  rw [hp a w ha hm]
  exact hK _ _ (k _ _ ha hm)

theorem g_eff {d : Nat} {op : Op} {post : Value → List Assn → Prop} (hp : Eff P M n L H ⟨some d, op, ty, ps, af, none⟩ post) (hn : Nat.blt d n = true) (k : ∀ v H', post v H' → G M n ((d, v) :: L) H' (TL P ops rest Q)) :
    G M n L H (TL P ops (⟨some d, op, ty, ps, af, none⟩ :: rest) Q) := by
  unfold G TL at *
  intro a w ha hm
  refine wpList_plain rfl fun K hK => ?_
  exact hp a w ha hm K Q fun v H' w' hpost hm' => hK _ _ (k v H' hpost _ _ (ha.put (by simpa using hn) v) hm')

theorem g_eff0 {op : Op} {post : Value → List Assn → Prop} (hp : Eff P M n L H ⟨none, op, ty, ps, af, none⟩ post) (k : ∀ v H', post v H' → G M n L H' (TL P ops rest Q)) :
    G M n L H (TL P ops (⟨none, op, ty, ps, af, none⟩ :: rest) Q) := by
  unfold G TL at *
  intro a w ha hm
  refine wpList_plain rfl fun K hK => ?_
  exact hp a w ha hm K Q fun v H' w' hpost hm' => hK _ _ (k v H' hpost _ _ ha hm')

theorem yielded_of {a : Act} {j dj : Nat} {b : Bool} (hd : (ops[j]?).bind (·.dst) = some dj) (ha : Holds n L a) (hl : L.lookup dj = some (.bool b)) : yielded ops a.tmps j = some b := by
  have h := ha.look _ _ hl
  unfold yielded
  rw [hd]
  cases e : a.tmps[dj]? with
  | none => rw [Array.getD_eq_getD_getElem?, e] at h; cases h
  | some u => rw [Array.getD_eq_getD_getElem?, e] at h; simp at h; subst h; simp [e]

theorem g_yes {op : Op} {j dj : Nat} {b : Bool} (hd : (ops[j]?).bind (·.dst) = some dj) (hl : L.lookup dj = some (.bool b)) (k : G M n L H (TL P ops (⟨dd, op, ty, ps, af, none⟩ :: rest) Q)) :
    G M n L H (TL P ops (⟨dd, op, ty, ps, af, some (j, b)⟩ :: rest) Q) := by
  unfold G TL at *
  intro a w ha hm
  have hy := yielded_of hd ha hl
  have := k a w ha hm
  unfold wpList at this ⊢
  rw [if_pos (by simp [Region.wanted])] at this
  rw [if_pos (by simp [Region.wanted, hy])]
  exact this

theorem g_no {op : Op} {j dj d : Nat} {b c : Bool} (hd : (ops[j]?).bind (·.dst) = some dj) (hl : L.lookup dj = some (.bool c)) (hb : (c == b) = false) (hn : Nat.blt d n = true) (k : G M n ((d, undef) :: L) H (TL P ops rest Q)) :
    G M n L H (TL P ops (⟨some d, op, ty, ps, af, some (j, b)⟩ :: rest) Q) := by
  unfold G TL at *
  intro a w ha hm
  have hy := yielded_of hd ha hl
  unfold wpList
  rw [if_neg (by simp [Region.wanted, hy]; simpa using hb)]
  exact k _ _ (ha.put (by simpa using hn) _) hm

theorem g_no0 {op : Op} {j dj : Nat} {b c : Bool} (hd : (ops[j]?).bind (·.dst) = some dj) (hl : L.lookup dj = some (.bool c)) (hb : (c == b) = false) (k : G M n L H (TL P ops rest Q)) :
    G M n L H (TL P ops (⟨none, op, ty, ps, af, some (j, b)⟩ :: rest) Q) := by
  unfold G TL at *
  intro a w ha hm
  have hy := yielded_of hd ha hl
  unfold wpList
  rw [if_neg (by simp [Region.wanted, hy]; simpa using hb)]
  exact k _ _ ha hm

/-- A guard that is not decided: two ways. -/
theorem g_split {op : Op} {j dj : Nat} {b c : Bool} (hd : (ops[j]?).bind (·.dst) = some dj) (hl : L.lookup dj = some (.bool c))
    (k1 : c = true → G M n ((dj, .bool true) :: L) H (TL P ops (⟨dd, op, ty, ps, af, some (j, b)⟩ :: rest) Q)) (k2 : c = false → G M n ((dj, .bool false) :: L) H (TL P ops (⟨dd, op, ty, ps, af, some (j, b)⟩ :: rest) Q)) :
    G M n L H (TL P ops (⟨dd, op, ty, ps, af, some (j, b)⟩ :: rest) Q) := by
  have key : ∀ b', c = b' → ∀ a, Holds n L a → Holds n ((dj, .bool b') :: L) a := fun b' e a ha => ⟨ha.size, ha.defers, fun t v h => by
    simp only [List.lookup_cons] at h
    by_cases e1 : t = dj
    · subst e1; simp at h; subst h; subst e; exact ha.look _ _ hl
    · have : (t == dj) = false := by simpa using e1
      simp only [this] at h; exact ha.look _ _ h⟩
  intro a w ha hm
  cases hc : c with
  | true => exact k1 hc a w (key true hc a ha) hm
  | false => exact k2 hc a w (key false hc a ha) hm

/-! ### operations without effect -/
theorem p_move (h : ev L x = some v) : Pur P M n L H ⟨dd, .move x, ty, ps, af, gd⟩ v := fun a w ha _ => by simp [execOp, ha.ev h]
theorem p_assign (h : ev L x = some v) : Pur P M n L H ⟨dd, .assign x, ty, ps, af, gd⟩ v := fun a w ha _ => by simp [execOp, ha.ev h]
theorem p_pickt (hc : ev L x = some (.bool true)) (h : ev L y = some v) : Pur P M n L H ⟨dd, .pick x y z, ty, ps, af, gd⟩ v := fun a w ha _ => by simp [execOp, asBool, ha.ev hc, ha.ev h]
theorem p_pickf (hc : ev L x = some (.bool false)) (h : ev L z = some v) : Pur P M n L H ⟨dd, .pick x y z, ty, ps, af, gd⟩ v := fun a w ha _ => by simp [execOp, asBool, ha.ev hc, ha.ev h]
def nthO : List Value → Nat → Option Value
  | [], _ => none
  | v :: _, 0 => some v
  | _ :: l, i + 1 => nthO l i
theorem nthO_eq : ∀ (l : List Value) (i : Nat), nthO l i = l[i]?
  | [], i => by simp [nthO]
  | v :: l, 0 => by simp [nthO]
  | v :: l, i + 1 => by simp [nthO, nthO_eq l i]
theorem p_extract {vs : Array Value} {i : Nat} (h : ev L x = some (.tuple vs)) (hi : nthO vs.toList i = some v) : Pur P M n L H ⟨dd, .extract x i, ty, ps, af, gd⟩ v := fun a w ha _ => by
  rw [nthO_eq] at hi
  have hi' : vs[i]? = some v := by simpa using hi
  simp [execOp, Instr.extract, ha.ev h, hi']
theorem p_nilCheck {ad : Addr} (h : ev L x = some (.pointer (some ad))) : Pur P M n L H ⟨dd, .nilCheck x, ty, ps, af, gd⟩ (.pointer (some ad)) := fun a w ha _ => by simp [execOp, ha.ev h]
def evL (L : Fr) : List Operand → Option (List Value)
  | [] => some []
  | x :: xs => match ev L x, evL L xs with
    | some v, some vs => some (v :: vs)
    | _, _ => none
theorem evL_eq : ∀ xs : List Operand, evL L xs = xs.mapM (ev L)
  | [] => by simp [evL]
  | x :: xs => by
    rw [List.mapM_cons, evL, evL_eq xs]
    cases ev L x <;> cases xs.mapM (ev L) <;> rfl
theorem p_makeFunc {f : Fn} {first cap : Array Operand} {vf vc : List Value} (h1 : evL L first.toList = some vf) (h2 : evL L cap.toList = some vc) : Pur P M n L H ⟨dd, .makeFunc f first cap, ty, ps, af, gd⟩ (.func f vf.toArray vc.toArray) := fun a w ha _ => by
  rw [evL_eq] at h1 h2
  have key : ∀ (l : List Operand) (vs : List Value), l.mapM (ev L) = some vs → l.map a.eval = vs := by
    intro l
    induction l with
    | nil => intro vs h; simp at h; subst h; rfl
    | cons o l ih =>
      intro vs h
      simp only [List.mapM_cons, Option.pure_def, Option.bind_eq_bind, Option.bind_eq_some_iff, Option.some.injEq] at h
      obtain ⟨v, hv, vs', hvs, rfl⟩ := h
      simp [ha.ev hv, ih _ hvs]
  have e1 : first.map a.eval = vf.toArray := by apply Array.ext'; simpa using key _ _ h1
  have e2 : cap.map a.eval = vc.toArray := by apply Array.ext'; simpa using key _ _ h2
  simp [execOp, Instr.makeFunc, e1, e2]

theorem evs {a : Act} (ha : Holds n L a) : ∀ (l : List Operand) (vs : List Value), l.mapM (ev L) = some vs → l.map a.eval = vs := by
  intro l
  induction l with
  | nil => intro vs h; simp at h; subst h; rfl
  | cons o l ih =>
    intro vs h
    simp only [List.mapM_cons, Option.pure_def, Option.bind_eq_bind, Option.bind_eq_some_iff, Option.some.injEq] at h
    obtain ⟨v, hv, vs', hvs, rfl⟩ := h
    simp [ha.ev hv, ih _ hvs]

section ints
variable {k k' kd : IntKind} {i j r : Int} {tz : TypeId}

theorem i64_in {n : Int} (h1 : -9223372036854775808 ≤ n) (h2 : n ≤ 9223372036854775807) : IntKind.i64.wrap n = n := IntWalk.i64_in n ⟨h1, h2⟩

theorem p_add (h1 : ev L x = some (.int k i)) (h2 : ev L y = some (.int k j)) : Pur P M n L H ⟨dd, .binOp .add t x y tz, ty, ps, af, gd⟩ (.int k (k.wrap (i + j))) := fun a w ha _ => by
  simp [execOp, ha.ev h1, ha.ev h2, eqGuard, binOp, Op.intArith]
theorem p_sub (h1 : ev L x = some (.int k i)) (h2 : ev L y = some (.int k j)) : Pur P M n L H ⟨dd, .binOp .sub t x y tz, ty, ps, af, gd⟩ (.int k (k.wrap (i - j))) := fun a w ha _ => by
  simp [execOp, ha.ev h1, ha.ev h2, eqGuard, binOp, Op.intArith]
theorem p_mul (h1 : ev L x = some (.int k i)) (h2 : ev L y = some (.int k j)) : Pur P M n L H ⟨dd, .binOp .mul t x y tz, ty, ps, af, gd⟩ (.int k (k.wrap (i * j))) := fun a w ha _ => by
  simp [execOp, ha.ev h1, ha.ev h2, eqGuard, binOp, Op.intArith]
theorem p_addi (h1 : ev L x = some (.int .i64 i)) (h2 : ev L y = some (.int .i64 j)) (h : -9223372036854775808 ≤ i + j ∧ i + j ≤ 9223372036854775807) : Pur P M n L H ⟨dd, .binOp .add t x y tz, ty, ps, af, gd⟩ (.int .i64 (i + j)) := by
  have := p_add (P := P) (M := M) (n := n) (H := H) (dd := dd) (t := t) (tz := tz) (ty := ty) (ps := ps) (af := af) (gd := gd) h1 h2
  rwa [i64_in h.1 h.2] at this
theorem p_subi (h1 : ev L x = some (.int .i64 i)) (h2 : ev L y = some (.int .i64 j)) (h : -9223372036854775808 ≤ i - j ∧ i - j ≤ 9223372036854775807) : Pur P M n L H ⟨dd, .binOp .sub t x y tz, ty, ps, af, gd⟩ (.int .i64 (i - j)) := by
  have := p_sub (P := P) (M := M) (n := n) (H := H) (dd := dd) (t := t) (tz := tz) (ty := ty) (ps := ps) (af := af) (gd := gd) h1 h2
  rwa [i64_in h.1 h.2] at this
theorem p_muli (h1 : ev L x = some (.int .i64 i)) (h2 : ev L y = some (.int .i64 j)) (h : -9223372036854775808 ≤ i * j ∧ i * j ≤ 9223372036854775807) : Pur P M n L H ⟨dd, .binOp .mul t x y tz, ty, ps, af, gd⟩ (.int .i64 (i * j)) := by
  have := p_mul (P := P) (M := M) (n := n) (H := H) (dd := dd) (t := t) (tz := tz) (ty := ty) (ps := ps) (af := af) (gd := gd) h1 h2
  rwa [i64_in h.1 h.2] at this
theorem p_quo (h1 : ev L x = some (.int k i)) (h2 : ev L y = some (.int k j)) (hj : j ≠ 0) : Pur P M n L H ⟨dd, .binOp .quo t x y tz, ty, ps, af, gd⟩ (.int k (k.wrap (i.tdiv j))) := fun a w ha _ => by
  simp [execOp, ha.ev h1, ha.ev h2, eqGuard, binOp, Op.intDiv, hj]
theorem p_rem (h1 : ev L x = some (.int k i)) (h2 : ev L y = some (.int k j)) (hj : j ≠ 0) : Pur P M n L H ⟨dd, .binOp .rem t x y tz, ty, ps, af, gd⟩ (.int k (i.tmod j)) := fun a w ha _ => by
  simp [execOp, ha.ev h1, ha.ev h2, eqGuard, binOp, Op.intDiv, hj]
theorem p_quoi (h1 : ev L x = some (.int .i64 i)) (h2 : ev L y = some (.int .i64 j)) (hj : 0 < j) (hi : -9223372036854775808 ≤ i ∧ i ≤ 9223372036854775807) : Pur P M n L H ⟨dd, .binOp .quo t x y tz, ty, ps, af, gd⟩ (.int .i64 (i.tdiv j)) := by
  have := p_quo (P := P) (M := M) (n := n) (H := H) (dd := dd) (t := t) (tz := tz) (ty := ty) (ps := ps) (af := af) (gd := gd) h1 h2 (by omega)
  have e1 : i.tdiv j ≤ 9223372036854775807 ∧ -9223372036854775808 ≤ i.tdiv j := by
    rcases Int.le_total 0 i with h0 | h0
    · rw [Int.tdiv_eq_ediv_of_nonneg h0]
      have a1 := Int.ediv_nonneg h0 (Int.le_of_lt hj)
      have a2 := Int.ediv_le_self j h0
      omega
    · have e2 : i.tdiv j = -((-i) / j) := by
        have := Int.neg_tdiv (-i) j
        rw [Int.neg_neg] at this
        rw [this, Int.tdiv_eq_ediv_of_nonneg (by omega)]
      have a1 := Int.ediv_nonneg (a := -i) (by omega) (Int.le_of_lt hj)
      have a2 := Int.ediv_le_self (a := -i) j (by omega)
      omega
  rwa [i64_in e1.2 e1.1] at this
theorem p_quon (h1 : ev L x = some (.int .i64 i)) (h2 : ev L y = some (.int .i64 j)) (hj : 0 < j) (hi : 0 ≤ i ∧ i ≤ 9223372036854775807) : Pur P M n L H ⟨dd, .binOp .quo t x y tz, ty, ps, af, gd⟩ (.int .i64 (i / j)) := by
  have := p_quoi (P := P) (M := M) (n := n) (H := H) (dd := dd) (t := t) (tz := tz) (ty := ty) (ps := ps) (af := af) (gd := gd) h1 h2 hj (by omega)
  rwa [Int.tdiv_eq_ediv_of_nonneg hi.1] at this
theorem p_remn (h1 : ev L x = some (.int k i)) (h2 : ev L y = some (.int k j)) (hj : 0 < j) (hi : 0 ≤ i) : Pur P M n L H ⟨dd, .binOp .rem t x y tz, ty, ps, af, gd⟩ (.int k (i % j)) := by
  have := p_rem (P := P) (M := M) (n := n) (H := H) (dd := dd) (t := t) (tz := tz) (ty := ty) (ps := ps) (af := af) (gd := gd) h1 h2 (by omega)
  rwa [Int.tmod_eq_emod_of_nonneg hi] at this
def bitV (op : BinOp) (k : IntKind) (i j : Int) : Int :=
  let a := BitVec.ofInt k.bits i
  let b := BitVec.ofInt k.bits j
  match op with
  | .and => k.wrap (a &&& b).toNat
  | .or => k.wrap (a ||| b).toNat
  | .xor => k.wrap (a ^^^ b).toNat
  | _ => k.wrap (a &&& ~~~b).toNat
theorem p_and (h1 : ev L x = some (.int k i)) (h2 : ev L y = some (.int k j)) : Pur P M n L H ⟨dd, .binOp .and t x y tz, ty, ps, af, gd⟩ (.int k (bitV .and k i j)) := fun a w ha _ => by
  simp [execOp, ha.ev h1, ha.ev h2, eqGuard, binOp, Op.intBits, bitV]
theorem p_or (h1 : ev L x = some (.int k i)) (h2 : ev L y = some (.int k j)) : Pur P M n L H ⟨dd, .binOp .or t x y tz, ty, ps, af, gd⟩ (.int k (bitV .or k i j)) := fun a w ha _ => by
  simp [execOp, ha.ev h1, ha.ev h2, eqGuard, binOp, Op.intBits, bitV]
theorem p_xor (h1 : ev L x = some (.int k i)) (h2 : ev L y = some (.int k j)) : Pur P M n L H ⟨dd, .binOp .xor t x y tz, ty, ps, af, gd⟩ (.int k (bitV .xor k i j)) := fun a w ha _ => by
  simp [execOp, ha.ev h1, ha.ev h2, eqGuard, binOp, Op.intBits, bitV]
theorem p_shl (h1 : ev L x = some (.int k i)) (h2 : ev L y = some (.int k' j)) (hj : 0 ≤ j) : Pur P M n L H ⟨dd, .binOp .shl t x y tz, ty, ps, af, gd⟩ (.int k (k.wrap (i * 2 ^ (min j.toNat k.bits)))) := fun a w ha _ => by
  have : ¬ j < 0 := by omega
  simp [execOp, ha.ev h1, ha.ev h2, eqGuard, binOp, Op.shift, this]
theorem p_shr (h1 : ev L x = some (.int k i)) (h2 : ev L y = some (.int k' j)) (hj : 0 ≤ j) : Pur P M n L H ⟨dd, .binOp .shr t x y tz, ty, ps, af, gd⟩ (.int k (i.fdiv (2 ^ (min j.toNat k.bits)))) := fun a w ha _ => by
  have : ¬ j < 0 := by omega
  simp [execOp, ha.ev h1, ha.ev h2, eqGuard, binOp, Op.shift, this]
theorem p_lss (h1 : ev L x = some (.int k i)) (h2 : ev L y = some (.int k j)) : Pur P M n L H ⟨dd, .binOp .lss t x y tz, ty, ps, af, gd⟩ (.bool (decide (i < j))) := fun a w ha _ => by
  simp [execOp, ha.ev h1, ha.ev h2, eqGuard, binOp, Op.intCmp]
theorem p_leq (h1 : ev L x = some (.int k i)) (h2 : ev L y = some (.int k j)) : Pur P M n L H ⟨dd, .binOp .leq t x y tz, ty, ps, af, gd⟩ (.bool (decide (i ≤ j))) := fun a w ha _ => by
  simp [execOp, ha.ev h1, ha.ev h2, eqGuard, binOp, Op.intCmp]
theorem p_gtr (h1 : ev L x = some (.int k i)) (h2 : ev L y = some (.int k j)) : Pur P M n L H ⟨dd, .binOp .gtr t x y tz, ty, ps, af, gd⟩ (.bool (decide (j < i))) := fun a w ha _ => by
  simp [execOp, ha.ev h1, ha.ev h2, eqGuard, binOp, Op.intCmp]
theorem p_geq (h1 : ev L x = some (.int k i)) (h2 : ev L y = some (.int k j)) : Pur P M n L H ⟨dd, .binOp .geq t x y tz, ty, ps, af, gd⟩ (.bool (decide (j ≤ i))) := fun a w ha _ => by
  simp [execOp, ha.ev h1, ha.ev h2, eqGuard, binOp, Op.intCmp]
theorem p_eql (h1 : ev L x = some (.int k i)) (h2 : ev L y = some (.int k j)) : Pur P M n L H ⟨dd, .binOp .eql t x y tz, ty, ps, af, gd⟩ (.bool (decide (i = j))) := fun a w ha _ => by
  have e : (i == j) = decide (i = j) := rfl
  simp only [execOp, ha.ev h1, ha.ev h2, eqGuard, binOp, Op.intCmp, ← e]
  simp
theorem p_neq (h1 : ev L x = some (.int k i)) (h2 : ev L y = some (.int k j)) : Pur P M n L H ⟨dd, .binOp .neq t x y tz, ty, ps, af, gd⟩ (.bool (!decide (i = j))) := fun a w ha _ => by
  have e : (i != j) = !decide (i = j) := rfl
  simp only [execOp, ha.ev h1, ha.ev h2, eqGuard, binOp, Op.intCmp, ← e]
  simp
theorem p_neg (h1 : ev L x = some (.int k i)) : Pur P M n L H ⟨dd, .unOp .neg t x, ty, ps, af, gd⟩ (.int k (k.wrap (0 - i))) := fun a w ha _ => by
  simp [execOp, ha.ev h1, Op.unary, Op.intArith]
theorem p_negi (h1 : ev L x = some (.int .i64 i)) (h : -9223372036854775807 ≤ i ∧ i ≤ 9223372036854775808) : Pur P M n L H ⟨dd, .unOp .neg t x, ty, ps, af, gd⟩ (.int .i64 (-i)) := by
  have := p_neg (P := P) (M := M) (n := n) (H := H) (dd := dd) (t := t) (ty := ty) (ps := ps) (af := af) (gd := gd) h1
  rw [i64_in (by omega) (by omega)] at this
  rwa [Int.zero_sub] at this
theorem p_conv {src dst : TypeId} {ys yd : Ty} [hs : TyC P src ys] [hd : TyC P dst yd] (hk : yd.d = .int kd) (h1 : ev L x = some (.int k i)) : Pur P M n L H ⟨dd, .convert src dst x, ty, ps, af, gd⟩ (.int kd (kd.wrap i)) := fun a w ha _ => by
  simp [execOp, ha.ev h1, convert, hs.run_u, hd.run_u, hk, Conv.intToInt]
theorem p_convi {src dst : TypeId} {ys yd : Ty} [hs : TyC P src ys] [hd : TyC P dst yd] (hk : yd.d = .int .i64) (h1 : ev L x = some (.int k i)) (h : -9223372036854775808 ≤ i ∧ i ≤ 9223372036854775807) : Pur P M n L H ⟨dd, .convert src dst x, ty, ps, af, gd⟩ (.int .i64 i) := by
  have := p_conv (P := P) (M := M) (n := n) (H := H) (dd := dd) (ty := ty) (ps := ps) (af := af) (gd := gd) (src := src) (dst := dst) hk h1
  rwa [i64_in h.1 h.2] at this
end ints
section bools
variable {b c : Bool} {tz : TypeId} {yt : Ty}
theorem p_not (h1 : ev L x = some (.bool b)) : Pur P M n L H ⟨dd, .unOp .not t x, ty, ps, af, gd⟩ (.bool (!b)) := fun a w ha _ => by
  simp [execOp, ha.ev h1, Op.unary]

/-- '==' of two values that are no numbers, by what 'equalIn' says -/
theorem p_eqOf {u v : Value} {r : Bool} (h1 : ev L x = some u) (h2 : ev L y = some v) (hb : ∀ w, (binOp .eql t u v).run P w = ((Op.equalIn (9999 + 1) t u v).run P w).andThen fun r w => .ok (.bool r) w)
    (hg : ∀ w, (eqGuard .eql t x y u v).run P w = .ok () w) (he : ∀ w, (Op.equalIn (9999 + 1) t u v).run P w = .ok r w) : Pur P M n L H ⟨dd, .binOp .eql t x y tz, ty, ps, af, gd⟩ (.bool r) := fun a w ha _ => by
  simp only [execOp, ha.ev h1, ha.ev h2, Sem.run_bind, hg, hb, he, Result.andThen_ok, Sem.run_pure]
theorem p_neOf {u v : Value} {r : Bool} (h1 : ev L x = some u) (h2 : ev L y = some v) (hb : ∀ w, (binOp .neq t u v).run P w = ((Op.equalIn (9999 + 1) t u v).run P w).andThen fun r w => .ok (.bool (!r)) w)
    (hg : ∀ w, (eqGuard .neq t x y u v).run P w = .ok () w) (he : ∀ w, (Op.equalIn (9999 + 1) t u v).run P w = .ok r w) : Pur P M n L H ⟨dd, .binOp .neq t x y tz, ty, ps, af, gd⟩ (.bool (!r)) := fun a w ha _ => by
  simp only [execOp, ha.ev h1, ha.ev h2, Sem.run_bind, hg, hb, he, Result.andThen_ok, Sem.run_pure]
theorem eqIn_bool {d : Nat} [ht : TyC P t yt] (hd : yt.d = .bool) (w : World) : (Op.equalIn (d + 1) t (.bool b) (.bool c)).run P w = .ok (b == c) w := by
  simp only [Op.equalIn, Sem.run_bind, ht.run_u, hd, Result.andThen_ok, Sem.run_pure]
theorem eqIn_int {d : Nat} {k : IntKind} {i j : Int} [ht : TyC P t yt] (hd : yt.d = .int k) (w : World) : (Op.equalIn (d + 1) t (.int k i) (.int k j)).run P w = .ok (decide (i = j)) w := by
  simp only [Op.equalIn, Sem.run_bind, ht.run_u, hd, Result.andThen_ok, if_true, Sem.run_pure]; rfl
theorem eqIn_str {d : Nat} {i j : ByteArray} [ht : TyC P t yt] (hd : yt.d = .string) (w : World) : (Op.equalIn (d + 1) t (.string i) (.string j)).run P w = .ok (i == j) w := by
  simp only [Op.equalIn, Sem.run_bind, ht.run_u, hd, Result.andThen_ok, Sem.run_pure]
theorem eqIn_nil {d : Nat} {e : TypeId} {p : Option Addr} [ht : TyC P t yt] (hd : yt.d = .pointer e) (w : World) : (Op.equalIn (d + 1) t (.pointer p) (.pointer none)).run P w = .ok p.isNone w := by
  cases p <;> simp only [Op.equalIn, Sem.run_bind, ht.run_u, hd, Result.andThen_ok, Sem.run_pure, Option.isNone]
theorem p_eqlb [ht : TyC P t yt] (hd : yt.d = .bool) (h1 : ev L x = some (.bool b)) (h2 : ev L y = some (.bool c)) : Pur P M n L H ⟨dd, .binOp .eql t x y tz, ty, ps, af, gd⟩ (.bool (b == c)) :=
  p_eqOf h1 h2 (fun w => by simp only [binOp, Op.equal, Op.maxDepth, Sem.run_bind, Sem.run_pure]) (fun w => rfl) (eqIn_bool hd)
theorem p_neqb [ht : TyC P t yt] (hd : yt.d = .bool) (h1 : ev L x = some (.bool b)) (h2 : ev L y = some (.bool c)) : Pur P M n L H ⟨dd, .binOp .neq t x y tz, ty, ps, af, gd⟩ (.bool (!(b == c))) :=
  p_neOf h1 h2 (fun w => by simp only [binOp, Op.equal, Op.maxDepth, Sem.run_bind, Sem.run_pure]) (fun w => rfl) (eqIn_bool hd)
/-- pointer == nil -/
theorem p_eqnil {e : TypeId} {p : Option Addr} [ht : TyC P t yt] (hd : yt.d = .pointer e) (h1 : ev L x = some (.pointer p)) (h2 : ev L y = some (.pointer none)) : Pur P M n L H ⟨dd, .binOp .eql t x y tz, ty, ps, af, gd⟩ (.bool p.isNone) :=
  p_eqOf h1 h2 (fun w => by simp only [binOp, Op.equal, Op.maxDepth, Sem.run_bind, Sem.run_pure]) (fun w => rfl) (eqIn_nil hd)
theorem p_nenil {e : TypeId} {p : Option Addr} [ht : TyC P t yt] (hd : yt.d = .pointer e) (h1 : ev L x = some (.pointer p)) (h2 : ev L y = some (.pointer none)) : Pur P M n L H ⟨dd, .binOp .neq t x y tz, ty, ps, af, gd⟩ (.bool (!p.isNone)) :=
  p_neOf h1 h2 (fun w => by simp only [binOp, Op.equal, Op.maxDepth, Sem.run_bind, Sem.run_pure]) (fun w => rfl) (eqIn_nil hd)
end bools

/-! ### places, loads -/
class FieldC (P : Program) (s : Nat) (i : Nat) (off : outParam Nat) : Prop where
  h : ∃ fs fd inf, P.underlying s = some (.struct fs) ∧ fs[i]? = some fd ∧ fd.offset = off ∧ P.info? fd.type = some inf ∧ inf.size ≠ 0

theorem p_fieldAddr {s i off b o : Nat} [hf : FieldC P s i off] (h1 : ev L x = some (.pointer (some ⟨b, o, none⟩))) : Pur P M n L H ⟨dd, .fieldAddr s x i, ty, ps, af, gd⟩ (.pointer (some ⟨b, o + off, none⟩)) := fun a w ha _ => by
  obtain ⟨fs, fd, inf, e1, e2, e3, e4, e5⟩ := hf.h
  have e6 : (Addr.mk b o none).add fd.offset = ⟨b, o + off, none⟩ := by
    rw [e3]; unfold Addr.add; split <;> simp_all
  simp [execOp, ha.ev h1, Instr.fieldAt, underlying, e1, e2, Instr.sureAddr, fieldPlace, sizeOf, typeInfo, e4, e5, e6]

theorem p_indexAddr {k : IntKind} {i : Int} {b o len cap : Nat} {ad : Option Addr} {ye : Ty} {e : TypeId} [hsl : SlC P t e ye] (h1 : ev L x = some (.slice ad len cap)) (h2 : ev L y = some (.int k i)) (hi : 0 ≤ i ∧ i < len) (ha' : 0 < len → ad = some ⟨b, o, none⟩) :
    Pur P M n L H ⟨dd, .indexAddr t x y, ty, ps, af, gd⟩ (.pointer (some ⟨b, o + i.toNat * ye.size, none⟩)) := fun a w ha _ => by
  obtain ⟨yt, ht, hd⟩ := hsl.t
  have he := hsl.e
  have hl : 0 < len := by omega
  rw [ha' hl] at h1
  have e6 : (Addr.mk b o none).add (i.toNat * ye.size) = ⟨b, o + i.toNat * ye.size, none⟩ := by
    unfold Addr.add; split <;> simp_all
  simp [execOp, ha.ev h1, ha.ev h2, Instr.indexAt, asIntOf, ht.run_u, hd, hi, he.run_size, e6]

theorem p_load {b o : Nat} {l : List Value} {T : TypeId} {fz : Nat × Nat} {yt : Ty} [ht : TyC P t yt] (hd : aggD yt.d = false) (h1 : ev L x = some (.pointer (some ⟨b, o, none⟩))) (hh : Has M H b (.cells l.toArray T fz)) (hc : l[o]? = some v) :
    Pur P M n L H ⟨dd, .load t x, ty, ps, af, gd⟩ v := fun a w ha hm => by
  have e : w.cell? ⟨b, o, none⟩ = some v := by simp [World.cell?, hh w hm, hc]
  simp [execOp, ha.ev h1, Instr.loadAt, Instr.sureAddr, loadVar, ht.run_agg, hd, e]

theorem run_loadRow {w : World} {b : Nat} {l : List Value} {T : TypeId} {fz : Nat × Nat} (h : w.heap[b]? = some (.cells l.toArray T fz)) (o k : Nat) (vs : List Value) (hk : vs.length = k) (hv : ∀ j v, vs[j]? = some v → l[o + j]? = some v) :
    (loadCells ⟨b, o, none⟩ k).run P w = .ok vs.toArray w := by
  subst hk
  refine run_loadCells_list (P := P) w ⟨b, o, none⟩ vs fun j v e => ?_
  have e6 : (Addr.mk b o none).add j = ⟨b, o + j, none⟩ := by
    unfold Addr.add; split <;> simp_all
  rw [e6]
  simp [World.cell?, h, hv j v e]

def sub (l : List Value) (o k : Nat) : Option (List Value) := if o + k ≤ l.length then some ((l.drop o).take k) else none
theorem sub_spec {l vs : List Value} {o k : Nat} (h : sub l o k = some vs) : vs.length = k ∧ ∀ j v, vs[j]? = some v → l[o + j]? = some v := by
  unfold sub at h
  split at h
  · simp at h; subst h
    refine ⟨by simp; omega, fun j v e => ?_⟩
    rw [List.getElem?_take] at e
    split at e
    · simpa using e
    · cases e
  · cases h

/-- 'sub' of a list that is written out; the result, too -/
def takeO : List Value → Nat → Option (List Value)
  | _, 0 => some []
  | x :: xs, k + 1 => match takeO xs k with
    | some t => some (x :: t)
    | none => none
  | [], _ + 1 => none
def subO : List Value → Nat → Nat → Option (List Value)
  | l, 0, k => takeO l k
  | _ :: xs, o + 1, k => subO xs o k
  | [], _ + 1, _ => none
theorem takeO_eq : ∀ (l : List Value) (k : Nat) (vs : List Value), takeO l k = some vs → sub l 0 k = some vs
  | l, 0, vs, h => by simp [takeO] at h; subst h; simp [sub]
  | [], k + 1, vs, h => by simp [takeO] at h
  | x :: xs, k + 1, vs, h => by
    unfold takeO at h
    cases e : takeO xs k with
    | none => rw [e] at h; cases h
    | some t =>
      rw [e] at h; simp at h; subst h
      have := takeO_eq xs k t e
      unfold sub at this ⊢
      split at this
      · rename_i hl
        rw [if_pos (by simp at hl ⊢; omega)]
        simp at this ⊢; exact this
      · cases this
theorem subO_eq : ∀ (l : List Value) (o k : Nat) (vs : List Value), subO l o k = some vs → sub l o k = some vs
  | l, 0, k, vs, h => takeO_eq l k vs (by cases l <;> exact h)
  | [], o + 1, k, vs, h => by simp [subO] at h
  | x :: xs, o + 1, k, vs, h => by
    have := subO_eq xs o k vs (by exact h)
    unfold sub at this ⊢
    split at this
    · rename_i hl
      rw [if_pos (by simp at hl ⊢; omega)]
      simpa using this
    · cases this
theorem p_loadN {b o : Nat} {l vs : List Value} {T : TypeId} {fz : Nat × Nat} {yt : Ty} [ht : TyC P t yt] (hd : aggD yt.d = true) (h1 : ev L x = some (.pointer (some ⟨b, o, none⟩))) (hh : Has M H b (.cells l.toArray T fz)) (hc : sub l o yt.size = some vs) :
    Pur P M n L H ⟨dd, .load t x, ty, ps, af, gd⟩ (.agg vs.toArray) := fun a w ha hm => by
  have e := run_loadRow (P := P) (hh w hm) o yt.size vs (sub_spec hc).1 (sub_spec hc).2
  simp [execOp, ha.ev h1, Instr.loadAt, Instr.sureAddr, loadVar, ht.run_agg, hd, ht.run_size, e]

theorem p_len {len cap : Nat} {e : TypeId} {ad : Option Addr} {yt : Ty} [ht : TyC P t yt] (hd : yt.d = .slice e) (h1 : ev L x = some (.slice ad len cap)) :
    Pur P M n L H ⟨dd, .call ⟨.builtin .len, #[x], #[t]⟩, ty, ps, af, gd⟩ (.int .i64 len) := fun a w ha _ => by
  simp [execOp, resolve, invoke, builtin, Builtin.len_, ha.ev h1, ht.run_u, hd, goInt]
theorem p_lens {s : ByteArray} {yt : Ty} [ht : TyC P t yt] (hd : yt.d = .string) (h1 : ev L x = some (.string s)) :
    Pur P M n L H ⟨dd, .call ⟨.builtin .len, #[x], #[t]⟩, ty, ps, af, gd⟩ (.int .i64 s.size) := fun a w ha _ => by
  simp [execOp, resolve, invoke, builtin, Builtin.len_, ha.ev h1, ht.run_u, hd, goInt]
theorem p_min {k k' : IntKind} {i j : Int} {tys : Array TypeId} (h1 : ev L x = some (.int k i)) (h2 : ev L y = some (.int k' j)) :
    Pur P M n L H ⟨dd, .call ⟨.builtin .min, #[x, y], tys⟩, ty, ps, af, gd⟩ (.int k (min i j)) := fun a w ha _ => by
  have e : (if j < i then j else i) = min i j := by omega
  simp [execOp, resolve, invoke, builtin, Builtin.min_, Builtin.min2, ha.ev h1, ha.ev h2, e]
theorem p_max {k k' : IntKind} {i j : Int} {tys : Array TypeId} (h1 : ev L x = some (.int k i)) (h2 : ev L y = some (.int k' j)) :
    Pur P M n L H ⟨dd, .call ⟨.builtin .max, #[x, y], tys⟩, ty, ps, af, gd⟩ (.int k (max i j)) := fun a w ha _ => by
  have e : (if i < j then j else i) = max i j := by omega
  simp [execOp, resolve, invoke, builtin, Builtin.max_, Builtin.max2, ha.ev h1, ha.ev h2, e]
theorem p_min4 {x3 x4 : Operand} {k k1 k2 k3 : IntKind} {i j i3 i4 : Int} {tys : Array TypeId} (h1 : ev L x = some (.int k i)) (h2 : ev L y = some (.int k1 j)) (h3 : ev L x3 = some (.int k2 i3)) (h4 : ev L x4 = some (.int k3 i4)) :
    Pur P M n L H ⟨dd, .call ⟨.builtin .min, #[x, y, x3, x4], tys⟩, ty, ps, af, gd⟩ (.int k (min (min (min i j) i3) i4)) := fun a w ha _ => by
  have e : ∀ i j : Int, (if j < i then j else i) = min i j := fun i j => by omega
  simp [execOp, resolve, invoke, builtin, Builtin.min_, Builtin.min2, ha.ev h1, ha.ev h2, ha.ev h3, ha.ev h4, e]
theorem p_max4 {x3 x4 : Operand} {k k1 k2 k3 : IntKind} {i j i3 i4 : Int} {tys : Array TypeId} (h1 : ev L x = some (.int k i)) (h2 : ev L y = some (.int k1 j)) (h3 : ev L x3 = some (.int k2 i3)) (h4 : ev L x4 = some (.int k3 i4)) :
    Pur P M n L H ⟨dd, .call ⟨.builtin .max, #[x, y, x3, x4], tys⟩, ty, ps, af, gd⟩ (.int k (max (max (max i j) i3) i4)) := fun a w ha _ => by
  have e : ∀ i j : Int, (if i < j then j else i) = max i j := fun i j => by omega
  simp [execOp, resolve, invoke, builtin, Builtin.max_, Builtin.max2, ha.ev h1, ha.ev h2, ha.ev h3, ha.ev h4, e]
theorem p_loadO {b o : Nat} {l vs : List Value} {T : TypeId} {fz : Nat × Nat} {yt : Ty} [ht : TyC P t yt] (hd : aggD yt.d = true) (h1 : ev L x = some (.pointer (some ⟨b, o, none⟩))) (hh : Has M H b (.cells l.toArray T fz)) (hc : subO l o yt.size = some vs) :
    Pur P M n L H ⟨dd, .load t x, ty, ps, af, gd⟩ (.agg vs.toArray) := p_loadN hd h1 hh (subO_eq _ _ _ _ hc)
end Go.Z
