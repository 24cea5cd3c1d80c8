/- Own layer, part 6: maps. Conditions: none; generic in the program. -/
import Derived.Test.YtmefecnjliadaaaZe
namespace Go.Z
set_option maxRecDepth 8000
set_option linter.unusedVariables false
set_option linter.unusedSimpArgs false
set_option linter.unusedSectionVars false
open Go

variable {P : Program} {n : Nat} {L L' : Fr} {H H' Hs Hi Hr : List Assn} {M : Mx} {Q : Exit → Act → World → Prop} {ops : Array Oper} {rest : List Oper}
variable {dd : Option Tmp} {ty t : TypeId} {ps : String} {af : Array Edge} {gd : Option (Nat × Bool)} {x y z : Operand} {v u : Value} {w w' : World} {T : Act → World → Prop}

/-- How the keys of a map's type behave. -/
structure KeyOk (P : Program) (kt : TypeId) {α : Type} [DecidableEq α] (enc : α → Value) : Prop where
  check : ∀ w em a, (Instr.checkKey em 10000 kt (enc a)).run P w = .ok () w
  eq : ∀ w a b, (Op.equal kt (enc a) (enc b)).run P w = .ok (decide (a = b)) w
  now : ∃ d, P.underlying kt = some d ∧ ∀ a b, Instr.sameNow d (enc a) (enc b) = none

def idx {α : Type} [DecidableEq α] : List (α × Value) → α → Nat → Option (Nat × Value)
  | [], _, _ => none
  | (k', v) :: l, k, i => if k = k' then some (i, v) else idx l k (i + 1)

def keysOf {α : Type} (enc : α → Value) (es : List MapEntry) (kn : List (α × Value)) : Prop := es.map (fun e => (e.key, e.val)) = kn.map fun p => (enc p.1, p.2)

theorem run_find {α : Type} [DecidableEq α] {kt : TypeId} {enc : α → Value} (hk : KeyOk P kt enc) (w : World) (k : α) {es : List MapEntry} {kn : List (α × Value)} (h : keysOf enc es kn) :
    (Instr.findKey kt (enc k) es).run P w = .ok (idx kn k 0) w := by
  obtain ⟨d, hd, hn⟩ := hk.now
  have hu : (underlying kt).run P w = .ok d w := by simp [underlying, hd]
  have ask : ∀ (es : List MapEntry) (kn : List (α × Value)) (i : Nat), keysOf enc es kn → (Instr.findAsking kt (enc k) es i).run P w = .ok (idx kn k i) w := by
    intro es
    induction es with
    | nil => intro kn i h; cases kn with
      | nil => rfl
      | cons _ _ => simp [keysOf] at h
    | cons e es ih =>
      intro kn i h
      cases kn with
      | nil => simp [keysOf] at h
      | cons p kn =>
        obtain ⟨k', v⟩ := p
        simp only [keysOf, List.map_cons, List.cons.injEq, Prod.mk.injEq] at h
        obtain ⟨⟨h1, h2⟩, h3⟩ := h
        simp only [Instr.findAsking, Sem.run_bind, h1, hk.eq, Result.andThen_ok, h2, idx]
        by_cases e : k = k'
        · simp [e]
        · simp only [e, decide_false, Bool.false_eq_true, if_false]; exact ih kn (i + 1) h3
  unfold Instr.findKey
  cases es with
  | nil =>
    cases kn with
    | nil => simp [hu, Instr.findNow, idx]
    | cons _ _ => simp [keysOf] at h
  | cons e es =>
    cases kn with
    | nil => simp [keysOf] at h
    | cons p kn =>
      have h0 := h
      simp only [keysOf, List.map_cons, List.cons.injEq, Prod.mk.injEq] at h
      have : Instr.findNow d (enc k) (e :: es) 0 = none := by simp only [Instr.findNow, h.1.1, hn]
      simp only [Sem.run_bind, hu, Result.andThen_ok, this]
      exact ask _ _ 0 h0

/-- Block b is a map that reads as kn, in the order of its entries. -/
def MapB {α : Type} (enc : α → Value) (b : Nat) (kn : List (α × Value)) : Assn := fun h => ∃ (arr : Array MapEntry) (clock : Nat), keysOf enc arr.toList kn ∧ h = one b (.map arr clock)

def HasMap (M : Mx) (H : List Assn) {α : Type} (enc : α → Value) (b : Nat) (kn : List (α × Value)) : Prop := ∀ w, Ms M H w → ∃ (arr : Array MapEntry) (clock : Nat), keysOf enc arr.toList kn ∧ w.heap[b]? = some (.map arr clock)
theorem HasMap.own {α : Type} {enc : α → Value} {b : Nat} {kn : List (α × Value)} (tk : Take H (MapB enc b kn) H') : HasMap M H enc b kn := fun w hm => by
  obtain ⟨hh, s, su, d, r⟩ := hm.own
  obtain ⟨h1, h2, ⟨arr, clock, e1, e2⟩, s2, dd, rfl⟩ := tk.sat s
  exact ⟨arr, clock, e1, su b _ (by subst e2; simp [join, one])⟩
theorem HasMap.ro {α : Type} {enc : α → Value} {b : Nat} {kn : List (α × Value)} (h : Ro M.ρ (MapB enc b kn)) : HasMap M H enc b kn := fun w hm => by
  obtain ⟨hh, ⟨arr, clock, e1, e2⟩, r⟩ := h
  exact ⟨arr, clock, e1, hm.ro b _ (r b _ (by subst e2; simp [one]))⟩

theorem run_getMap {w : World} {b : Nat} {arr : Array MapEntry} {clock : Nat} (h : w.heap[b]? = some (.map arr clock)) : (getObj b).run P w = .ok (.map arr clock) w := by
  simp only [getObj, Sem.run, h]
theorem run_setMap {w : World} {b : Nat} {arr : Array MapEntry} {clock : Nat} {o : Obj} (h : w.heap[b]? = some (.map arr clock)) : (setObj b o).run P w = .ok () { w with heap := w.heap.setIfInBounds b o } := by
  simp only [setObj, Sem.run, h]

section
variable {α : Type} [DecidableEq α] {enc : α → Value} {kt et : TypeId} {b : Nat} {kn : List (α × Value)} {k : α} {yt ye : Ty}

theorem p_lookup2 [hmc : MapC P t kt et ye] (hk : KeyOk P kt enc) (h1 : ev L x = some (.map (some b))) (h2 : ev L y = some (enc k)) (hh : HasMap M H enc b kn) :
    Pur P M n L H ⟨dd, .lookup t x y true, ty, ps, af, gd⟩ (.tuple #[((idx kn k 0).map (·.2)).getD ye.zero, .bool (idx kn k 0).isSome]) := fun a w ha hm => by
  obtain ⟨yt, ht, hd⟩ := hmc.t
  have he := hmc.e
  obtain ⟨arr, clock, e1, e2⟩ := hh w hm
  have hf := run_find hk w k e1
  simp only [execOp, Instr.lookup, ha.ev h1, ha.ev h2, Sem.run_bind, ht.run_u, hd, Result.andThen_ok, run_getMap e2, hk.check, hf, Sem.run_pure]
  cases hi : idx kn k 0 with
  | none => simp [he.run_zero]
  | some p => simp

theorem p_lookS [hmc : MapC P t kt et ye] (hk : KeyOk P kt enc) (h1 : ev L x = some (.map (some b))) (h2 : ev L y = some (enc k)) (hh : HasMap M H enc b kn) {i : Nat} (hi : idx kn k 0 = some (i, v)) :
    Pur P M n L H ⟨dd, .lookup t x y true, ty, ps, af, gd⟩ (.tuple #[v, .bool true]) := by
  have := p_lookup2 (n := n) (L := L) (dd := dd) (t := t) (ty := ty) (ps := ps) (af := af) (gd := gd) hk h1 h2 hh
  rwa [hi] at this
theorem p_lookN [hmc : MapC P t kt et ye] (hk : KeyOk P kt enc) (h1 : ev L x = some (.map (some b))) (h2 : ev L y = some (enc k)) (hh : HasMap M H enc b kn) (hi : idx kn k 0 = none) {z : Value} (hz : ye.zero = z) :
    Pur P M n L H ⟨dd, .lookup t x y true, ty, ps, af, gd⟩ (.tuple #[z, .bool false]) := by
  have := p_lookup2 (n := n) (L := L) (dd := dd) (t := t) (ty := ty) (ps := ps) (af := af) (gd := gd) hk h1 h2 hh
  rw [hi] at this
  subst hz
  exact this

theorem keysOf_push {arr : Array MapEntry} {kn : List (α × Value)} (h : keysOf enc arr.toList kn) (k : α) (v : Value) (c : Nat) : keysOf enc (arr.push { key := enc k, val := v, born := c }).toList (kn ++ [(k, v)]) := by
  unfold keysOf at *; simp [h]

/-- 'm[k] = v', k not there -/
theorem e_mapNew [hmc : MapC P t kt et ye] (hk : KeyOk P kt enc) (h1 : ev L x = some (.map (some b))) (h2 : ev L y = some (enc k)) (h3 : ev L z = some v) (tk : Take H (MapB enc b kn) H') (hn : idx kn k 0 = none) :
    Eff P M n L H ⟨dd, .mapUpdate t x y z, ty, ps, af, gd⟩ (fun _ H2 => H2 = MapB enc b (kn ++ [(k, v)]) :: H') :=
  Eff.of_skip fun a w ha hm => by
    obtain ⟨yt, ht, hd⟩ := hmc.t
    obtain ⟨hh, s, su, d, r⟩ := hm.own
    obtain ⟨h1', h2', ⟨arr, clock, e1, e2⟩, s2, dd', rfl⟩ := tk.sat s
    have hm' : Ms M (Blk b (.map arr clock) :: H') w := ⟨hm.os, hm.tape, hm.output, hm.size, hm.keep, hm.ro, join h1' h2', ⟨h1', h2', e2, s2, dd', rfl⟩, su, d, r⟩
    have eb := hm'.blk .here
    have hf := run_find hk w k e1
    rw [hn] at hf
    refine ⟨_, { w with heap := w.heap.setIfInBounds b (.map (arr.push { key := enc k, val := v, born := clock }) (clock + 1)) }, ?_, rfl, ?_⟩
    · simp only [execOp, Instr.mapUpdate, ha.ev h1, ha.ev h2, ha.ev h3, Sem.run_bind, ht.run_u, hd, Result.andThen_ok, run_getMap eb, hk.check, hf, run_setMap eb, Sem.run_pure]
    · exact (hm'.set .here (.map (arr.push { key := enc k, val := v, born := clock }) (clock + 1)) rfl).weaken fun kk hkk => ⟨_, _, keysOf_push e1 k v clock, hkk⟩

def dropKey {α : Type} [DecidableEq α] (kn : List (α × Value)) (k : α) : List (α × Value) := kn.eraseP fun p => decide (p.1 = k)

theorem idx_erase : ∀ (kn : List (α × Value)) (es : List MapEntry) (i : Nat), keysOf enc es kn →
    (match idx kn k i with
     | none => dropKey kn k = kn
     | some (j, _) => i ≤ j ∧ j - i < es.length ∧ keysOf enc (es.eraseIdx (j - i)) (dropKey kn k))
  | [], es, i, h => by simp [idx, dropKey]
  | (k', v) :: kn, [], i, h => by simp [keysOf] at h
  | (k', v) :: kn, e :: es, i, h => by
    simp only [keysOf, List.map_cons, List.cons.injEq] at h
    by_cases hk : k = k'
    · subst hk
      simp only [idx, if_true]
      refine ⟨Nat.le_refl _, by simp, ?_⟩
      simp [dropKey, keysOf, h.2]
    · have ih := idx_erase kn es (i + 1) h.2
      have hk' : ¬ k' = k := fun e => hk e.symm
      simp only [idx, hk, if_false]
      have ed : dropKey ((k', v) :: kn) k = (k', v) :: dropKey kn k := by simp [dropKey, hk']
      cases hi : idx kn k (i + 1) with
      | none => rw [hi] at ih; simp only at ih ⊢; rw [ed, ih]
      | some p =>
        obtain ⟨j, u⟩ := p
        rw [hi] at ih
        simp only at ih ⊢
        refine ⟨by omega, by simp only [List.length_cons]; omega, ?_⟩
        rw [ed, show j - i = (j - (i + 1)) + 1 from by omega, List.eraseIdx_cons_succ]
        simp only [keysOf, List.map_cons, List.cons.injEq]
        exact ⟨h.1, ih.2.2⟩

theorem e_delete {tk' : TypeId} [hmc : MapC P t kt et ye] (hk : KeyOk P kt enc) (h1 : ev L x = some (.map (some b))) (h2 : ev L y = some (enc k)) (tk : Take H (MapB enc b kn) H') :
    Eff P M n L H ⟨dd, .call ⟨.builtin .delete, #[x, y], #[t, tk']⟩, ty, ps, af, gd⟩ (fun _ H2 => H2 = MapB enc b (dropKey kn k) :: H') :=
  Eff.of_run fun a w ha hm => by
    obtain ⟨yt, ht, hd⟩ := hmc.t
    obtain ⟨hh, s, su, d, r⟩ := hm.own
    obtain ⟨h1', h2', ⟨arr, clock, e1, e2⟩, s2, dd', rfl⟩ := tk.sat s
    have hm' : Ms M (Blk b (.map arr clock) :: H') w := ⟨hm.os, hm.tape, hm.output, hm.size, hm.keep, hm.ro, join h1' h2', ⟨h1', h2', e2, s2, dd', rfl⟩, su, d, r⟩
    have eb := hm'.blk .here
    have hf := run_find hk w k e1
    have he := idx_erase (k := k) kn arr.toList 0 e1
    cases hi : idx kn k 0 with
    | none =>
      rw [hi] at he hf
      refine ⟨.tuple #[], _, { w with heap := w.heap.setIfInBounds b (.map arr clock) }, ?_, rfl, ?_⟩
      · simp [execOp, resolve, invoke, builtin, ha.ev h1, ha.ev h2, Builtin.delete_, ht.run_u, hd, run_getMap eb, hk.check, hf, run_setMap eb]
      · refine (hm'.set .here (.map arr clock) rfl).weaken fun kk hkk => ⟨_, _, ?_, hkk⟩
        simp only at he; rw [he]; exact e1
    | some p =>
      obtain ⟨j, u⟩ := p
      rw [hi] at he hf
      simp only [Nat.sub_zero] at he
      refine ⟨.tuple #[], _, { w with heap := w.heap.setIfInBounds b (.map (arr.eraseIdxIfInBounds j) clock) }, ?_, rfl, ?_⟩
      · simp [execOp, resolve, invoke, builtin, ha.ev h1, ha.ev h2, Builtin.delete_, ht.run_u, hd, run_getMap eb, hk.check, hf, run_setMap eb]
      · refine (hm'.set .here (.map (arr.eraseIdxIfInBounds j) clock) rfl).weaken fun kk hkk => ⟨_, _, ?_, hkk⟩
        have hj : j < arr.size := by simpa using he.2.1
        have : (arr.eraseIdxIfInBounds j).toList = arr.toList.eraseIdx j := by
          rw [Array.eraseIdxIfInBounds, dif_pos hj]; simp
        rw [this]; exact he.2.2
end
end Go.Z
