/- Own layer, part 3: operations that make or write memory, calls. Conditions: none; generic in the program. -/
import Derived.Test.YtmefecnjliadaaaZb
namespace Go.Z
set_option maxRecDepth 8000
set_option linter.unusedVariables false
set_option linter.unusedSimpArgs false
set_option linter.unusedSectionVars false
open Go

variable {P : Program} {n : Nat} {L L' : Fr} {H H' Hi Hr : List Assn} {M : Mx} {Q : Exit → Act → World → Prop} {ops : Array Oper} {rest : List Oper}
variable {dd : Option Tmp} {ty t : TypeId} {ps : String} {af : Array Edge} {gd : Option (Nat × Bool)} {x y z : Operand} {v u : Value} {w w' : World}

theorem Ms.set' (h : Ms M H w) {b : Nat} {o : Obj} (t : Take H (Blk b o) H') (o' : Obj) (e1 : w'.os = w.os) (e2 : w'.tape = w.tape) (e3 : w'.output = w.output) (e4 : w'.heap.size = w.heap.size) (e5 : w'.heap[b]? = some o') (e6 : ∀ c, c ≠ b → w'.heap[c]? = w.heap[c]?) :
    Ms M (Blk b o' :: H') w' := by
  have hb := lt_of_heap (h.blk t)
  have e : w'.heap = w.heap.setIfInBounds b o' := by
    apply Array.ext_getElem?
    intro c
    rw [Array.getElem?_setIfInBounds]
    by_cases ec : b = c
    · subst ec; simp [hb, e5]
    · rw [if_neg ec]; exact e6 c (Ne.symm ec)
  have := h.set (w' := { w with heap := w.heap.setIfInBounds b o' }) t o' rfl
  refine ⟨e1.trans this.os, e2.trans this.tape, e3.trans this.output, by rw [e]; exact this.size, fun c hc hn => by rw [e]; exact this.keep c hc hn, fun c o1 hr => by rw [e]; exact this.ro c o1 hr, ?_⟩
  obtain ⟨hh, s1, s2, s3, s4⟩ := this.own
  exact ⟨hh, s1, fun c o1 hc => by rw [e]; exact s2 c o1 hc, s3, s4⟩

def cellsOf (v : Value) : List Value := v.cells.toList
theorem cells_eq {v : Value} {l : List Value} (h : v.cells = l.toArray) : v.cells.toList = l := by rw [h]

theorem e_alloc {yt : Ty} {l : List Value} [ht : TyC P t yt] (hz : yt.zero.cells = l.toArray) : Eff P M n L H ⟨dd, .alloc t, ty, ps, af, gd⟩ (fun v H' => ∃ b, v = .pointer (some ⟨b, 0, none⟩) ∧ H' = Blk b (.cells l.toArray t (0, 0)) :: H) :=
  Eff.of_run fun a w ha hm => ⟨_, _, _, by simp [execOp, Instr.alloc, ht.run_zero, newVar, newRow, hz], ⟨w.heap.size, rfl, rfl⟩, hm.alloc _⟩

theorem e_box {l : List Value} (h1 : ev L x = some v) (hz : v.cells = l.toArray) : Eff P M n L H ⟨dd, .box t x, ty, ps, af, gd⟩ (fun v H' => ∃ b, v = .pointer (some ⟨b, 0, none⟩) ∧ H' = Blk b (.cells l.toArray t (0, 0)) :: H) :=
  Eff.of_run fun a w ha hm => ⟨_, _, _, by simp [execOp, Instr.box, ha.ev h1, newVar, newRow, hz], ⟨w.heap.size, rfl, rfl⟩, hm.alloc _⟩

def one1 (l : List Value) : Bool := l.all (·.oneCell')

theorem e_store1 {yt : Ty} {b o : Nat} {l : List Value} {T : TypeId} [ht : TyC P t yt] (hs : yt.size = 1) (h1 : ev L x = some (.pointer (some ⟨b, o, none⟩))) (h2 : ev L y = some v) (hv : v.oneCell' = true)
    (tk : Take H (Blk b (.cells l.toArray T (0, 0))) H') (ho : o < l.length) :
    Eff P M n L H ⟨dd, .store t x y, ty, ps, af, gd⟩ (fun _ H2 => H2 = Blk b (.cells (l.set o v).toArray T (0, 0)) :: H') :=
  Eff.of_skip fun a w ha hm => by
    have hb := hm.blk tk
    have hc : v.cells = #[v] := by cases v <;> first | rfl | cases hv
    have hst := run_storeCells_at (P := P) b o T [v] 0 l.toArray w hb (by simp; omega) (by simpa using hv)
    refine ⟨_, w.setRow b (l.set o v).toArray, ?_, rfl, hm.set' tk _ rfl rfl rfl (by simp) (setRow_heap w b _ _ T _ hb) (fun c hc => setRow_other w b c _ hc)⟩
    have e : (l.toArray.toList.take (o + 0) ++ [v] ++ l.toArray.toList.drop (o + 0 + [v].length)) = l.set o v := by
      simp only [Nat.add_zero, List.length_singleton]
      rw [List.set_eq_take_append_cons_drop, if_pos ho]; simp
    rw [e] at hst
    simp [execOp, Instr.storeAt, Instr.sureAddr, storeVar, ha.ev h1, ha.ev h2, hc, ht.run_size, hs, hst]

/-- l with r laid at place o -/
def putL (l : List Value) (o : Nat) (r : List Value) : List Value := l.take o ++ (r ++ l.drop (o + r.length))

theorem e_storeN {yt : Ty} {b o : Nat} {l r : List Value} {T : TypeId} [ht : TyC P t yt] (h1 : ev L x = some (.pointer (some ⟨b, o, none⟩))) (h2 : ev L y = some v) (hv : v.cells = r.toArray) (hs : yt.size = r.length) (hr : one1 r = true)
    (tk : Take H (Blk b (.cells l.toArray T (0, 0))) H') (ho : o + r.length ≤ l.length) :
    Eff P M n L H ⟨dd, .store t x y, ty, ps, af, gd⟩ (fun _ H2 => H2 = Blk b (.cells (putL l o r).toArray T (0, 0)) :: H') :=
  Eff.of_skip fun a w ha hm => by
    have hb := hm.blk tk
    have hst := run_storeCells_at (P := P) b o T r 0 l.toArray w hb (by simpa using ho) (by simpa [one1] using hr)
    refine ⟨_, w.setRow b (putL l o r).toArray, ?_, rfl, hm.set' tk _ rfl rfl rfl (by simp) (setRow_heap w b _ _ T _ hb) (fun c hc => setRow_other w b c _ hc)⟩
    have e : (l.toArray.toList.take (o + 0) ++ r ++ l.toArray.toList.drop (o + 0 + r.length)) = putL l o r := by
      simp [putL]
    rw [e] at hst
    simp [execOp, Instr.storeAt, Instr.sureAddr, storeVar, ha.ev h1, ha.ev h2, hv, ht.run_size, hs, hst]

def putO : List Value → Nat → List Value → Option (List Value)
  | l, 0, [] => some l
  | _ :: xs, 0, r :: rs => match putO xs 0 rs with
    | some t => some (r :: t)
    | none => none
  | x :: xs, o + 1, r => match putO xs o r with
    | some t => some (x :: t)
    | none => none
  | [], _ + 1, _ => none
  | [], 0, _ :: _ => none
theorem putO_eq : ∀ (l : List Value) (o : Nat) (r l' : List Value), putO l o r = some l' → l' = putL l o r ∧ o + r.length ≤ l.length
  | l, 0, [], l', h => by cases l <;> simp [putO] at h <;> subst h <;> simp [putL]
  | [], 0, _ :: _, l', h => by simp [putO] at h
  | [], o + 1, r, l', h => by simp [putO] at h
  | x :: xs, 0, r :: rs, l', h => by
    unfold putO at h
    cases e : putO xs 0 rs with
    | none => rw [e] at h; cases h
    | some t =>
      rw [e] at h; simp at h; subst h
      obtain ⟨h1, h2⟩ := putO_eq xs 0 rs t e
      subst h1
      refine ⟨by simp [putL], by simp at h2 ⊢; omega⟩
  | x :: xs, o + 1, r, l', h => by
    unfold putO at h
    cases e : putO xs o r with
    | none => rw [e] at h; cases h
    | some t =>
      rw [e] at h; simp at h; subst h
      obtain ⟨h1, h2⟩ := putO_eq xs o r t e
      subst h1
      refine ⟨by simp [putL, show o + 1 + r.length = o + r.length + 1 from by omega], by simp; omega⟩
theorem e_storeO {yt : Ty} {b o : Nat} {l l' r : List Value} {T : TypeId} [ht : TyC P t yt] (h1 : ev L x = some (.pointer (some ⟨b, o, none⟩))) (h2 : ev L y = some v) (hv : v.cells = r.toArray) (hs : yt.size = r.length) (hr : one1 r = true)
    (tk : Take H (Blk b (.cells l.toArray T (0, 0))) H') (ho : putO l o r = some l') :
    Eff P M n L H ⟨dd, .store t x y, ty, ps, af, gd⟩ (fun _ H2 => H2 = Blk b (.cells l'.toArray T (0, 0)) :: H') := by
  obtain ⟨e1, e2⟩ := putO_eq _ _ _ _ ho
  subst e1
  exact e_storeN h1 h2 hv hs hr tk e2

/-! ### a composite slice, all of its parts told -/
theorem fold_set : ∀ (l : List Value) (cs : Array Value) (off k : Nat), off + k + l.length ≤ cs.size →
    ((l.zipIdx k).foldl (fun cs (c, j) => cs.setIfInBounds (off + j) c) cs).toList = cs.toList.take (off + k) ++ l ++ cs.toList.drop (off + k + l.length)
  | [], cs, off, k, h => by simp
  | v :: l, cs, off, k, h => by
    simp only [List.length_cons] at h
    simp only [List.zipIdx_cons, List.foldl_cons]
    rw [fold_set l _ off (k + 1) (by simp; omega)]
    have hlt : off + k < cs.toList.length := by simp; omega
    simp only [Array.toList_setIfInBounds]
    rw [List.set_eq_take_append_cons_drop, if_pos hlt]
    have e1 : (cs.toList.take (off + k) ++ v :: cs.toList.drop (off + k + 1)).take (off + (k + 1)) = cs.toList.take (off + k) ++ [v] := by
      rw [List.take_append, List.length_take, Nat.min_eq_left (Nat.le_of_lt hlt)]
      rw [show off + (k + 1) - (off + k) = 1 from by omega]
      simp only [List.take_succ_cons, List.take_zero, List.take_take]
      rw [Nat.min_eq_right (by omega)]
    have e2 : (cs.toList.take (off + k) ++ v :: cs.toList.drop (off + k + 1)).drop (off + (k + 1) + l.length) = cs.toList.drop (off + k + (l.length + 1)) := by
      rw [List.drop_append, List.length_take, Nat.min_eq_left (Nat.le_of_lt hlt)]
      rw [show off + (k + 1) + l.length - (off + k) = l.length + 1 from by omega]
      rw [List.drop_of_length_le (by simp; omega), List.nil_append, List.drop_succ_cons, List.drop_drop]
      congr 1; omega
    rw [e1, e2]
    simp

theorem fill_all (size : Nat) : ∀ (vs : List Value) (i : Nat) (cs : Array Value), (∀ v ∈ vs, v.cells.size = size) → (i + vs.length) * size = cs.size →
    ∃ cs', Instr.fill (fun i => some (i * size, size)) cs ((vs.zipIdx i).map fun (v, i) => (i, v)) = some cs' ∧ cs'.toList = cs.toList.take (i * size) ++ vs.flatMap (fun v => v.cells.toList)
  | [], i, cs, _, hs => ⟨cs, rfl, by simp at hs ⊢; rw [List.take_of_length_le (by simp; omega)]⟩
  | v :: vs, i, cs, hv, hs => by
    have h0 := hv v (by simp)
    have hsz : i * size + size + vs.length * size = cs.size := by rw [← hs, List.length_cons]; simp only [Nat.add_mul, Nat.one_mul]; omega
    simp only [List.zipIdx_cons, List.map_cons, Instr.fill]
    rw [if_neg (by simp [h0]; omega)]
    have hf : (v.cells.zipIdx.foldl (fun cs (x : Value × Nat) => cs.setIfInBounds (i * size + x.2) x.1) cs).toList = cs.toList.take (i * size) ++ v.cells.toList ++ cs.toList.drop (i * size + size) := by
      rw [← Array.foldl_toList, Array.toList_zipIdx]
      have := fold_set v.cells.toList cs (i * size) 0 (by simp [h0]; omega)
      simpa [h0] using this
    have hlen : (v.cells.zipIdx.foldl (fun cs (x : Value × Nat) => cs.setIfInBounds (i * size + x.2) x.1) cs).size = cs.size := by
      rw [← Array.length_toList, hf]; simp [h0]; omega
    obtain ⟨cs', e1, e2⟩ := fill_all size vs (i + 1) _ (fun u hu => hv u (by simp [hu])) (by rw [hlen, ← hs, List.length_cons]; congr 1; omega)
    refine ⟨cs', e1, ?_⟩
    rw [e2, hf]
    have e3 : (cs.toList.take (i * size) ++ v.cells.toList ++ cs.toList.drop (i * size + size)).take ((i + 1) * size) = cs.toList.take (i * size) ++ v.cells.toList := by
      rw [List.take_append_of_le_length (by simp [h0, Nat.add_mul]; omega), List.take_of_length_le (by simp [h0, Nat.add_mul]; omega)]
    rw [e3]
    simp

def partsOf : Nat → List Operand → List (Nat × Operand)
  | _, [] => []
  | i, x :: l => (i, x) :: partsOf (i + 1) l

theorem partsOf_map {a : Act} (ha : Holds n L a) : ∀ (xs : List Operand) (vs : List Value) (i : Nat), xs.mapM (ev L) = some vs →
    ((partsOf i xs).map fun (i, x) => (i, a.eval x)) = (vs.zipIdx i).map fun (v, i) => (i, v)
  | [], vs, i, h => by simp at h; subst h; rfl
  | x :: xs, vs, i, h => by
    simp only [List.mapM_cons, Option.pure_def, Option.bind_eq_bind, Option.bind_eq_some_iff, Option.some.injEq] at h
    obtain ⟨v, hv, vs', hvs, rfl⟩ := h
    simp only [partsOf, List.map_cons, List.zipIdx_cons, ha.ev hv, partsOf_map ha xs vs' (i + 1) hvs]

def allSize (size : Nat) (vs : List Value) : Bool := vs.all (fun v => v.cells.size == size)

/-- the cells of some values, one behind the other, written out -/
def appO : List Value → List Value → Option (List Value)
  | [], r => some r
  | x :: xs, r => match appO xs r with
    | some t => some (x :: t)
    | none => none
def catO : List Value → Option (List Value)
  | [] => some []
  | v :: vs => match catO vs with
    | some t => appO v.cells.toList t
    | none => none
theorem appO_eq : ∀ (l r s : List Value), appO l r = some s → s = l ++ r
  | [], r, s, h => by simp [appO] at h; exact h.symm
  | x :: xs, r, s, h => by
    unfold appO at h
    cases e : appO xs r with
    | none => rw [e] at h; cases h
    | some t => rw [e] at h; simp at h; rw [← h, appO_eq xs r t e]; rfl
theorem catO_eq : ∀ (vs l : List Value), catO vs = some l → vs.flatMap (fun v => v.cells.toList) = l
  | [], l, h => by simp [catO] at h; subst h; rfl
  | v :: vs, l, h => by
    unfold catO at h
    cases e : catO vs with
    | none => rw [e] at h; cases h
    | some t =>
      rw [e] at h
      rw [List.flatMap_cons, catO_eq vs t e, appO_eq _ _ _ h]

theorem e_bs {k : Nat} {xs : List Operand} {vs : List Value} {l : List Value} {parts : Array (Nat × Operand)} {e : TypeId} {ye : Ty} [hsl : SlC P t e ye] (hp : partsOf 0 xs = parts.toList) (hx : evL L xs = some vs) (hk : vs.length = k)
    (hz : ye.zero.cells.size = ye.size) (hsz : allSize ye.size vs = true) (hl' : catO vs = some l) (hb : Nat.ble (k * ye.size) 16777216 = true) :
    Eff P M n L H ⟨dd, .buildSlice t k parts, ty, ps, af, gd⟩ (fun v H' => ∃ b, v = .slice (some ⟨b, 0, none⟩) k k ∧ H' = Blk b (.cells l.toArray e (0, 0)) :: H) :=
  Eff.of_run fun a w ha hm => by
    obtain ⟨yt, ht, hd⟩ := hsl.t
    have he := hsl.e
    have hl := catO_eq vs l hl'
    have hb' : k * ye.size ≤ 16777216 := by simpa using hb
    have hpm : (parts.map fun (i, x) => (i, a.eval x)).toList = (vs.zipIdx 0).map fun (v, i) => (i, v) := by
      rw [Array.toList_map, ← hp]; exact partsOf_map ha xs vs 0 (by rw [← evL_eq]; exact hx)
    have hv : ∀ v ∈ vs, v.cells.size = ye.size := by simpa [allSize] using hsz
    have hne : ¬ (2 ^ 24 < k * ye.size) := by have : (2 : Nat) ^ 24 = 16777216 := by decide
                                              omega
    have hrun : ∀ PA : Array (Nat × Value), PA.toList = ((vs.zipIdx 0).map fun (v, i) => (i, v)) → (Instr.buildSlice t k PA).run P w = .ok (.slice (some ⟨w.heap.size, 0, none⟩) k k) (w.alloc (.cells l.toArray e)) := by
      intro PA hPA
      by_cases h0 : k * ye.size = 0
      · obtain ⟨cs', e1, e2⟩ := fill_all ye.size vs 0 #[] hv (by simpa [hk] using h0)
        have e3 : cs' = l.toArray := by apply Array.ext'; rw [e2]; simpa using hl
        subst e3
        have e4 : (Array.range (k * ye.size)).map (fun i => (#[] : Array Value)[i % (#[] : Array Value).size]!) = #[] := by rw [h0]; apply Array.eq_empty_of_size_eq_zero; simp
        simp only [Instr.buildSlice, Sem.run_bind, ht.run_u, hd, Result.andThen_ok, he.run_size, gt_iff_lt, if_neg hne, hPA, if_pos h0, Sem.run_pure, e4, e1]
        rfl
      · obtain ⟨cs', e1, e2⟩ := fill_all ye.size vs 0 ((Array.range (k * ye.size)).map (ye.zero.cells[· % ye.zero.cells.size]!)) hv (by simp [hk])
        have e3 : cs' = l.toArray := by apply Array.ext'; rw [e2]; simpa using hl
        subst e3
        simp only [Instr.buildSlice, Sem.run_bind, ht.run_u, hd, Result.andThen_ok, he.run_size, gt_iff_lt, if_neg hne, hPA, if_neg h0, Sem.run_pure, he.run_zero, e1]
        rfl
    refine ⟨_, _, w.alloc (.cells l.toArray e), ?_, ⟨w.heap.size, rfl, rfl⟩, hm.alloc _⟩
    simp only [execOp, Sem.run_bind, hrun _ hpm, Result.andThen_ok, Sem.run_pure]

/-! ### slices of the call's own -/
def OwnSl (e : TypeId) (size : Nat) (a : Option Addr) (k cap : Nat) (xs : List Value) : Assn := fun h => xs.length = k * size ∧
  ((a = none ∧ k = 0 ∧ cap = 0 ∧ h = fun _ => none) ∨ ∃ (g : Nat) (cur : List Value), a = some ⟨g, 0, none⟩ ∧ k ≤ cap ∧ cap ≤ maxLen ∧ cur.length = cap * size ∧ cur.take (k * size) = xs ∧ h = one g (.cells cur.toArray e (0, 0)))

theorem OwnSl.cases {e : TypeId} {size : Nat} {a : Option Addr} {k cap : Nat} {xs : List Value} (t : Take H (OwnSl e size a k cap xs) H') (hm : Ms M H w) :
    xs.length = k * size ∧ ((a = none ∧ k = 0 ∧ cap = 0 ∧ Ms M H' w) ∨ ∃ (g : Nat) (cur : List Value), a = some ⟨g, 0, none⟩ ∧ k ≤ cap ∧ cap ≤ maxLen ∧ cur.length = cap * size ∧ cur.take (k * size) = xs ∧ Ms M (Blk g (.cells cur.toArray e (0, 0)) :: H') w) := by
  obtain ⟨hh, s, su, d, r⟩ := hm.own
  obtain ⟨h1, h2, ⟨e1, e2⟩, s2, dd, rfl⟩ := t.sat s
  refine ⟨e1, ?_⟩
  rcases e2 with ⟨a1, a2, a3, a4⟩ | ⟨g, cur, a1, a2, a3, a4, a5, a6⟩
  · subst a4
    have ej : join (fun _ => none) h2 = h2 := by funext b; simp [join]
    rw [ej] at su d r
    exact .inl ⟨a1, a2, a3, ⟨hm.os, hm.tape, hm.output, hm.size, hm.keep, hm.ro, h2, s2, su, d, r⟩⟩
  · exact .inr ⟨g, cur, a1, a2, a3, a4, a5, ⟨hm.os, hm.tape, hm.output, hm.size, hm.keep, hm.ro, join h1 h2, ⟨h1, h2, a6, s2, dd, rfl⟩, su, d, r⟩⟩

/-- an assertion that says more -/
theorem Ms.weaken {A B : Assn} (h : Ms M (A :: H) w) (hab : ∀ k, A k → B k) : Ms M (B :: H) w := by
  obtain ⟨hh, ⟨h1, h2, e1, s2, dd, rfl⟩, su, d, r⟩ := h.own
  exact ⟨h.os, h.tape, h.output, h.size, h.keep, h.ro, _, ⟨h1, h2, hab _ e1, s2, dd, rfl⟩, su, d, r⟩

theorem Ms.tail {A : Assn} (h : Ms M (A :: H) w) : Ms M H w := by
  obtain ⟨hh, ⟨h1, h2, e1, s2, dd, rfl⟩, su, d, r⟩ := h.own
  refine ⟨h.os, h.tape, h.output, h.size, h.keep, h.ro, h2, s2, fun b o e => su b o ?_, fun b e => d b fun e1 => e (join_none.1 e1).2, fun b o e => (join_none.1 (r b o e)).2⟩
  rcases dd b with e' | e'
  · simp [join, e', e]
  · rw [e'] at e; cases e

/-- memory without owner -/
theorem Ms.emp {A : Assn} (h : Ms M H w) (ha : A (fun _ => none)) : Ms M (A :: H) w := by
  obtain ⟨hh, s, su, d, r⟩ := h.own
  exact ⟨h.os, h.tape, h.output, h.size, h.keep, h.ro, hh, ⟨_, hh, ha, s, fun b => .inl rfl, by funext b; simp [join]⟩, su, d, r⟩

theorem cells_add (w : World) (g j : Nat) (l : List Value) (T : TypeId) (fz : Nat × Nat) (h : w.heap[g]? = some (.cells l.toArray T fz)) (o : Nat) : w.cell? ((⟨g, o, none⟩ : Addr).add j) = l[o + j]? := by
  have e6 : (Addr.mk g o none).add j = ⟨g, o + j, none⟩ := by unfold Addr.add; split <;> simp_all
  rw [e6]; simp [World.cell?, h]

theorem e_append {e : TypeId} {ye : Ty} {a1 : Option Addr} {k cap m c b o : Nat} {xs l news : List Value} {T : TypeId} {fz : Nat × Nat} [hsl : SlC P t e ye] (hz : ye.zero.cells.size = ye.size) (hs0 : Nat.blt 0 ye.size = true)
    (h1 : ev L x = some (.slice a1 k cap)) (h2 : ev L y = some (.slice (some ⟨b, o, none⟩) m c)) (hh : Has M H b (.cells l.toArray T fz)) (hsub : sub l o (m * ye.size) = some news) (hn1 : one1 news = true)
    (tk : Take H (OwnSl e ye.size a1 k cap xs) H') (hm0 : 0 < m) (hbd : (k + m) * ye.bytes ≤ 140737488355328) (h63 : k + m ≤ 9223372036854775807) :
    Eff P M n L H ⟨dd, .call ⟨.builtin .append, #[x, y], #[t, t]⟩, ty, ps, af, gd⟩ (fun v H2 => ∃ a2 c2, v = .slice a2 (k + m) c2 ∧ H2 = OwnSl e ye.size a2 (k + m) c2 (xs ++ news) :: H') :=
  Eff.of_run fun a w ha hm => by
    obtain ⟨yt, ht, hd⟩ := hsl.t
    have he := hsl.e
    have hs0' : 0 < ye.size := by simpa using hs0
    have hsp := sub_spec hsub
    have hnews : ∀ j u, news[j]? = some u → w.cell? ((⟨b, o, none⟩ : Addr).add j) = some u := fun j u hj => by rw [cells_add w b j l T fz (hh w hm) o]; exact hsp.2 j u hj
    have hone : ∀ u ∈ news, u.oneCell' = true := by simpa [one1] using hn1
    obtain ⟨i, hri, hib, his, hi, hiz⟩ := he.run_info
    have ht' : P.underlying t = some (.slice e) := by rw [ht.u, hd]
    obtain ⟨hxl, hcase⟩ := OwnSl.cases tk hm
    have hml : news.length = m * i.size := by rw [his]; exact hsp.1
    have hexec : ∀ (r : Result Value), (Builtin.append_ #[t, t] ty #[.slice a1 k cap, .slice (some ⟨b, o, none⟩) m c]).run P w = r →
        (execOp a.eval ⟨dd, .call ⟨.builtin .append, #[x, y], #[t, t]⟩, ty, ps, af, gd⟩).run P w = r.andThen fun v w => .ok (.value v) w := fun r hr => by
      simp [execOp, resolve, invoke, builtin, ha.ev h1, ha.ev h2, hr]
    have grown : ∀ old, old < k + m → ∀ a1' : Option Nat, OwnSl e ye.size (some ⟨w.heap.size, 0, none⟩) (k + m) (grownCap w (k + m) old e) (xs ++ news)
        (one w.heap.size (.cells (xs ++ news ++ (Builtin.zeroCells ye.zero.cells (grownCap w (k + m) old e - (k + m))).toList).toArray e (0, 0))) ∧ a1' = a1' := fun old ho _ => by
      have hge := grownCap_ge w (k + m) old e
      have hcm : grownCap w (k + m) old e ≤ maxLen := grownCap_le_maxLen w (k + m) old e (by simp only [maxLen]; omega)
      have hlen : (xs ++ news).length = (k + m) * ye.size := by rw [List.length_append, hxl, hsp.1, Nat.add_mul]
      refine ⟨⟨hlen, .inr ⟨_, _, rfl, hge, hcm, ?_, ?_, rfl⟩⟩, rfl⟩
      · rw [List.length_append, hlen, Array.length_toList, size_zeroCells, hz, ← Nat.add_mul]; congr 1; omega
      · rw [← hlen]; exact List.take_left
    rcases hcase with ⟨rfl, rfl, rfl, hm'⟩ | ⟨g, cur, rfl, hnc, hcm, hcl, htk, hm'⟩
    · have hx0 : xs = [] := List.eq_nil_of_length_eq_zero (by simpa using hxl)
      subst hx0
      have hr := run_append_nil (P := P) w t ty e i ye.zero ht' hi hiz ⟨b, o, none⟩ m c news hml hnews (by omega) (by omega) (by rw [hib]; have := hbd; simp only [Nat.zero_add] at this; omega)
      refine ⟨_, _, _, hexec _ hr, ⟨_, _, by rw [Nat.zero_add], rfl⟩, ?_⟩
      have := (hm'.drawn (w.drawn + 1)).alloc (.cells ([] ++ news ++ (Builtin.zeroCells ye.zero.cells (grownCap w (0 + m) 0 e - (0 + m))).toList).toArray e (0, 0))
      have hw := this.weaken (B := OwnSl e ye.size (some ⟨w.heap.size, 0, none⟩) (0 + m) (grownCap w m 0 e) ([] ++ news)) (fun kk hk => by
        have e1 : kk = one w.heap.size _ := hk
        rw [e1]; have := (grown 0 (by omega) none).1; simp only [Nat.zero_add] at this ⊢; exact this)
      have e9 : ([] ++ news ++ (Builtin.zeroCells ye.zero.cells (grownCap w (0 + m) 0 e - (0 + m))).toList).toArray = news.toArray ++ Builtin.zeroCells ye.zero.cells (grownCap w m 0 e - m) := by
        apply Array.ext'; simp
      rw [e9] at hw
      exact hw
    · by_cases hroom : k + m ≤ cap
      · have hb := hm'.blk .here
        have hfit : k * i.size + news.length ≤ cur.toArray.size := by rw [hml, ← Nat.add_mul, List.size_toArray, hcl, his]; exact Nat.mul_le_mul_right _ hroom
        have hr := run_append_room (P := P) w t ty e i ht' hi g k cap cur.toArray hb ⟨b, o, none⟩ m c news hml hnews hone hroom hfit
        refine ⟨_, _, _, hexec _ hr, ⟨_, _, rfl, rfl⟩, ?_⟩
        have hs := hm'.set' .here (.cells (cur.take (k * i.size) ++ news ++ cur.drop (k * i.size + news.length)).toArray e (0, 0)) (w' := w.setRow g (cur.toArray.toList.take (k * i.size) ++ news ++ cur.toArray.toList.drop (k * i.size + news.length)).toArray)
          rfl rfl rfl (by simp) (setRow_heap w g _ _ e _ hb) (fun c hc => setRow_other w g c _ hc)
        refine hs.weaken fun kk hk => ?_
        have e1 : kk = one g _ := hk
        rw [e1]
        have hlen : (xs ++ news).length = (k + m) * ye.size := by rw [List.length_append, hxl, hsp.1, Nat.add_mul]
        have hle : k * i.size ≤ cur.length := by rw [hcl, his]; exact Nat.mul_le_mul_right _ hnc
        refine ⟨hlen, .inr ⟨g, _, rfl, hroom, hcm, ?_, ?_, rfl⟩⟩
        · have := hfit; simp only [List.size_toArray] at this
          simp only [List.length_append, List.length_take, List.length_drop]; omega
        · rw [his, htk, ← hlen]; exact List.take_left
      · have holds : ∀ j u, xs[j]? = some u → w.cell? ((⟨g, 0, none⟩ : Addr).add j) = some u := fun j u hj => by
          rw [cells_add w g j cur e _ (hm'.blk .here) 0, Nat.zero_add]
          rw [← htk, List.getElem?_take] at hj
          split at hj
          · exact hj
          · cases hj
        have hr := run_append_grow (P := P) w t ty e i ye.zero ht' hi hiz ⟨g, 0, none⟩ k cap xs (by rw [his]; exact hxl) holds ⟨b, o, none⟩ m c news hml hnews (by omega) (by omega) (growslice_fits (by omega) (by rw [hib]; exact hbd))
        refine ⟨_, _, _, hexec _ hr, ⟨_, _, rfl, rfl⟩, ?_⟩
        have := (hm'.tail.drawn (w.drawn + 1)).alloc (.cells (xs ++ news ++ (Builtin.zeroCells ye.zero.cells (grownCap w (k + m) cap e - (k + m))).toList).toArray e (0, 0))
        have hw := this.weaken (B := OwnSl e ye.size (some ⟨w.heap.size, 0, none⟩) (k + m) (grownCap w (k + m) cap e) (xs ++ news)) (fun kk hk => by
          have e1 : kk = one w.heap.size _ := hk
          rw [e1]; exact (grown cap (by omega) none).1)
        have e9 : (xs ++ news ++ (Builtin.zeroCells ye.zero.cells (grownCap w (k + m) cap e - (k + m))).toList).toArray = xs.toArray ++ news.toArray ++ Builtin.zeroCells ye.zero.cells (grownCap w (k + m) cap e - (k + m)) := by
          apply Array.ext'; simp
        rw [e9] at hw
        exact hw

theorem e_appendO {e : TypeId} {ye : Ty} {a1 : Option Addr} {k cap m c b o : Nat} {xs l news : List Value} {T : TypeId} {fz : Nat × Nat} [hsl : SlC P t e ye] (hz : ye.zero.cells.size = ye.size) (hs0 : Nat.blt 0 ye.size = true)
    (h1 : ev L x = some (.slice a1 k cap)) (h2 : ev L y = some (.slice (some ⟨b, o, none⟩) m c)) (hh : Has M H b (.cells l.toArray T fz)) (hsub : subO l o (m * ye.size) = some news) (hn1 : one1 news = true)
    (tk : Take H (OwnSl e ye.size a1 k cap xs) H') (hm0 : 0 < m) (hbd : (k + m) * ye.bytes ≤ 140737488355328) (h63 : k + m ≤ 9223372036854775807) :
    Eff P M n L H ⟨dd, .call ⟨.builtin .append, #[x, y], #[t, t]⟩, ty, ps, af, gd⟩ (fun v H2 => ∃ a2 c2, v = .slice a2 (k + m) c2 ∧ H2 = OwnSl e ye.size a2 (k + m) c2 (xs ++ news) :: H') :=
  e_append hz hs0 h1 h2 hh (subO_eq _ _ _ _ hsub) hn1 tk hm0 hbd h63

/-! ### calls -/
theorem g_call {fv : Operand} {d f : Nat} {args : Array Operand} {first cap : Array Value} {tys : Array TypeId} {vs : List Value} {Hin : List Assn} {R : Value → List Assn → Prop}
    (hf : ev L fv = some (.func (.func f) first cap)) (hargs : evL L args.toList = some vs) (hn : Nat.blt d n = true) (hin : Cover H Hin Hr)
    (hc : ∀ ρ', (∀ b o, M.ρ b o → ρ' b o) → Ros ρ' Hr → Con P ρ' f (first ++ vs.toArray ++ cap) Hin R)
    (k : ∀ v Ho, R v Ho → G M n ((d, v) :: L) (Ho ++ Hr) (TL P ops rest Q)) : G M n L H (TL P ops (⟨some d, .call ⟨.value fv, args, tys⟩, ty, ps, af, none⟩ :: rest) Q) := by
  unfold G TL at *
  intro a w ha hm
  refine wpList_plain rfl fun K hK => ?_
  have e1 : args.map a.eval = vs.toArray := by apply Array.ext'; simpa using evs ha _ _ (by rw [← evL_eq]; exact hargs)
  obtain ⟨hi, hr, s1, s2, s3, s4, s5, s6⟩ := hm.split hin
  have hcon := hc (fun b o => M.ρ b o ∨ hr b = some o) (fun b o e => .inl e) (ros_of_sat s3 fun b o e => .inr e)
  have hcall := hcon.2 w hi s1 s2 s5
  unfold Oper.wp
  have e2 : (execOp a.eval ⟨some d, .call ⟨.value fv, args, tys⟩, ty, ps, af, none⟩).run P w = .ok (.enter f (first ++ vs.toArray ++ cap)) w := by
    simp only [execOp, resolve, ha.ev hf, Deferred.ofValue, e1, Sem.run_bind, Sem.run_pure, Result.andThen_ok, invoke, hcon.1]
  rw [e2, Oper.upon_enter]
  refine hcall.mono fun e w' ⟨v, Ho, he, hR, hm'⟩ => ?_
  subst he
  exact hK _ _ (k v Ho hR _ _ (ha.put (by simpa using hn) v) (s6 Ho w' hm'))

/-- a call whose result nobody takes -/
theorem g_call0 {fv : Operand} {f : Nat} {args : Array Operand} {first cap : Array Value} {tys : Array TypeId} {vs : List Value} {Hin : List Assn} {R : Value → List Assn → Prop}
    (hf : ev L fv = some (.func (.func f) first cap)) (hargs : evL L args.toList = some vs) (hin : Cover H Hin Hr)
    (hc : ∀ ρ', (∀ b o, M.ρ b o → ρ' b o) → Ros ρ' Hr → Con P ρ' f (first ++ vs.toArray ++ cap) Hin R)
    (k : ∀ v Ho, R v Ho → G M n L (Ho ++ Hr) (TL P ops rest Q)) : G M n L H (TL P ops (⟨none, .call ⟨.value fv, args, tys⟩, ty, ps, af, none⟩ :: rest) Q) := by
  unfold G TL at *
  intro a w ha hm
  refine wpList_plain rfl fun K hK => ?_
  have e1 : args.map a.eval = vs.toArray := by apply Array.ext'; simpa using evs ha _ _ (by rw [← evL_eq]; exact hargs)
  obtain ⟨hi, hr, s1, s2, s3, s4, s5, s6⟩ := hm.split hin
  have hcon := hc (fun b o => M.ρ b o ∨ hr b = some o) (fun b o e => .inl e) (ros_of_sat s3 fun b o e => .inr e)
  have hcall := hcon.2 w hi s1 s2 s5
  unfold Oper.wp
  have e2 : (execOp a.eval ⟨none, .call ⟨.value fv, args, tys⟩, ty, ps, af, none⟩).run P w = .ok (.enter f (first ++ vs.toArray ++ cap)) w := by
    simp only [execOp, resolve, ha.ev hf, Deferred.ofValue, e1, Sem.run_bind, Sem.run_pure, Result.andThen_ok, invoke, hcon.1]
  rw [e2, Oper.upon_enter]
  refine hcall.mono fun e w' ⟨v, Ho, he, hR, hm'⟩ => ?_
  subst he
  exact hK _ _ (k v Ho hR _ _ ha (s6 Ho w' hm'))

theorem g_splitd {op : Op} {j dj : Nat} {b : Bool} {p : Prop} [Decidable p] (hd : (ops[j]?).bind (·.dst) = some dj) (hl : L.lookup dj = some (.bool (decide p)))
    (k1 : p → G M n ((dj, .bool true) :: L) H (TL P ops (⟨dd, op, ty, ps, af, some (j, b)⟩ :: rest) Q)) (k2 : ¬ p → G M n ((dj, .bool false) :: L) H (TL P ops (⟨dd, op, ty, ps, af, some (j, b)⟩ :: rest) Q)) :
    G M n L H (TL P ops (⟨dd, op, ty, ps, af, some (j, b)⟩ :: rest) Q) := g_split hd hl (fun h => k1 (of_decide_eq_true h)) (fun h => k2 (of_decide_eq_false h))
theorem g_splitnd {op : Op} {j dj : Nat} {b : Bool} {p : Prop} [Decidable p] (hd : (ops[j]?).bind (·.dst) = some dj) (hl : L.lookup dj = some (.bool (!decide p)))
    (k1 : ¬ p → G M n ((dj, .bool true) :: L) H (TL P ops (⟨dd, op, ty, ps, af, some (j, b)⟩ :: rest) Q)) (k2 : p → G M n ((dj, .bool false) :: L) H (TL P ops (⟨dd, op, ty, ps, af, some (j, b)⟩ :: rest) Q)) :
    G M n L H (TL P ops (⟨dd, op, ty, ps, af, some (j, b)⟩ :: rest) Q) := g_split hd hl (fun h => k1 (by simpa using h)) (fun h => k2 (by simpa using h))

theorem g_postn {fn : Func} {rs : List ResultVar} {vs : List Value} {R : Value → List Assn → Prop} {Ho Hr : List Assn} (hrs : fn.results = rs.toArray) (hv : Res P M L H rs vs) (hR : R (tupled vs) Ho) (hc : Cover H Ho Hr) :
    G M n L H (TP (bodyPost P fn (postOf M R)) .normal) := by
  have := g_post (n := n) hrs hv hR hc
  unfold G TP at *
  exact this
end Go.Z
