/- Own layer, part 1: symbolic frames, owned memory, the judgement G, control flow. Conditions: none; generic in the program. -/
import Derived.WalkKit
import Derived.Deep.Quiet
namespace Go.Z
set_option maxRecDepth 8000
set_option linter.unusedVariables false
set_option linter.unusedSimpArgs false
set_option linter.unusedSectionVars false
open Go

abbrev Fr := List (Nat × Value)
abbrev Hp := Nat → Option Obj
abbrev Assn := Hp → Prop
def encI (i : Int) : Value := .int .i64 i
def encB (b : Bool) : Value := .bool b
def I64 (a : Int) : Prop := -9223372036854775808 ≤ a ∧ a ≤ 9223372036854775807

def ev (L : Fr) : Operand → Option Value
  | .tmp t => L.lookup t
  | .const v => some v
  | .global g => some (.pointer (some ⟨g, 0, none⟩))
  | .func f => some (.func (.func f) #[] #[])

structure Holds (n : Nat) (L : Fr) (a : Act) : Prop where
  size : a.tmps.size = n
  defers : a.defers = []
  look : ∀ t v, L.lookup t = some v → a.tmps.getD t undef = v

variable {P : Program} {n : Nat} {L L' : Fr} {a : Act} {x : Operand} {v : Value}

theorem Holds.ev (h : Holds n L a) (e : Z.ev L x = some v) : a.eval x = v := by
  cases x with
  | tmp t => exact h.look t v e
  | const u => simpa [Z.ev, Act.eval] using e
  | global g => simpa [Z.ev, Act.eval] using e
  | func f => simpa [Z.ev, Act.eval] using e

theorem Holds.put (h : Holds n L a) {d : Nat} (hd : d < n) (v : Value) : Holds n ((d, v) :: L) (a.put (some d) v) := by
  refine ⟨by simp [Act.put, h.size], by simp [Act.put, h.defers], fun t u hl => ?_⟩
  simp only [List.lookup_cons] at hl
  have hs := h.size
  by_cases e : t = d
  · subst e
    simp at hl
    subst hl
    simp [Act.put, hs, hd]
  · have : (t == d) = false := by simpa using e
    simp only [this] at hl
    have := h.look t u hl
    simp only [Act.put, Array.getD_eq_getD_getElem?] at *
    rw [Array.getElem?_setIfInBounds_ne (Ne.symm e)]
    exact this

def SubFr (L : Fr) : Fr → Prop
  | [] => True
  | (t, v) :: L' => L.lookup t = some v ∧ SubFr L L'

theorem SubFr.look : ∀ {L' : Fr}, SubFr L L' → ∀ t v, L'.lookup t = some v → L.lookup t = some v
  | [], _, t, v, h => by simp at h
  | (s, u) :: L', hs, t, v, h => by
    simp only [List.lookup_cons] at h
    by_cases e : t = s
    · subst e; simp at h; subst h; exact hs.1
    · have : (t == s) = false := by simpa using e
      simp only [this] at h
      exact hs.2.look t v h

theorem Holds.sub (h : Holds n L a) (hs : SubFr L L') : Holds n L' a := ⟨h.size, h.defers, fun t v hl => h.look t v (hs.look t v hl)⟩

/-! ### heaplets -/
def join (h k : Hp) : Hp := fun b => (h b).or (k b)
def Disj (h k : Hp) : Prop := ∀ b, h b = none ∨ k b = none
def Sub (h : Hp) (w : World) : Prop := ∀ b o, h b = some o → w.heap[b]? = some o
def one (b : Nat) (o : Obj) : Hp := fun c => if c = b then some o else none
def Blk (b : Nat) (o : Obj) : Assn := fun h => h = one b o

def Sat : List Assn → Assn
  | [], h => h = fun _ => none
  | A :: H, h => ∃ h1 h2, A h1 ∧ Sat H h2 ∧ Disj h1 h2 ∧ h = join h1 h2

theorem join_none {h k : Hp} {b : Nat} : join h k b = none ↔ h b = none ∧ k b = none := by
  unfold join; cases h b <;> simp

theorem join_comm {h k : Hp} (d : Disj h k) : join h k = join k h := by
  funext b; unfold join
  rcases d b with e | e <;> simp [e]

theorem join_assoc (h k l : Hp) : join (join h k) l = join h (join k l) := by
  funext b; unfold join; cases h b <;> simp

theorem Disj.symm {h k : Hp} (d : Disj h k) : Disj k h := fun b => (d b).symm
theorem Disj.join_right {h k l : Hp} : Disj h (join k l) ↔ Disj h k ∧ Disj h l := by
  constructor
  · intro d
    refine ⟨fun b => ?_, fun b => ?_⟩ <;> rcases d b with e | e
    · exact .inl e
    · exact .inr (join_none.1 e).1
    · exact .inl e
    · exact .inr (join_none.1 e).2
  · intro ⟨d, e⟩ b
    rcases d b with x | x
    · exact .inl x
    · rcases e b with y | y
      · exact .inl y
      · exact .inr (join_none.2 ⟨x, y⟩)

inductive Take : List Assn → Assn → List Assn → Prop
  | here {A : Assn} {H : List Assn} : Take (A :: H) A H
  | there {A B : Assn} {H H' : List Assn} : Take H A H' → Take (B :: H) A (B :: H')

theorem Take.sat {H H' : List Assn} {A : Assn} (t : Take H A H') : ∀ {h : Hp}, Sat H h → Sat (A :: H') h := by
  induction t with
  | here => exact fun s => s
  | there t ih =>
    rintro h ⟨h1, h2, hb, hs, hd, rfl⟩
    obtain ⟨k1, k2, ha, hs', hd', rfl⟩ := ih hs
    obtain ⟨d1, d2⟩ := Disj.join_right.1 hd
    refine ⟨k1, join h1 k2, ha, ⟨h1, k2, hb, hs', d2, rfl⟩, Disj.join_right.2 ⟨d1.symm, hd'⟩, ?_⟩
    rw [← join_assoc, ← join_assoc, join_comm d1]

inductive Cover : List Assn → List Assn → List Assn → Prop
  | nil {H : List Assn} : Cover H [] H
  | cons {A : Assn} {H H1 Hi Hr : List Assn} : Take H A H1 → Cover H1 Hi Hr → Cover H (A :: Hi) Hr

theorem Cover.sat {H Hi Hr : List Assn} (c : Cover H Hi Hr) : ∀ {h : Hp}, Sat H h → ∃ hi hr, Sat Hi hi ∧ Sat Hr hr ∧ Disj hi hr ∧ h = join hi hr := by
  induction c with
  | nil => exact fun {h} s => ⟨fun _ => none, h, rfl, s, fun b => .inl rfl, by funext b; simp [join]⟩
  | cons t c ih =>
    intro h s
    obtain ⟨h1, h2, ha, hs, hd, rfl⟩ := t.sat s
    obtain ⟨hi, hr, s1, s2, d, rfl⟩ := ih hs
    obtain ⟨d1, d2⟩ := Disj.join_right.1 hd
    exact ⟨join h1 hi, hr, ⟨h1, hi, ha, s1, d1, rfl⟩, s2, (Disj.join_right.2 ⟨d2.symm, d.symm⟩).symm, (join_assoc _ _ _).symm⟩

theorem sat_append : ∀ {H K : List Assn} {h k : Hp}, Sat H h → Sat K k → Disj h k → Sat (H ++ K) (join h k)
  | [], K, h, k, s, t, d => by
    have : h = fun _ => none := s
    subst this
    have e : join (fun _ => none) k = k := by funext b; simp [join]
    rw [e]; exact t
  | A :: H, K, h, k, ⟨h1, h2, ha, hs, hd, he⟩, t, d => by
    subst he
    obtain ⟨d1, d2⟩ := Disj.join_right.1 d.symm
    exact ⟨h1, join h2 k, ha, sat_append hs t d2.symm, Disj.join_right.2 ⟨hd, d1.symm⟩, join_assoc _ _ _⟩

/-! ### memory -/
structure Mx where
  ρ : Nat → Obj → Prop
  w0 : World
  h0 : Hp

structure Ms (M : Mx) (H : List Assn) (w : World) : Prop where
  os : w.os = M.w0.os
  tape : w.tape = M.w0.tape
  output : w.output = M.w0.output
  size : M.w0.heap.size ≤ w.heap.size
  keep : ∀ b, b < M.w0.heap.size → M.h0 b = none → w.heap[b]? = M.w0.heap[b]?
  ro : ∀ b o, M.ρ b o → w.heap[b]? = some o
  own : ∃ h, Sat H h ∧ Sub h w ∧ (∀ b, h b ≠ none → M.h0 b ≠ none ∨ M.w0.heap.size ≤ b) ∧ ∀ b o, M.ρ b o → h b = none

variable {M : Mx} {H H' Hi Hr : List Assn} {w w' : World}

theorem lt_of_heap {w : World} {b : Nat} {o : Obj} (h : w.heap[b]? = some o) : b < w.heap.size := (Array.getElem?_eq_some_iff.1 h).1

theorem Ms.drawn (h : Ms M H w) (k : Nat) : Ms M H { w with drawn := k } := ⟨h.os, h.tape, h.output, h.size, h.keep, h.ro, h.own⟩

theorem Ms.cover (h : Ms M H w) (c : Cover H Hi Hr) : Ms M Hi w := by
  obtain ⟨hh, s, su, d, r⟩ := h.own
  obtain ⟨hi, hr, s1, s2, dd, rfl⟩ := c.sat s
  refine ⟨h.os, h.tape, h.output, h.size, h.keep, h.ro, hi, s1, fun b o e => su b o (by simp [join, e]), fun b e => d b (fun e' => e (join_none.1 e').1), fun b o e => (join_none.1 (r b o e)).1⟩

/-- The part of memory that a callee gets, and what comes back. -/
theorem Ms.split (h : Ms M H w) (c : Cover H Hi Hr) : ∃ hi hr, Sat Hi hi ∧ Sub hi w ∧ Sat Hr hr ∧ Sub hr w ∧
    (∀ b o, (M.ρ b o ∨ hr b = some o) → w.heap[b]? = some o ∧ hi b = none) ∧
    ∀ Ho w', Ms ⟨fun b o => M.ρ b o ∨ hr b = some o, w, hi⟩ Ho w' → Ms M (Ho ++ Hr) w' := by
  obtain ⟨hh, s, su, d, r⟩ := h.own
  obtain ⟨hi, hr, s1, s2, dd, rfl⟩ := c.sat s
  have sui : Sub hi w := fun b o e => su b o (by simp [join, e])
  have sur : Sub hr w := fun b o e => su b o (by
    rcases dd b with e' | e'
    · simp [join, e', e]
    · rw [e'] at e; cases e)
  refine ⟨hi, hr, s1, sui, s2, sur, fun b o e => ?_, fun Ho w' m => ?_⟩
  · rcases e with e | e
    · exact ⟨h.ro b o e, (join_none.1 (r b o e)).1⟩
    · refine ⟨sur b o e, ?_⟩
      rcases dd b with e' | e'
      · exact e'
      · rw [e'] at e; cases e
  · obtain ⟨ho, t1, t2, t3, t4⟩ := m.own
    refine ⟨m.os.trans h.os, m.tape.trans h.tape, m.output.trans h.output, Nat.le_trans h.size m.size, fun b hb hn => ?_, fun b o e => m.ro b o (.inl e), join ho hr, ?_, ?_, ?_, ?_⟩
    · have : hi b = none := by
        have := mt (d b) (by rintro (h1 | h1); exact h1 hn; omega)
        simp at this
        exact (join_none.1 this).1
      exact (m.keep b (Nat.lt_of_lt_of_le hb h.size) this).trans (h.keep b hb hn)
    · refine sat_append t1 s2 (fun b => ?_)
      cases e : hr b with
      | none => exact .inr rfl
      | some o => exact .inl (t4 b o (.inr e))
    · intro b o e
      unfold join at e
      cases e1 : ho b with
      | some o1 => rw [e1] at e; simp at e; subst e; exact t2 b _ e1
      | none => rw [e1] at e; simp at e; exact m.ro b o (.inr e)
    · intro b e
      by_cases e1 : ho b = none
      · have : hr b ≠ none := fun e2 => e (join_none.2 ⟨e1, e2⟩)
        exact d b (fun e3 => this (join_none.1 e3).2)
      · rcases t3 b e1 with e2 | e2
        · exact d b (fun e3 => e2 (join_none.1 e3).1)
        · exact .inr (Nat.le_trans h.size e2)
    · intro b o e
      exact join_none.2 ⟨t4 b o (.inl e), (join_none.1 (r b o e)).2⟩

theorem Ms.alloc (h : Ms M H w) (o : Obj) : Ms M (Blk w.heap.size o :: H) (w.alloc o) := by
  obtain ⟨hh, s, su, d, r⟩ := h.own
  have hlt : ∀ b, hh b ≠ none → b < w.heap.size := fun b e => by
    cases e1 : hh b with
    | none => exact absurd e1 e
    | some o1 => exact lt_of_heap (su b o1 e1)
  have hold : ∀ b, b < w.heap.size → (w.alloc o).heap[b]? = w.heap[b]? := fun b hb => by
    show (w.heap.push o)[b]? = _
    rw [Array.getElem?_push, if_neg (by omega)]
  have hsz : (w.alloc o).heap.size = w.heap.size + 1 := by show (w.heap.push o).size = _; simp
  refine ⟨h.os, h.tape, h.output, by rw [hsz]; exact Nat.le_succ_of_le h.size, fun b hb hn => (hold b (Nat.lt_of_lt_of_le hb h.size)).trans (h.keep b hb hn), fun b o' e => (hold b (lt_of_heap (h.ro b o' e))).trans (h.ro b o' e),
    join (one w.heap.size o) hh, ⟨_, _, rfl, s, ?_, rfl⟩, ?_, ?_, ?_⟩
  · intro b
    by_cases e : b = w.heap.size
    · right
      subst e
      cases e1 : hh w.heap.size with
      | none => rfl
      | some o1 => exact absurd (hlt _ (by simp [e1])) (Nat.lt_irrefl _)
    · left; simp [one, e]
  · intro b o' e
    by_cases eb : b = w.heap.size
    · subst eb
      simp [join, one] at e
      subst e
      show (w.heap.push o)[w.heap.size]? = _
      simp
    · simp [join, one, eb] at e
      exact (hold b (lt_of_heap (su b o' e))).trans (su b o' e)
  · intro b e
    by_cases eb : b = w.heap.size
    · subst eb; exact .inr h.size
    · refine d b fun e1 => e (join_none.2 ⟨by simp [one, eb], e1⟩)
  · intro b o' e
    refine join_none.2 ⟨?_, r b o' e⟩
    have := lt_of_heap (h.ro b o' e)
    simp [one, Nat.ne_of_lt this]

theorem Ms.fresh (h : Ms M H w) : M.w0.heap.size ≤ w.heap.size := h.size

theorem Ms.set (h : Ms M H w) {b : Nat} {o : Obj} (t : Take H (Blk b o) H') (o' : Obj) (hw : w' = { w with heap := w.heap.setIfInBounds b o' }) : Ms M (Blk b o' :: H') w' := by
  subst hw
  obtain ⟨hh, s, su, d, r⟩ := h.own
  obtain ⟨h1, h2, e1, s2, dd, rfl⟩ := t.sat s
  have e1' : h1 = one b o := e1
  subst e1'
  have hb : w.heap[b]? = some o := su b o (by simp [join, one])
  have hbl := lt_of_heap hb
  have hd0 := d b (fun e => by simp [join, one] at e)
  have h2b : h2 b = none := by rcases dd b with e | e; simp [one] at e; exact e
  have hne : ∀ c, c ≠ b → (w.heap.setIfInBounds b o')[c]? = w.heap[c]? := fun c hc => Array.getElem?_setIfInBounds_ne (Ne.symm hc)
  refine ⟨h.os, h.tape, h.output, by simpa using h.size, fun c hc hn => ?_, fun c o1 e => ?_, join (one b o') h2, ⟨_, _, rfl, s2, fun c => ?_, rfl⟩, fun c o1 e => ?_, fun c e => ?_, fun c o1 e => ?_⟩
  · have : c ≠ b := by
      rintro rfl
      rcases hd0 with x | x
      · exact x hn
      · omega
    exact (hne c this).trans (h.keep c hc hn)
  · have : c ≠ b := by
      rintro rfl
      have := (join_none.1 (r c o1 e)).1
      simp [one] at this
    exact (hne c this).trans (h.ro c o1 e)
  · by_cases e : c = b
    · subst e; exact .inr h2b
    · exact .inl (by simp [one, e])
  · by_cases ec : c = b
    · subst ec
      simp [join, one] at e
      subst e
      show (w.heap.setIfInBounds c o')[c]? = _
      rw [Array.getElem?_setIfInBounds]
      simp [hbl]
    · simp [join, one, ec] at e
      exact (hne c ec).trans (su c o1 (by simp [join, one, ec, e]))
  · by_cases ec : c = b
    · subst ec; exact hd0
    · exact d c fun e1 => e (join_none.2 ⟨by simp [one, ec], (join_none.1 e1).2⟩)
  · have := join_none.1 (r c o1 e)
    refine join_none.2 ⟨?_, this.2⟩
    by_cases ec : c = b
    · subst ec; have := this.1; simp [one] at this
    · simp [one, ec]

theorem Ms.blk (h : Ms M H w) {b : Nat} {o : Obj} (t : Take H (Blk b o) H') : w.heap[b]? = some o := by
  obtain ⟨hh, s, su, d, r⟩ := h.own
  obtain ⟨h1, h2, e1, s2, dd, rfl⟩ := t.sat s
  have e1' : h1 = one b o := e1
  subst e1'
  exact su b o (by simp [join, one])

/-- In every world of the state block b holds o. -/
def Has (M : Mx) (H : List Assn) (b : Nat) (o : Obj) : Prop := ∀ w, Ms M H w → w.heap[b]? = some o
theorem Has.ro {b : Nat} {o : Obj} (h : M.ρ b o) : Has M H b o := fun _ m => m.ro b o h
theorem Has.own {b : Nat} {o : Obj} (t : Take H (Blk b o) H') : Has M H b o := fun _ m => m.blk t

/-- An assertion that holds of memory that nobody writes. -/
def Ro (ρ : Nat → Obj → Prop) (A : Assn) : Prop := ∃ h, A h ∧ ∀ b o, h b = some o → ρ b o
def Ros (ρ : Nat → Obj → Prop) : List Assn → Prop
  | [] => True
  | A :: H => Ro ρ A ∧ Ros ρ H

theorem ros_of_sat {ρ : Nat → Obj → Prop} : ∀ {H : List Assn} {h : Hp}, Sat H h → (∀ b o, h b = some o → ρ b o) → Ros ρ H
  | [], _, _, _ => trivial
  | A :: H, _, ⟨h1, h2, ha, hs, hd, rfl⟩, r => ⟨⟨h1, ha, fun b o e => r b o (by simp [join, e])⟩, ros_of_sat hs fun b o e => r b o (by
      rcases hd b with e' | e'
      · simp [join, e', e]
      · rw [e'] at e; cases e)⟩

theorem Ro.blk {ρ : Nat → Obj → Prop} {b : Nat} {o : Obj} (h : Ro ρ (Blk b o)) : ρ b o := by
  obtain ⟨h1, e, r⟩ := h
  have e' : h1 = one b o := e
  subst e'
  exact r b o (by simp [one])
theorem Ro.of_blk {ρ : Nat → Obj → Prop} {b : Nat} {o : Obj} (h : ρ b o) : Ro ρ (Blk b o) :=
  ⟨one b o, rfl, fun c o' e => by
    by_cases ec : c = b
    · subst ec; simp [one] at e; subst e; exact h
    · simp [one, ec] at e⟩
theorem Ro.mono {ρ ρ' : Nat → Obj → Prop} {A : Assn} (h : Ro ρ A) (s : ∀ b o, ρ b o → ρ' b o) : Ro ρ' A :=
  let ⟨k, e, r⟩ := h; ⟨k, e, fun b o x => s b o (r b o x)⟩

/-! ### the judgement -/
def G (M : Mx) (n : Nat) (L : Fr) (H : List Assn) (T : Act → World → Prop) : Prop := ∀ a w, Holds n L a → Ms M H w → T a w

@[irreducible] def TC (P : Program) (c : Code) (Q : Exit → Act → World → Prop) : Act → World → Prop := fun a w => c.wp P Q a w
@[irreducible] def TL (P : Program) (ops : Array Oper) (l : List Oper) (Q : Exit → Act → World → Prop) : Act → World → Prop := fun a w => wpList P ops Q l a w
@[irreducible] def TP (Q : Exit → Act → World → Prop) (e : Exit) : Act → World → Prop := fun a w => Q e a w
/-- what stands behind: the code y -/
@[irreducible] def QT (P : Program) (y : Code) (Q : Exit → Act → World → Prop) : Exit → Act → World → Prop := Exit.then (fun a w => y.wp P Q a w) Q
/-- what stands behind a loop's round -/
@[irreducible] def QN (N : Act → World → Prop) (Q : Exit → Act → World → Prop) : Exit → Act → World → Prop := Exit.then N Q
@[irreducible] def QB (id : Nat) (Q : Exit → Act → World → Prop) : Exit → Act → World → Prop := Exit.inBlock id Q

variable {Q : Exit → Act → World → Prop} {ops : Array Oper} {rest : List Oper} {T : Act → World → Prop}

theorem g_sub (h : G M n L' H' T) (hs : SubFr L L') {Hr : List Assn} (hc : Cover H H' Hr) : G M n L H T := fun a w ha hm => h a w (ha.sub hs) (hm.cover hc)
theorem g_heap {Hr : List Assn} (hc : Cover H H' Hr) (h : G M n L H' T) : G M n L H T := fun a w ha hm => h a w ha (hm.cover hc)

theorem g_seq {c y : Code} (h : G M n L H (TC P c (QT P y Q))) : G M n L H (TC P (.seq c y) Q) := by
  unfold G TC QT at *; exact fun a w ha hm => wp_seq (h a w ha hm)
theorem g_region {id : Nat} {l : List Oper} (h : G M n L H (TL P l.toArray l Q)) : G M n L H (TC P (.region id l.toArray false) Q) := by
  unfold G TC TL at *; exact fun a w ha hm => wp_region_lit (h a w ha hm)
theorem g_nil (h : G M n L H (TP Q .normal)) : G M n L H (TL P ops [] Q) := by
  unfold G TL TP at *; exact fun a w ha hm => wpList_nil (h a w ha hm)
theorem g_appc {o : Oper} {l m : List Oper} (h : G M n L H (TL P ops (o :: List.append l m) Q)) : G M n L H (TL P ops (List.append (o :: l) m) Q) := h
theorem g_appn {m : List Oper} (h : G M n L H (TL P ops m Q)) : G M n L H (TL P ops (List.append [] m) Q) := h
theorem g_qt {y : Code} (h : G M n L H (TC P y Q)) : G M n L H (TP (QT P y Q) .normal) := by
  unfold G TC TP QT at *; exact h
theorem g_qt_exit {y : Code} {id : Nat} (h : G M n L H (TP Q (.exit id))) : G M n L H (TP (QT P y Q) (.exit id)) := by
  unfold G TP QT at *; exact h
theorem g_qt_ret {y : Code} (h : G M n L H (TP Q .ret)) : G M n L H (TP (QT P y Q) .ret) := by
  unfold G TP QT at *; exact h
theorem g_qn {N : Act → World → Prop} (h : G M n L H N) : G M n L H (TP (QN N Q) .normal) := by
  unfold G TP QN at *; exact h
theorem g_qn_exit {N : Act → World → Prop} {id : Nat} (h : G M n L H (TP Q (.exit id))) : G M n L H (TP (QN N Q) (.exit id)) := by
  unfold G TP QN at *; exact h
theorem g_qn_ret {N : Act → World → Prop} (h : G M n L H (TP Q .ret)) : G M n L H (TP (QN N Q) .ret) := by
  unfold G TP QN at *; exact h
theorem g_qb {id : Nat} (h : G M n L H (TP Q .normal)) : G M n L H (TP (QB id Q) .normal) := by
  unfold G TP QB at *; exact h
theorem g_qb_ret {id : Nat} (h : G M n L H (TP Q .ret)) : G M n L H (TP (QB id Q) .ret) := by
  unfold G TP QB at *; exact h
theorem g_qb_exit {id : Nat} (h : G M n L H (TP Q .normal)) : G M n L H (TP (QB id Q) (.exit id)) := by
  unfold G TP QB at *; intro a w ha hm; simp only [Exit.inBlock, if_true]; exact h a w ha hm
theorem g_qb_other {id j : Nat} (hj : Nat.beq j id = false) (h : G M n L H (TP Q (.exit j))) : G M n L H (TP (QB id Q) (.exit j)) := by
  unfold G TP QB at *; intro a w ha hm
  have : j ≠ id := fun e => by subst e; simp at hj
  simp only [Exit.inBlock, if_neg this]; exact h a w ha hm
theorem g_block {id : Nat} {c : Code} (h : G M n L H (TC P c (QB id Q))) : G M n L H (TC P (.block id c) Q) := by
  unfold G TC QB at *; exact fun a w ha hm => wp_block (h a w ha hm)
theorem g_skip (h : G M n L H (TP Q .normal)) : G M n L H (TC P .skip Q) := by
  unfold G TC TP at *; exact fun a w ha hm => wp_skip (h a w ha hm)
theorem g_exit {id : Nat} (h : G M n L H (TP Q (.exit id))) : G M n L H (TC P (.exit id) Q) := by
  unfold G TC TP at *; exact fun a w ha hm => wp_exit (h a w ha hm)
theorem g_ret (h : G M n L H (TP Q .ret)) : G M n L H (TC P .ret Q) := by
  unfold G TC TP at *; exact fun a w ha hm => wp_ret (h a w ha hm)

theorem g_if {c : Operand} {b : Bool} {t e : Code} (hc : ev L c = some (.bool b)) (ht : b = true → G M n L H (TC P t Q)) (he : b = false → G M n L H (TC P e Q)) : G M n L H (TC P (.cond c t e) Q) := by
  unfold G TC at *
  exact fun a w ha hm => wp_cond_split (ha.ev hc) (fun h => ht h a w ha hm) (fun h => he h a w ha hm)
theorem g_ift {c : Operand} {t e : Code} (hc : ev L c = some (.bool true)) (ht : G M n L H (TC P t Q)) : G M n L H (TC P (.cond c t e) Q) := by
  unfold G TC at *
  exact fun a w ha hm => wp_cond_true (ha.ev hc) (ht a w ha hm)
theorem g_iff {c : Operand} {t e : Code} (hc : ev L c = some (.bool false)) (ht : G M n L H (TC P e Q)) : G M n L H (TC P (.cond c t e) Q) := by
  unfold G TC at *
  exact fun a w ha hm => wp_cond_false (ha.ev hc) (ht a w ha hm)
theorem g_ifd {c : Operand} {p : Prop} [Decidable p] {t e : Code} (hc : ev L c = some (.bool (decide p))) (ht : p → G M n L H (TC P t Q)) (he : ¬ p → G M n L H (TC P e Q)) : G M n L H (TC P (.cond c t e) Q) :=
  g_if hc (fun h => ht (of_decide_eq_true h)) (fun h => he (of_decide_eq_false h))
theorem g_ifnd {c : Operand} {p : Prop} [Decidable p] {t e : Code} (hc : ev L c = some (.bool (!decide p))) (ht : ¬ p → G M n L H (TC P t Q)) (he : p → G M n L H (TC P e Q)) : G M n L H (TC P (.cond c t e) Q) :=
  g_if hc (fun h => ht (by simpa using h)) (fun h => he (by simpa using h))

/-- A loop: the state at a round's head, by an index. -/
theorem g_loop {α : Type} {c : Code} (st : α → Fr) (hp : α → List Assn) (inv : α → Prop) (μ : α → Nat) (x0 : α) (h0 : inv x0) (hL : SubFr L (st x0)) {Hr : List Assn} (hH : Cover H (hp x0) Hr)
    (round : ∀ x, inv x → G M n (st x) (hp x) (TC P c (QN (fun a w => ∃ y, inv y ∧ μ y < μ x ∧ Holds n (st y) a ∧ Ms M (hp y) w) Q))) : G M n L H (TC P (.loop c) Q) := by
  intro a w ha hm
  unfold TC
  intro b k cs
  have key : ∀ m x a w, μ x = m → inv x → Holds n (st x) a → Ms M (hp x) w →
      ∃ e a' w', Q e a' w' ∧ Arrives P (lone (b.at a (.code c :: .inLoop c :: k)) cs w) b k cs e a' w' := by
    intro m
    induction m using Nat.strongRecOn with
    | _ m ih =>
      intro x a w hn hx ha hm
      have hr := round x hx a w ha hm
      unfold TC QN at hr
      obtain ⟨e, a₁, w₁, hq, harr⟩ := hr b (.inLoop c :: k) cs
      cases e with
      | normal =>
        obtain ⟨y, hy, hlt, ha', hm'⟩ := hq
        obtain ⟨e₂, a₂, w₂, hq₂, harr₂⟩ := ih (μ y) (hn ▸ hlt) y a₁ w₁ rfl hy ha' hm'
        exact ⟨e₂, a₂, w₂, hq₂, .of_steps (Steps.trans harr (.one step_inLoop)) harr₂⟩
      | exit id => exact ⟨_, a₁, w₁, hq, .pass (x := .inLoop c) rfl (fun _ _ => .inl (by simp)) harr⟩
      | goto l => exact ⟨_, a₁, w₁, hq, .pass (x := .inLoop c) rfl (fun _ _ => .inl (by simp)) harr⟩
      | ret => exact ⟨_, a₁, w₁, hq, .pass (x := .inLoop c) rfl (fun _ _ => .inl (by simp)) harr⟩
      | panic ch => exact ⟨_, a₁, w₁, hq, .pass (x := .inLoop c) rfl (fun _ _ => .inl (by simp)) harr⟩
      | outgrown => exact ⟨_, a₁, w₁, hq, .pass (x := .inLoop c) rfl (fun _ _ => .inl (by simp)) harr⟩
  obtain ⟨e, a', w', hq, harr⟩ := key _ x0 a w rfl h0 (ha.sub hL) (hm.cover hH)
  exact ⟨e, a', w', hq, .of_steps (.one step_loop) harr⟩

theorem g_next {α : Type} {st : α → Fr} {hp : α → List Assn} {inv : α → Prop} {μ : α → Nat} {m : Nat} (y : α) (hL : SubFr L (st y)) {Hr : List Assn} (hH : Cover H (hp y) Hr) (hi : inv y) (hμ : μ y < m) :
    G M n L H (fun a w => ∃ y, inv y ∧ μ y < m ∧ Holds n (st y) a ∧ Ms M (hp y) w) :=
  fun _ _ ha hm => ⟨y, hi, hμ, ha.sub hL, hm.cover hH⟩

/-! ### functions -/
/-- Called so, with Hin owned and with ρ there to be read, the function returns a value and memory as R says. -/
def Con (P : Program) (ρ : Nat → Obj → Prop) (f : FuncId) (args : Array Value) (Hin : List Assn) (R : Value → List Assn → Prop) : Prop :=
  (∀ vs w, (callFunc f vs).run P w = .ok (.enter f vs) w) ∧
  ∀ w h, Sat Hin h → Sub h w → (∀ b o, ρ b o → w.heap[b]? = some o ∧ h b = none) →
    Calls P f args w fun e w' => ∃ v H', e = .returned v ∧ R v H' ∧ Ms ⟨ρ, w, h⟩ H' w'

def argFr : Nat → List Value → Fr
  | _, [] => []
  | i, v :: l => (i, v) :: argFr (i + 1) l

theorem argFr_lookup : ∀ (l : List Value) (i t : Nat) (v : Value), (argFr i l).lookup t = some v → ∃ k, t = i + k ∧ l[k]? = some v
  | [], _, _, _, h => by simp [argFr] at h
  | u :: l, i, t, v, h => by
    simp only [argFr, List.lookup_cons] at h
    by_cases e : t = i
    · subst e; simp at h; subst h; exact ⟨0, rfl, rfl⟩
    · have : (t == i) = false := by simpa using e
      simp only [this] at h
      obtain ⟨k, rfl, hk⟩ := argFr_lookup l (i + 1) t v h
      exact ⟨k + 1, by omega, by simpa using hk⟩

def postOf (M : Mx) (R : Value → List Assn → Prop) : Ending → World → Prop := fun e w' => ∃ v H', e = .returned v ∧ R v H' ∧ Ms M H' w'

theorem con_intro {ρ : Nat → Obj → Prop} {f : FuncId} {fn : Func} {c : Code} {args : Array Value} {Hin : List Assn} {R : Value → List Assn → Prop}
    (hf : P.funcs[f]? = some fn) (hcall : ∀ vs w, (callFunc f vs).run P w = .ok (.enter f vs) w) (hb : fn.body = some c) (hn : fn.ntmps = n) (hle : Nat.ble args.size n = true)
    (hL : argFr 0 args.toList = L)
    (h : ∀ w h, G ⟨ρ, w, h⟩ n L Hin (TC P c (bodyPost P fn (postOf ⟨ρ, w, h⟩ R)))) : Con P ρ f args Hin R := by
  refine ⟨hcall, fun w hp s su r => calls_of_wp hf hb ?_⟩
  have hle' : args.size ≤ n := by simpa using hle
  have := h w hp { tmps := args ++ Array.replicate (fn.ntmps - args.size) undef, defers := [] } w ⟨by simp [hn]; omega, rfl, fun t v e => ?_⟩
    ⟨rfl, rfl, rfl, Nat.le_refl _, fun _ _ _ => rfl, fun b o e => (r b o e).1, hp, s, su, fun b e => .inl e, fun b o e => (r b o e).2⟩
  · unfold TC at this; exact this
  · subst hL
    obtain ⟨k, rfl, hk⟩ := argFr_lookup _ _ _ _ e
    have hk' : args[k]? = some v := by simpa using hk
    have hlt := (Array.getElem?_eq_some_iff.1 hk').1
    simp only [Nat.zero_add, Array.getD_eq_getD_getElem?]
    rw [Array.getElem?_append_left hlt, hk']
    rfl

theorem Con.mono {ρ : Nat → Obj → Prop} {f : FuncId} {args : Array Value} {Hin : List Assn} {R R' : Value → List Assn → Prop} (h : Con P ρ f args Hin R) (hr : ∀ v H', R v H' → R' v H') : Con P ρ f args Hin R' :=
  ⟨h.1, fun w hp s su r => (h.2 w hp s su r).mono fun _ _ ⟨v, H', e, hR, m⟩ => ⟨v, H', e, hr _ _ hR, m⟩⟩

/-- the values of a function's result variables -/
inductive Res (P : Program) (M : Mx) (L : Fr) (H : List Assn) : List ResultVar → List Value → Prop
  | nil : Res P M L H [] []
  | tmp {t : Nat} {v : Value} {rs : List ResultVar} {vs : List Value} : L.lookup t = some v → Res P M L H rs vs → Res P M L H (.tmp t :: rs) (v :: vs)
  | cell {t : Nat} {a : Addr} {T : TypeId} {v : Value} {rs : List ResultVar} {vs : List Value} : L.lookup t = some (.pointer (some a)) → (∀ w, Ms M H w → (loadVar T a).run P w = .ok v w) → Res P M L H rs vs →
      Res P M L H (.cell t T :: rs) (v :: vs)

def tupled : List Value → Value
  | [v] => v
  | vs => .tuple vs.toArray

def resOne (tmps : Array Value) : ResultVar → Sem Value
  | .tmp t => pure (tmps.getD t undef)
  | .cell a t => do loadVar t (← asAddr (tmps.getD a undef))

theorem Res.run {rs : List ResultVar} {vs : List Value} (h : Res P M L H rs vs) (ha : Holds n L a) (hm : Ms M H w) : (rs.mapM (resOne a.tmps)).run P w = .ok vs w := by
  have bind : ∀ {α β : Type} (s : Sem α) (k : α → Sem β) (x : α) (r : Result β), s.run P w = .ok x w → (k x).run P w = r → (s >>= k).run P w = r := fun s k x r h1 h2 => by
    rw [Sem.run_bind, h1]; exact h2
  induction h with
  | nil => simp
  | @tmp t v rs vs hl h ih =>
    rw [List.mapM_cons]
    refine bind _ _ v _ ?_ (bind _ _ vs _ ih rfl)
    simp only [resOne, ha.look _ _ hl]; rfl
  | @cell t ad T v rs vs hl hv h ih =>
    rw [List.mapM_cons]
    refine bind _ _ v _ ?_ (bind _ _ vs _ ih rfl)
    simp only [resOne, ha.look _ _ hl, asAddr]
    exact bind _ _ ad _ rfl (hv w hm)

theorem g_post {fn : Func} {rs : List ResultVar} {vs : List Value} {R : Value → List Assn → Prop} {Ho Hr : List Assn} (hrs : fn.results = rs.toArray) (hv : Res P M L H rs vs) (hR : R (tupled vs) Ho) (hc : Cover H Ho Hr) :
    G M n L H (TP (bodyPost P fn (postOf M R)) .ret) := by
  unfold G TP
  intro a w ha hm
  refine bodyPost_ret (v := tupled vs) ?_ ha.defers ⟨_, Ho, rfl, hR, hm.cover hc⟩
  have hrun := hv.run (n := n) ha hm
  have e : results fn a.tmps = (do let vs ← fn.results.mapM (resOne a.tmps); pure (if h : vs.size = 1 then vs[0] else .tuple vs)) := by
    unfold results; congr 2
  rw [e, hrs, List.mapM_toArray]
  have e2 : ((fun (l : List Value) => l.toArray) <$> rs.mapM (resOne a.tmps)).run P w = .ok vs.toArray w := by
    rw [map_eq_pure_bind, Sem.run_bind, hrun]; rfl
  rw [Sem.run_bind, e2]
  show Result.ok _ _ = _
  congr 1
  match vs with
  | [] => rfl
  | [v] => rfl
  | v :: u :: vs => simp [tupled]
end Go.Z
