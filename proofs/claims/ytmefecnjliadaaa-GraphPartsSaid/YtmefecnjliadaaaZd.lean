/- Own layer, part 4: regions that draw their order. Conditions: none; generic in the program. -/
import Derived.Test.YtmefecnjliadaaaZc
import Derived.Deep.RegionHeld3
namespace Go.Z
set_option maxRecDepth 8000
set_option linter.unusedVariables false
set_option linter.unusedSimpArgs false
set_option linter.unusedSectionVars false
open Go

variable {P : Program} {n : Nat} {L L' : Fr} {H H' Hs Hi Hr : List Assn} {M : Mx} {Q : Exit → Act → World → Prop} {ops : Array Oper}
variable {dd : Option Tmp} {ty t : TypeId} {ps : String} {af : Array Edge} {gd : Option (Nat × Bool)} {x y z : Operand} {v u : Value} {w w' : World}

/-- j waits for i, at one or more removes -/
inductive Desc (ops : Array Oper) : Nat → Nat → Prop
  | one {j : Nat} {oj : Oper} {e : Edge} : ops[j]? = some oj → e ∈ oj.after → Region.binds .any e = true → Desc ops e.on j
  | more {i j : Nat} {oj : Oper} {e : Edge} : ops[j]? = some oj → e ∈ oj.after → Region.binds .any e = true → Desc ops i e.on → Desc ops i j

def Cl (ops : Array Oper) (listed : Array Bool) : Prop := ∀ j oj, listed.getD j false = true → ops[j]? = some oj → ∀ e ∈ oj.after, Region.binds .any e = true → listed.getD e.on false = true

theorem Cl.desc {listed : Array Bool} (h : Cl ops listed) {i j : Nat} (d : Desc ops i j) : listed.getD j false = true → listed.getD i false = true := by
  induction d with
  | one ho he hb => exact fun hj => h _ _ hj ho _ he hb
  | more ho he hb _ ih => exact fun hj => ih (h _ _ hj ho _ he hb)

theorem Cl.ready {listed : Array Bool} (h : Cl ops listed) {i j : Nat} (d : Desc ops i j) (hr : j ∈ Region.ready .any ops listed) : listed.getD i false = true := by
  obtain ⟨_, oj, hoj, hall⟩ := mem_ready.1 hr
  cases d with
  | one ho he hb => rw [ho] at hoj; cases hoj; exact hall _ he hb
  | more ho he hb d' => rw [ho] at hoj; cases hoj; exact h.desc d' (hall _ he hb)

theorem Cl.set {listed : Array Bool} (h : Cl ops listed) {i : Nat} (hr : i ∈ Region.ready .any ops listed) : Cl ops (listed.setIfInBounds i true) := by
  intro j oj hj ho e he hb
  obtain ⟨_, oi, hoi, hall⟩ := mem_ready.1 hr
  refine getD_set_true ?_
  by_cases hij : i = j
  · subst hij; rw [ho] at hoi; cases hoi; exact hall e he hb
  · rw [getD_set_ne false hij] at hj; exact h j oj hj ho e he hb

def descB (bf : Array Nat) (i j : Nat) : Bool := (bf.getD j 0).testBit i
theorem before_spec : ∀ i j, descB (Region.before ops) i j = true → Desc ops i j := by
  have inner : ∀ (acc : Array Nat) (k : Nat) (o : Oper), ops[k]? = some o → (∀ m, m < acc.size → ∀ i, (acc.getD m 0).testBit i = true → Desc ops i m) → ∀ (l : List Edge) (s : Nat), (∀ e ∈ l, e ∈ o.after) → (∀ i, s.testBit i = true → Desc ops i k) →
      ∀ i, (l.foldl (fun s e => if Region.binds .any e then s ||| 2 ^ e.on ||| acc.getD e.on 0 else s) s).testBit i = true → Desc ops i k := by
    intro acc k o ho hacc l
    induction l with
    | nil => exact fun s _ hs i hi => hs i hi
    | cons e l ih =>
      intro s hl hs i hi
      refine ih _ (fun e' he' => hl e' (List.mem_cons_of_mem _ he')) ?_ i hi
      intro i' hi'
      dsimp only at hi'
      split at hi'
      · rename_i hb
        simp only [Nat.testBit_or, Bool.or_eq_true] at hi'
        rcases hi' with (h1 | h1) | h1
        · exact hs i' h1
        · have : e.on = i' := by rw [Nat.testBit_two_pow] at h1; exact of_decide_eq_true h1
          subst this
          exact .one ho (hl e List.mem_cons_self) hb
        · by_cases hlt : e.on < acc.size
          · exact .more ho (hl e List.mem_cons_self) hb (hacc _ hlt i' h1)
          · rw [Array.getD_eq_getD_getElem?, Array.getElem?_eq_none (by omega)] at h1
            simp at h1
      · exact hs i' hi'
  have outer : ∀ (l : List Oper) (acc : Array Nat), (∀ m, l[m]? = ops[acc.size + m]?) → (∀ m, m < acc.size → ∀ i, (acc.getD m 0).testBit i = true → Desc ops i m) →
      ∀ m, m < (l.foldl (fun acc o => acc.push (o.after.foldl (fun s e => if Region.binds .any e then s ||| 2 ^ e.on ||| acc.getD e.on 0 else s) 0)) acc).size → ∀ i, ((l.foldl (fun acc o => acc.push (o.after.foldl (fun s e => if Region.binds .any e then s ||| 2 ^ e.on ||| acc.getD e.on 0 else s) 0)) acc).getD m 0).testBit i = true → Desc ops i m := by
    intro l
    induction l with
    | nil => exact fun acc _ h => h
    | cons o l ih =>
      intro acc hl hacc
      refine ih _ (fun m => ?_) (fun m hm i hi => ?_)
      · have := hl (m + 1)
        simp only [List.getElem?_cons_succ] at this
        rw [this, Array.size_push]; congr 1; omega
      · rw [Array.size_push] at hm
        by_cases e : m = acc.size
        · subst e
          rw [Array.getD_eq_getD_getElem?, Array.getElem?_push_size] at hi
          simp only [Option.getD_some] at hi
          rw [← Array.foldl_toList] at hi
          exact inner acc acc.size o (by have := hl 0; simpa using this.symm) hacc o.after.toList 0 (fun e he => by simpa using he) (by simp) i hi
        · rw [Array.getD_eq_getD_getElem?, Array.getElem?_push_lt (by omega)] at hi
          refine hacc m (by omega) i ?_
          rw [Array.getD_eq_getD_getElem?, Array.getElem?_eq_getElem (by omega)]
          exact hi
  intro i j h
  unfold descB at h
  by_cases hj : j < (Region.before ops).size
  · unfold Region.before at hj h
    rw [← Array.foldl_toList] at hj h
    exact outer ops.toList #[] (by simp) (fun m hm => by simp at hm) j hj i h
  · rw [Array.getD_eq_getD_getElem?, Array.getElem?_eq_none (by omega)] at h
    simp at h

/-- The loads that are still to be kept valid behind operation j (F: the operations that leave the world alone). -/
def upd (bf : Array Nat) (F T : List Nat) (j : Nat) : List Nat := if F.contains j then T else T.filter fun i => !descB bf i j

/-- Whatever order is picked, and S holds as long as a load of T may be outstanding. -/
def wpAnyF (P : Program) (ops : Array Oper) (bf : Array Nat) (F : List Nat) (Q : Exit → Act → World → Prop) (S : World → Prop) : Nat → List Nat → Array Bool → Act → World → Prop
  | 0, _, listed, a, w => Region.ready .any ops listed = [] ∧ Q .normal a w
  | fuel + 1, T, listed, a, w =>
    (Region.ready .any ops listed = [] → Q .normal a w) ∧
    ∀ i ∈ Region.ready .any ops listed, wpOp P ops Q i (fun a' w' => (upd bf F T i ≠ [] → S w') ∧ wpAnyF P ops bf F Q S fuel (upd bf F T i) (listed.setIfInBounds i true) a' w') a w

theorem wpAny_of_F {bf : Array Nat} {F : List Nat} {S : World → Prop} : ∀ (fuel : Nat) (T : List Nat) (listed : Array Bool) (a : Act) (w : World), wpAnyF P ops bf F Q S fuel T listed a w → wpAny P .any ops Q fuel listed a w
  | 0, _, _, _, _, h => h
  | fuel + 1, _, _, _, _, h => ⟨h.1, fun i hi => wpOp_mono (fun a' w' h' => wpAny_of_F fuel _ _ a' w' h'.2) (h.2 i hi)⟩

theorem wpAnyF_first {F : List Nat} {S : World → Prop} {i : Nat} {oi : Oper} {v : Value} {ld : Bool} (hi : ops[i]? = some oi) (hF : F.contains i = true) (hsel : ∀ (j : Nat) (o : Oper) cs b, ops[j]? = some o → o.op ≠ .select cs b)
    (hQ : ∀ c a w, ¬ Q (.panic c) a w) :
    ∀ (fuel : Nat) (T : List Nat) (listed : Array Bool) (a : Act) (w : World), Cl ops listed → (ld = true → i ∈ T) → (T ≠ [] → S w) →
      (∀ j oj, ops[j]? = some oj → j ≠ i → listed.getD j true = false → (∀ e ∈ oj.after, Region.binds .any e = true → e.on ≠ i) → oi.apart ops oj = true) →
      i ∈ Region.ready .any ops listed → YieldsIf P ops (fun w => ld = true → S w) oi v a →
      wpAnyF P ops (Region.before ops) F Q S fuel T (listed.setIfInBounds i true) (a.put oi.dst v) w → wpAnyF P ops (Region.before ops) F Q S (fuel + 1) T listed a w := by
  have hup : ∀ T, upd (Region.before ops) F T i = T := fun T => by unfold upd; rw [if_pos hF]
  intro fuel
  induction fuel with
  | zero =>
    intro T listed a w hcl hT hS _ hr hy H
    refine ⟨fun h => (by rw [h] at hr; cases hr), fun j hj => ?_⟩
    by_cases hji : j = i
    · subst hji; exact hy.wpOp hi (fun h3 => hS fun e => by have := hT h3; rw [e] at this; cases this) ⟨by rw [hup]; exact hS, by rw [hup]; exact H⟩
    · have := ready_mono hj hji
      rw [H.1] at this
      cases this
  | succ fuel ih =>
    intro T listed a w hcl hT hS hfree hr hy H
    refine ⟨fun h => (by rw [h] at hr; cases hr), fun j hj => ?_⟩
    by_cases hji : j = i
    · subst hji; exact hy.wpOp hi (fun h3 => hS fun e => by have := hT h3; rw [e] at this; cases this) ⟨by rw [hup]; exact hS, by rw [hup]; exact H⟩
    · have h1 := H.2 j (ready_mono hj hji)
      obtain ⟨hjun, oj, hoj, hall⟩ := mem_ready.1 hj
      have hnot : ∀ e ∈ oj.after, Region.binds .any e = true → e.on ≠ i := fun e he hb heq => by
        have h1 := hall e he hb
        have h0 := (mem_ready.1 hr).1
        rw [heq] at h1
        rcases Nat.lt_or_ge i listed.size with h' | h'
        · simp [h'] at h0 h1; rw [h0] at h1; cases h1
        · simp [Array.getElem?_eq_none h'] at h1
      have h2 := wpOp_putIf hoj (hfree j oj hoj hji hjun hnot) (fun cs b => hsel i oi cs b hi) (fun cs b => hsel j oj cs b hoj) (fun c a w hh => absurd hh (hQ c _ w)) hy h1
      have hfree' : ∀ k ok, ops[k]? = some ok → k ≠ i → (listed.setIfInBounds j true).getD k true = false →
          (∀ e ∈ ok.after, Region.binds .any e = true → e.on ≠ i) → oi.apart ops ok = true := fun k ok hk hki hun hno => by
        refine hfree k ok hk hki ?_ hno
        by_cases hjk : j = k
        · subst hjk; exact hjun
        · rw [getD_set_ne true hjk] at hun; exact hun
      have hkeep : ld = true → i ∈ upd (Region.before ops) F T j := fun h3 => by
        unfold upd
        split
        · exact hT h3
        · refine List.mem_filter.2 ⟨hT h3, ?_⟩
          cases hd : descB (Region.before ops) i j with
          | false => rfl
          | true =>
            have h4 := hcl.ready (before_spec i j hd) hj
            have h0 := (mem_ready.1 hr).1
            rcases Nat.lt_or_ge i listed.size with h' | h'
            · simp [h'] at h0 h4; rw [h0] at h4; cases h4
            · simp [Array.getElem?_eq_none h'] at h4
      refine wpOp_mono (fun a' w' h3 => ⟨h3.2.1, ih (upd (Region.before ops) F T j) (listed.setIfInBounds j true) a' w' (hcl.set hj) hkeep h3.2.1 hfree' (ready_mono hr (Ne.symm hji)) h3.1 ?_⟩) h2
      rw [Array.setIfInBounds_comm _ _ hji]
      exact h3.2.2

/-- The orders, a tree: fl i k: operation i may come at any time (k = 0: yields its value in every world; 1: in every world that meets S); ef i: operation i with an effect; or: one of several comes up. -/
inductive Tree
  | done
  | fl (i k : Nat) (rest : Tree)
  | ef (i : Nat) (rest : Tree)
  | or (s t : Tree)
def Tree.heads : Tree → List Nat
  | .ef i _ => [i]
  | .or s t => s.heads ++ t.heads
  | _ => []
def Tree.depth : Tree → Nat
  | .done => 0
  | .fl _ _ r => r.depth + 1
  | .ef _ r => r.depth + 1
  | .or s t => max s.depth t.depth
def Tree.kinds : Tree → List (Nat × Nat)
  | .done => []
  | .fl i k r => (i, k) :: r.kinds
  | .ef _ r => r.kinds
  | .or s t => s.kinds ++ t.kinds
def wpMix (P : Program) (ops : Array Oper) (bf : Array Nat) (F : List Nat) (Q : Exit → Act → World → Prop) (S : World → Prop) : Tree → List Nat → Act → World → Prop
  | .done, _, a, w => Q .normal a w
  | .fl i 0 rest, T, a, w => ∃ o v, ops[i]? = some o ∧ YieldsIf P ops (fun _ => True) o v a ∧ wpMix P ops bf F Q S rest T (a.put o.dst v) w
  | .fl i (_ + 1) rest, T, a, w => ∃ o v, ops[i]? = some o ∧ YieldsIf P ops S o v a ∧ wpMix P ops bf F Q S rest T (a.put o.dst v) w
  | .ef i rest, T, a, w => wpOp P ops Q i (fun a' w' => (upd bf F T i ≠ [] → S w') ∧ wpMix P ops bf F Q S rest (upd bf F T i) a' w') a w
  | .or s t, T, a, w => wpMix P ops bf F Q S s T a w ∧ wpMix P ops bf F Q S t T a w

def chk (ops : Array Oper) (bf : Array Nat) (F : List Nat) : Tree → List Nat → Array Bool → Bool → Bool
  | .done, _, listed, _ => (Region.ready .any ops listed).isEmpty
  | .fl i 0 rest, T, listed, _ => (Region.ready .any ops listed).contains i && Region.free .any ops listed i && F.contains i && chk ops bf F rest T (listed.setIfInBounds i true) true
  | .fl i (_ + 1) rest, T, listed, _ => (Region.ready .any ops listed).contains i && Region.free .any ops listed i && F.contains i && T.contains i && chk ops bf F rest T (listed.setIfInBounds i true) true
  | .ef i rest, T, listed, top => (!top || (Region.ready .any ops listed).all fun j => j == i) && ((Region.ready .any ops listed).contains i && chk ops bf F rest (upd bf F T i) (listed.setIfInBounds i true) true)
  | .or s t, T, listed, top => (!top || (Region.ready .any ops listed).all fun j => (s.heads ++ t.heads).contains j) && (!(Region.ready .any ops listed).isEmpty && (chk ops bf F s T listed false && chk ops bf F t T listed false))

def floatsOf (ord : Tree) : List Nat := (ord.kinds.filter fun p => Nat.ble p.2 1).map (·.1)
def loadsOf (ord : Tree) : List Nat := (ord.kinds.filter fun p => p.2 == 1).map (·.1)
def chkAll (ops : Array Oper) (ord : Tree) : Bool := Region.noSelect ops && Nat.ble ord.depth ops.size && chk ops (Region.before ops) (floatsOf ord) ord (loadsOf ord) (Array.replicate ops.size false) true

theorem mix_sound {S : World → Prop} {F : List Nat} (hs : Region.noSelect ops = true) (hQ : ∀ c a w, ¬ Q (.panic c) a w) : ∀ (ord : Tree) (fuel : Nat) (T : List Nat) (listed : Array Bool) (a : Act) (w : World), ord.depth ≤ fuel → Cl ops listed → (T ≠ [] → S w) → wpMix P ops (Region.before ops) F Q S ord T a w →
    (chk ops (Region.before ops) F ord T listed true = true → wpAnyF P ops (Region.before ops) F Q S fuel T listed a w) ∧
    (∀ top fuel', fuel = fuel' + 1 → chk ops (Region.before ops) F ord T listed top = true → ∀ i ∈ Region.ready .any ops listed, i ∈ ord.heads → wpOp P ops Q i (fun a' w' => (upd (Region.before ops) F T i ≠ [] → S w') ∧ wpAnyF P ops (Region.before ops) F Q S fuel' (upd (Region.before ops) F T i) (listed.setIfInBounds i true) a' w') a w) := by
  intro ord
  induction ord with
  | done =>
    intro fuel T listed a w _ hcl hS h
    refine ⟨fun hc => ?_, fun top fuel' _ _ i _ hi => by cases hi⟩
    have hc : Region.ready .any ops listed = [] := by simpa [chk] using hc
    cases fuel with
    | zero => exact ⟨hc, h⟩
    | succ fuel => exact ⟨fun _ => h, fun i hi => by rw [hc] at hi; cases hi⟩
  | fl i k rest ih =>
    intro fuel T listed a w hd hcl hS h
    refine ⟨fun hc => ?_, fun top fuel' _ _ i _ hi => by cases hi⟩
    simp only [Tree.depth] at hd
    obtain ⟨fuel, rfl⟩ : ∃ f, fuel = f + 1 := ⟨fuel - 1, by omega⟩
    cases k with
    | zero =>
      obtain ⟨o, v, ho, hy, h⟩ := h
      simp only [chk, Bool.and_eq_true] at hc
      have hr : i ∈ Region.ready .any ops listed := by simpa using hc.1.1.1
      exact wpAnyF_first (ld := false) ho hc.1.2 (Region.noSelect_spec hs) hQ _ T listed a w hcl (fun h => by cases h) hS (Region.free_spec ho hc.1.1.2) hr (hy.imp (fun ⟨h1, h2⟩ => ⟨h1, fun w _ => h2 w trivial⟩) id) ((ih fuel T _ _ _ (by omega) (hcl.set hr) hS h).1 hc.2)
    | succ k =>
      obtain ⟨o, v, ho, hy, h⟩ := h
      simp only [chk, Bool.and_eq_true] at hc
      have hr : i ∈ Region.ready .any ops listed := by simpa using hc.1.1.1.1
      exact wpAnyF_first (ld := true) ho hc.1.1.2 (Region.noSelect_spec hs) hQ _ T listed a w hcl (fun _ => by simpa using hc.1.2) hS (Region.free_spec ho hc.1.1.1.2) hr (hy.imp (fun ⟨h1, h2⟩ => ⟨h1, fun w hw => h2 w (hw rfl)⟩) id) ((ih fuel T _ _ _ (by omega) (hcl.set hr) hS h).1 hc.2)
  | ef i rest ih =>
    intro fuel T listed a w hd hcl hS h
    simp only [Tree.depth] at hd
    have key : ∀ fuel', fuel = fuel' + 1 → ∀ top, chk ops (Region.before ops) F (.ef i rest) T listed top = true → ∀ j ∈ Region.ready .any ops listed, j = i → wpOp P ops Q j (fun a' w' => (upd (Region.before ops) F T j ≠ [] → S w') ∧ wpAnyF P ops (Region.before ops) F Q S fuel' (upd (Region.before ops) F T j) (listed.setIfInBounds j true) a' w') a w := by
      rintro fuel' rfl top hc j hj rfl
      simp only [chk, Bool.and_eq_true] at hc
      exact wpOp_mono (fun a' w' h' => ⟨h'.1, (ih fuel' _ _ _ _ (by omega) (hcl.set hj) h'.1 h'.2).1 hc.2.2⟩) h
    refine ⟨fun hc => ?_, fun top fuel' hf hc j hj hi => key fuel' hf top hc j hj (by simpa [Tree.heads] using hi)⟩
    obtain ⟨fuel, rfl⟩ : ∃ f, fuel = f + 1 := ⟨fuel - 1, by omega⟩
    have hc' := hc
    simp only [chk, Bool.and_eq_true, Bool.not_true, Bool.false_or] at hc'
    have hr : i ∈ Region.ready .any ops listed := by simpa using hc'.2.1
    refine ⟨fun h0 => (by rw [h0] at hr; cases hr), fun j hj => key fuel rfl true hc j hj ?_⟩
    have := List.all_eq_true.1 hc'.1 j hj
    simpa using this
  | or s t ih1 ih2 =>
    intro fuel T listed a w hd hcl hS h
    simp only [Tree.depth] at hd
    have key : ∀ top fuel', fuel = fuel' + 1 → chk ops (Region.before ops) F (.or s t) T listed top = true → ∀ i ∈ Region.ready .any ops listed, i ∈ (Tree.or s t).heads → wpOp P ops Q i (fun a' w' => (upd (Region.before ops) F T i ≠ [] → S w') ∧ wpAnyF P ops (Region.before ops) F Q S fuel' (upd (Region.before ops) F T i) (listed.setIfInBounds i true) a' w') a w := by
      intro top fuel' hf hc i hi hh
      simp only [chk, Bool.and_eq_true] at hc
      simp only [Tree.heads, List.mem_append] at hh
      rcases hh with hh | hh
      · exact (ih1 fuel T listed a w (by omega) hcl hS h.1).2 false fuel' hf hc.2.2.1 i hi hh
      · exact (ih2 fuel T listed a w (by omega) hcl hS h.2).2 false fuel' hf hc.2.2.2 i hi hh
    refine ⟨fun hc => ?_, key⟩
    have hc' := hc
    simp only [chk, Bool.and_eq_true, Bool.not_true, Bool.false_or] at hc'
    have hne : Region.ready .any ops listed ≠ [] := by simpa using hc'.2.1
    have hall := List.all_eq_true.1 hc'.1
    have hmem : ∀ j ∈ Region.ready .any ops listed, j ∈ s.heads ++ t.heads := fun j hj => by simpa using hall j hj
    cases fuel with
    | zero =>
      exfalso
      have : ∀ u : Tree, u.depth = 0 → u.heads = [] := by
        intro u
        induction u with
        | done => intro _; rfl
        | fl => intro h; simp [Tree.depth] at h
        | ef => intro h; simp [Tree.depth] at h
        | or a b iha ihb => intro h; simp only [Tree.depth] at h; simp only [Tree.heads]; rw [iha (by omega), ihb (by omega)]; rfl
      obtain ⟨j, hj⟩ := List.exists_mem_of_ne_nil _ hne
      have := hmem j hj
      rw [‹∀ u : Tree, u.depth = 0 → u.heads = []› s (by omega), ‹∀ u : Tree, u.depth = 0 → u.heads = []› t (by omega)] at this
      cases this
    | succ fuel =>
      exact ⟨fun h0 => absurd h0 hne, fun j hj => key true fuel rfl hc j hj (by simp only [Tree.heads]; exact hmem j hj)⟩

@[irreducible] def TM (P : Program) (ops : Array Oper) (bf : Array Nat) (F : List Nat) (M : Mx) (Hs : List Assn) (ord : Tree) (T : List Nat) (Q : Exit → Act → World → Prop) : Act → World → Prop := fun a w => wpMix P ops bf F (NoPanic Q) (Ms M Hs) ord T a w

theorem m_begin {id : Nat} {l : List Oper} (ord : Tree) (Hs : List Assn) (hm : P.follows .mixedOrders = true) (hB : chkAll l.toArray ord = true) (hHs : Cover H Hs Hr) (h : G M n L H (TM P l.toArray (Region.before l.toArray) (floatsOf ord) M Hs ord (loadsOf ord) Q)) : G M n L H (TC P (.region id l.toArray true) Q) := by
  unfold G TC TM at *
  intro a w ha hw
  simp only [chkAll, Bool.and_eq_true] at hB
  refine wp_region_noPanic (wp_region_any hm (wpAny_of_F (bf := Region.before l.toArray) (F := floatsOf ord) (S := Ms M Hs) _ (loadsOf ord) _ _ _ ?_))
  exact (mix_sound (P := P) (Q := NoPanic Q) (S := Ms M Hs) hB.1.1 (fun c a w hh => hh) ord l.toArray.size (loadsOf ord) (Array.replicate l.toArray.size false) a { w with drawn := w.drawn + 1 } (Nat.le_of_ble_eq_true hB.1.2) (fun j oj hj => by simp [Array.getElem?_replicate] at hj; split at hj <;> simp at hj) (fun _ => (hw.cover hHs).drawn _) (h a _ ha (hw.drawn _))).1 hB.2

theorem m_begin0 {id : Nat} {l : List Oper} (ord : Tree) (hm : P.follows .mixedOrders = true) (hB : chkAll l.toArray ord = true) (h : G M n L H (TM P l.toArray (Region.before l.toArray) (floatsOf ord) M H ord (loadsOf ord) Q)) : G M n L H (TC P (.region id l.toArray true) Q) := by
  unfold G TC TM at *
  intro a w ha hw
  simp only [chkAll, Bool.and_eq_true] at hB
  refine wp_region_noPanic (wp_region_any hm (wpAny_of_F (bf := Region.before l.toArray) (F := floatsOf ord) (S := Ms M H) _ (loadsOf ord) _ _ _ ?_))
  exact (mix_sound (P := P) (Q := NoPanic Q) (S := Ms M H) hB.1.1 (fun c a w hh => hh) ord l.toArray.size (loadsOf ord) (Array.replicate l.toArray.size false) a { w with drawn := w.drawn + 1 } (Nat.le_of_ble_eq_true hB.1.2) (fun j oj hj => by simp [Array.getElem?_replicate] at hj; split at hj <;> simp at hj) (fun _ => hw.drawn _) (h a _ ha (hw.drawn _))).1 hB.2

variable {bf : Array Nat} {F T : List Nat}
theorem m_nil (h : G M n L H (TP Q .normal)) : G M n L H (TM P ops bf F M Hs .done T Q) := by
  unfold G TM TP at *; exact h

variable {i : Nat} {rest : Tree}
theorem m_float0 {d : Nat} {op : Op} (ho : ops[i]? = some ⟨some d, op, ty, ps, af, none⟩) (hp : PurA P n L ⟨some d, op, ty, ps, af, none⟩ v) (hn : Nat.blt d n = true) (k : G M n ((d, v) :: L) H (TM P ops bf F M Hs rest T Q)) :
    G M n L H (TM P ops bf F M Hs (.fl i 0 rest) T Q) := by
  unfold G TM at *
  intro a w ha hm
  exact ⟨_, v, ho, .inl ⟨by simp [Region.wanted], fun w _ => PurA.run hp a w ha⟩, k _ _ (ha.put (by simpa using hn) v) hm⟩

theorem m_yes0 {d j dj : Nat} {b : Bool} {op : Op} (ho : ops[i]? = some ⟨some d, op, ty, ps, af, some (j, b)⟩) (hd : (ops[j]?).bind (·.dst) = some dj) (hl : L.lookup dj = some (.bool b)) (hp : PurA P n L ⟨some d, op, ty, ps, af, some (j, b)⟩ v) (hn : Nat.blt d n = true) (k : G M n ((d, v) :: L) H (TM P ops bf F M Hs rest T Q)) :
    G M n L H (TM P ops bf F M Hs (.fl i 0 rest) T Q) := by
  unfold G TM at *
  intro a w ha hm
  exact ⟨_, v, ho, .inl ⟨by simp [Region.wanted, yielded_of hd ha hl], fun w _ => PurA.run hp a w ha⟩, k _ _ (ha.put (by simpa using hn) v) hm⟩

theorem m_no0 {d j dj : Nat} {b c : Bool} {op : Op} (ho : ops[i]? = some ⟨some d, op, ty, ps, af, some (j, b)⟩) (hd : (ops[j]?).bind (·.dst) = some dj) (hl : L.lookup dj = some (.bool c)) (hb : (c == b) = false) (hn : Nat.blt d n = true) (k : G M n ((d, undef) :: L) H (TM P ops bf F M Hs rest T Q)) :
    G M n L H (TM P ops bf F M Hs (.fl i 0 rest) T Q) := by
  unfold G TM at *
  intro a w ha hm
  exact ⟨_, undef, ho, .inr ⟨by simp [Region.wanted, yielded_of hd ha hl]; simpa using hb, rfl⟩, k _ _ (ha.put (by simpa using hn) _) hm⟩

theorem m_float {d : Nat} {op : Op} (ho : ops[i]? = some ⟨some d, op, ty, ps, af, none⟩) (hp : Pur P M n L Hs ⟨some d, op, ty, ps, af, none⟩ v) (hn : Nat.blt d n = true) (k : G M n ((d, v) :: L) H (TM P ops bf F M Hs rest T Q)) :
    G M n L H (TM P ops bf F M Hs (.fl i 1 rest) T Q) := by
  unfold G TM at *
  intro a w ha hm
  exact ⟨_, v, ho, .inl ⟨by simp [Region.wanted], fun w hw => hp a w ha hw⟩, k _ _ (ha.put (by simpa using hn) v) hm⟩

theorem m_yes {d j dj : Nat} {b : Bool} {op : Op} (ho : ops[i]? = some ⟨some d, op, ty, ps, af, some (j, b)⟩) (hd : (ops[j]?).bind (·.dst) = some dj) (hl : L.lookup dj = some (.bool b)) (hp : Pur P M n L Hs ⟨some d, op, ty, ps, af, some (j, b)⟩ v) (hn : Nat.blt d n = true) (k : G M n ((d, v) :: L) H (TM P ops bf F M Hs rest T Q)) :
    G M n L H (TM P ops bf F M Hs (.fl i 1 rest) T Q) := by
  unfold G TM at *
  intro a w ha hm
  exact ⟨_, v, ho, .inl ⟨by simp [Region.wanted, yielded_of hd ha hl], fun w hw => hp a w ha hw⟩, k _ _ (ha.put (by simpa using hn) v) hm⟩

theorem m_no {d j dj : Nat} {b c : Bool} {op : Op} (ho : ops[i]? = some ⟨some d, op, ty, ps, af, some (j, b)⟩) (hd : (ops[j]?).bind (·.dst) = some dj) (hl : L.lookup dj = some (.bool c)) (hb : (c == b) = false) (hn : Nat.blt d n = true) (k : G M n ((d, undef) :: L) H (TM P ops bf F M Hs rest T Q)) :
    G M n L H (TM P ops bf F M Hs (.fl i 1 rest) T Q) := by
  unfold G TM at *
  intro a w ha hm
  exact ⟨_, undef, ho, .inr ⟨by simp [Region.wanted, yielded_of hd ha hl]; simpa using hb, rfl⟩, k _ _ (ha.put (by simpa using hn) _) hm⟩

/-- Behind operation i: what the loads to come need is there, or there are none. -/
def Kept (bf : Array Nat) (F T : List Nat) (i : Nat) (H Hs : List Assn) : Prop := upd bf F T i ≠ [] → ∃ Hr, Cover H Hs Hr
theorem Kept.ms (h : Kept bf F T i H Hs) (hm : Ms M H w) : upd bf F T i ≠ [] → Ms M Hs w := fun e => let ⟨_, c⟩ := h e; hm.cover c
theorem Kept.none (h : upd bf F T i = []) : Kept bf F T i H Hs := fun e => absurd h e
theorem Kept.some (h : Cover H Hs Hr) : Kept bf F T i H Hs := fun _ => ⟨_, h⟩

/-- an operation with effect that is not carried out (its guard) -/
theorem m_noe {d j dj : Nat} {b c : Bool} {op : Op} (ho : ops[i]? = some ⟨some d, op, ty, ps, af, some (j, b)⟩) (hd : (ops[j]?).bind (·.dst) = some dj) (hl : L.lookup dj = some (.bool c)) (hb : (c == b) = false) (hn : Nat.blt d n = true) (hc : Kept bf F T i H Hs) (k : G M n ((d, undef) :: L) H (TM P ops bf F M Hs rest (upd bf F T i) Q)) :
    G M n L H (TM P ops bf F M Hs (.ef i rest) T Q) := by
  unfold G TM at *
  intro a w ha hm
  have hw : Region.wanted ⟨some d, op, ty, ps, af, some (j, b)⟩ (yielded ops a.tmps) = false := by simp [Region.wanted, yielded_of hd ha hl]; simpa using hb
  simp only [wpMix, wpOp, ho]
  rw [if_neg (by rw [hw]; simp)]
  exact ⟨hc.ms hm, k _ _ (ha.put (by simpa using hn) _) hm⟩

theorem m_split {dj : Nat} {c : Bool} {tr : Tree} (j : Nat) (hd : (ops[j]?).bind (·.dst) = some dj) (hl : L.lookup dj = some (.bool c))
    (k1 : c = true → G M n ((dj, .bool true) :: L) H (TM P ops bf F M Hs tr T Q)) (k2 : c = false → G M n ((dj, .bool false) :: L) H (TM P ops bf F M Hs tr T Q)) : G M n L H (TM P ops bf F M Hs tr T Q) := by
  have key : ∀ b', c = b' → ∀ a, Holds n L a → Holds n ((dj, .bool b') :: L) a := fun b' e a ha => ⟨ha.size, ha.defers, fun t v h => by
    simp only [List.lookup_cons] at h
    by_cases e1 : t = dj
    · subst e1; simp at h; subst h; subst e; exact ha.look _ _ hl
    · have : (t == dj) = false := by simpa using e1
      simp only [this] at h; exact ha.look _ _ h⟩
  intro a w ha hm
  cases hc : c with
  | true => exact k1 hc a w (key true hc a ha) hm
  | false => exact k2 hc a w (key false hc a ha) hm

theorem m_eff {d : Nat} {op : Op} {post : Value → List Assn → Prop} (ho : ops[i]? = some ⟨some d, op, ty, ps, af, none⟩) (hp : Eff P M n L H ⟨some d, op, ty, ps, af, none⟩ post) (hn : Nat.blt d n = true)
    (k : ∀ v H', post v H' → Kept bf F T i H' Hs ∧ G M n ((d, v) :: L) H' (TM P ops bf F M Hs rest (upd bf F T i) Q)) : G M n L H (TM P ops bf F M Hs (.ef i rest) T Q) := by
  unfold G TM at *
  intro a w ha hm
  simp only [wpMix, wpOp, ho]
  rw [if_pos (by simp [Region.wanted])]
  refine .inl (hp a w ha hm _ _ fun v H' w' hpost hm' => ?_)
  obtain ⟨hc, hk⟩ := k v H' hpost
  exact ⟨hc.ms hm', hk _ _ (ha.put (by simpa using hn) v) hm'⟩

theorem m_eff0 {op : Op} {post : Value → List Assn → Prop} (ho : ops[i]? = some ⟨none, op, ty, ps, af, none⟩) (hp : Eff P M n L H ⟨none, op, ty, ps, af, none⟩ post)
    (k : ∀ v H', post v H' → Kept bf F T i H' Hs ∧ G M n L H' (TM P ops bf F M Hs rest (upd bf F T i) Q)) : G M n L H (TM P ops bf F M Hs (.ef i rest) T Q) := by
  unfold G TM at *
  intro a w ha hm
  simp only [wpMix, wpOp, ho]
  rw [if_pos (by simp [Region.wanted])]
  refine .inl (hp a w ha hm _ _ fun v H' w' hpost hm' => ?_)
  obtain ⟨hc, hk⟩ := k v H' hpost
  exact ⟨hc.ms hm', hk _ _ ha hm'⟩

theorem m_call {fv : Operand} {d f : Nat} {args : Array Operand} {first cap : Array Value} {tys : Array TypeId} {vs : List Value} {Hin : List Assn} {R : Value → List Assn → Prop} {gd : Option (Nat × Bool)}
    (ho : ops[i]? = some ⟨some d, .call ⟨.value fv, args, tys⟩, ty, ps, af, gd⟩) (hg : ∀ a, Holds n L a → Region.wanted ⟨some d, .call ⟨.value fv, args, tys⟩, ty, ps, af, gd⟩ (yielded ops a.tmps) = true)
    (hf : ev L fv = some (.func (.func f) first cap)) (hargs : evL L args.toList = some vs) (hn : Nat.blt d n = true) (hin : Cover H Hin Hr)
    (hc : ∀ ρ', (∀ b o, M.ρ b o → ρ' b o) → Ros ρ' Hr → Con P ρ' f (first ++ vs.toArray ++ cap) Hin R)
    (k : ∀ v Ho, R v Ho → Kept bf F T i (Ho ++ Hr) Hs ∧ G M n ((d, v) :: L) (Ho ++ Hr) (TM P ops bf F M Hs rest (upd bf F T i) Q)) : G M n L H (TM P ops bf F M Hs (.ef i rest) T Q) := by
  unfold G TM at *
  intro a w ha hm
  simp only [wpMix, wpOp, ho]
  rw [if_pos (hg a ha)]
  refine .inl ?_
  have e1 : args.map a.eval = vs.toArray := by apply Array.ext'; simpa using evs ha _ _ (by rw [← evL_eq]; exact hargs)
  obtain ⟨hi, hr, s1, s2, s3, s4, s5, s6⟩ := hm.split hin
  have hcon := hc (fun b o => M.ρ b o ∨ hr b = some o) (fun b o e => .inl e) (ros_of_sat s3 fun b o e => .inr e)
  have hcall := hcon.2 w hi s1 s2 s5
  unfold Oper.wp
  have e2 : (execOp a.eval ⟨some d, .call ⟨.value fv, args, tys⟩, ty, ps, af, gd⟩).run P w = .ok (.enter f (first ++ vs.toArray ++ cap)) w := by
    simp only [execOp, resolve, ha.ev hf, Deferred.ofValue, e1, Sem.run_bind, Sem.run_pure, Result.andThen_ok, invoke, hcon.1]
  rw [e2, Oper.upon_enter]
  refine hcall.mono fun e w' ⟨v, Ho, he, hR, hm'⟩ => ?_
  subst he
  have hm2 := s6 Ho w' hm'
  obtain ⟨hc', hk⟩ := k v Ho hR
  exact ⟨hc'.ms hm2, hk _ _ (ha.put (by simpa using hn) v) hm2⟩

theorem m_or {s t : Tree} (h1 : G M n L H (TM P ops bf F M Hs s T Q)) (h2 : G M n L H (TM P ops bf F M Hs t T Q)) : G M n L H (TM P ops bf F M Hs (.or s t) T Q) := by
  unfold G TM at *
  exact fun a w ha hm => ⟨h1 a w ha hm, h2 a w ha hm⟩

theorem wantedN {fv : Operand} {d : Nat} {args : Array Operand} {tys : Array TypeId} : ∀ a, Holds n L a → Region.wanted ⟨some d, .call ⟨.value fv, args, tys⟩, ty, ps, af, none⟩ (yielded ops a.tmps) = true := fun a _ => by simp [Region.wanted]
theorem wantedY {fv : Operand} {d j dj : Nat} {b : Bool} {args : Array Operand} {tys : Array TypeId} (hd : (ops[j]?).bind (·.dst) = some dj) (hl : L.lookup dj = some (.bool b)) :
    ∀ a, Holds n L a → Region.wanted ⟨some d, .call ⟨.value fv, args, tys⟩, ty, ps, af, some (j, b)⟩ (yielded ops a.tmps) = true := fun a ha => by simp [Region.wanted, yielded_of hd ha hl]
theorem m_splitd {dj : Nat} {p : Prop} [Decidable p] {tr : Tree} (j : Nat) (hd : (ops[j]?).bind (·.dst) = some dj) (hl : L.lookup dj = some (.bool (decide p)))
    (k1 : p → G M n ((dj, .bool true) :: L) H (TM P ops bf F M Hs tr T Q)) (k2 : ¬ p → G M n ((dj, .bool false) :: L) H (TM P ops bf F M Hs tr T Q)) : G M n L H (TM P ops bf F M Hs tr T Q) :=
  m_split j hd hl (fun h => k1 (of_decide_eq_true h)) (fun h => k2 (of_decide_eq_false h))
theorem m_splitnd {dj : Nat} {p : Prop} [Decidable p] {tr : Tree} (j : Nat) (hd : (ops[j]?).bind (·.dst) = some dj) (hl : L.lookup dj = some (.bool (!decide p)))
    (k1 : ¬ p → G M n ((dj, .bool true) :: L) H (TM P ops bf F M Hs tr T Q)) (k2 : p → G M n ((dj, .bool false) :: L) H (TM P ops bf F M Hs tr T Q)) : G M n L H (TM P ops bf F M Hs tr T Q) :=
  m_split j hd hl (fun h => k1 (by simpa using h)) (fun h => k2 (by simpa using h))
end Go.Z
