/- Own texts, put together: B0 B1 B2 B3 B4 B5. Conditions: as told at each. -/
import Derived.Test.YtopgbgnmjogeeaaGreatDoorMCmA0
/- Chapter 35, the document's side: values. Conditions: none. -/
namespace Go.Proofs.YtopgbgnmjogeeaaGreatDoor
set_option maxRecDepth 8000
set_option linter.unusedVariables false
set_option linter.unusedSimpArgs false
set_option linter.unusedSectionVars false
open Go Go.Z Go.Z.Aig

def rv (L : List Bool) : List Bool := L.flatMap fun x => [x, !x]
theorem rv_len (L : List Bool) : (rv L).length = 2 * L.length := by
  unfold rv
  induction L with
  | nil => rfl
  | cons x L ih => simp only [List.flatMap_cons, List.length_append, ih, List.length_cons, List.length_nil]; omega
theorem rv_get : ∀ (L : List Bool) (a : Int), 0 ≤ a → a < 2 * L.length → (rv L)[a.toNat]? = some (litv L a)
  | [], a, h0, h1 => by simp at h1; omega
  | x :: L, a, h0, h1 => by
    have e : rv (x :: L) = x :: (!x) :: rv L := rfl
    rw [e]
    rcases Int.lt_or_le a 2 with h2 | h2
    · rcases Int.lt_or_le a 1 with h3 | h3
      · have : a = 0 := by omega
        subst this; simp [litv]
      · have : a = 1 := by omega
        subst this; simp [litv]
    · have ih := rv_get L (a - 2) (by omega) (by simp at h1; omega)
      have e1 : a.toNat = (a - 2).toNat + 2 := by omega
      rw [e1, List.getElem?_cons_succ, List.getElem?_cons_succ, ih]
      unfold litv
      have e2 : (a / 2).toNat = ((a - 2) / 2).toNat + 1 := by omega
      have e3 : (a - 2) % 2 = a % 2 := by omega
      rw [e2, e3]; rfl
theorem rv_snoc (L : List Bool) (x : Bool) : rv (L ++ [x]) = rv L ++ [x, !x] := by simp [rv]
theorem litv_take {V : List Bool} {k : Nat} {a : Int} (h0 : 0 ≤ a) (h : a < 2 * k) (hk : k ≤ V.length) : litv (V.take k) a = litv V a := by
  conv => rhs; rw [← List.take_append_drop k V]
  exact (litv_pre (by rw [List.length_take]; omega)).symm
theorem rank_succ {S : St} {k : Nat} (hk : k < S.length) : rank S (k + 1) = rank S k + if S[k].2.2 then 1 else 0 := by
  unfold rank; rw [ins_snoc hk, List.length_append]; split <;> rfl
theorem rank_lt {S : St} {k : Nat} {a b : Int} (h : S[k]? = some (a, b, true)) : rank S k < (ins 0 S).length :=
  (List.getElem?_eq_some_iff.1 (ins_at S 0 k a b h)).1
theorem flat2 {cs xs : List Value} {o i : Nat} {v : Value} (h : ∀ j v, xs[j]? = some v → cs[o + j]? = some v) (hv : xs[i]? = some v) {j : Nat} (hj : j = o + i * 1) : cs[j]? = some v := by
  subst hj; rw [Nat.mul_one]; exact h i v hv

end Go.Proofs.YtopgbgnmjogeeaaGreatDoor
/- Chapter 35: a call of both graphs. Conditions: none. -/
namespace Go.Proofs.YtopgbgnmjogeeaaGreatDoor
set_option maxRecDepth 8000
set_option linter.unusedVariables false
set_option linter.unusedSimpArgs false
set_option linter.unusedSectionVars false
open Go Go.Z Go.Z.Aig

structure Call where
  kind : Int
  c : Int
  a : Int
  b : Int
def encC (x : Call) : List Value := [.int .u8 x.kind, .int .i64 x.c, .int .i64 x.a, .int .i64 x.b]
def Call.ok (x : Call) : Prop := (0 ≤ x.kind ∧ x.kind ≤ 255) ∧ I64 x.c ∧ I64 x.a ∧ I64 x.b
def call1 (S : St) (x : Call) : Int × Int × St :=
  if x.kind % 5 = 0 then input1 S else if x.kind % 5 = 1 then and1 S x.a x.b else if x.kind % 5 = 2 then or1 S x.a x.b else if x.kind % 5 = 3 then xor1 S x.a x.b else mux1 S x.c x.a x.b
def callS (S : St) (x : Call) : St := (call1 S x).2.2

end Go.Proofs.YtopgbgnmjogeeaaGreatDoor
/- Chapter 35: any calls of both graphs. Conditions: none. -/
namespace Go.Proofs.YtopgbgnmjogeeaaGreatDoor
set_option maxRecDepth 8000
set_option linter.unusedVariables false
set_option linter.unusedSimpArgs false
set_option linter.unusedSectionVars false
open Go Go.Z Go.Z.Aig

theorem encC_len (x : Call) : (encC x).length = 4 := rfl
def after (l : List Call) : St := l.foldl callS L0
theorem after_snoc (l : List Call) (k : Nat) (hk : k < l.length) : after (l.take (k + 1)) = callS (after (l.take k)) l[k] := by
  unfold after; rw [List.take_add_one, List.getElem?_eq_getElem hk, Option.toList_some, List.foldl_append]; rfl

end Go.Proofs.YtopgbgnmjogeeaaGreatDoor
/- Chapter 35: the law of values. Conditions: none. -/
namespace Go.Proofs.YtopgbgnmjogeeaaGreatDoor
set_option maxRecDepth 8000
set_option linter.unusedVariables false
set_option linter.unusedSimpArgs false
set_option linter.unusedSectionVars false
open Go Go.Z Go.Z.Aig

end Go.Proofs.YtopgbgnmjogeeaaGreatDoor
/- Chapter 35: what the arguments of its laws read as. Conditions: none. -/
namespace Go.Proofs.YtopgbgnmjogeeaaGreatDoor
set_option maxRecDepth 8000
set_option linter.unusedVariables false
set_option linter.unusedSimpArgs false
set_option linter.unusedSectionVars false
open Go Go.Z Go.Z.Aig

variable {H : Type} {enc : TypeId × Value → H} {W : World} {cs : List Value}

theorem four {c : List Value} (h : c.length = 4) : ∃ a b d e, c = [a, b, d, e] := by
  match c, h with
  | [a, b, d, e], _ => exact ⟨a, b, d, e, rfl⟩

end Go.Proofs.YtopgbgnmjogeeaaGreatDoor
/- Chapter 35: the meaning of the operations, plain. Conditions: none. -/
namespace Go.Z.Aig
set_option maxRecDepth 8000
set_option linter.unusedVariables false
set_option linter.unusedSimpArgs false
set_option linter.unusedSectionVars false
open Go Go.Z Go.Proofs.YtopgbgnmjogeeaaGreatDoor

theorem and0_wf {S : St} (hw : WF S) {a b : Int} (ha : has S a) (hb : has S b) : WF (and0 S a b).2.2 := by
  have hp : 0 ≤ a ∧ 0 ≤ b ∧ a < 2 * S.length ∧ b < 2 * S.length := ⟨ha.1, hb.1, ha.2, hb.2⟩
  unfold and0
  split
  · exact hw
  · rename_i h1
    split
    · exact hw
    · rename_i h2
      split
      · exact hw
      · rename_i hf
        unfold add
        split
        · exact hw
        · rename_i hl
          have n1 : ¬ min a b = 0 := fun e => h1 (.inl e)
          have n2 : ¬ min a b = 1 := fun e => h2 (.inl e)
          have n3 : ¬ min a b = max a b := fun e => h2 (.inr e)
          exact hw.gate' (by omega) (by omega) (by omega) (by omega) hf

theorem vals_ext {S T : St} (hS : WF S) (h : Ext S T) (inp : List Bool) : ∃ t, vals T inp = vals S inp ++ t := by
  obtain ⟨R, rfl, _⟩ := h
  have hd : (S ++ R).drop 1 = S.drop 1 ++ R := by
    have := hS.pos
    cases S with
    | nil => simp at this
    | cons g l => rfl
  obtain ⟨t, ht, _⟩ := foldV_pre R (valsF (S.drop 1) inp)
  refine ⟨t, ?_⟩
  unfold vals
  rw [hd, ← ht]
  simp [valsF]

theorem litv_ext {S T : St} (hS : WF S) (h : Ext S T) (inp : List Bool) {a : Int} (ha : has S a) : litv (vals T inp) a = litv (vals S inp) a := by
  obtain ⟨t, ht⟩ := vals_ext hS h inp
  rw [ht]
  exact litv_pre (by rw [vals_len hS]; have := ha.1; have := ha.2; omega)

theorem litv_nt (V : List Bool) {a : Int} (h : 0 ≤ a) : litv V (nt a) = !litv V a := by
  unfold litv nt
  split
  · rename_i h1
    have e1 : (a + 1) / 2 = a / 2 := by omega
    have e2 : (a + 1) % 2 = 1 := by omega
    rw [e1, e2, h1]
    cases V.getD (a / 2).toNat false <;> rfl
  · rename_i h1
    have e1 : (a - 1) / 2 = a / 2 := by omega
    have e2 : (a - 1) % 2 = 0 := by omega
    have e3 : a % 2 = 1 := by omega
    rw [e1, e2, e3]
    cases V.getD (a / 2).toNat false <;> rfl

theorem litv_zero {S : St} (hw : WF S) (inp : List Bool) : litv (vals S inp) 0 = false := by
  have := vals_zero hw inp
  simp [litv, this]
theorem litv_one {S : St} (hw : WF S) (inp : List Bool) : litv (vals S inp) 1 = true := by
  have := vals_zero hw inp
  simp [litv, this]
theorem litv_two (V : List Bool) (v : Nat) {u : Bool} (h : V[v]? = some u) : litv V (2 * (v : Int)) = u := by
  unfold litv
  have e1 : (2 * (v : Int) / 2).toNat = v := by omega
  have e2 : ¬ (2 * (v : Int)) % 2 = 1 := by omega
  rw [e1, decide_eq_false e2]
  simp [h]

theorem and_mm (V : List Bool) (a b : Int) : (litv V (min a b) && litv V (max a b)) = (litv V a && litv V b) := by
  rcases Int.le_total a b with h | h
  · rw [Int.min_eq_left h, Int.max_eq_right h]
  · rw [Int.min_eq_right h, Int.max_eq_left h, Bool.and_comm]

theorem and0_val {S : St} (hw : WF S) {a b : Int} (ha : has S a) (hb : has S b) (he : (and0 S a b).2.1 = 0) (inp : List Bool) :
    litv (vals (and0 S a b).2.2 inp) (and0 S a b).1 = (litv (vals S inp) a && litv (vals S inp) b) := by
  have hp : 0 ≤ a ∧ 0 ≤ b ∧ a < 2 * S.length ∧ b < 2 * S.length := ⟨ha.1, hb.1, ha.2, hb.2⟩
  rw [← and_mm]
  have hT := and0_wf hw ha hb
  revert he hT
  unfold and0
  split
  · rename_i h1
    intro _ _
    show litv (vals S inp) 0 = _
    rw [litv_zero hw]
    rcases h1 with h1 | h1
    · rw [h1, litv_zero hw, Bool.false_and]
    · rw [h1, litv_nt _ (by omega)]; cases litv (vals S inp) (max a b) <;> rfl
  · rename_i h1
    split
    · rename_i h2
      intro _ _
      show litv (vals S inp) (max a b) = _
      rcases h2 with h2 | h2
      · rw [h2, litv_one hw, Bool.true_and]
      · rw [h2, Bool.and_self]
    · rename_i h2
      split
      · rename_i v hf
        intro _ _
        obtain ⟨f1, f2⟩ := find_some _ _ _ _ _ hf
        rw [List.getElem?_drop] at f2
        have f3 : S[v]? = some (min a b, max a b, false) := by rw [← f2]; congr 1; omega
        exact litv_two _ v (vals_gate hw (by omega) f3 inp)
      · rename_i hf
        unfold add
        split
        · intro h _; exact absurd (show (3 : Int) = 0 from h) (by decide)
        · rename_i hl
          intro _ hT
          have n1 : ¬ min a b = 0 := fun e => h1 (.inl e)
          have n2 : ¬ min a b = 1 := fun e => h2 (.inl e)
          have n3 : ¬ min a b = max a b := fun e => h2 (.inr e)
          have hx : Ext S (S ++ [(min a b, max a b, false)]) := ⟨_, rfl, by simp⟩
          have hg := vals_gate hT (v := S.length) (a := min a b) (b := max a b) hw.pos (by simp) inp
          have := litv_two _ S.length hg
          rw [litv_ext hw hx inp (show has S (min a b) by unfold has; omega), litv_ext hw hx inp (show has S (max a b) by unfold has; omega)] at this
          exact this

theorem and0_len {S : St} (a b : Int) : (and0 S a b).2.2.length ≤ S.length + 1 ∧ (S.length < 131072 → (and0 S a b).2.1 = 0) := by
  unfold and0
  split
  · exact ⟨Nat.le_succ _, fun _ => rfl⟩
  · split
    · exact ⟨Nat.le_succ _, fun _ => rfl⟩
    · split
      · exact ⟨Nat.le_succ _, fun _ => rfl⟩
      · unfold add
        split
        · exact ⟨Nat.le_succ _, fun h => by omega⟩
        · exact ⟨by simp, fun _ => rfl⟩

/-- what an operation's success means -/
structure Means (S : St) (r : Int × Int × St) (k : Nat) (f : (Int → Bool) → Bool) : Prop where
  ok : r.2.1 = 0
  wf : WF r.2.2
  ext : Ext S r.2.2
  has : has r.2.2 r.1
  len : r.2.2.length ≤ S.length + k
  val : ∀ inp, litv (vals r.2.2 inp) r.1 = f (litv (vals S inp))

theorem Ext.trans {S T U : St} (h : Ext S T) (k : Ext T U) : Ext S U := by
  obtain ⟨R, rfl, h1⟩ := h
  obtain ⟨R', rfl, h2⟩ := k
  exact ⟨R ++ R', by rw [List.append_assoc], fun g hg => by rcases List.mem_append.1 hg with h | h; exact h1 g h; exact h2 g h⟩

theorem good_and0 {S : St} (hw : WF S) (hl : S.length < 131072) {a b : Int} (ha : has S a) (hb : has S b) : Means S (and0 S a b) 1 fun v => v a && v b :=
  have he := (and0_len a b).2 hl
  ⟨he, and0_wf hw ha hb, (Ext.refl S).and0 ha hb, and0_has ha hb he, (and0_len a b).1, and0_val hw ha hb he⟩

theorem good_and {S : St} (hw : WF S) (hl : S.length < 131072) {a b : Int} (ha : has S a) (hb : has S b) : Means S (and1 S a b) 1 fun v => v a && v b := by
  have e : and1 S a b = and0 S a b := by unfold and1; rw [hasB_iff.2 ha, hasB_iff.2 hb]; rfl
  rw [e]; exact good_and0 hw hl ha hb

theorem good_or {S : St} (hw : WF S) (hl : S.length < 131072) {a b : Int} (ha : has S a) (hb : has S b) : Means S (or1 S a b) 1 fun v => v a || v b := by
  have g := good_and0 hw hl (nt_has ha) (nt_has hb)
  have e : or1 S a b = (nt (and0 S (nt a) (nt b)).1, 0, (and0 S (nt a) (nt b)).2.2) := by
    unfold or1; rw [hasB_iff.2 ha, hasB_iff.2 hb]; exact if_pos g.ok
  rw [e]
  refine ⟨rfl, g.wf, g.ext, nt_has g.has, g.len, fun inp => ?_⟩
  show litv _ (nt _) = _
  rw [litv_nt _ g.has.1, g.val, litv_nt _ ha.1, litv_nt _ hb.1]
  cases litv (vals S inp) a <;> cases litv (vals S inp) b <;> rfl

theorem good_two {S : St} (hw : WF S) (hl : S.length + 2 < 131072) {a b c d : Int} (ha : has S a) (hb : has S b) (hc : has S c) (hd : has S d) : Means S (two S a b c d) 3 fun v => (v a && v b) || (v c && v d) := by
  have g1 := good_and0 hw (by omega) ha hb
  have g2 := good_and0 g1.wf (by have := g1.len; omega) (g1.ext.has hc) (g1.ext.has hd)
  have h1 := nt_has (g2.ext.has g1.has)
  have h2 := nt_has g2.has
  have g3 := good_and0 g2.wf (by have := g1.len; have := g2.len; omega) h1 h2
  have e : two S a b c d = (nt (and0 (and0 (and0 S a b).2.2 c d).2.2 (nt (and0 S a b).1) (nt (and0 (and0 S a b).2.2 c d).1)).1, 0, (and0 (and0 (and0 S a b).2.2 c d).2.2 (nt (and0 S a b).1) (nt (and0 (and0 S a b).2.2 c d).1)).2.2) := by
    unfold two
    simp only
    rw [if_neg (fun h => h g1.ok), if_neg (fun h => h g2.ok), if_neg (fun h => h g3.ok)]
  rw [e]
  refine ⟨rfl, g3.wf, (g1.ext.trans g2.ext).trans g3.ext, nt_has g3.has, by have := g1.len; have := g2.len; have := g3.len; dsimp only; omega, fun inp => ?_⟩
  show litv _ (nt _) = _
  rw [litv_nt _ g3.has.1, g3.val, litv_nt _ (g2.ext.has g1.has).1, litv_nt _ g2.has.1, litv_ext g1.wf g2.ext inp g1.has, g1.val, g2.val, litv_ext hw g1.ext inp hc, litv_ext hw g1.ext inp hd]
  cases litv (vals S inp) a <;> cases litv (vals S inp) b <;> cases litv (vals S inp) c <;> cases litv (vals S inp) d <;> rfl

theorem good_xor {S : St} (hw : WF S) (hl : S.length + 2 < 131072) {a b : Int} (ha : has S a) (hb : has S b) : Means S (xor1 S a b) 3 fun v => v a != v b := by
  have e : xor1 S a b = two S a (nt b) (nt a) b := by unfold xor1; rw [hasB_iff.2 ha, hasB_iff.2 hb]; rfl
  rw [e]
  have g := good_two hw hl ha (nt_has hb) (nt_has ha) hb
  refine ⟨g.ok, g.wf, g.ext, g.has, g.len, fun inp => ?_⟩
  rw [g.val, litv_nt _ ha.1, litv_nt _ hb.1]
  cases litv (vals S inp) a <;> cases litv (vals S inp) b <;> rfl

theorem good_mux {S : St} (hw : WF S) (hl : S.length + 2 < 131072) {c a b : Int} (hc : has S c) (ha : has S a) (hb : has S b) : Means S (mux1 S c a b) 3 fun v => if v c then v a else v b := by
  have e : mux1 S c a b = two S c a (nt c) b := by unfold mux1; rw [hasB_iff.2 hc, hasB_iff.2 ha, hasB_iff.2 hb]; rfl
  rw [e]
  have g := good_two hw hl hc ha (nt_has hc) hb
  refine ⟨g.ok, g.wf, g.ext, g.has, g.len, fun inp => ?_⟩
  rw [g.val, litv_nt _ hc.1]
  cases litv (vals S inp) a <;> cases litv (vals S inp) b <;> cases litv (vals S inp) c <;> rfl
end Go.Z.Aig
