/- Chapter 37: what the search finds, plain: the first model; budgets; what follows. Conditions: none. -/
import Derived.Test.YtbpgblbhikeglaaV5
namespace Go.Z.Sat
set_option linter.unusedVariables false
set_option linter.unusedSimpArgs false
set_option linter.unusedSectionVars false
open Go Go.Z Go.Proofs.Ytbpgblbhikeglaa

abbrev Mo := Nat → Bool
def ext (a : As) (M : Mo) : Prop := ∀ v x, a v = some x → M v = x
def ml (M : Mo) (l : Int) : Bool := if 0 < l then M l.natAbs else !M l.natAbs
def Mod (F : Fm) (M : Mo) : Prop := ∀ c ∈ F, ∃ l ∈ c, ml M l = true
theorem ml_neg (M : Mo) {l : Int} (h : l ≠ 0) : ml M (-l) = !ml M l := by
  unfold ml
  rw [Int.natAbs_neg]
  by_cases h0 : 0 < l
  · rw [if_neg (by omega), if_pos h0]
  · rw [if_pos (by omega), if_neg h0, Bool.not_not]
theorem ext_lv {a : As} {M : Mo} (h : ext a M) {l : Int} {x : Bool} (e : lv a l = some x) : ml M l = x := by
  rw [lv_abs] at e
  unfold ml
  split at e
  · rw [if_pos (by assumption)]; exact h _ _ e
  · rw [if_neg (by assumption)]
    cases hv : a l.natAbs with
    | none => rw [hv] at e; cases e
    | some y => rw [hv] at e; rw [h _ _ hv]; simpa using e
theorem ml_var (M : Mo) {v : Nat} (hv : v ≠ 0) (x : Bool) : ml M (if x then (v : Int) else -(v : Int)) = true ↔ M v = x := by
  unfold ml
  cases x
  · simp only [Bool.false_eq_true, if_false]
    rw [if_neg (by omega), show (-(v : Int)).natAbs = v by omega]; simp
  · simp only [if_true]
    rw [if_pos (by omega), show ((v : Int)).natAbs = v by omega]
theorem Der.model {n : Nat} {F : Fm} (hF : okF n F) {a : As} {M : Mo} (ha : ext a M) (hM : Mod F M) {l : Int} (h : Der F a l) : ml M l = true := by
  induction h with
  | base e => exact ext_lv ha e
  | @unit c l hc hl _ ih =>
    obtain ⟨l', h1, h2⟩ := hM c hc
    by_cases e : l' = l
    · rw [← e]; exact h2
    · have := ih l' h1 e
      rw [ml_neg _ (hF c hc l' h1).1, h2] at this; cases this
theorem PR.model_none {n : Nat} {F : Fm} (hF : okF n F) {a : As} {M : Mo} (h : PR F a none) (ha : ext a M) (hM : Mod F M) : False := by
  obtain ⟨c, hc, hl⟩ := h
  obtain ⟨l, h1, h2⟩ := hM c hc
  have := (hl l h1).model hF ha hM
  rw [ml_neg _ (hF c hc l h1).1, h2] at this; cases this
theorem PR.ext {n : Nat} {F : Fm} (hF : okF n F) {a b : As} {M : Mo} (h : PR F a (some b)) (ha : ext a M) (hM : Mod F M) : ext b M := fun v x e => by
  cases hv : a v with
  | some y =>
    have := h.1 v y hv
    rw [e] at this; cases this
    exact ha v _ hv
  | none =>
    obtain ⟨h1, h2⟩ := h.2.1 v hv x e
    exact (ml_var M h2 x).1 (h1.model hF ha hM)
theorem ext_le {a b : As} {M : Mo} (h : le a b) (hb : ext b M) : ext a M := fun v x e => hb v x (h v x e)
theorem ext_put {a : As} {M : Mo} {v : Nat} (hv : v ≠ 0) (h : ext a M) : ext (put a (v : Int)) M ∨ ext (put a (-(v : Int))) M := by
  cases hM : M v with
  | true =>
    left
    intro u x e
    unfold put at e
    split at e
    · cases e
      rw [‹u = _›, show ((v : Int)).natAbs = v by omega, hM]
      exact (decide_eq_true (by omega)).symm
    · exact h u x e
  | false =>
    right
    intro u x e
    unfold put at e
    split at e
    · cases e
      rw [‹u = _›, show (-(v : Int)).natAbs = v by omega, hM]
      exact (decide_eq_false (by omega)).symm
    · exact h u x e
def before (n : Nat) (M M' : Mo) : Prop := ∃ v, (1 ≤ v ∧ v ≤ n) ∧ (∀ u, 1 ≤ u → u < v → M u = M' u) ∧ M v = true ∧ M' v = false
def Mb (b : As) : Mo := fun v => decide (b v ≠ some false)
theorem ext_Mb (b : As) : ext b (Mb b) := fun v x e => by
  unfold Mb
  rw [e]; cases x <;> rfl
def Rem (a : As) (L : List (Nat × As)) (M : Mo) : Prop := ext a M ∨ ∃ p ∈ L, ext (put p.2 (-(p.1 : Int))) M
inductive J (n : Nat) : As → List (Nat × As) → Prop
  | nil {a : As} : J n a []
  | cons {a A : As} {v : Nat} {L : List (Nat × As)} : Least n A v → le A a → a v = some true → J n A L → J n a ((v, A) :: L)
theorem J.mono {n : Nat} {a b : As} {L : List (Nat × As)} (h : J n a L) (hab : le a b) : J n b L := by
  cases h with
  | nil => exact .nil
  | cons h1 h2 h3 h4 => exact .cons h1 (h2.trans hab) (hab _ _ h3) h4
theorem put_at {a : As} {v : Nat} : put a (-(v : Int)) v = some (decide (0 < -(v : Int))) := by
  unfold put; rw [if_pos (by omega)]
theorem put_off {a : As} {l : Int} {u : Nat} (h : u ≠ l.natAbs) : put a l u = a u := by
  unfold put; rw [if_neg h]
theorem J.before {n : Nat} {a : As} {L : List (Nat × As)} {M : Mo} (h : J n a L) : Sat.ext a M → ∀ p ∈ L, ∀ M', Sat.ext (put p.2 (-(p.1 : Int))) M' → Sat.before n M M' := by
  induction h with
  | nil => intro _ p hp; cases hp
  | @cons a A v L h1 h2 h3 h4 ih =>
    intro ha p hp M' hM'
    rcases List.mem_cons.1 hp with rfl | hp
    · refine ⟨v, h1.1, fun u hu1 hu2 => ?_, ha v _ h3, ?_⟩
      · cases hA : A u with
        | none => exact absurd hA (h1.2.2 u hu1 hu2)
        | some x =>
          rw [ha u x (h2 u x hA), hM' u x (by dsimp only; rw [put_off (by omega)]; exact hA)]
      · have := hM' v _ put_at
        rw [this]; exact decide_eq_false (by omega)
    · exact ih (ext_le h2 ha) p hp M' hM'
theorem first_diff (f g : Nat → Bool) : ∀ n : Nat, (∀ v, 1 ≤ v → v ≤ n → f v = g v) ∨ ∃ v, (1 ≤ v ∧ v ≤ n) ∧ (∀ u, 1 ≤ u → u < v → f u = g u) ∧ f v ≠ g v
  | 0 => .inl fun v h1 h2 => by omega
  | n + 1 => by
    rcases first_diff f g n with h | ⟨v, h1, h2, h3⟩
    · by_cases e : f (n + 1) = g (n + 1)
      · refine .inl fun v h1 h2 => ?_
        by_cases e2 : v = n + 1
        · rw [e2]; exact e
        · exact h v h1 (by omega)
      · exact .inr ⟨n + 1, ⟨by omega, Nat.le_refl _⟩, fun u h1 h2 => h u h1 (by omega), e⟩
    · exact .inr ⟨v, ⟨h1.1, by omega⟩, h2, h3⟩
def FirstP (F : Fm) (n : Nat) (a : As) (L : List (Nat × As)) : Out → Prop
  | .sat b => satF F b ∧ ∀ M', Mod F M' → Rem a L M' → (∀ v, 1 ≤ v → v ≤ n → Mb b v = M' v) ∨ before n (Mb b) M'
  | .uns => ∀ M', Mod F M' → ¬ Rem a L M'
  | .unk => True
theorem FirstP.mono {F : Fm} {n : Nat} {a a' : As} {L L' : List (Nat × As)} {r : Out} (h : FirstP F n a L r) (hr : ∀ M, Mod F M → Rem a' L' M → Rem a L M) : FirstP F n a' L' r := by
  cases r with
  | unk => trivial
  | sat b => exact ⟨h.1, fun M hM hR => h.2 M hM (hr M hM hR)⟩
  | uns => exact fun M hM hR => h M hM (hr M hM hR)
theorem Reach.first {F : Fm} {n : Nat} (hF : okF n F) {bud : Int} {a : As} {L : List (Nat × As)} {k : Int} {r : Out} (h : Sat.Reach F n bud a L k r) : J n a L → FirstP F n a L r := by
  induction h with
  | uns h =>
    intro _ M hM hR
    rcases hR with hR | ⟨p, hp, _⟩
    · exact h.model_none hF hR hM
    · cases hp
  | @back a A L k v r h _ ih =>
    intro hJ
    cases hJ with
    | cons h1 h2 h3 h4 =>
      have hle : le A (put A (-(v : Int))) := le_put (by rw [lv_negv, h1.2.1]; rfl)
      refine (ih (h4.mono hle)).mono fun M hM hR => ?_
      rcases hR with hR | ⟨p, hp, hR⟩
      · exact (h.model_none hF hR hM).elim
      · rcases List.mem_cons.1 hp with rfl | hp
        · exact .inl hR
        · exact .inr ⟨p, hp, hR⟩
  | @sat a b L k h hs =>
    intro hJ
    refine ⟨hs, fun M hM hR => ?_⟩
    rcases hR with hR | ⟨p, hp, hR⟩
    · have hb := h.ext hF hR hM
      rcases first_diff (Mb b) M n with h1 | ⟨v, h1, h2, h3⟩
      · exact .inl h1
      · right
        refine ⟨v, h1, h2, ?_⟩
        cases hv : b v with
        | some x => exact absurd ((ext_Mb b v x hv).trans (hb v x hv).symm) h3
        | none =>
          have e : Mb b v = true := by unfold Mb; rw [hv]; rfl
          refine ⟨e, ?_⟩
          cases hM2 : M v with
          | false => rfl
          | true => rw [e, hM2] at h3; exact absurd rfl h3
    · exact .inr (hJ.before (ext_le h.1 (ext_Mb b)) p hp M hR)
  | unk => intro _; trivial
  | @dec a b L k v r h hs hk hv _ ih =>
    intro hJ
    have hle : le b (put b (v : Int)) := le_put (by rw [lv_pos _ hv.1.1]; exact hv.2.1)
    have hvv : put b (v : Int) v = some true := by
      unfold put
      rw [if_pos (by omega)]
      congr 1
      have := hv.1.1
      exact decide_eq_true (by omega)
    refine (ih (.cons hv hle hvv (hJ.mono h.1))).mono fun M hM hR => ?_
    rcases hR with hR | ⟨p, hp, hR⟩
    · rcases ext_put (v := v) (by have := hv.1.1; omega) (h.ext hF hR hM) with h1 | h1
      · exact .inl h1
      · exact .inr ⟨(v, b), by simp, h1⟩
    · exact .inr ⟨p, by simp [hp], hR⟩
theorem satF_Mod {n : Nat} {F : Fm} {b : As} (h : satF F b) : Mod F (Mb b) := fun c hc => by
  obtain ⟨l, h1, h2⟩ := h c hc
  exact ⟨l, h1, ext_lv (ext_Mb b) h2⟩
theorem Reach.satF {F : Fm} {n : Nat} {bud : Int} {a : As} {L : List (Nat × As)} {k : Int} {b : As} (h : Sat.Reach F n bud a L k (.sat b)) : Sat.satF F b := by
  generalize hr : Out.sat b = r at h
  induction h with
  | uns => cases hr
  | back _ _ ih => exact ih hr
  | sat _ h2 => cases hr; exact h2
  | unk => cases hr
  | dec _ _ _ _ _ ih => exact ih hr

/-! ### budgets -/
theorem Reach.more {F : Fm} {n : Nat} {x y : Int} (hxy : x ≤ y) {a : As} {L : List (Nat × As)} {k : Int} {r : Out} (h : Sat.Reach F n x a L k r) : r ≠ .unk → k ≤ x → Sat.Reach F n y a L k r := by
  induction h with
  | uns h => exact fun _ _ => .uns h
  | back h _ ih => exact fun h1 h2 => .back h (ih h1 h2)
  | sat h h2 => exact fun _ _ => .sat h h2
  | unk => exact fun h => absurd rfl h
  | dec h h2 h3 h4 _ ih => exact fun h5 h6 => .dec h h2 (by omega) h4 (ih h5 (by omega))
def pot (n : Nat) (a : As) (L : List (Nat × As)) : Nat := (2 ^ cnt n a - 1) + (L.map fun p => 2 ^ (cnt n p.2 - 1) - 1).sum
theorem Reach.known {F : Fm} {n : Nat} {bud : Int} {a : As} {L : List (Nat × As)} {k : Int} {r : Out} (h : Sat.Reach F n bud a L k r) : Sat.okS n L → k + pot n a L < bud → r ≠ .unk := by
  induction h with
  | uns => intro _ _ h; cases h
  | @back a A L k v r _ _ ih =>
    intro hS hp
    obtain ⟨⟨h1, h2⟩, h3⟩ := hS (v, A) (by simp)
    dsimp only at h1 h2 h3
    have hc := cnt_put (a := A) (n := n) (l := -(v : Int)) ⟨by omega, by omega, by omega⟩ (by rw [lv_negv, h3]; rfl)
    refine ih (fun p hp => hS p (by simp [hp])) ?_
    unfold pot at hp ⊢
    rw [List.map_cons, List.sum_cons] at hp
    dsimp only at hp
    rw [show cnt n (put A (-(v : Int))) = cnt n A - 1 by omega]
    omega
  | sat => intro _ _ h; cases h
  | @unk a b L k _ _ hk => intro _ hp; omega
  | @dec a b L k v r h _ _ hv _ ih =>
    intro hS hp
    obtain ⟨⟨h1, h2⟩, h3, _⟩ := hv
    have hc := cnt_put (a := b) (n := n) (l := (v : Int)) ⟨by omega, by omega, by omega⟩ (by rw [lv_pos _ h1]; exact h3)
    have hle := cnt_le h.1 n
    refine ih (fun p hp => ?_) ?_
    · rcases List.mem_cons.1 hp with rfl | hp
      · exact ⟨⟨h1, h2⟩, h3⟩
      · exact hS p hp
    · unfold pot at hp ⊢
      rw [List.map_cons, List.sum_cons]
      dsimp only
      rw [show cnt n (put b (v : Int)) = cnt n b - 1 by omega]
      have h4 : 2 ^ cnt n b ≤ 2 ^ cnt n a := Nat.pow_le_pow_right (by decide) hle
      have h5 : 2 ^ cnt n b = 2 ^ (cnt n b - 1) + 2 ^ (cnt n b - 1) := by
        obtain ⟨z, hz⟩ : ∃ z, cnt n b = z + 1 := ⟨cnt n b - 1, by omega⟩
        rw [hz, Nat.add_sub_cancel, Nat.pow_succ]; omega
      have h6 := Nat.one_le_two_pow (n := cnt n b - 1)
      omega

/-! ### models as rows -/
def moOf (xs : List Bool) : Mo := fun v => xs.getD (v - 1) false
theorem mt_ml (xs : List Bool) {l : Int} (h : l ≠ 0) : Sat.mt xs l = ml (moOf xs) l := by
  unfold Sat.mt ml moOf
  by_cases h0 : 0 < l
  · rw [if_neg (by omega), if_pos h0, show (l - 1).toNat = l.natAbs - 1 by omega]
  · rw [if_pos (by omega), if_neg h0, show (-l - 1).toNat = l.natAbs - 1 by omega]
theorem right_iff {n : Nat} {F : Fm} (hF : okF n F) (hc : check1 n F = 0) {xs : List Bool} (hl : xs.length = n) : rightB n F xs = true ↔ Mod F (moOf xs) := by
  unfold rightB Mod
  rw [decide_eq_true hc, decide_eq_true (by omega), Bool.true_and, Bool.true_and, List.all_eq_true]
  constructor
  · intro h c hcm
    obtain ⟨l, h1, h2⟩ := List.any_eq_true.1 (h c hcm)
    exact ⟨l, h1, by rw [← mt_ml _ (hF c hcm l h1).1]; exact h2⟩
  · intro h c hcm
    obtain ⟨l, h1, h2⟩ := h c hcm
    exact List.any_eq_true.2 ⟨l, h1, by rw [mt_ml _ (hF c hcm l h1).1]; exact h2⟩
theorem Mod_congr {n : Nat} {F : Fm} (hF : okF n F) {M M' : Mo} (h : ∀ v, 1 ≤ v → v ≤ n → M v = M' v) (hM : Mod F M) : Mod F M' := fun c hc => by
  obtain ⟨l, h1, h2⟩ := hM c hc
  refine ⟨l, h1, ?_⟩
  have hl := hF c hc l h1
  have : M l.natAbs = M' l.natAbs := h _ (by have := hl.1; omega) (by have := hl.2; omega)
  unfold ml at h2 ⊢
  rw [← this]; exact h2
theorem mods_at {n : Nat} (b : As) {v : Nat} (h1 : 1 ≤ v) (h2 : v ≤ n) : moOf (mods n b) v = Mb b v := by
  unfold moOf mods Mb
  rw [List.getD_eq_getElem?_getD, List.getElem?_map, List.getElem?_range (by omega)]
  simp only [Option.map_some, Option.getD_some]
  rw [show v - 1 + 1 = v by omega]
def val : List Bool → Nat
  | [] => 0
  | b :: xs => (if b then 0 else 2 ^ xs.length) + val xs
theorem val_lt : ∀ xs : List Bool, val xs < 2 ^ xs.length
  | [] => by decide
  | b :: xs => by
    have := val_lt xs
    simp only [val, List.length_cons, Nat.pow_succ]
    split <;> omega
theorem val_inj : ∀ xs ys : List Bool, xs.length = ys.length → val xs = val ys → xs = ys
  | [], [], _, _ => rfl
  | b :: xs, c :: ys, h, e => by
    have hl : xs.length = ys.length := by simpa using h
    have h1 := val_lt xs
    have h2 := val_lt ys
    simp only [val] at e
    rw [← hl] at e h2
    cases b <;> cases c <;> simp at e
    · rw [val_inj xs ys hl e]
    · omega
    · omega
    · rw [val_inj xs ys hl e]
theorem val_before : ∀ (xs ys : List Bool) (j : Nat), xs.length = ys.length → j < xs.length → (∀ i, i < j → xs.getD i false = ys.getD i false) → xs.getD j false = true → ys.getD j false = false → val xs < val ys
  | b :: xs, c :: ys, 0, h, _, _, h1, h2 => by
    have hl : xs.length = ys.length := by simpa using h
    have hb : b = true := by simpa using h1
    have hc : c = false := by simpa using h2
    subst hb; subst hc
    have := val_lt xs
    simp only [val]
    rw [hl] at this
    simp; omega
  | b :: xs, c :: ys, j + 1, h, hj, ha, h1, h2 => by
    have hl : xs.length = ys.length := by simpa using h
    have hbc : b = c := by simpa using ha 0 (by omega)
    subst hbc
    have := val_before xs ys j hl (by simpa using hj) (fun i hi => by simpa using ha (i + 1) (by omega)) (by simpa using h1) (by simpa using h2)
    simp only [val, hl]
    omega
theorem mlist_succ (n k : Nat) : mlist (n + 1) k = decide (k / 2 ^ n % 2 = 0) :: mlist n k := by
  unfold mlist
  rw [List.range_succ_eq_map, List.map_cons, List.map_map]
  congr 1
  refine List.map_congr_left fun i hi => ?_
  simp only [Function.comp]
  rw [show n + 1 - 1 - (i + 1) = n - 1 - i by omega]
theorem val_mlist : ∀ n k : Nat, val (mlist n k) = k % 2 ^ n
  | 0, k => by simp [mlist, val, Nat.mod_one]
  | n + 1, k => by
    rw [mlist_succ, val, mlist_len, val_mlist n k, Nat.mod_pow_succ]
    rcases Nat.mod_two_eq_zero_or_one (k / 2 ^ n) with h | h <;> simp [h] <;> omega
theorem mlist_val {n : Nat} {xs : List Bool} (h : xs.length = n) : mlist n (val xs) = xs := by
  refine val_inj _ _ (by rw [mlist_len, h]) ?_
  rw [val_mlist, Nat.mod_eq_of_lt (by rw [← h]; exact val_lt xs)]

theorem first_ok {n : Nat} {F : Fm} (hF : okF n F) (hc : check1 n F = 0) (hn : n ≤ 9) {r : Out} (h : Sat.Reach F n 512 (fun _ => none) [] 0 r) :
    r ≠ .unk ∧ (∀ k, k < 2 ^ n → (∀ j, j < k → rightB n F (mlist n j) = false) → rightB n F (mlist n k) = true → ∃ b, r = .sat b ∧ mods n b = mlist n k) ∧ ((∀ j, j < 2 ^ n → rightB n F (mlist n j) = false) → r = .uns) := by
  have h1 : r ≠ .unk := h.known (fun p hp => absurd hp List.not_mem_nil) (by
    unfold pot
    rw [cnt_none]
    have : 2 ^ n ≤ 2 ^ 9 := Nat.pow_le_pow_right (by decide) hn
    simp; omega)
  have h2 := h.first hF .nil
  have hsatm : ∀ b, r = .sat b → rightB n F (mlist n (val (mods n b))) = true ∧ val (mods n b) < 2 ^ n ∧ mlist n (val (mods n b)) = mods n b := fun b hb => by
    subst hb
    have e := mlist_val (mods_len n b)
    refine ⟨?_, by have := val_lt (mods n b); rwa [mods_len] at this, e⟩
    rw [e, right_iff hF hc (mods_len n b)]
    exact Mod_congr hF (fun v hv1 hv2 => (mods_at b hv1 hv2).symm) (satF_Mod (n := n) h2.1)
  refine ⟨h1, fun k hk hno hyes => ?_, fun hno => ?_⟩
  · have hM := (right_iff hF hc (mlist_len n k)).1 hyes
    cases r with
    | unk => exact absurd rfl h1
    | uns => exact absurd (.inl fun v x e => by cases e) (h2 _ hM)
    | sat b =>
      refine ⟨b, rfl, ?_⟩
      obtain ⟨k1, k2, k3⟩ := hsatm b rfl
      rcases h2.2 _ hM (.inl fun v x e => by cases e) with h3 | ⟨v, h3, h4, h5, h6⟩
      · refine List.ext_getElem (by rw [mods_len, mlist_len]) fun i hi1 hi2 => ?_
        rw [mods_len] at hi1
        have := h3 (i + 1) (by omega) (by omega)
        rw [← mods_at (n := n) b (by omega) (by omega)] at this
        unfold moOf at this
        rw [Nat.add_sub_cancel, List.getD_eq_getElem?_getD, List.getD_eq_getElem?_getD, List.getElem?_eq_getElem (by rw [mods_len]; exact hi1), List.getElem?_eq_getElem hi2] at this
        simpa using this
      · have hlt : val (mods n b) < val (mlist n k) := by
          refine val_before _ _ (v - 1) (by rw [mods_len, mlist_len]) (by rw [mods_len]; omega) (fun i hi => ?_) ?_ h6
          · have := h4 (i + 1) (by omega) (by omega)
            rw [← mods_at (n := n) b (by omega) (by omega)] at this
            unfold moOf at this
            rwa [Nat.add_sub_cancel] at this
          · rw [← mods_at b h3.1 h3.2] at h5
            exact h5
        rw [val_mlist, Nat.mod_eq_of_lt hk] at hlt
        have := hno _ hlt
        rw [k1] at this; cases this
  · cases r with
    | unk => exact absurd rfl h1
    | uns => rfl
    | sat b =>
      obtain ⟨k1, k2, _⟩ := hsatm b rfl
      rw [hno _ k2] at k1; cases k1

/-! ### what follows -/
theorem setF_ext {M : Mo} : ∀ (ls : List Int) (V : As) (T : List Int), (∀ l ∈ ls, l ≠ 0 ∧ ml M l = true) → ext V M → (setF V T ls).1 = true ∧ ext (setF V T ls).2.1 M
  | [], V, T, _, h => ⟨rfl, h⟩
  | l :: ls, V, T, hl, h => by
    rw [setF_cons]
    have hl0 := hl l (by simp)
    cases hv : lv V l with
    | none =>
      refine setF_ext ls _ _ (fun x hx => hl x (by simp [hx])) fun v x e => ?_
      unfold put at e
      split at e
      · cases e
        have := hl0.2
        unfold ml at this
        rw [‹v = _›]
        by_cases h0 : 0 < l
        · rw [if_pos h0] at this; rw [this, decide_eq_true h0]
        · rw [if_neg h0] at this; rw [decide_eq_false h0]; simpa using this
      · exact h v x e
    | some y => cases y with
      | true => exact setF_ext ls _ _ (fun x hx => hl x (by simp [hx])) h
      | false =>
        have := ext_lv h hv
        rw [hl0.2] at this; cases this
theorem follows_ok {n : Nat} {F : Fm} (hF : okF n F) {ls out : List Int} {ok : Bool} (h : UnS n F ls out ok 0) {xs : List Bool} (hr : rightB n F xs = true) (hh : holdsB xs ls = true) : ok = true ∧ holdsB xs out = true := by
  have hr' := hr
  unfold rightB at hr'
  simp only [Bool.and_eq_true, decide_eq_true_eq] at hr'
  obtain ⟨hc, hl, _⟩ := hr'
  have hl : xs.length = n := by omega
  have hM := (right_iff hF hc hl).1 hr
  have hls : ∀ l ∈ ls, l ≠ 0 ∧ ml (moOf xs) l = true := fun l hlm => by
    have := List.all_eq_true.1 hh l hlm
    simp only [Bool.and_eq_true] at this
    have hk := okB_okL this.1
    exact ⟨hk.1, by rw [← mt_ml _ hk.1]; exact this.2⟩
  rcases h with ⟨h1, _⟩ | ⟨_, _, _, _, h1⟩ | ⟨_, _, _, r, hur, rfl, rfl⟩
  · exact absurd hc h1
  · cases h1
  · obtain ⟨s1, s2⟩ := setF_ext (M := moOf xs) ls (fun _ => none) [] hls fun v x e => by cases e
    rcases hur with ⟨h1, _⟩ | ⟨_, hpr⟩
    · rw [s1] at h1; cases h1
    · cases r with
      | none => exact (hpr.model_none hF s2 hM).elim
      | some b =>
        have hb := hpr.ext hF s2 hM
        refine ⟨rfl, ?_⟩
        unfold holdsB
        rw [List.all_eq_true]
        intro l hlm
        have hk := ulits_ok b l hlm
        rw [Int.toNat_natCast] at hk
        rw [hl, okL_okB hk, Bool.true_and, mt_ml _ hk.1]
        have : lv b l = some true := by
          obtain ⟨i, hi, h⟩ := List.mem_flatMap.1 hlm
          unfold ulit at h
          split at h
          · rename_i e
            rw [List.mem_singleton.1 h]
            exact (lv_var b (v := i + 1) (by omega) true).2 e
          · rename_i e
            rw [List.mem_singleton.1 h]
            exact (lv_var b (v := i + 1) (by omega) false).2 e
          · cases h
        exact ext_lv hb this
end Go.Z.Sat
