/- Own texts, put together: V0 V1 V2 V3 V4 V5 V6. Conditions: as told at each. -/
import Derived.Test.YtopgbgnmjogeeaaGreatDoorMCmU0
/- Chapter 37, the statements' own parts: which formulas are looked at; equal rows; reading a formula. Conditions: none. -/
namespace Go.Z.Sat
set_option maxRecDepth 8000
set_option linter.unusedVariables false
set_option linter.unusedSimpArgs false
set_option linter.unusedSectionVars false
open Go Go.Z Go.Proofs.YtopgbgnmjogeeaaGreatDoor
def total (F : Fm) : Nat := (F.map List.length).sum
structure Light (n : Int) (F : Fm) (bud : Int) : Prop where
  len : F.length ≤ 150
  tot : total F ≤ 600
  vars : ¬ (1000 < n ∧ n ≤ 262144)
  bud : n ≤ 9 ∨ bud ≤ 300
theorem mem_total {F : Fm} {c : Cl} (h : c ∈ F) : c.length ≤ total F := by
  unfold total
  induction F with
  | nil => cases h
  | cons d F ih =>
    rw [List.map_cons, List.sum_cons]
    rcases List.mem_cons.1 h with rfl | h
    · omega
    · have := ih h; omega
theorem useRow_total (F : Fm) (k : Int) : (useRow F k).length ≤ total F := by
  have key : ∀ (F : Fm) (i : Nat), ((F.zipIdx i).flatMap fun p => (p.1.filter fun x => decide (uix x = k)).map fun _ => p.2).length ≤ total F := by
    intro F
    induction F with
    | nil => intro i; simp
    | cons c F ih =>
      intro i
      rw [List.zipIdx_cons, List.flatMap_cons, List.length_append, List.length_map]
      have := ih (i + 1)
      have h2 := List.length_filter_le (fun x => decide (uix x = k)) c
      unfold total at *
      rw [List.map_cons, List.sum_cons]
      dsimp only at *
      omega
  exact key F 0
theorem Light.ok {n : Int} {F : Fm} {bud : Int} (h : Light n F bud) (hc : check1 n F = 0) : Ok n.toNat F := by
  have hnn := check1_nonneg hc
  have hall : allB n F = true := by
    unfold check1 at hc
    rw [if_neg (by omega), if_neg (by omega)] at hc
    split at hc
    · assumption
    · cases hc
  have hlen := h.len
  have htot := h.tot
  refine ⟨fun c hcm l hl => ?_, by omega, by omega, fun c hcm => by have := mem_total hcm; omega, fun k => by have := useRow_total F k; omega⟩
  have h1 := List.all_eq_true.1 hall c hcm
  have h2 := List.all_eq_true.1 h1 l hl
  refine okB_okL ?_
  rw [Int.toNat_of_nonneg hnn.1]; exact h2
theorem total_take (F : Fm) {i : Nat} (hi : i < F.length) : total (F.take (i + 1)) = total (F.take i) + F[i].length := by
  unfold total
  rw [List.take_add_one, List.getElem?_eq_getElem hi, Option.toList_some, List.map_append, List.sum_append]; simp
theorem total_le (F : Fm) {m : Nat} (h : ∀ c ∈ F, c.length ≤ m) : total F ≤ F.length * m := by
  unfold total
  induction F with
  | nil => simp
  | cons c F ih =>
    rw [List.map_cons, List.sum_cons, List.length_cons, Nat.succ_mul]
    have := ih fun c hc => h c (List.mem_cons_of_mem _ hc)
    have := h c (by simp)
    omega
end Go.Z.Sat
namespace Go.Proofs.YtopgbgnmjogeeaaGreatDoor
set_option maxRecDepth 8000
set_option linter.unusedVariables false
set_option linter.unusedSimpArgs false
set_option linter.unusedSectionVars false
open Go Go.Z Go.Z.Sat

/-- a formula as it came in -/
structure FmI (ρ : Nat → Obj → Prop) (n : Int) (ca : Option Addr) (F : Fm) : Prop where
  fm : FmR ρ ca F
  vars : I64 n
  lens : ∀ c ∈ F, c.length ≤ 17592186044416
theorem FmI.mono {ρ ρ' : Nat → Obj → Prop} {n : Int} {ca : Option Addr} {F : Fm} (h : FmI ρ n ca F) (s : ∀ b o, ρ b o → ρ' b o) : FmI ρ' n ca F := ⟨h.fm.mono s, h.vars, h.lens⟩

end Go.Proofs.YtopgbgnmjogeeaaGreatDoor
/- Chapter 37: the page's examples. Conditions: none. -/
namespace Go.Z.Sat
set_option maxRecDepth 8000
set_option linter.unusedVariables false
set_option linter.unusedSimpArgs false
set_option linter.unusedSectionVars false
open Go Go.Z Go.Proofs.YtopgbgnmjogeeaaGreatDoor
def exF : Fm := [[1, 2], [-1, 2], [-2, 3]]
def exG : Fm := [[1], [-1]]
theorem exF_ok : okF 3 exF := by
  intro c hc l hl
  simp only [exF, List.mem_cons, List.not_mem_nil, or_false] at hc
  rcases hc with rfl | rfl | rfl <;> simp only [List.mem_cons, List.not_mem_nil, or_false] at hl <;> rcases hl with rfl | rfl <;> exact ⟨by decide, by decide, by decide⟩
theorem exG_ok : okF 1 exG := by
  intro c hc l hl
  simp only [exG, List.mem_cons, List.not_mem_nil, or_false] at hc
  rcases hc with rfl | rfl <;> simp only [List.mem_cons, List.not_mem_nil, or_false] at hl <;> subst hl <;> exact ⟨by decide, by decide, by decide⟩
theorem exF_check : check1 3 exF = 0 := by decide
theorem exG_check : check1 1 exG = 0 := by decide
theorem exF_light (b : Int) : Light 3 exF b := ⟨by decide, by decide, by omega, .inl (by decide)⟩
theorem exG_light (b : Int) : Light 1 exG b := ⟨by decide, by decide, by omega, .inl (by decide)⟩
def e0 : As := fun _ => none
def e1 : As := put e0 1
def e2 : As := put e1 2
def e3 : As := put e2 3
theorem c1 : [1, 2] ∈ exF := by simp [exF]
theorem c2 : [-1, 2] ∈ exF := by simp [exF]
theorem c3 : [-2, 3] ∈ exF := by simp [exF]
theorem forall2 {p : Int → Prop} {a b : Int} (h1 : p a) (h2 : p b) : ∀ m ∈ [a, b], p m := fun m hm => by
  simp only [List.mem_cons, List.not_mem_nil, or_false] at hm
  rcases hm with rfl | rfl
  · exact h1
  · exact h2
theorem fix3 {V : As} (h1 : okc V [1, 2]) (h2 : okc V [-1, 2]) (h3 : okc V [-2, 3]) : Fix exF V := by
  intro c hc
  simp only [exF, List.mem_cons, List.not_mem_nil, or_false] at hc
  rcases hc with rfl | rfl | rfl
  · exact h1
  · exact h2
  · exact h3
theorem p0 : PR exF e0 (some e0) := (Snd.refl _ _).done (fix3 (.inr ⟨1, by simp, 2, by simp, by decide, rfl, rfl⟩) (.inr ⟨-1, by simp, 2, by simp, by decide, rfl, rfl⟩) (.inr ⟨-2, by simp, 3, by simp, by decide, rfl, rfl⟩))
theorem s2 : Snd exF e1 e2 := (Snd.refl exF e1).unit exF_ok c2 (l := 2) (by simp) rfl (forall2 (fun _ => rfl) (fun h => absurd rfl h))
theorem s3 : Snd exF e1 e3 := s2.unit exF_ok c3 (l := 3) (by simp) rfl (forall2 (fun _ => rfl) (fun h => absurd rfl h))
theorem p1 : PR exF e1 (some e3) := s3.done (fix3 (.inl ⟨1, by simp, rfl⟩) (.inl ⟨2, by simp, rfl⟩) (.inl ⟨3, by simp, rfl⟩))
theorem n0 : ¬ satF exF e0 := fun h => by
  obtain ⟨l, hl, h1⟩ := h _ c1
  simp only [List.mem_cons, List.not_mem_nil, or_false] at hl
  rcases hl with rfl | rfl <;> cases h1
theorem y3 : satF exF e3 := by
  intro c hc
  simp only [exF, List.mem_cons, List.not_mem_nil, or_false] at hc
  rcases hc with rfl | rfl | rfl
  · exact ⟨1, by simp, rfl⟩
  · exact ⟨2, by simp, rfl⟩
  · exact ⟨3, by simp, rfl⟩
theorem sol1 : Sol 3 exF 1 1 [.bool true, .bool true, .bool true] 0 :=
  .inr (.inr ⟨by decide, exF_check, rfl, .sat e3, .dec (v := 1) p0 n0 (by decide) ⟨⟨by decide, by decide⟩, rfl, fun u h1 h2 => by omega⟩ (.sat p1 y3), rfl, rfl⟩)
theorem sol0 : Sol 3 exF 0 0 [] 0 := .inr (.inr ⟨by decide, exF_check, rfl, .unk, .unk p0 n0 rfl, rfl, rfl⟩)
theorem sol2 : Sol 1 exG 0 2 [] 0 := by
  refine .inr (.inr ⟨by decide, exG_check, rfl, .uns, .uns ?_, rfl, rfl⟩)
  have h1 : Snd exG e0 e1 := (Snd.refl exG e0).unit exG_ok (c := [1]) (l := 1) (by simp [exG]) (by simp) rfl (fun m hm hne => absurd (List.mem_singleton.1 hm) hne)
  exact h1.fail exG_ok (c := [-1]) (by simp [exG]) fun l hl => by rw [List.mem_singleton.1 hl]; rfl
theorem un1 : UnS 3 exF [-2] [] false 0 := by
  refine .inr (.inr ⟨exF_check, by decide, rfl, none, .inr ⟨rfl, ?_⟩, rfl, rfl⟩)
  have h1 : Snd exF (put e0 (-2)) (put (put e0 (-2)) 1) := (Snd.refl exF _).unit exF_ok c1 (l := 1) (by simp) rfl (forall2 (fun h => absurd rfl h) (fun _ => rfl))
  exact h1.fail exF_ok c2 (forall2 rfl rfl)
theorem un2 : UnS 3 exF [1, -2] [] false 0 := by
  refine .inr (.inr ⟨exF_check, by decide, rfl, none, .inr ⟨rfl, ?_⟩, rfl, rfl⟩)
  exact (Snd.refl exF (put (put e0 1) (-2))).fail exF_ok c2 (forall2 rfl rfl)
end Go.Z.Sat
namespace Go.Proofs.YtopgbgnmjogeeaaGreatDoor
set_option maxRecDepth 8000
set_option linter.unusedVariables false
set_option linter.unusedSimpArgs false
set_option linter.unusedSectionVars false
open Go Go.Z Go.Z.Sat

def ExA (ca : Option Addr) : Assn := Pk fun H => ∃ b b1 b2 b3, ca = some ⟨b, 0, none⟩ ∧ H = [Blk b (.cells [.slice (some ⟨b1, 0, none⟩) 2 2, .slice (some ⟨b2, 0, none⟩) 2 2, .slice (some ⟨b3, 0, none⟩) 2 2].toArray 79 (0, 0)), Blk b1 (.cells [encI 1, encI 2].toArray 3 (0, 0)), Blk b2 (.cells [encI (-1), encI 2].toArray 3 (0, 0)), Blk b3 (.cells [encI (-2), encI 3].toArray 3 (0, 0))]
theorem ExA.ro {ρ : Nat → Obj → Prop} {ca : Option Addr} (h : Ro ρ (ExA ca)) : FmR ρ ca exF := by
  obtain ⟨_, ⟨b, b1, b2, b3, rfl, rfl⟩, r0, r1, r2, r3, _⟩ := h.unpack
  refine ⟨⟨_, ⟨?_, fun j hj => ?_⟩, RSl.of_blk (k := 3) r0.blk (by simp)⟩, by decide, by decide, fun c hc x hx => ?_⟩
  · rfl
  · match j, hj with
    | 0, _ => exact ⟨_, 2, rfl, RSl.of_blk (k := 2) r1.blk (by simp)⟩
    | 1, _ => exact ⟨_, 2, rfl, RSl.of_blk (k := 2) r2.blk (by simp)⟩
    | 2, _ => exact ⟨_, 2, rfl, RSl.of_blk (k := 2) r3.blk (by simp)⟩
  · have := exF_ok c hc x hx
    exact ⟨by have := this.2; omega, by have := this.2; omega⟩
theorem exG_ro {ρ : Nat → Obj → Prop} {b b1 b2 : Nat} {T T1 T2 : TypeId} {f f1 f2 : Nat × Nat} (r0 : ρ b (.cells [.slice (some ⟨b1, 0, none⟩) 1 1, .slice (some ⟨b2, 0, none⟩) 1 1].toArray T f)) (r1 : ρ b1 (.cells [encI 1].toArray T1 f1)) (r2 : ρ b2 (.cells [encI (-1)].toArray T2 f2)) : FmR ρ (some ⟨b, 0, none⟩) exG := by
  refine ⟨⟨_, ⟨?_, fun j hj => ?_⟩, RSl.of_blk (k := 2) r0 (by simp)⟩, by decide, by decide, fun c hc x hx => ?_⟩
  · rfl
  · match j, hj with
    | 0, _ => exact ⟨_, 1, rfl, RSl.of_blk (k := 1) r1 (by simp)⟩
    | 1, _ => exact ⟨_, 1, rfl, RSl.of_blk (k := 1) r2 (by simp)⟩
  · have := exG_ok c hc x hx
    exact ⟨by have := this.2; omega, by have := this.2; omega⟩

theorem i64_3 : I64 3 := ⟨by decide, by decide⟩
theorem i64_1 : I64 1 := ⟨by decide, by decide⟩
theorem i64_0 : I64 0 := ⟨by decide, by decide⟩
end Go.Proofs.YtopgbgnmjogeeaaGreatDoor
/- Chapter 37: SatSolves and SatUnits, the walks. Conditions: none. -/
namespace Go.Z.Sat
set_option maxRecDepth 8000
set_option linter.unusedVariables false
set_option linter.unusedSimpArgs false
set_option linter.unusedSectionVars false
open Go Go.Z Go.Proofs.YtopgbgnmjogeeaaGreatDoor
def mods (n : Nat) (b : As) : List Bool := (List.range n).map fun i => decide (b (i + 1) ≠ some false)
theorem mods_cells (n : Nat) (b : As) : mcells n b = (mods n b).map encB := by unfold mcells mods; rw [List.map_map]; rfl
theorem mods_len (n : Nat) (b : As) : (mods n b).length = n := by simp [mods]
theorem Sol.bools {n : Int} {F : Fm} {bud code e : Int} {cells : List Value} (h : Sol n F bud code cells e) : ∃ xs : List Bool, cells = xs.map encB ∧ xs.length ≤ 262144 := by
  rcases h with ⟨_, _, rfl, _⟩ | ⟨_, _, _, rfl, _⟩ | ⟨_, hc, _, r, _, _, rfl⟩
  · exact ⟨[], rfl, by simp⟩
  · exact ⟨[], rfl, by simp⟩
  · have := check1_nonneg hc
    cases r with
    | unk => exact ⟨[], rfl, by simp⟩
    | uns => exact ⟨[], rfl, by simp⟩
    | sat b => exact ⟨mods n.toNat b, mods_cells _ b, by rw [mods_len]; omega⟩
theorem UnS.len {n : Int} {F : Fm} {ls out : List Int} {ok : Bool} {e : Int} (h : UnS n F ls out ok e) : out.length ≤ 262144 := by
  rcases h with ⟨_, rfl, _⟩ | ⟨_, _, rfl, _⟩ | ⟨hc, _, _, r, _, rfl, _⟩
  · simp
  · simp
  · have := check1_nonneg hc
    cases r with
    | none => simp [uout]
    | some b => have := ulits_len n.toNat b; show (ulits n.toNat b).length ≤ _; omega
def supp (n : Nat) (a : As) : Prop := ∀ v, a v ≠ none → 1 ≤ v ∧ v ≤ n
theorem supp_put {n : Nat} {a : As} (h : supp n a) {l : Int} (hl : okL n l) : supp n (put a l) := fun v hv => by
  unfold put at hv
  by_cases e : v = l.natAbs
  · have := hl.1; have := hl.2; omega
  · rw [if_neg e] at hv; exact h v hv
theorem setF_supp {n : Nat} : ∀ (ls : List Int) (V : As) (T : List Int), supp n V → (∀ l ∈ ls, okL n l) → supp n (setF V T ls).2.1
  | [], V, T, h, _ => h
  | l :: ls, V, T, h, hl => by
    rw [setF_cons]
    cases hv : lv V l with
    | none => exact setF_supp ls _ _ (supp_put h (hl l (by simp))) fun x hx => hl x (by simp [hx])
    | some y => cases y with
      | true => exact setF_supp ls _ _ h fun x hx => hl x (by simp [hx])
      | false => exact h
theorem Der.supp {n : Nat} {F : Fm} (hF : okF n F) {a : As} (ha : supp n a) {l : Int} (h : Der F a l) : 1 ≤ l.natAbs ∧ l.natAbs ≤ n := by
  cases h with
  | base e => exact ha _ fun h => by rw [lv_none.2 h] at e; cases e
  | unit hc hl _ =>
    have h := hF _ hc _ hl
    have h1 := h.1; have h2 := h.2; omega
theorem PR.supp {n : Nat} {F : Fm} (hF : okF n F) {a b : As} (ha : supp n a) (h : PR F a (some b)) : supp n b := fun v hv => by
  by_cases e : a v = none
  · cases hb : b v with
    | none => exact absurd hb hv
    | some x =>
      obtain ⟨h1, h2⟩ := h.2.1 v e x hb
      have := h1.supp hF ha
      cases x <;> simp at this <;> omega
  · exact ha v e
/-- the literals of an assignment make it again -/
theorem put_eq {a b : As} {l : Int} (h : lv b l = some true) : ∀ v, put a l v = if v = l.natAbs then b v else a v := fun v => by
  unfold put
  by_cases e : v = l.natAbs
  · rw [if_pos e, if_pos e, e]
    rw [lv_abs] at h
    split at h
    · rename_i h0; rw [h, decide_eq_true h0]
    · rename_i h0
      cases hv : b l.natAbs with
      | none => rw [hv] at h; cases h
      | some x => rw [hv] at h; cases x <;> simp at h; rw [decide_eq_false h0]
  · rw [if_neg e, if_neg e]
theorem setF_ulits (b : As) : ∀ (k : Nat) (T : List Int) (V : As) (rest : List Int), (∀ v, V v = none) → ∃ T', setF V T (ulits k b ++ rest) = setF (fun v => if 1 ≤ v ∧ v ≤ k then b v else none) T' rest
  | 0, T, V, rest, hV => ⟨T, by
      have : V = fun v => if 1 ≤ v ∧ v ≤ 0 then b v else none := by funext v; rw [hV, if_neg (by omega)]
      rw [← this]; rfl⟩
  | k + 1, T, V, rest, hV => by
    rw [ulits_succ, List.append_assoc]
    obtain ⟨T', h⟩ := setF_ulits b k T V (ulit b k ++ rest) hV
    rw [h]
    have step : ∀ x : Bool, b (k + 1) = some x → ∃ T'', setF (fun v => if 1 ≤ v ∧ v ≤ k then b v else none) T' ((if x then ((k + 1 : Nat) : Int) else -((k + 1 : Nat) : Int)) :: rest) = setF (fun v => if 1 ≤ v ∧ v ≤ k + 1 then b v else none) T'' rest := fun x hx => by
      have hl : lv b (if x then ((k + 1 : Nat) : Int) else -((k + 1 : Nat) : Int)) = some true := (lv_var b (by omega) x).2 hx
      have hab : (if x then ((k + 1 : Nat) : Int) else -((k + 1 : Nat) : Int)).natAbs = k + 1 := by cases x <;> simp <;> omega
      generalize hlk : (if x then ((k + 1 : Nat) : Int) else -((k + 1 : Nat) : Int)) = l at *
      refine ⟨T' ++ [l], ?_⟩
      rw [setF_cons, lv_none.2 (by rw [hab]; exact if_neg (by omega))]
      have : put (fun v => if 1 ≤ v ∧ v ≤ k then b v else none) l = fun v => if 1 ≤ v ∧ v ≤ k + 1 then b v else none := by
        funext v
        rw [put_eq hl, hab]
        by_cases e : v = k + 1
        · rw [if_pos e, if_pos (by omega)]
        · rw [if_neg e]
          by_cases e2 : 1 ≤ v ∧ v ≤ k
          · rw [if_pos e2, if_pos (by omega)]
          · rw [if_neg e2, if_neg (by omega)]
      rw [this]
    unfold ulit
    cases hb : b (k + 1) with
    | none =>
      refine ⟨T', ?_⟩
      have : (fun v => if 1 ≤ v ∧ v ≤ k then b v else none) = fun v => if 1 ≤ v ∧ v ≤ k + 1 then b v else none := by
        funext v
        by_cases e : v = k + 1
        · subst e; rw [if_neg (by omega), if_pos (by omega), hb]
        · by_cases e2 : 1 ≤ v ∧ v ≤ k
          · rw [if_pos e2, if_pos (by omega)]
          · rw [if_neg e2, if_neg (by omega)]
      rw [← this]; rfl
    | some x =>
      have := step x hb
      cases x <;> exact this
theorem ulits_ok {n : Nat} (b : As) : ∀ l ∈ ulits n b, okL n l := fun l hl => by
  obtain ⟨i, hi, h⟩ := List.mem_flatMap.1 hl
  have hi' := List.mem_range.1 hi
  unfold ulit at h
  split at h
  · rw [List.mem_singleton.1 h]; exact ⟨by omega, by omega, by omega⟩
  · rw [List.mem_singleton.1 h]; exact ⟨by omega, by omega, by omega⟩
  · cases h
theorem okL_okB {n : Nat} {l : Int} (h : okL n l) : okB n l = true := by
  unfold okB
  have h1 := h.1; have h2 := h.2
  simp
  exact ⟨h1, by omega, by omega⟩
/-- what follows follows from itself -/
theorem UnS.again {n : Int} {F : Fm} (hF : check1 n F = 0 → okF n.toNat F) {ls out : List Int} {e : Int} (h : UnS n F ls out true e) : UnS n F out out true 0 := by
  rcases h with ⟨_, _, h, _⟩ | ⟨_, _, _, h, _⟩ | ⟨hc, hall, rfl, r, hur, rfl, hok⟩
  · cases h
  · cases h
  · have hF := hF hc
    have hnn := check1_nonneg hc
    cases r with
    | none => cases hok
    | some b =>
      rcases hur with ⟨_, h⟩ | ⟨hs1, hpr⟩
      · cases h
      have hokl : ∀ l ∈ ls, okL n.toNat l := fun l hl => okB_okL (by rw [Int.toNat_of_nonneg hnn.1]; exact List.all_eq_true.1 hall l hl)
      have hsup := PR.supp hF (setF_supp ls (fun _ => none) [] (n := n.toNat) (fun v hv => absurd rfl hv) hokl) hpr
      obtain ⟨T, hT⟩ := setF_ulits b n.toNat [] (fun _ => none) [] (fun _ => rfl)
      have hb : (fun v => if 1 ≤ v ∧ v ≤ n.toNat then b v else none) = b := by
        funext v
        split
        · rfl
        · rename_i h
          cases hv : b v with
          | none => rfl
          | some x => exact absurd (hsup v (by rw [hv]; simp)) h
      rw [List.append_nil, hb] at hT
      refine .inr (.inr ⟨hc, ?_, rfl, some b, .inr ?_, rfl, rfl⟩)
      · rw [List.all_eq_true]
        intro l hl
        have := okL_okB (ulits_ok b l hl)
        rwa [Int.toNat_of_nonneg hnn.1] at this
      · show (setF (fun _ => none) [] (ulits n.toNat b)).1 = true ∧ PR F (setF (fun _ => none) [] (ulits n.toNat b)).2.1 (some b)
        rw [hT]
        exact ⟨rfl, (Snd.refl F b).done hpr.2.2⟩
end Go.Z.Sat
namespace Go.Proofs.YtopgbgnmjogeeaaGreatDoor
set_option maxRecDepth 8000
set_option linter.unusedVariables false
set_option linter.unusedSimpArgs false
set_option linter.unusedSectionVars false
open Go Go.Z Go.Z.Sat

end Go.Proofs.YtopgbgnmjogeeaaGreatDoor
/- Chapter 37: reading a formula that came in. Conditions: none. -/
namespace Go.Proofs.YtopgbgnmjogeeaaGreatDoor
set_option maxRecDepth 8000
set_option linter.unusedVariables false
set_option linter.unusedSimpArgs false
set_option linter.unusedSectionVars false
open Go Go.Z Go.Z.Sat
theorem rdw_int1 {H : Type} {enc : TypeId × Value → H} {W : World} {c : List Value} (h : Rdw enc Tryz.prog W 3 c) : ∃ x : Int, c = [encI x] ∧ I64 x := by
  obtain ⟨x, e, w⟩ := rd_int Tryz.underlying3 h.rdx
  exact ⟨x, e, wf_i64 w⟩
theorem rd_ints {H : Type} {enc : TypeId × Value → H} {W : World} {c : List Value} (h : ∀ v ∈ c, Rdw enc Tryz.prog W 3 [v]) : ∃ l : List Int, c = l.map encI ∧ ∀ x ∈ l, I64 x := by
  induction c with
  | nil => exact ⟨[], rfl, fun x hx => absurd hx List.not_mem_nil⟩
  | cons v c ih =>
    obtain ⟨l, rfl, hl⟩ := ih fun u hu => h u (List.mem_cons_of_mem _ hu)
    obtain ⟨x, e, hx⟩ := rdw_int1 (h v (by simp))
    cases e
    refine ⟨x :: l, rfl, fun y hy => ?_⟩
    rcases List.mem_cons.1 hy with rfl | hy
    · exact hx
    · exact hl y hy
theorem rd_formula {H : Type} {enc : TypeId × Value → H} {W : World} {cs : List Value} (h : Rdw enc Tryz.prog W 30 cs) : ∃ (n : Int) (ca : Option Addr) (cc : Nat) (F : Fm), cs = [.int .i64 n, .slice ca F.length cc] ∧ FmI (Old W) n ca F := by
  obtain ⟨hl, hf⟩ := rdw_struct Tryz.underlying30 h
  have h0 := hf 0 _ rfl
  have h1 := hf 1 _ rfl
  have hl2 : cs.length = 2 := hl
  match cs, hl2 with
  | [u, v], _ =>
    have h0' : Rdw enc Tryz.prog W 3 [u] := h0
    have h1' : Rdw enc Tryz.prog W 28 [v] := h1
    obtain ⟨n, e, hn⟩ := rdw_int1 h0'
    cases e
    obtain ⟨a, cap, rows, e, k1, k2, k3, k4, k7⟩ := rdw_rows (fun c => ∃ l : List Int, c = l.map encI ∧ ∀ x ∈ l, I64 x) Tryz.underlying28 (by kernel_rfl) Tryz.underlying79 (by kernel_rfl) (fun c hc => rd_ints hc) h1'
    cases e
    obtain ⟨F, rfl, hF⟩ := rows_with (fun l : List Int => (∀ x ∈ l, I64 x) ∧ l.length ≤ 17592186044416) (fun l : List Int => l.map encI) (xss := rows) fun c hc => by
      obtain ⟨⟨l, rfl, hl⟩, k5, k6⟩ := k3 c hc
      refine ⟨l, rfl, hl, ?_⟩
      rw [show Tryz.prog.bytesOf 3 = 8 by kernel_rfl, List.length_map] at k6
      omega
    rw [show Tryz.prog.bytesOf 79 = 24 by kernel_rfl] at k7
    rw [List.length_map] at k1
    refine ⟨n, a, cap, F, by rw [List.length_map]; rfl, ⟨k4, by omega, fun c hc => by have := (hF c hc).2; omega, fun c hc => (hF c hc).1⟩, hn, fun c hc => (hF c hc).2⟩
end Go.Proofs.YtopgbgnmjogeeaaGreatDoor
/- Chapter 37: whether a model satisfies a formula. Conditions: none. -/
namespace Go.Z.Sat
set_option maxRecDepth 8000
set_option linter.unusedVariables false
set_option linter.unusedSimpArgs false
set_option linter.unusedSectionVars false
open Go Go.Z Go.Proofs.YtopgbgnmjogeeaaGreatDoor
/-- a literal under a model -/
def mt (xs : List Bool) (l : Int) : Bool := if l < 0 then !(xs.getD (-l - 1).toNat false) else xs.getD (l - 1).toNat false
def rightB (n : Int) (F : Fm) (xs : List Bool) : Bool := decide (check1 n F = 0) && (decide ((xs.length : Int) = n) && F.all fun c => c.any (mt xs))
end Go.Z.Sat
namespace Go.Proofs.YtopgbgnmjogeeaaGreatDoor
set_option maxRecDepth 8000
set_option linter.unusedVariables false
set_option linter.unusedSimpArgs false
set_option linter.unusedSectionVars false
open Go Go.Z Go.Z.Sat

theorem idxI_ok {ρ : Nat → Obj → Prop} (al : Option Addr) (cl : Nat) (ls : List Int) (hl : RSl ρ 1 al ls.length (ls.map encI)) (hlen : ls.length ≤ 9223372036854775807) (f : Nat) (cap : Array Value) (pred : Int → Bool) (hF : ∀ l ∈ ls, ∀ ρ', (∀ b o, ρ b o → ρ' b o) → Con Tryz.prog ρ' f (#[.int .i64 l] ++ cap) [] (fun v H => v = .bool (pred l) ∧ H = [])) :
    Con Tryz.prog ρ 75 #[.slice al ls.length cl, .func (.func f) #[] cap] [] (fun v H => v = .int .i64 (match ls.findIdx? pred with | some i => (i : Int) | none => -1) ∧ H = []) := by
  obtain ⟨_, b, off, cs, T, fz, hr⟩ := hl
  refine con_intro Tryz.func75 Tryz.call75 rfl Tryz.ntmps75 rfl (L := [(0, _), (1, _)]) rfl fun w hh => ?_
  refine g_seq ?_
  refine g_region ?_
  refine g_pure (p_assign rfl) rfl ?_
  refine g_nil ?_
  refine g_qt ?_
  refine g_seq ?_
  refine g_seq ?_
  refine g_region ?_
  refine g_pure (p_move rfl) rfl ?_
  refine g_pure (p_len (by rfl) rfl) rfl ?_
  refine g_pure (p_move rfl) rfl ?_
  refine g_nil ?_
  refine g_qt ?_
  refine g_block ?_
  refine g_loop (fun k : Nat => [(0, .slice al ls.length cl), (1, .func (.func f) #[] cap), (7, .int .i64 ls.length), (8, .int .i64 k)]) (fun _ => []) (fun k => k ≤ ls.length ∧ ∀ l ∈ ls.take k, pred l = false) (fun k => ls.length - k) 0 ⟨Nat.zero_le _, by simp⟩ (by (repeat (first | exact trivial | refine ⟨by rfl, ?_⟩)); done) .nil fun k ⟨hk, hno⟩ => ?_
  refine g_seq ?_
  refine g_region ?_
  refine g_pure (p_lss rfl rfl) rfl ?_
  refine g_nil ?_
  refine g_qt ?_
  refine g_seq ?_
  refine g_ifd rfl (fun h1 => ?_) (fun h1 => ?_)
  · have hk' : k < ls.length := by omega
    have hx : (ls.map encI)[k]? = some (.int .i64 ls[k]) := mapI _ hk'
    refine g_skip ?_
    refine g_qt ?_
    refine g_seq ?_
    refine g_block ?_
    refine g_seq ?_
    refine g_region ?_
    refine g_pure (p_move rfl) rfl ?_
    refine g_pure (p_assign rfl) rfl ?_
    refine g_nil ?_
    refine g_qt ?_
    refine g_seq ?_
    refine g_region ?_
    refine g_pure (p_move rfl) rfl ?_
    refine g_pure (p_move rfl) rfl ?_
    refine g_pure (p_move rfl) rfl ?_
    refine g_pure (p_indexAddr rfl rfl (by omega) (fun _ => (hr (by omega)).1)) rfl ?_
    refine g_pure (p_load (v := .int .i64 ls[k]) (by rfl) rfl (Has.ro (hr (by omega)).2.1) (by simpa using (hr (by omega)).2.2 k _ hx)) rfl ?_
    refine g_call (Hin := []) (Hr := ?hr1) (R := ?rr1) rfl rfl rfl ?hin1 ?hc1 ?hk1
    case hin1 => repeat' (first | exact Cover.nil | exact Take.here | apply Cover.cons | apply Take.there)
    case hc1 => intro ρ' hρ hR; exact hF _ (List.getElem_mem hk') ρ' hρ
    rintro _ _ ⟨rfl, rfl⟩
    refine g_nil ?_
    refine g_qt ?_
    refine g_if rfl (fun h2 => ?_) (fun h2 => ?_)
    · refine g_seq ?_
      refine g_region ?_
      refine g_pure (p_move rfl) rfl ?_
      refine g_pure (p_assign rfl) rfl ?_
      refine g_nil ?_
      refine g_qt ?_
      refine g_ret ?_
      refine g_qb_ret ?_
      refine g_qt_ret ?_
      refine g_qn_ret ?_
      refine g_qb_ret ?_
      refine g_qt_ret ?_
      refine g_post (rs := [.tmp 4]) rfl (.tmp rfl .nil) ⟨?_, rfl⟩ .nil
      have e : ls.findIdx? pred = some k := by
        rw [List.findIdx?_eq_some_iff_getElem]
        refine ⟨hk', h2, fun j hj => ?_⟩
        have := hno ls[j] (by rw [List.mem_take_iff_getElem]; exact ⟨j, by omega, rfl⟩)
        simp [this]
      rw [e]; rfl
    · refine g_skip ?_
      refine g_qb ?_
      refine g_qt ?_
      refine g_region ?_
      first | refine g_pure (p_addi rfl rfl (by omega)) rfl ?_ | refine g_pure (p_add rfl rfl) rfl ?_
      refine g_pure (p_move rfl) rfl ?_
      refine g_nil ?_
      refine g_qn ?_
      exact g_next (k + 1) (by (repeat (first | exact trivial | refine ⟨by rfl, ?_⟩)); done) .nil ⟨by omega, all_take hk' hno h2⟩ (by omega)
  · refine g_exit ?_
    refine g_qt_exit ?_
    refine g_qn_exit ?_
    refine g_qb_exit ?_
    refine g_qt ?_
    refine g_seq ?_
    refine g_region ?_
    refine g_pure (p_assign rfl) rfl ?_
    refine g_nil ?_
    refine g_qt ?_
    refine g_ret ?_
    refine g_post (rs := [.tmp 4]) rfl (.tmp rfl .nil) ⟨?_, rfl⟩ .nil
    have e : ls.findIdx? pred = none := by
      rw [List.findIdx?_eq_none_iff]
      intro l hl
      exact hno l (by rw [List.take_of_length_le (by omega)]; exact hl)
    rw [e]; rfl

theorem any_of_idx {α : Type} {ls : List α} {pred : α → Bool} : decide (0 ≤ (match ls.findIdx? pred with | some i => (i : Int) | none => -1)) = ls.any pred := by
  cases h : ls.findIdx? pred with
  | none =>
    rw [List.findIdx?_eq_none_iff] at h
    have : ls.any pred = false := by rw [List.any_eq_false]; intro x hx; simp [h x hx]
    rw [this]; rfl
  | some i =>
    rw [List.findIdx?_eq_some_iff_getElem] at h
    obtain ⟨h1, h2, _⟩ := h
    have : ls.any pred = true := List.any_eq_true.2 ⟨_, List.getElem_mem h1, h2⟩
    rw [this]; simp

theorem anyI_ok {ρ : Nat → Obj → Prop} (al : Option Addr) (cl : Nat) (ls : List Int) (hl : RSl ρ 1 al ls.length (ls.map encI)) (hlen : ls.length ≤ 9223372036854775807) (f : Nat) (cap : Array Value) (pred : Int → Bool) (hF : ∀ l ∈ ls, ∀ ρ', (∀ b o, ρ b o → ρ' b o) → Con Tryz.prog ρ' f (#[.int .i64 l] ++ cap) [] (fun v H => v = .bool (pred l) ∧ H = [])) :
    Con Tryz.prog ρ 56 #[.slice al ls.length cl, .func (.func f) #[] cap] [] (fun v H => v = .bool (ls.any pred) ∧ H = []) := by
  refine con_intro Tryz.func56 Tryz.call56 rfl Tryz.ntmps56 rfl (L := [(0, _), (1, _)]) rfl fun w hh => ?_
  refine g_seq ?_
  refine g_region ?_
  refine g_pure (p_assign rfl) rfl ?_
  refine g_nil ?_
  refine g_qt ?_
  refine g_seq ?_
  refine g_region ?_
  refine g_pure (p_move rfl) rfl ?_
  refine g_pure (p_move rfl) rfl ?_
  refine g_call (Hin := []) (Hr := ?hr2) (R := ?rr2) rfl rfl rfl ?hin2 ?hc2 ?hk2
  case hin2 => repeat' (first | exact Cover.nil | exact Take.here | apply Cover.cons | apply Take.there)
  case hc2 => intro ρ' hρ hR; exact idxI_ok al cl ls (hl.mono hρ) hlen f cap pred (fun l h1 ρ2 h2 => hF l h1 ρ2 (fun b o h3 => h2 b o (hρ b o h3)))
  rintro _ _ ⟨rfl, rfl⟩
  refine g_pure (p_geq rfl rfl) rfl ?_
  refine g_pure (p_assign rfl) rfl ?_
  refine g_nil ?_
  refine g_qt ?_
  refine g_ret ?_
  exact g_post (rs := [.tmp 4]) rfl (.tmp rfl .nil) ⟨by rw [← any_of_idx]; rfl, rfl⟩ .nil

theorem idxC_ok {ρ : Nat → Obj → Prop} (ca : Option Addr) (cc : Nat) (F : Fm) (hF : FmR ρ ca F) (f : Nat) (cap : Array Value) (pred : Cl → Bool) (hP : ∀ c ∈ F, ∀ ρ', (∀ b o, ρ b o → ρ' b o) → ∀ ai ci, RSl ρ' 1 ai c.length (c.map encI) → Con Tryz.prog ρ' f (#[.slice ai c.length ci] ++ cap) [] (fun v H => v = .bool (pred c) ∧ H = [])) :
    Con Tryz.prog ρ 74 #[.slice ca F.length cc, .func (.func f) #[] cap] [] (fun v H => v = .int .i64 (match F.findIdx? pred with | some i => (i : Int) | none => -1) ∧ H = []) := by
  have hlen := hF.len
  refine con_intro Tryz.func74 Tryz.call74 rfl Tryz.ntmps74 rfl (L := [(0, _), (1, _)]) rfl fun w hh => ?_
  refine g_seq ?_
  refine g_region ?_
  refine g_pure (p_assign rfl) rfl ?_
  refine g_nil ?_
  refine g_qt ?_
  refine g_seq ?_
  refine g_seq ?_
  refine g_region ?_
  refine g_pure (p_move rfl) rfl ?_
  refine g_pure (p_len (by rfl) rfl) rfl ?_
  refine g_pure (p_move rfl) rfl ?_
  refine g_nil ?_
  refine g_qt ?_
  refine g_block ?_
  refine g_loop (fun k : Nat => [(0, .slice ca F.length cc), (1, .func (.func f) #[] cap), (7, .int .i64 F.length), (8, .int .i64 k)]) (fun _ => []) (fun k => k ≤ F.length ∧ ∀ l ∈ F.take k, pred l = false) (fun k => F.length - k) 0 ⟨Nat.zero_le _, by simp⟩ (by (repeat (first | exact trivial | refine ⟨by rfl, ?_⟩)); done) .nil fun k ⟨hk, hno⟩ => ?_
  refine g_seq ?_
  refine g_region ?_
  refine g_pure (p_lss rfl rfl) rfl ?_
  refine g_nil ?_
  refine g_qt ?_
  refine g_seq ?_
  refine g_ifd rfl (fun h1 => ?_) (fun h1 => ?_)
  · have hk' : k < F.length := by omega
    obtain ⟨b, off, cs, T1, fz, r1, r2, r3⟩ := hF.at (by omega)
    obtain ⟨ai, ci, x1', hrow⟩ := r3 k hk'
    have x1 : cs[off + (k : Int).toNat * 1]? = some (.slice ai F[k].length ci) := x1'
    refine g_skip ?_
    refine g_qt ?_
    refine g_seq ?_
    refine g_block ?_
    refine g_seq ?_
    refine g_region ?_
    refine g_pure (p_move rfl) rfl ?_
    refine g_pure (p_assign rfl) rfl ?_
    refine g_nil ?_
    refine g_qt ?_
    refine g_seq ?_
    refine g_region ?_
    refine g_pure (p_move rfl) rfl ?_
    refine g_pure (p_move rfl) rfl ?_
    refine g_pure (p_move rfl) rfl ?_
    refine g_pure (p_indexAddr rfl rfl (by omega) (fun _ => r1)) rfl ?_
    refine g_pure (p_load (by rfl) rfl (Has.ro r2) x1) rfl ?_
    refine g_call (Hin := []) (Hr := ?hr3) (R := ?rr3) rfl rfl rfl ?hin3 ?hc3 ?hk3
    case hin3 => repeat' (first | exact Cover.nil | exact Take.here | apply Cover.cons | apply Take.there)
    case hc3 => intro ρ' hρ hR; exact hP _ (List.getElem_mem hk') ρ' hρ ai ci (hrow.mono hρ)
    rintro _ _ ⟨rfl, rfl⟩
    refine g_nil ?_
    refine g_qt ?_
    refine g_if rfl (fun h2 => ?_) (fun h2 => ?_)
    · refine g_seq ?_
      refine g_region ?_
      refine g_pure (p_move rfl) rfl ?_
      refine g_pure (p_assign rfl) rfl ?_
      refine g_nil ?_
      refine g_qt ?_
      refine g_ret ?_
      refine g_qb_ret ?_
      refine g_qt_ret ?_
      refine g_qn_ret ?_
      refine g_qb_ret ?_
      refine g_qt_ret ?_
      refine g_post (rs := [.tmp 4]) rfl (.tmp rfl .nil) ⟨?_, rfl⟩ .nil
      have e : F.findIdx? pred = some k := by
        rw [List.findIdx?_eq_some_iff_getElem]
        refine ⟨hk', h2, fun j hj => ?_⟩
        have := hno F[j] (by rw [List.mem_take_iff_getElem]; exact ⟨j, by omega, rfl⟩)
        simp [this]
      rw [e]; rfl
    · refine g_skip ?_
      refine g_qb ?_
      refine g_qt ?_
      refine g_region ?_
      first | refine g_pure (p_addi rfl rfl (by omega)) rfl ?_ | refine g_pure (p_add rfl rfl) rfl ?_
      refine g_pure (p_move rfl) rfl ?_
      refine g_nil ?_
      refine g_qn ?_
      exact g_next (k + 1) (by (repeat (first | exact trivial | refine ⟨by rfl, ?_⟩)); done) .nil ⟨by omega, all_take hk' hno h2⟩ (by omega)
  · refine g_exit ?_
    refine g_qt_exit ?_
    refine g_qn_exit ?_
    refine g_qb_exit ?_
    refine g_qt ?_
    refine g_seq ?_
    refine g_region ?_
    refine g_pure (p_assign rfl) rfl ?_
    refine g_nil ?_
    refine g_qt ?_
    refine g_ret ?_
    refine g_post (rs := [.tmp 4]) rfl (.tmp rfl .nil) ⟨?_, rfl⟩ .nil
    have e : F.findIdx? pred = none := by
      rw [List.findIdx?_eq_none_iff]
      intro l hl
      exact hno l (by rw [List.take_of_length_le (by omega)]; exact hl)
    rw [e]; rfl
theorem anyC_ok {ρ : Nat → Obj → Prop} (ca : Option Addr) (cc : Nat) (F : Fm) (hF : FmR ρ ca F) (f : Nat) (cap : Array Value) (pred : Cl → Bool) (hP : ∀ c ∈ F, ∀ ρ', (∀ b o, ρ b o → ρ' b o) → ∀ ai ci, RSl ρ' 1 ai c.length (c.map encI) → Con Tryz.prog ρ' f (#[.slice ai c.length ci] ++ cap) [] (fun v H => v = .bool (pred c) ∧ H = [])) :
    Con Tryz.prog ρ 54 #[.slice ca F.length cc, .func (.func f) #[] cap] [] (fun v H => v = .bool (F.any pred) ∧ H = []) := by
  refine con_intro Tryz.func54 Tryz.call54 rfl Tryz.ntmps54 rfl (L := [(0, _), (1, _)]) rfl fun w hh => ?_
  refine g_seq ?_
  refine g_region ?_
  refine g_pure (p_assign rfl) rfl ?_
  refine g_nil ?_
  refine g_qt ?_
  refine g_seq ?_
  refine g_region ?_
  refine g_pure (p_move rfl) rfl ?_
  refine g_pure (p_move rfl) rfl ?_
  refine g_call (Hin := []) (Hr := ?hr4) (R := ?rr4) rfl rfl rfl ?hin4 ?hc4 ?hk4
  case hin4 => repeat' (first | exact Cover.nil | exact Take.here | apply Cover.cons | apply Take.there)
  case hc4 => intro ρ' hρ hR; exact idxC_ok ca cc F (hF.mono hρ) f cap pred (fun l h1 ρ2 h2 => hP l h1 ρ2 (fun b o h3 => h2 b o (hρ b o h3)))
  rintro _ _ ⟨rfl, rfl⟩
  refine g_pure (p_geq rfl rfl) rfl ?_
  refine g_pure (p_assign rfl) rfl ?_
  refine g_nil ?_
  refine g_qt ?_
  refine g_ret ?_
  exact g_post (rs := [.tmp 4]) rfl (.tmp rfl .nil) ⟨by rw [← any_of_idx]; rfl, rfl⟩ .nil

theorem right1_ok {ρ : Nat → Obj → Prop} {b3 mc : Nat} {ma : Option Addr} {xs : List Bool} (hb : ρ b3 (.cells [.slice ma xs.length mc].toArray 37 (0, 0))) (hm : RSl ρ 1 ma xs.length (xs.map encB)) (hlen : xs.length ≤ 262144) {l : Int} (hl : okL xs.length l) :
    Con Tryz.prog ρ 53 #[.int .i64 l, .pointer (some ⟨b3, 0, none⟩)] [] (fun v H => v = .bool (mt xs l) ∧ H = []) := by
  obtain ⟨_, b, off, cs, T, fz, hr⟩ := hm
  obtain ⟨h0, hl1, hl2⟩ := hl
  obtain ⟨r1, r2, r3⟩ := hr (by omega)
  have hget : ∀ k : Nat, k < xs.length → (xs.map encB)[k]? = some (encB (xs.getD k false)) := fun k hk => by
    rw [List.getElem?_map, List.getElem?_eq_getElem hk, List.getD_eq_getElem?_getD, List.getElem?_eq_getElem hk]; rfl
  refine con_intro Tryz.func53 Tryz.call53 rfl Tryz.ntmps53 rfl (L := [(0, _), (1, _)]) rfl fun w hh => ?_
  refine g_seq ?_
  refine g_region ?_
  refine g_pure (p_assign rfl) rfl ?_
  refine g_nil ?_
  refine g_qt ?_
  refine g_seq ?_
  refine g_seq ?_
  refine g_region ?_
  refine g_pure (p_move rfl) rfl ?_
  refine g_pure (p_lss rfl rfl) rfl ?_
  refine g_nil ?_
  refine g_qt ?_
  refine g_ifd rfl (fun h => ?_) (fun h => ?_)
  · have x1 : cs[off + (-l - 1).toNat * 1]? = some (encB (xs.getD (-l - 1).toNat false)) := flat2 r3 (hget _ (by omega)) rfl
    refine g_seq ?_
    refine g_region ?_
    refine g_pure (p_load (by rfl) rfl (by first | (apply Has.own; (repeat' (first | exact Take.here | apply Take.there)); done) | exact Has.ro (by assumption)) (by first | rfl | assumption)) rfl ?_
    refine g_pure (p_move rfl) rfl ?_
    first | refine g_pure (p_negi rfl (by omega)) rfl ?_ | refine g_pure (p_neg rfl) rfl ?_
    first | refine g_pure (p_subi rfl rfl (by omega)) rfl ?_ | refine g_pure (p_sub rfl rfl) rfl ?_
    refine g_pure (p_indexAddr rfl rfl (by omega) (fun _ => r1)) rfl ?_
    refine g_pure (p_load (by rfl) rfl (Has.ro r2) x1) rfl ?_
    refine g_pure (p_not rfl) rfl ?_
    refine g_pure (p_assign rfl) rfl ?_
    refine g_nil ?_
    refine g_qt ?_
    refine g_ret ?_
    refine g_qt_ret ?_
    exact g_post (rs := [.tmp 3]) rfl (.tmp rfl .nil) ⟨by unfold Sat.mt; rw [if_pos h]; rfl, rfl⟩ .nil
  · have x1 : cs[off + (l - 1).toNat * 1]? = some (encB (xs.getD (l - 1).toNat false)) := flat2 r3 (hget _ (by omega)) rfl
    refine g_skip ?_
    refine g_qt ?_
    refine g_seq ?_
    refine g_region ?_
    refine g_pure (p_load (by rfl) rfl (by first | (apply Has.own; (repeat' (first | exact Take.here | apply Take.there)); done) | exact Has.ro (by assumption)) (by first | rfl | assumption)) rfl ?_
    refine g_pure (p_move rfl) rfl ?_
    first | refine g_pure (p_subi rfl rfl (by omega)) rfl ?_ | refine g_pure (p_sub rfl rfl) rfl ?_
    refine g_pure (p_indexAddr rfl rfl (by omega) (fun _ => r1)) rfl ?_
    refine g_pure (p_load (by rfl) rfl (Has.ro r2) x1) rfl ?_
    refine g_pure (p_assign rfl) rfl ?_
    refine g_nil ?_
    refine g_qt ?_
    refine g_ret ?_
    exact g_post (rs := [.tmp 3]) rfl (.tmp rfl .nil) ⟨by unfold Sat.mt; rw [if_neg h]; rfl, rfl⟩ .nil

theorem right2_ok {ρ : Nat → Obj → Prop} {b3 b5 mc : Nat} {ma : Option Addr} {xs : List Bool} {T : TypeId} (h5 : ρ b5 (.cells [.func (.func 53) #[] #[.pointer (some ⟨b3, 0, none⟩)]].toArray T (0, 0))) (hb : ρ b3 (.cells [.slice ma xs.length mc].toArray 37 (0, 0))) (hm : RSl ρ 1 ma xs.length (xs.map encB)) (hlen : xs.length ≤ 262144) {c : Cl} (hl : ∀ l ∈ c, okL xs.length l) {ai : Option Addr} {ci : Nat} (hc : RSl ρ 1 ai c.length (c.map encI)) (hcl : c.length ≤ 1000000) :
    Con Tryz.prog ρ 55 #[.slice ai c.length ci, .pointer (some ⟨b5, 0, none⟩)] [] (fun v H => v = .bool (!c.any (mt xs)) ∧ H = []) := by
  refine con_intro Tryz.func55 Tryz.call55 rfl Tryz.ntmps55 rfl (L := [(0, _), (1, _)]) rfl fun w hh => ?_
  refine g_seq ?_
  refine g_region ?_
  refine g_pure (p_assign rfl) rfl ?_
  refine g_nil ?_
  refine g_qt ?_
  refine g_seq ?_
  refine g_region ?_
  refine g_pure (p_move rfl) rfl ?_
  refine g_pure (p_load (by rfl) rfl (by first | (apply Has.own; (repeat' (first | exact Take.here | apply Take.there)); done) | exact Has.ro (by assumption)) (by first | rfl | assumption)) rfl ?_
  refine g_call (Hin := []) (Hr := ?hr5) (R := ?rr5) rfl rfl rfl ?hin5 ?hc5 ?hk5
  case hin5 => repeat' (first | exact Cover.nil | exact Take.here | apply Cover.cons | apply Take.there)
  case hc5 => intro ρ' hρ hR; exact anyI_ok ai ci c (hc.mono hρ) (by omega) _ #[.pointer (some ⟨b3, 0, none⟩)] (mt xs) (fun l h1 ρ2 h2 => right1_ok (h2 _ _ (hρ _ _ hb)) (hm.mono (fun b o h3 => h2 b o (hρ b o h3))) hlen (hl l h1))
  rintro _ _ ⟨rfl, rfl⟩
  refine g_pure (p_not rfl) rfl ?_
  refine g_pure (p_assign rfl) rfl ?_
  refine g_nil ?_
  refine g_qt ?_
  refine g_ret ?_
  exact g_post (rs := [.tmp 3]) rfl (.tmp rfl .nil) ⟨rfl, rfl⟩ .nil

theorem right_ok {ρ : Nat → Obj → Prop} {n : Int} {ca : Option Addr} {cc : Nat} {F : Fm} (hF : FmI ρ n ca F) (hO : check1 n F = 0 → Ok n.toNat F) {ma : Option Addr} {mc : Nat} {xs : List Bool} (hm : RSl ρ 1 ma xs.length (xs.map encB)) (hlen : xs.length ≤ 9223372036854775807) :
    Con Tryz.prog ρ 26 #[.agg #[.int .i64 n, .slice ca F.length cc], .slice ma xs.length mc] [] (fun v H => v = .bool (rightB n F xs) ∧ H = []) := by
  refine con_intro Tryz.func26 Tryz.call26 rfl Tryz.ntmps26 rfl (L := [(0, _), (1, _)]) rfl fun w hh => ?_
  refine g_seq ?_
  refine g_region ?_
  refine g_eff (e_box rfl (by rfl)) rfl (fun _ _ => ?_)
  rintro ⟨b2, rfl, rfl⟩
  refine g_eff (e_box rfl (by rfl)) rfl (fun _ _ => ?_)
  rintro ⟨b3, rfl, rfl⟩
  refine g_pure (p_assign rfl) rfl ?_
  refine g_nil ?_
  refine g_qt ?_
  refine g_seq ?_
  refine g_seq ?_
  refine g_region ?_
  first | refine g_pure (p_loadO (by rfl) rfl (by first | (apply Has.own; (repeat' (first | exact Take.here | apply Take.there)); done) | exact Has.ro (by assumption)) (by rfl)) rfl ?_ | refine g_pure (p_loadN (by rfl) rfl (by first | (apply Has.own; (repeat' (first | exact Take.here | apply Take.there)); done) | exact Has.ro (by assumption)) (by first | rfl | assumption)) rfl ?_
  refine g_call (Hin := []) (Hr := ?hr6) (R := ?rr6) rfl rfl rfl ?hin6 ?hc6 ?hk6
  case hin6 => repeat' (first | exact Cover.nil | exact Take.here | apply Cover.cons | apply Take.there)
  case hc6 => intro ρ' hρ hR; exact check_ok n hF.vars ca cc F (hF.fm.mono hρ)
  rintro _ _ ⟨rfl, rfl⟩
  refine g_pure (p_neq rfl rfl) rfl ?_
  refine g_pure (p_move rfl) rfl ?_
  refine g_splitnd rfl rfl (fun c => ?_) (fun c => ?_)
  · refine g_no rfl rfl rfl rfl ?_
    refine g_no rfl rfl rfl rfl ?_
    refine g_no rfl rfl rfl rfl ?_
    refine g_no rfl rfl rfl rfl ?_
    refine g_no rfl rfl rfl rfl ?_
    first | refine g_pure (p_pickt rfl rfl) rfl ?_ | refine g_pure (p_pickf rfl rfl) rfl ?_
    refine g_nil ?_
    refine g_qt ?_
    refine g_ift rfl ?_
    refine g_seq ?_
    refine g_region ?_
    refine g_pure (p_assign rfl) rfl ?_
    refine g_nil ?_
    refine g_qt ?_
    refine g_ret ?_
    refine g_qt_ret ?_
    exact g_post (rs := [.tmp 4]) rfl (.tmp rfl .nil) ⟨by unfold rightB; rw [decide_eq_false c]; rfl, rfl⟩ .nil
  · have hO := hO c
    have hnn := check1_nonneg c
    refine g_yes rfl rfl ?_
    refine g_pure (p_load (by rfl) rfl (by first | (apply Has.own; (repeat' (first | exact Take.here | apply Take.there)); done) | exact Has.ro (by assumption)) (by first | rfl | assumption)) rfl ?_
    refine g_yes rfl rfl ?_
    refine g_pure (p_len (by rfl) rfl) rfl ?_
    refine g_yes rfl rfl ?_
    refine g_pure (p_fieldAddr rfl) rfl ?_
    refine g_yes rfl rfl ?_
    refine g_pure (p_load (by rfl) rfl (by first | (apply Has.own; (repeat' (first | exact Take.here | apply Take.there)); done) | exact Has.ro (by assumption)) (by first | rfl | assumption)) rfl ?_
    refine g_yes rfl rfl ?_
    refine g_pure (p_neq rfl rfl) rfl ?_
    first | refine g_pure (p_pickt rfl rfl) rfl ?_ | refine g_pure (p_pickf rfl rfl) rfl ?_
    refine g_nil ?_
    refine g_qt ?_
    refine g_ifnd rfl (fun e => ?_) (fun e => ?_)
    · refine g_seq ?_
      refine g_region ?_
      refine g_pure (p_assign rfl) rfl ?_
      refine g_nil ?_
      refine g_qt ?_
      refine g_ret ?_
      refine g_qt_ret ?_
      exact g_post (rs := [.tmp 4]) rfl (.tmp rfl .nil) ⟨by unfold rightB; rw [decide_eq_true c, decide_eq_false e]; rfl, rfl⟩ .nil
    · have hnx : n.toNat = xs.length := by omega
      rw [hnx] at hO
      have hvars := hO.vars
      refine g_skip ?_
      refine g_qt ?_
      refine g_seq ?_
      refine g_region ?_
      refine g_pure (p_makeFunc rfl rfl) rfl ?_
      refine g_eff (e_alloc (by rfl)) rfl (fun _ _ => ?_)
      rintro ⟨b5, rfl, rfl⟩
      first | refine g_eff0 (e_storeO rfl rfl (by rfl) (by rfl) (by rfl) (by repeat' (first | exact Take.here | apply Take.there)) (by rfl)) (fun _ _ => ?_) | refine g_eff0 (e_store1 (by rfl) rfl rfl rfl (by repeat' (first | exact Take.here | apply Take.there)) (by first | decide | (simp <;> omega) | omega)) (fun _ _ => ?_)
      rintro rfl
      refine g_nil ?_
      refine g_qt ?_
      refine g_seq ?_
      refine g_region ?_
      refine g_pure (p_fieldAddr rfl) rfl ?_
      refine g_pure (p_load (by rfl) rfl (by first | (apply Has.own; (repeat' (first | exact Take.here | apply Take.there)); done) | exact Has.ro (by assumption)) (by first | rfl | assumption)) rfl ?_
      refine g_pure (p_makeFunc rfl rfl) rfl ?_
      refine g_call (Hin := []) (Hr := ?hr7) (R := ?rr7) rfl rfl rfl ?hin7 ?hc7 ?hk7
      case hin7 => repeat' (first | exact Cover.nil | exact Take.here | apply Cover.cons | apply Take.there)
      case hc7 => intro ρ' hρ hR; exact anyC_ok ca cc F (hF.fm.mono hρ) _ #[.pointer (some ⟨b5, 0, none⟩)] (fun c => !c.any (mt xs)) (fun cl h1 ρ2 h2 ai ci hrow => right2_ok (h2 _ _ hR.1.blk) (h2 _ _ (Take.ro (A := Blk b3 _) (by repeat' (first | exact Take.here | apply Take.there)) hR).blk) (hm.mono (fun b o h3 => h2 b o (hρ b o h3))) hvars (hO.lits cl h1) hrow (hO.lens cl h1))
      rintro _ _ ⟨rfl, rfl⟩
      refine g_pure (p_not rfl) rfl ?_
      refine g_pure (p_assign rfl) rfl ?_
      refine g_nil ?_
      refine g_qt ?_
      refine g_ret ?_
      refine g_post (rs := [.tmp 4]) rfl (.tmp rfl .nil) ⟨?_, rfl⟩ .nil
      show Value.bool _ = Value.bool _
      congr 1
      unfold rightB
      rw [decide_eq_true c, decide_eq_true e, Bool.true_and, Bool.true_and]
      rw [List.any_eq_not_all_not, Bool.not_not]
      congr 1
      funext c
      rw [Bool.not_not]
end Go.Proofs.YtopgbgnmjogeeaaGreatDoor
/- Chapter 37: models of the statements, and what holds in them. Conditions: none. -/
namespace Go.Z.Sat
set_option maxRecDepth 8000
set_option linter.unusedVariables false
set_option linter.unusedSimpArgs false
set_option linter.unusedSectionVars false
open Go Go.Z Go.Proofs.YtopgbgnmjogeeaaGreatDoor
def mlist (n k : Nat) : List Bool := (List.range n).map fun i => decide (k / 2 ^ (n - 1 - i) % 2 = 0)
theorem mlist_len (n k : Nat) : (mlist n k).length = n := by simp [mlist]
def holdsB (xs : List Bool) (ls : List Int) : Bool := ls.all fun l => okB xs.length l && Sat.mt xs l
theorem holds_no {xs : List Bool} {ls : List Int} {j : Nat} (hj : j < ls.length) (h : (okB xs.length ls[j] && Sat.mt xs ls[j]) = false) : holdsB xs ls = false := by
  unfold holdsB
  rw [← Bool.not_eq_true, List.all_eq_true]
  intro hh
  rw [hh _ (List.getElem_mem hj)] at h; cases h
theorem shr_nat (k d : Nat) (hd : d ≤ 64) : (k : Int).fdiv (2 ^ min d IntKind.i64.bits) = ((k / 2 ^ d : Nat) : Int) := by
  have : min d IntKind.i64.bits = d := Nat.min_eq_left hd
  rw [this, Int.fdiv_eq_ediv_of_nonneg _ (Int.pow_nonneg (by decide))]
  norm_cast
end Go.Z.Sat
namespace Go.Proofs.YtopgbgnmjogeeaaGreatDoor
set_option maxRecDepth 8000
set_option linter.unusedVariables false
set_option linter.unusedSimpArgs false
set_option linter.unusedSectionVars false
open Go Go.Z Go.Z.Sat

end Go.Proofs.YtopgbgnmjogeeaaGreatDoor
/- Chapter 37: what the search finds, plain: the first model; budgets; what follows. Conditions: none. -/
namespace Go.Z.Sat
set_option maxRecDepth 8000
set_option linter.unusedVariables false
set_option linter.unusedSimpArgs false
set_option linter.unusedSectionVars false
open Go Go.Z Go.Proofs.YtopgbgnmjogeeaaGreatDoor

abbrev Mo := Nat → Bool
def ext (a : As) (M : Mo) : Prop := ∀ v x, a v = some x → M v = x
def ml (M : Mo) (l : Int) : Bool := if 0 < l then M l.natAbs else !M l.natAbs
def Mod (F : Fm) (M : Mo) : Prop := ∀ c ∈ F, ∃ l ∈ c, ml M l = true
theorem ml_neg (M : Mo) {l : Int} (h : l ≠ 0) : ml M (-l) = !ml M l := by
  unfold ml
  rw [Int.natAbs_neg]
  by_cases h0 : 0 < l
  · rw [if_neg (by omega), if_pos h0]
  · rw [if_pos (by omega), if_neg h0, Bool.not_not]
theorem ext_lv {a : As} {M : Mo} (h : ext a M) {l : Int} {x : Bool} (e : lv a l = some x) : ml M l = x := by
  rw [lv_abs] at e
  unfold ml
  split at e
  · rw [if_pos (by assumption)]; exact h _ _ e
  · rw [if_neg (by assumption)]
    cases hv : a l.natAbs with
    | none => rw [hv] at e; cases e
    | some y => rw [hv] at e; rw [h _ _ hv]; simpa using e
theorem ml_var (M : Mo) {v : Nat} (hv : v ≠ 0) (x : Bool) : ml M (if x then (v : Int) else -(v : Int)) = true ↔ M v = x := by
  unfold ml
  cases x
  · simp only [Bool.false_eq_true, if_false]
    rw [if_neg (by omega), show (-(v : Int)).natAbs = v by omega]; simp
  · simp only [if_true]
    rw [if_pos (by omega), show ((v : Int)).natAbs = v by omega]
theorem Der.model {n : Nat} {F : Fm} (hF : okF n F) {a : As} {M : Mo} (ha : ext a M) (hM : Mod F M) {l : Int} (h : Der F a l) : ml M l = true := by
  induction h with
  | base e => exact ext_lv ha e
  | @unit c l hc hl _ ih =>
    obtain ⟨l', h1, h2⟩ := hM c hc
    by_cases e : l' = l
    · rw [← e]; exact h2
    · have := ih l' h1 e
      rw [ml_neg _ (hF c hc l' h1).1, h2] at this; cases this
theorem PR.model_none {n : Nat} {F : Fm} (hF : okF n F) {a : As} {M : Mo} (h : PR F a none) (ha : ext a M) (hM : Mod F M) : False := by
  obtain ⟨c, hc, hl⟩ := h
  obtain ⟨l, h1, h2⟩ := hM c hc
  have := (hl l h1).model hF ha hM
  rw [ml_neg _ (hF c hc l h1).1, h2] at this; cases this
theorem PR.ext {n : Nat} {F : Fm} (hF : okF n F) {a b : As} {M : Mo} (h : PR F a (some b)) (ha : ext a M) (hM : Mod F M) : ext b M := fun v x e => by
  cases hv : a v with
  | some y =>
    have := h.1 v y hv
    rw [e] at this; cases this
    exact ha v _ hv
  | none =>
    obtain ⟨h1, h2⟩ := h.2.1 v hv x e
    exact (ml_var M h2 x).1 (h1.model hF ha hM)
theorem ext_le {a b : As} {M : Mo} (h : le a b) (hb : ext b M) : ext a M := fun v x e => hb v x (h v x e)
theorem ext_put {a : As} {M : Mo} {v : Nat} (hv : v ≠ 0) (h : ext a M) : ext (put a (v : Int)) M ∨ ext (put a (-(v : Int))) M := by
  cases hM : M v with
  | true =>
    left
    intro u x e
    unfold put at e
    split at e
    · cases e
      rw [‹u = _›, show ((v : Int)).natAbs = v by omega, hM]
      exact (decide_eq_true (by omega)).symm
    · exact h u x e
  | false =>
    right
    intro u x e
    unfold put at e
    split at e
    · cases e
      rw [‹u = _›, show (-(v : Int)).natAbs = v by omega, hM]
      exact (decide_eq_false (by omega)).symm
    · exact h u x e
def before (n : Nat) (M M' : Mo) : Prop := ∃ v, (1 ≤ v ∧ v ≤ n) ∧ (∀ u, 1 ≤ u → u < v → M u = M' u) ∧ M v = true ∧ M' v = false
def Mb (b : As) : Mo := fun v => decide (b v ≠ some false)
theorem ext_Mb (b : As) : ext b (Mb b) := fun v x e => by
  unfold Mb
  rw [e]; cases x <;> rfl
def Rem (a : As) (L : List (Nat × As)) (M : Mo) : Prop := ext a M ∨ ∃ p ∈ L, ext (put p.2 (-(p.1 : Int))) M
inductive J (n : Nat) : As → List (Nat × As) → Prop
  | nil {a : As} : J n a []
  | cons {a A : As} {v : Nat} {L : List (Nat × As)} : Least n A v → le A a → a v = some true → J n A L → J n a ((v, A) :: L)
theorem J.mono {n : Nat} {a b : As} {L : List (Nat × As)} (h : J n a L) (hab : le a b) : J n b L := by
  cases h with
  | nil => exact .nil
  | cons h1 h2 h3 h4 => exact .cons h1 (h2.trans hab) (hab _ _ h3) h4
theorem put_at {a : As} {v : Nat} : put a (-(v : Int)) v = some (decide (0 < -(v : Int))) := by
  unfold put; rw [if_pos (by omega)]
theorem put_off {a : As} {l : Int} {u : Nat} (h : u ≠ l.natAbs) : put a l u = a u := by
  unfold put; rw [if_neg h]
theorem J.before {n : Nat} {a : As} {L : List (Nat × As)} {M : Mo} (h : J n a L) : Sat.ext a M → ∀ p ∈ L, ∀ M', Sat.ext (put p.2 (-(p.1 : Int))) M' → Sat.before n M M' := by
  induction h with
  | nil => intro _ p hp; cases hp
  | @cons a A v L h1 h2 h3 h4 ih =>
    intro ha p hp M' hM'
    rcases List.mem_cons.1 hp with rfl | hp
    · refine ⟨v, h1.1, fun u hu1 hu2 => ?_, ha v _ h3, ?_⟩
      · cases hA : A u with
        | none => exact absurd hA (h1.2.2 u hu1 hu2)
        | some x =>
          rw [ha u x (h2 u x hA), hM' u x (by dsimp only; rw [put_off (by omega)]; exact hA)]
      · have := hM' v _ put_at
        rw [this]; exact decide_eq_false (by omega)
    · exact ih (ext_le h2 ha) p hp M' hM'
theorem first_diff (f g : Nat → Bool) : ∀ n : Nat, (∀ v, 1 ≤ v → v ≤ n → f v = g v) ∨ ∃ v, (1 ≤ v ∧ v ≤ n) ∧ (∀ u, 1 ≤ u → u < v → f u = g u) ∧ f v ≠ g v
  | 0 => .inl fun v h1 h2 => by omega
  | n + 1 => by
    rcases first_diff f g n with h | ⟨v, h1, h2, h3⟩
    · by_cases e : f (n + 1) = g (n + 1)
      · refine .inl fun v h1 h2 => ?_
        by_cases e2 : v = n + 1
        · rw [e2]; exact e
        · exact h v h1 (by omega)
      · exact .inr ⟨n + 1, ⟨by omega, Nat.le_refl _⟩, fun u h1 h2 => h u h1 (by omega), e⟩
    · exact .inr ⟨v, ⟨h1.1, by omega⟩, h2, h3⟩
def FirstP (F : Fm) (n : Nat) (a : As) (L : List (Nat × As)) : Out → Prop
  | .sat b => satF F b ∧ ∀ M', Mod F M' → Rem a L M' → (∀ v, 1 ≤ v → v ≤ n → Mb b v = M' v) ∨ before n (Mb b) M'
  | .uns => ∀ M', Mod F M' → ¬ Rem a L M'
  | .unk => True
theorem FirstP.mono {F : Fm} {n : Nat} {a a' : As} {L L' : List (Nat × As)} {r : Out} (h : FirstP F n a L r) (hr : ∀ M, Mod F M → Rem a' L' M → Rem a L M) : FirstP F n a' L' r := by
  cases r with
  | unk => trivial
  | sat b => exact ⟨h.1, fun M hM hR => h.2 M hM (hr M hM hR)⟩
  | uns => exact fun M hM hR => h M hM (hr M hM hR)
theorem Reach.first {F : Fm} {n : Nat} (hF : okF n F) {bud : Int} {a : As} {L : List (Nat × As)} {k : Int} {r : Out} (h : Sat.Reach F n bud a L k r) : J n a L → FirstP F n a L r := by
  induction h with
  | uns h =>
    intro _ M hM hR
    rcases hR with hR | ⟨p, hp, _⟩
    · exact h.model_none hF hR hM
    · cases hp
  | @back a A L k v r h _ ih =>
    intro hJ
    cases hJ with
    | cons h1 h2 h3 h4 =>
      have hle : le A (put A (-(v : Int))) := le_put (by rw [lv_negv, h1.2.1]; rfl)
      refine (ih (h4.mono hle)).mono fun M hM hR => ?_
      rcases hR with hR | ⟨p, hp, hR⟩
      · exact (h.model_none hF hR hM).elim
      · rcases List.mem_cons.1 hp with rfl | hp
        · exact .inl hR
        · exact .inr ⟨p, hp, hR⟩
  | @sat a b L k h hs =>
    intro hJ
    refine ⟨hs, fun M hM hR => ?_⟩
    rcases hR with hR | ⟨p, hp, hR⟩
    · have hb := h.ext hF hR hM
      rcases first_diff (Mb b) M n with h1 | ⟨v, h1, h2, h3⟩
      · exact .inl h1
      · right
        refine ⟨v, h1, h2, ?_⟩
        cases hv : b v with
        | some x => exact absurd ((ext_Mb b v x hv).trans (hb v x hv).symm) h3
        | none =>
          have e : Mb b v = true := by unfold Mb; rw [hv]; rfl
          refine ⟨e, ?_⟩
          cases hM2 : M v with
          | false => rfl
          | true => rw [e, hM2] at h3; exact absurd rfl h3
    · exact .inr (hJ.before (ext_le h.1 (ext_Mb b)) p hp M hR)
  | unk => intro _; trivial
  | @dec a b L k v r h hs hk hv _ ih =>
    intro hJ
    have hle : le b (put b (v : Int)) := le_put (by rw [lv_pos _ hv.1.1]; exact hv.2.1)
    have hvv : put b (v : Int) v = some true := by
      unfold put
      rw [if_pos (by omega)]
      congr 1
      have := hv.1.1
      exact decide_eq_true (by omega)
    refine (ih (.cons hv hle hvv (hJ.mono h.1))).mono fun M hM hR => ?_
    rcases hR with hR | ⟨p, hp, hR⟩
    · rcases ext_put (v := v) (by have := hv.1.1; omega) (h.ext hF hR hM) with h1 | h1
      · exact .inl h1
      · exact .inr ⟨(v, b), by simp, h1⟩
    · exact .inr ⟨p, by simp [hp], hR⟩
theorem satF_Mod {n : Nat} {F : Fm} {b : As} (h : satF F b) : Mod F (Mb b) := fun c hc => by
  obtain ⟨l, h1, h2⟩ := h c hc
  exact ⟨l, h1, ext_lv (ext_Mb b) h2⟩
theorem Reach.satF {F : Fm} {n : Nat} {bud : Int} {a : As} {L : List (Nat × As)} {k : Int} {b : As} (h : Sat.Reach F n bud a L k (.sat b)) : Sat.satF F b := by
  generalize hr : Out.sat b = r at h
  induction h with
  | uns => cases hr
  | back _ _ ih => exact ih hr
  | sat _ h2 => cases hr; exact h2
  | unk => cases hr
  | dec _ _ _ _ _ ih => exact ih hr

/-! ### budgets -/
theorem Reach.more {F : Fm} {n : Nat} {x y : Int} (hxy : x ≤ y) {a : As} {L : List (Nat × As)} {k : Int} {r : Out} (h : Sat.Reach F n x a L k r) : r ≠ .unk → k ≤ x → Sat.Reach F n y a L k r := by
  induction h with
  | uns h => exact fun _ _ => .uns h
  | back h _ ih => exact fun h1 h2 => .back h (ih h1 h2)
  | sat h h2 => exact fun _ _ => .sat h h2
  | unk => exact fun h => absurd rfl h
  | dec h h2 h3 h4 _ ih => exact fun h5 h6 => .dec h h2 (by omega) h4 (ih h5 (by omega))
def pot (n : Nat) (a : As) (L : List (Nat × As)) : Nat := (2 ^ cnt n a - 1) + (L.map fun p => 2 ^ (cnt n p.2 - 1) - 1).sum
theorem Reach.known {F : Fm} {n : Nat} {bud : Int} {a : As} {L : List (Nat × As)} {k : Int} {r : Out} (h : Sat.Reach F n bud a L k r) : Sat.okS n L → k + pot n a L < bud → r ≠ .unk := by
  induction h with
  | uns => intro _ _ h; cases h
  | @back a A L k v r _ _ ih =>
    intro hS hp
    obtain ⟨⟨h1, h2⟩, h3⟩ := hS (v, A) (by simp)
    dsimp only at h1 h2 h3
    have hc := cnt_put (a := A) (n := n) (l := -(v : Int)) ⟨by omega, by omega, by omega⟩ (by rw [lv_negv, h3]; rfl)
    refine ih (fun p hp => hS p (by simp [hp])) ?_
    unfold pot at hp ⊢
    rw [List.map_cons, List.sum_cons] at hp
    dsimp only at hp
    rw [show cnt n (put A (-(v : Int))) = cnt n A - 1 by omega]
    omega
  | sat => intro _ _ h; cases h
  | @unk a b L k _ _ hk => intro _ hp; omega
  | @dec a b L k v r h _ _ hv _ ih =>
    intro hS hp
    obtain ⟨⟨h1, h2⟩, h3, _⟩ := hv
    have hc := cnt_put (a := b) (n := n) (l := (v : Int)) ⟨by omega, by omega, by omega⟩ (by rw [lv_pos _ h1]; exact h3)
    have hle := cnt_le h.1 n
    refine ih (fun p hp => ?_) ?_
    · rcases List.mem_cons.1 hp with rfl | hp
      · exact ⟨⟨h1, h2⟩, h3⟩
      · exact hS p hp
    · unfold pot at hp ⊢
      rw [List.map_cons, List.sum_cons]
      dsimp only
      rw [show cnt n (put b (v : Int)) = cnt n b - 1 by omega]
      have h4 : 2 ^ cnt n b ≤ 2 ^ cnt n a := Nat.pow_le_pow_right (by decide) hle
      have h5 : 2 ^ cnt n b = 2 ^ (cnt n b - 1) + 2 ^ (cnt n b - 1) := by
        obtain ⟨z, hz⟩ : ∃ z, cnt n b = z + 1 := ⟨cnt n b - 1, by omega⟩
        rw [hz, Nat.add_sub_cancel, Nat.pow_succ]; omega
      have h6 := Nat.one_le_two_pow (n := cnt n b - 1)
      omega

/-! ### models as rows -/
def moOf (xs : List Bool) : Mo := fun v => xs.getD (v - 1) false
theorem mt_ml (xs : List Bool) {l : Int} (h : l ≠ 0) : Sat.mt xs l = ml (moOf xs) l := by
  unfold Sat.mt ml moOf
  by_cases h0 : 0 < l
  · rw [if_neg (by omega), if_pos h0, show (l - 1).toNat = l.natAbs - 1 by omega]
  · rw [if_pos (by omega), if_neg h0, show (-l - 1).toNat = l.natAbs - 1 by omega]
theorem right_iff {n : Nat} {F : Fm} (hF : okF n F) (hc : check1 n F = 0) {xs : List Bool} (hl : xs.length = n) : rightB n F xs = true ↔ Mod F (moOf xs) := by
  unfold rightB Mod
  rw [decide_eq_true hc, decide_eq_true (by omega), Bool.true_and, Bool.true_and, List.all_eq_true]
  constructor
  · intro h c hcm
    obtain ⟨l, h1, h2⟩ := List.any_eq_true.1 (h c hcm)
    exact ⟨l, h1, by rw [← mt_ml _ (hF c hcm l h1).1]; exact h2⟩
  · intro h c hcm
    obtain ⟨l, h1, h2⟩ := h c hcm
    exact List.any_eq_true.2 ⟨l, h1, by rw [mt_ml _ (hF c hcm l h1).1]; exact h2⟩
theorem Mod_congr {n : Nat} {F : Fm} (hF : okF n F) {M M' : Mo} (h : ∀ v, 1 ≤ v → v ≤ n → M v = M' v) (hM : Mod F M) : Mod F M' := fun c hc => by
  obtain ⟨l, h1, h2⟩ := hM c hc
  refine ⟨l, h1, ?_⟩
  have hl := hF c hc l h1
  have : M l.natAbs = M' l.natAbs := h _ (by have := hl.1; omega) (by have := hl.2; omega)
  unfold ml at h2 ⊢
  rw [← this]; exact h2
theorem mods_at {n : Nat} (b : As) {v : Nat} (h1 : 1 ≤ v) (h2 : v ≤ n) : moOf (mods n b) v = Mb b v := by
  unfold moOf mods Mb
  rw [List.getD_eq_getElem?_getD, List.getElem?_map, List.getElem?_range (by omega)]
  simp only [Option.map_some, Option.getD_some]
  rw [show v - 1 + 1 = v by omega]
def val : List Bool → Nat
  | [] => 0
  | b :: xs => (if b then 0 else 2 ^ xs.length) + val xs
theorem val_lt : ∀ xs : List Bool, val xs < 2 ^ xs.length
  | [] => by decide
  | b :: xs => by
    have := val_lt xs
    simp only [val, List.length_cons, Nat.pow_succ]
    split <;> omega
theorem val_inj : ∀ xs ys : List Bool, xs.length = ys.length → val xs = val ys → xs = ys
  | [], [], _, _ => rfl
  | b :: xs, c :: ys, h, e => by
    have hl : xs.length = ys.length := by simpa using h
    have h1 := val_lt xs
    have h2 := val_lt ys
    simp only [val] at e
    rw [← hl] at e h2
    cases b <;> cases c <;> simp at e
    · rw [val_inj xs ys hl e]
    · omega
    · omega
    · rw [val_inj xs ys hl e]
theorem val_before : ∀ (xs ys : List Bool) (j : Nat), xs.length = ys.length → j < xs.length → (∀ i, i < j → xs.getD i false = ys.getD i false) → xs.getD j false = true → ys.getD j false = false → val xs < val ys
  | b :: xs, c :: ys, 0, h, _, _, h1, h2 => by
    have hl : xs.length = ys.length := by simpa using h
    have hb : b = true := by simpa using h1
    have hc : c = false := by simpa using h2
    subst hb; subst hc
    have := val_lt xs
    simp only [val]
    rw [hl] at this
    simp; omega
  | b :: xs, c :: ys, j + 1, h, hj, ha, h1, h2 => by
    have hl : xs.length = ys.length := by simpa using h
    have hbc : b = c := by simpa using ha 0 (by omega)
    subst hbc
    have := val_before xs ys j hl (by simpa using hj) (fun i hi => by simpa using ha (i + 1) (by omega)) (by simpa using h1) (by simpa using h2)
    simp only [val, hl]
    omega
theorem mlist_succ (n k : Nat) : mlist (n + 1) k = decide (k / 2 ^ n % 2 = 0) :: mlist n k := by
  unfold mlist
  rw [List.range_succ_eq_map, List.map_cons, List.map_map]
  congr 1
  refine List.map_congr_left fun i hi => ?_
  simp only [Function.comp]
  rw [show n + 1 - 1 - (i + 1) = n - 1 - i by omega]
theorem val_mlist : ∀ n k : Nat, val (mlist n k) = k % 2 ^ n
  | 0, k => by simp [mlist, val, Nat.mod_one]
  | n + 1, k => by
    rw [mlist_succ, val, mlist_len, val_mlist n k, Nat.mod_pow_succ]
    rcases Nat.mod_two_eq_zero_or_one (k / 2 ^ n) with h | h <;> simp [h] <;> omega
theorem mlist_val {n : Nat} {xs : List Bool} (h : xs.length = n) : mlist n (val xs) = xs := by
  refine val_inj _ _ (by rw [mlist_len, h]) ?_
  rw [val_mlist, Nat.mod_eq_of_lt (by rw [← h]; exact val_lt xs)]

theorem first_ok {n : Nat} {F : Fm} (hF : okF n F) (hc : check1 n F = 0) (hn : n ≤ 9) {r : Out} (h : Sat.Reach F n 512 (fun _ => none) [] 0 r) :
    r ≠ .unk ∧ (∀ k, k < 2 ^ n → (∀ j, j < k → rightB n F (mlist n j) = false) → rightB n F (mlist n k) = true → ∃ b, r = .sat b ∧ mods n b = mlist n k) ∧ ((∀ j, j < 2 ^ n → rightB n F (mlist n j) = false) → r = .uns) := by
  have h1 : r ≠ .unk := h.known (fun p hp => absurd hp List.not_mem_nil) (by
    unfold pot
    rw [cnt_none]
    have : 2 ^ n ≤ 2 ^ 9 := Nat.pow_le_pow_right (by decide) hn
    simp; omega)
  have h2 := h.first hF .nil
  have hsatm : ∀ b, r = .sat b → rightB n F (mlist n (val (mods n b))) = true ∧ val (mods n b) < 2 ^ n ∧ mlist n (val (mods n b)) = mods n b := fun b hb => by
    subst hb
    have e := mlist_val (mods_len n b)
    refine ⟨?_, by have := val_lt (mods n b); rwa [mods_len] at this, e⟩
    rw [e, right_iff hF hc (mods_len n b)]
    exact Mod_congr hF (fun v hv1 hv2 => (mods_at b hv1 hv2).symm) (satF_Mod (n := n) h2.1)
  refine ⟨h1, fun k hk hno hyes => ?_, fun hno => ?_⟩
  · have hM := (right_iff hF hc (mlist_len n k)).1 hyes
    cases r with
    | unk => exact absurd rfl h1
    | uns => exact absurd (.inl fun v x e => by cases e) (h2 _ hM)
    | sat b =>
      refine ⟨b, rfl, ?_⟩
      obtain ⟨k1, k2, k3⟩ := hsatm b rfl
      rcases h2.2 _ hM (.inl fun v x e => by cases e) with h3 | ⟨v, h3, h4, h5, h6⟩
      · refine List.ext_getElem (by rw [mods_len, mlist_len]) fun i hi1 hi2 => ?_
        rw [mods_len] at hi1
        have := h3 (i + 1) (by omega) (by omega)
        rw [← mods_at (n := n) b (by omega) (by omega)] at this
        unfold moOf at this
        rw [Nat.add_sub_cancel, List.getD_eq_getElem?_getD, List.getD_eq_getElem?_getD, List.getElem?_eq_getElem (by rw [mods_len]; exact hi1), List.getElem?_eq_getElem hi2] at this
        simpa using this
      · have hlt : val (mods n b) < val (mlist n k) := by
          refine val_before _ _ (v - 1) (by rw [mods_len, mlist_len]) (by rw [mods_len]; omega) (fun i hi => ?_) ?_ h6
          · have := h4 (i + 1) (by omega) (by omega)
            rw [← mods_at (n := n) b (by omega) (by omega)] at this
            unfold moOf at this
            rwa [Nat.add_sub_cancel] at this
          · rw [← mods_at b h3.1 h3.2] at h5
            exact h5
        rw [val_mlist, Nat.mod_eq_of_lt hk] at hlt
        have := hno _ hlt
        rw [k1] at this; cases this
  · cases r with
    | unk => exact absurd rfl h1
    | uns => rfl
    | sat b =>
      obtain ⟨k1, k2, _⟩ := hsatm b rfl
      rw [hno _ k2] at k1; cases k1

/-! ### what follows -/
theorem setF_ext {M : Mo} : ∀ (ls : List Int) (V : As) (T : List Int), (∀ l ∈ ls, l ≠ 0 ∧ ml M l = true) → ext V M → (setF V T ls).1 = true ∧ ext (setF V T ls).2.1 M
  | [], V, T, _, h => ⟨rfl, h⟩
  | l :: ls, V, T, hl, h => by
    rw [setF_cons]
    have hl0 := hl l (by simp)
    cases hv : lv V l with
    | none =>
      refine setF_ext ls _ _ (fun x hx => hl x (by simp [hx])) fun v x e => ?_
      unfold put at e
      split at e
      · cases e
        have := hl0.2
        unfold ml at this
        rw [‹v = _›]
        by_cases h0 : 0 < l
        · rw [if_pos h0] at this; rw [this, decide_eq_true h0]
        · rw [if_neg h0] at this; rw [decide_eq_false h0]; simpa using this
      · exact h v x e
    | some y => cases y with
      | true => exact setF_ext ls _ _ (fun x hx => hl x (by simp [hx])) h
      | false =>
        have := ext_lv h hv
        rw [hl0.2] at this; cases this
theorem follows_ok {n : Nat} {F : Fm} (hF : okF n F) {ls out : List Int} {ok : Bool} (h : UnS n F ls out ok 0) {xs : List Bool} (hr : rightB n F xs = true) (hh : holdsB xs ls = true) : ok = true ∧ holdsB xs out = true := by
  have hr' := hr
  unfold rightB at hr'
  simp only [Bool.and_eq_true, decide_eq_true_eq] at hr'
  obtain ⟨hc, hl, _⟩ := hr'
  have hl : xs.length = n := by omega
  have hM := (right_iff hF hc hl).1 hr
  have hls : ∀ l ∈ ls, l ≠ 0 ∧ ml (moOf xs) l = true := fun l hlm => by
    have := List.all_eq_true.1 hh l hlm
    simp only [Bool.and_eq_true] at this
    have hk := okB_okL this.1
    exact ⟨hk.1, by rw [← mt_ml _ hk.1]; exact this.2⟩
  rcases h with ⟨h1, _⟩ | ⟨_, _, _, _, h1⟩ | ⟨_, _, _, r, hur, rfl, rfl⟩
  · exact absurd hc h1
  · cases h1
  · obtain ⟨s1, s2⟩ := setF_ext (M := moOf xs) ls (fun _ => none) [] hls fun v x e => by cases e
    rcases hur with ⟨h1, _⟩ | ⟨_, hpr⟩
    · rw [s1] at h1; cases h1
    · cases r with
      | none => exact (hpr.model_none hF s2 hM).elim
      | some b =>
        have hb := hpr.ext hF s2 hM
        refine ⟨rfl, ?_⟩
        unfold holdsB
        rw [List.all_eq_true]
        intro l hlm
        have hk := ulits_ok b l hlm
        rw [Int.toNat_natCast] at hk
        rw [hl, okL_okB hk, Bool.true_and, mt_ml _ hk.1]
        have : lv b l = some true := by
          obtain ⟨i, hi, h⟩ := List.mem_flatMap.1 hlm
          unfold ulit at h
          split at h
          · rename_i e
            rw [List.mem_singleton.1 h]
            exact (lv_var b (v := i + 1) (by omega) true).2 e
          · rename_i e
            rw [List.mem_singleton.1 h]
            exact (lv_var b (v := i + 1) (by omega) false).2 e
          · cases h
        exact ext_lv hb this
end Go.Z.Sat
