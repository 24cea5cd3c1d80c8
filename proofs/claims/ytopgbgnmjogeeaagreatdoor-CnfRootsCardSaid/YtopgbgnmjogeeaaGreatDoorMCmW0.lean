/- Own texts, put together: W0 W1 W2 W3 W4 W5. Conditions: as told at each. -/
import Derived.Test.YtopgbgnmjogeeaaGreatDoorMCmV0
import Derived.Test.YtopgbgnmjogeeaaGreatDoorMCmA0
import Derived.Test.YtopgbgnmjogeeaaGreatDoorZj
import Derived.Test.YtopgbgnmjogeeaaGreatDoorMCmT0
import Derived.Test.YtopgbgnmjogeeaaGreatDoorMCmB0
/- Chapter 36, plain: the formula of a graph; its models are the values of the graph. No program in sight. Conditions: none. -/
namespace Go.Z.Tse
set_option maxRecDepth 8000
set_option linter.unusedVariables false
set_option linter.unusedSimpArgs false
set_option linter.unusedSectionVars false
open Go Go.Z Go.Z.Aig

def litF (l : Int) : Int := if l % 2 = 1 then -(l / 2) else l / 2
/-- what roots need -/
inductive Nd (S : St) (rs : List Int) : Nat → Prop
  | root {r : Int} : r ∈ rs → Nd S rs (r / 2).toNat
  | a {v : Nat} {x y : Int} : Nd S rs v → 0 < v → S[v]? = some (x, y, false) → Nd S rs (x / 2).toNat
  | b {v : Nat} {x y : Int} : Nd S rs v → 0 < v → S[v]? = some (x, y, false) → Nd S rs (y / 2).toNat
def gcls (S : St) (v : Nat) : List (List Int) :=
  match S[v]? with
  | some (x, y, false) => if v = 0 then [] else [[-(v : Int), litF x], [-(v : Int), litF y], [(v : Int), -litF x, -litF y]]
  | _ => []
def gates (S : St) (nd : Nat → Bool) (k : Nat) : List (List Int) := (List.range k).flatMap fun v => if nd v then gcls S v else []
def rcl (r : Int) : List (List Int) := if r = 0 then [[]] else if r = 1 then [] else [[litF r]]
def cnfF (S : St) (nd : Nat → Bool) (rs : List Int) : List (List Int) := gates S nd S.length ++ rs.flatMap rcl
theorem gates_succ (S : St) (nd : Nat → Bool) (k : Nat) : gates S nd (k + 1) = gates S nd k ++ if nd k then gcls S k else [] := by
  unfold gates; rw [List.range_succ, List.flatMap_append]; simp
theorem gcls_gate {S : St} {v : Nat} {x y : Int} (hv : 0 < v) (h : S[v]? = some (x, y, false)) : gcls S v = [[-(v : Int), litF x], [-(v : Int), litF y], [(v : Int), -litF x, -litF y]] := by
  unfold gcls; rw [h]; dsimp only; rw [if_neg (by omega)]
theorem gcls_other {S : St} {v : Nat} (h : v = 0 ∨ ∃ x y, S[v]? = some (x, y, true)) : gcls S v = [] := by
  rcases h with rfl | ⟨x, y, h⟩
  · unfold gcls; split <;> rfl
  · unfold gcls; rw [h]
theorem gcls_len (S : St) (v : Nat) : (gcls S v).length ≤ 3 := by
  unfold gcls; split
  · split <;> simp
  · simp
theorem gates_len (S : St) (nd : Nat → Bool) : ∀ k, (gates S nd k).length ≤ 3 * k
  | 0 => by simp [gates]
  | k + 1 => by
    rw [gates_succ, List.length_append]
    have h1 := gates_len S nd k
    have h2 := gcls_len S k
    split
    · omega
    · simp; omega

def mlit (M : Nat → Bool) (l : Int) : Bool := M (l / 2).toNat != decide (l % 2 = 1)
theorem ml_lit (M : Nat → Bool) {l : Int} (h : 2 ≤ l) : Sat.ml M (litF l) = mlit M l := by
  unfold Sat.ml litF mlit
  by_cases h1 : l % 2 = 1
  · rw [if_pos h1, if_neg (by omega), decide_eq_true h1, show (-(l / 2)).natAbs = (l / 2).toNat by omega]; simp
  · rw [if_neg h1, if_pos (by omega), decide_eq_false h1, show (l / 2).natAbs = (l / 2).toNat by omega]; simp
theorem litF_ne {l : Int} (h : 2 ≤ l) : litF l ≠ 0 := by unfold litF; split <;> omega
theorem litF_abs {l : Int} (h : 0 ≤ l) : (litF l).natAbs = (l / 2).toNat := by unfold litF; split <;> omega
theorem ml_nlit (M : Nat → Bool) {l : Int} (h : 2 ≤ l) : Sat.ml M (-litF l) = !mlit M l := by rw [Sat.ml_neg M (litF_ne h), ml_lit M h]
theorem ml_pos (M : Nat → Bool) {v : Nat} (h : 0 < v) : Sat.ml M (v : Int) = M v := by unfold Sat.ml; rw [if_pos (by omega)]; congr 1
theorem ml_negv (M : Nat → Bool) {v : Nat} (h : 0 < v) : Sat.ml M (-(v : Int)) = !M v := by rw [Sat.ml_neg M (by omega), ml_pos M h]

/-- the clauses of a gate -/
theorem gate_mod {S : St} (hw : WF S) {M : Nat → Bool} {v : Nat} {x y : Int} (hv : 0 < v) (h : S[v]? = some (x, y, false)) : Sat.Mod (gcls S v) M ↔ M v = (mlit M x && mlit M y) := by
  obtain ⟨h1, h2, h3⟩ := hw.gate v x y hv h
  rw [gcls_gate hv h]
  unfold Sat.Mod
  simp only [List.mem_cons, List.not_mem_nil, or_false, forall_eq_or_imp, forall_eq, exists_eq_or_imp, exists_eq_left]
  rw [ml_negv M hv, ml_pos M hv, ml_lit M (by omega), ml_lit M (by omega), ml_nlit M (by omega), ml_nlit M (by omega)]
  cases M v <;> cases mlit M x <;> cases mlit M y <;> simp
theorem mod_append {F G : List (List Int)} {M : Nat → Bool} : Sat.Mod (F ++ G) M ↔ Sat.Mod F M ∧ Sat.Mod G M := by
  unfold Sat.Mod
  simp only [List.mem_append, or_imp, forall_and]
theorem mod_flat {α : Type} {l : List α} {f : α → List (List Int)} {M : Nat → Bool} : Sat.Mod (l.flatMap f) M ↔ ∀ x ∈ l, Sat.Mod (f x) M := by
  unfold Sat.Mod
  simp only [List.mem_flatMap, forall_exists_index, and_imp]
  exact ⟨fun h x hx c hc => h c x hx hc, fun h c x hx hc => h x hx c hc⟩
theorem mod_root {r : Int} (h : 0 ≤ r) {M : Nat → Bool} : Sat.Mod (rcl r) M ↔ r = 1 ∨ 2 ≤ r ∧ mlit M r = true := by
  unfold rcl
  by_cases h0 : r = 0
  · subst h0
    simp [Sat.Mod]
  · rw [if_neg h0]
    by_cases h1 : r = 1
    · subst h1; simp [Sat.Mod]
    · rw [if_neg h1]
      unfold Sat.Mod
      simp only [List.mem_cons, List.not_mem_nil, or_false, forall_eq, exists_eq_left]
      rw [ml_lit M (by omega)]
      constructor
      · intro h; exact .inr ⟨by omega, h⟩
      · rintro (h | h)
        · exact absurd h h1
        · exact h.2
theorem litv_mlit (V : List Bool) (l : Int) : litv V l = mlit (fun v => V.getD v false) l := rfl

/-- values of a graph whose roots are true are a model -/
theorem vals_mod {S : St} (hw : WF S) (nd : Nat → Bool) {rs : List Int} (h0 : ∀ r ∈ rs, 0 ≤ r) (inp : List Bool) : Sat.Mod (cnfF S nd rs) (fun v => (vals S inp).getD v false) ↔ ∀ r ∈ rs, litv (vals S inp) r = true := by
  unfold cnfF
  rw [mod_append, mod_flat]
  have hg : Sat.Mod (gates S nd S.length) (fun v => (vals S inp).getD v false) := by
    unfold gates
    rw [mod_flat]
    intro v hv
    have hvl := List.mem_range.1 hv
    split
    · obtain ⟨⟨x, y, z⟩, hs⟩ : ∃ g, S[v]? = some g := ⟨_, List.getElem?_eq_getElem hvl⟩
      by_cases hv0 : v = 0
      · rw [gcls_other (.inl hv0)]; intro c hc; cases hc
      · cases z with
        | true => rw [gcls_other (.inr ⟨x, y, hs⟩)]; intro c hc; cases hc
        | false =>
          rw [gate_mod hw (by omega) hs]
          have := vals_gate hw (by omega) hs inp
          show (vals S inp).getD v false = _
          rw [List.getD_eq_getElem?_getD, this, litv_mlit, litv_mlit]; rfl
    · intro c hc; cases hc
  constructor
  · rintro ⟨_, h⟩ r hr
    rcases (mod_root (h0 r hr)).1 (h r hr) with rfl | ⟨_, h2⟩
    · unfold litv
      have := vals_zero hw inp
      rw [List.getD_eq_getElem?_getD, show ((1 : Int) / 2).toNat = 0 by decide, this]; rfl
    · exact h2
  · intro h
    refine ⟨hg, fun r hr => (mod_root (h0 r hr)).2 ?_⟩
    have h2 := h r hr
    by_cases e : r = 0
    · subst e
      unfold litv at h2
      rw [List.getD_eq_getElem?_getD, show ((0 : Int) / 2).toNat = 0 by decide, vals_zero hw inp] at h2
      cases h2
    · by_cases e1 : r = 1
      · exact .inl e1
      · exact .inr ⟨by have := h0 r hr; omega, h2⟩

/-- what a model says of the needed variables is what the graph computes from the model's inputs -/
theorem mod_vals {S : St} (hw : WF S) {nd : Nat → Bool} {rs : List Int} (hnd : ∀ v, nd v = true ↔ Nd S rs v) {M : Nat → Bool} (hM : Sat.Mod (cnfF S nd rs) M) {inp : List Bool}
    (hin : ∀ (v : Nat) x y, 0 < v → S[v]? = some (x, y, true) → inp.getD (rank S v) false = M v) : ∀ v : Nat, 0 < v → v < S.length → Nd S rs v → (vals S inp).getD v false = M v := by
  intro v
  induction v using Nat.strongRecOn with
  | ind v ih =>
    intro hv hl hn
    obtain ⟨⟨x, y, z⟩, hs⟩ : ∃ g, S[v]? = some g := ⟨_, List.getElem?_eq_getElem hl⟩
    cases z with
    | true =>
      rw [← hin v x y hv hs, List.getD_eq_getElem?_getD, vals_inp hw hv hs]; rfl
    | false =>
      obtain ⟨h1, h2, h3⟩ := hw.gate v x y hv hs
      have hmod : Sat.Mod (gcls S v) M := by
        unfold cnfF at hM
        have := (mod_flat.1 (mod_append.1 hM).1) v (List.mem_range.2 hl)
        rwa [if_pos ((hnd v).2 hn)] at this
      rw [(gate_mod hw hv hs).1 hmod, List.getD_eq_getElem?_getD, vals_gate hw hv hs, litv_mlit, litv_mlit]
      show (mlit _ x && mlit _ y) = _
      unfold mlit
      dsimp only
      rw [ih (x / 2).toNat (by omega) (by omega) (by omega) (.a hn hv hs), ih (y / 2).toNat (by omega) (by omega) (by omega) (.b hn hv hs)]
theorem mod_roots {S : St} (hw : WF S) {nd : Nat → Bool} {rs : List Int} (hnd : ∀ v, nd v = true ↔ Nd S rs v) (hr : ∀ r ∈ rs, Aig.has S r) {M : Nat → Bool} (hM : Sat.Mod (cnfF S nd rs) M) {inp : List Bool}
    (hin : ∀ (v : Nat) x y, 0 < v → S[v]? = some (x, y, true) → inp.getD (rank S v) false = M v) : ∀ r ∈ rs, litv (vals S inp) r = true := by
  intro r hrm
  have hh := hr r hrm
  have h0 : 0 ≤ r := hh.1
  have h1 := hh.2
  have hm : Sat.Mod (rcl r) M := by
    unfold cnfF at hM
    exact (mod_flat.1 (mod_append.1 hM).2) r hrm
  rcases (mod_root h0).1 hm with rfl | ⟨h2, h3⟩
  · unfold litv
    rw [List.getD_eq_getElem?_getD, show ((1 : Int) / 2).toNat = 0 by decide, vals_zero hw inp]; rfl
  · rw [litv_mlit]
    unfold mlit at h3 ⊢
    dsimp only
    rw [mod_vals hw hnd hM hin (r / 2).toNat (by omega) (by omega) (.root hrm)]
    exact h3
/-- the formula is one over the graph's variables -/
theorem cnfF_ok {S : St} (hw : WF S) (nd : Nat → Bool) {rs : List Int} (hr : ∀ r ∈ rs, Aig.has S r) : Sat.okF (S.length - 1) (cnfF S nd rs) := by
  have key : ∀ l : Int, 2 ≤ l → l < 2 * S.length → Sat.okL (S.length - 1) (litF l) ∧ Sat.okL (S.length - 1) (-litF l) := by
    intro l h1 h2
    unfold Sat.okL litF
    split <;> omega
  intro c hc l hl
  unfold cnfF at hc
  rcases List.mem_append.1 hc with hc | hc
  · unfold gates at hc
    obtain ⟨v, hv, hc⟩ := List.mem_flatMap.1 hc
    have hvl := List.mem_range.1 hv
    split at hc
    · obtain ⟨⟨x, y, z⟩, hs⟩ : ∃ g, S[v]? = some g := ⟨_, List.getElem?_eq_getElem hvl⟩
      by_cases hv0 : v = 0
      · rw [gcls_other (.inl hv0)] at hc; cases hc
      · cases z with
        | true => rw [gcls_other (.inr ⟨x, y, hs⟩)] at hc; cases hc
        | false =>
          obtain ⟨h1, h2, h3⟩ := hw.gate v x y (by omega) hs
          have hkv : Sat.okL (S.length - 1) (v : Int) ∧ Sat.okL (S.length - 1) (-(v : Int)) := by unfold Sat.okL; omega
          have hkx := key x (by omega) (by omega)
          have hky := key y (by omega) (by omega)
          rw [gcls_gate (by omega) hs] at hc
          simp only [List.mem_cons, List.not_mem_nil, or_false] at hc
          rcases hc with rfl | rfl | rfl <;> simp only [List.mem_cons, List.not_mem_nil, or_false] at hl <;> rcases hl with rfl | rfl | rfl <;> first | exact hkv.1 | exact hkv.2 | exact hkx.1 | exact hkx.2 | exact hky.1 | exact hky.2
    · cases hc
  · obtain ⟨r, hrm, hc⟩ := List.mem_flatMap.1 hc
    have hh := hr r hrm
    have h0 : 0 ≤ r := hh.1
    have h1 := hh.2
    unfold rcl at hc
    split at hc
    · obtain rfl := List.mem_singleton.1 hc; cases hl
    · split at hc
      · cases hc
      · obtain rfl := List.mem_singleton.1 hc
        obtain rfl := List.mem_singleton.1 hl
        exact (key r (by omega) (by omega)).1
end Go.Z.Tse
/- Chapter 36: literals, clauses, and what roots need. Conditions: none. -/
namespace Go.Z
set_option maxRecDepth 8000
set_option linter.unusedVariables false
set_option linter.unusedSimpArgs false
set_option linter.unusedSectionVars false
open Go
section
variable {P : Program} {M : Mx} {n : Nat} {L : Fr} {H H' : List Assn} {dd : Option Tmp} {ty t : TypeId} {ps : String} {af : Array Edge} {gd : Option (Nat × Bool)} {x y : Operand}
variable {α : Type} [DecidableEq α] {enc : α → Value} {kt et : TypeId} {b : Nat} {kn : List (α × Value)} {k : α} {ye : Ty}
theorem p_look1 [hmc : MapC P t kt et ye] (hk : KeyOk P kt enc) (h1 : ev L x = some (.map (some b))) (h2 : ev L y = some (enc k)) (hh : HasMap M H enc b kn) {u : Value} (hu : ((idx kn k 0).map (·.2)).getD ye.zero = u) :
    Pur P M n L H ⟨dd, .lookup t x y false, ty, ps, af, gd⟩ u := fun a w ha hm => by
  obtain ⟨yt, ht, hd⟩ := hmc.t
  have he := hmc.e
  obtain ⟨arr, clock, e1, e2⟩ := hh w hm
  have hf := run_find hk w k e1
  subst hu
  simp only [execOp, Instr.lookup, ha.ev h1, ha.ev h2, Sem.run_bind, ht.run_u, hd, Result.andThen_ok, run_getMap e2, hk.check, hf, Sem.run_pure]
  cases hi : idx kn k 0 with
  | none => simp [he.run_zero]
  | some p => simp
end
end Go.Z
namespace Go.Z.Tse
set_option maxRecDepth 8000
set_option linter.unusedVariables false
set_option linter.unusedSimpArgs false
set_option linter.unusedSectionVars false
open Go Go.Z Go.Z.Aig
def encQ (p : Int × Bool) : Value := .agg #[.int .i64 p.1, .bool p.2]
def encQc (p : Int × Bool) : List Value := [.int .i64 p.1, .bool p.2]
theorem encQc_len (p : Int × Bool) : (encQc p).length = 2 := rfl
def numL (p : Int × Bool) : Int := if p.2 then -p.1 else p.1
def knL (L : List Nat) : List ((Int × Bool) × Value) := L.map fun v : Nat => (((v : Int), false), Value.bool true)
theorem knL_snoc (L : List Nat) (v : Nat) : knL (L ++ [v]) = knL L ++ [(((v : Int), false), Value.bool true)] := by simp [knL]
theorem knL_idx (v : Nat) : ∀ (L : List Nat) (i : Nat), (v ∈ L → ∃ j, idx (knL L) ((v : Int), false) i = some (j, .bool true)) ∧ (v ∉ L → idx (knL L) ((v : Int), false) i = none)
  | [], i => ⟨fun h => absurd h List.not_mem_nil, fun _ => rfl⟩
  | u :: L, i => by
    have ih := knL_idx v L (i + 1)
    have e : knL (u :: L) = (((u : Int), false), Value.bool true) :: knL L := rfl
    rw [e]
    unfold idx
    by_cases h : u = v
    · subst h
      rw [if_pos rfl]
      exact ⟨fun _ => ⟨i, rfl⟩, fun h => absurd (by simp) h⟩
    · rw [if_neg (by simp; omega)]
      refine ⟨fun h2 => ih.1 ?_, fun h2 => ih.2 fun h3 => h2 (by simp [h3])⟩
      rcases List.mem_cons.1 h2 with rfl | h2
      · exact absurd rfl h
      · exact h2
theorem knL_get (L : List Nat) (v : Nat) : ((idx (knL L) ((v : Int), false) 0).map (·.2)).getD (.bool false) = .bool (decide (v ∈ L)) := by
  obtain ⟨h1, h2⟩ := knL_idx v L 0
  by_cases h : v ∈ L
  · obtain ⟨j, hj⟩ := h1 h
    rw [hj, decide_eq_true h]; rfl
  · rw [h2 h, decide_eq_false h]; rfl
def askF (L O : List Nat) (v : Nat) : List Nat × List Nat := if v ∈ L then (L, O) else (L ++ [v], O ++ [v])
theorem nodup_le : ∀ (n : Nat) (L : List Nat), L.Nodup → (∀ v ∈ L, v < n) → L.length ≤ n
  | 0, L, _, h => by
    cases L with
    | nil => simp
    | cons v L => exact absurd (h v (by simp)) (by omega)
  | n + 1, L, hn, h => by
    have h1 := nodup_le n (L.erase n) (hn.erase n) fun v hv => by
      have h2 := h v (List.mem_of_mem_erase hv)
      have h3 : v ≠ n := fun e => by subst e; exact (hn.mem_erase_iff.1 hv).1 rfl
      omega
    have h4 : L.length ≤ (L.erase n).length + 1 := by
      rw [List.length_erase]; split <;> omega
    omega
/-- the state of the search for what roots need; E is being looked at -/
structure NI (S : St) (rs : List Int) (E L O : List Nat) : Prop where
  nd : L.Nodup
  lt : ∀ v ∈ L, v < S.length ∧ Nd S rs v
  sub : ∀ v ∈ O, v ∈ L
  cl : ∀ v ∈ L, v ∈ O ∨ v ∈ E ∨ ∀ x y, 0 < v → S[v]? = some (x, y, false) → (x / 2).toNat ∈ L ∧ (y / 2).toNat ∈ L
  le : O.length ≤ L.length
theorem NI.len {S : St} {rs : List Int} {E L O : List Nat} (h : NI S rs E L O) : L.length ≤ S.length := nodup_le _ _ h.nd fun v hv => (h.lt v hv).1
theorem NI.ask {S : St} {rs : List Int} {E L O L' O' : List Nat} (h : NI S rs E L O) {v : Nat} (hv : v < S.length) (hn : Nd S rs v) (e : askF L O v = (L', O')) :
    NI S rs E L' O' ∧ v ∈ L' ∧ (∀ u ∈ L, u ∈ L') ∧ 2 * (S.length - L'.length) + O'.length ≤ 2 * (S.length - L.length) + O.length := by
  unfold askF at e
  split at e
  · rename_i hm
    cases e
    exact ⟨h, hm, fun _ h => h, Nat.le_refl _⟩
  · rename_i hm
    cases e
    have hN : NI S rs E (L ++ [v]) (O ++ [v]) := by
      refine ⟨?_, ?_, ?_, ?_, ?_⟩
      · rw [List.nodup_append]
        exact ⟨h.nd, by simp, fun a ha b hb => by obtain rfl := List.mem_singleton.1 hb; exact fun e => hm (e ▸ ha)⟩
      · intro u hu
        rcases List.mem_append.1 hu with hu | hu
        · exact h.lt u hu
        · obtain rfl := List.mem_singleton.1 hu; exact ⟨hv, hn⟩
      · intro u hu
        rcases List.mem_append.1 hu with hu | hu
        · exact List.mem_append_left _ (h.sub u hu)
        · exact List.mem_append_right _ hu
      · intro u hu
        rcases List.mem_append.1 hu with hu | hu
        · rcases h.cl u hu with h1 | h1 | h1
          · exact .inl (List.mem_append_left _ h1)
          · exact .inr (.inl h1)
          · exact .inr (.inr fun x y h2 h3 => ⟨List.mem_append_left _ (h1 x y h2 h3).1, List.mem_append_left _ (h1 x y h2 h3).2⟩)
        · exact .inl (List.mem_append_right _ hu)
      · have := h.le; simp; omega
    have := hN.len
    refine ⟨hN, by simp, fun u hu => List.mem_append_left _ hu, ?_⟩
    rw [List.length_append, List.length_append, List.length_singleton] at *
    omega
theorem NI.pop {S : St} {rs : List Int} {L O : List Nat} {v : Nat} (h : NI S rs [] L (O ++ [v])) : NI S rs [v] L O := by
  refine ⟨h.nd, h.lt, fun u hu => h.sub u (by simp [hu]), fun u hu => ?_, by have := h.le; simp at this; omega⟩
  rcases h.cl u hu with h1 | h1 | h1
  · rcases List.mem_append.1 h1 with h1 | h1
    · exact .inl h1
    · exact .inr (.inl h1)
  · cases h1
  · exact .inr (.inr h1)
theorem NI.done {S : St} {rs : List Int} {L O : List Nat} {v : Nat} (h : NI S rs [v] L O) (hc : ∀ x y, 0 < v → S[v]? = some (x, y, false) → (x / 2).toNat ∈ L ∧ (y / 2).toNat ∈ L) : NI S rs [] L O := by
  refine ⟨h.nd, h.lt, h.sub, fun u hu => ?_, h.le⟩
  rcases h.cl u hu with h1 | h1 | h1
  · exact .inl h1
  · obtain rfl := List.mem_singleton.1 h1
    exact .inr (.inr hc)
  · exact .inr (.inr h1)
theorem NI.all {S : St} {rs : List Int} {L : List Nat} (h : NI S rs [] L []) (hr : ∀ r ∈ rs, (r / 2).toNat ∈ L) (v : Nat) : decide (v ∈ L) = true ↔ Nd S rs v := by
  rw [decide_eq_true_iff]
  refine ⟨fun hv => (h.lt v hv).2, fun hv => ?_⟩
  have key : ∀ u ∈ L, ∀ x y, 0 < u → S[u]? = some (x, y, false) → (x / 2).toNat ∈ L ∧ (y / 2).toNat ∈ L := fun u hu => by
    rcases h.cl u hu with h1 | h1 | h1
    · cases h1
    · cases h1
    · exact h1
  induction hv with
  | root h => exact hr _ h
  | a _ h1 h2 ih => exact (key _ ih _ _ h1 h2).1
  | b _ h1 h2 ih => exact (key _ ih _ _ h1 h2).2
end Go.Z.Tse
namespace Go.Proofs.YtopgbgnmjogeeaaGreatDoor
set_option maxRecDepth 8000
set_option linter.unusedVariables false
set_option linter.unusedSimpArgs false
set_option linter.unusedSectionVars false
open Go Go.Z Go.Z.Aig Go.Z.Tse

theorem eqLit (d : Nat) (a c : Int) (b e : Bool) (w : World) : (Op.equalIn (d + 2) 78 (.agg #[.int .i64 a, .bool b]) (.agg #[.int .i64 c, .bool e])).run Tryz.prog w = .ok (decide (a = c) && decide (b = e)) w := by
  have hf : Tryz.prog.fieldsOf 78 = match Tryz.t77.desc with | .struct fs => fs | _ => #[] := by kernel_rfl
  have hg : ∀ w, (isAgg 3).run Tryz.prog w = .ok false w := fun w => TyC.run_agg (ty3) w
  have hg2 : ∀ w, (isAgg 4).run Tryz.prog w = .ok false w := fun w => TyC.run_agg (ty4) w
  rw [run_equalIn_agg w (d + 1) _ _ _ (by kernel_rfl) (by kernel_rfl), hf]
  have hu : Tryz.prog.underlying 3 = some (.int .i64) := Tryz.underlying3
  have hu2 : Tryz.prog.underlying 4 = some .bool := Tryz.underlying4
  simp only [Tryz.t77, Op.eqFields, part, Sem.run_bind, hg, hg2, Result.andThen_ok]
  by_cases h1 : a = c <;> cases b <;> cases e <;> simp [run_equalIn_int, run_equalIn_bool, hu, hu2, hg, hg2, h1]
theorem keyLit : KeyOk Tryz.prog 78 encQ where
  check := fun w em a => by
    have hu : Tryz.prog.underlying 78 = some Tryz.t77.desc := Tryz.underlying78
    have hi : Tryz.prog.underlying 3 = some (.int .i64) := Tryz.underlying3
    have hi2 : Tryz.prog.underlying 4 = some .bool := Tryz.underlying4
    have hg : ∀ w, (isAgg 3).run Tryz.prog w = .ok false w := fun w => TyC.run_agg (ty3) w
    have hg2 : ∀ w, (isAgg 4).run Tryz.prog w = .ok false w := fun w => TyC.run_agg (ty4) w
    have hl2 : ∀ (m : Nat) (i : Int) w, (Instr.checkKey em (m + 1) 3 (.int .i64 i)).run Tryz.prog w = .ok () w := fun m i w => by
      simp [Instr.checkKey, underlying, hi]
    have hl3 : ∀ (m : Nat) (i : Bool) w, (Instr.checkKey em (m + 1) 4 (.bool i)).run Tryz.prog w = .ok () w := fun m i w => by
      simp [Instr.checkKey, underlying, hi2]
    show (Instr.checkKey em (9998 + 1 + 1) 78 (encQ a)).run Tryz.prog w = .ok () w
    unfold Instr.checkKey
    simp [underlying, hu, Tryz.t77, encQ, part, hg, hg2, hl2, hl3]
  eq := fun w a b => by
    show (Op.equalIn (9998 + 2) _ _ _).run _ _ = _
    unfold encQ
    rw [eqLit]
    congr 1
    by_cases h1 : a.1 = b.1 <;> by_cases h2 : a.2 = b.2 <;> simp [h1, h2, Prod.ext_iff]
  now := ⟨_, Tryz.underlying78, fun a b => rfl⟩

theorem lnum_ok {ρ : Nat → Obj → Prop} (p : Int × Bool) (hp : 0 ≤ p.1 ∧ p.1 ≤ 1000000) : Con Tryz.prog ρ 63 #[.agg #[.int .i64 p.1, .bool p.2]] [] (fun v H => v = .int .i64 (numL p) ∧ H = []) := by
  obtain ⟨a, s⟩ := p
  dsimp only at hp ⊢
  refine con_intro Tryz.func63 Tryz.call63 rfl Tryz.ntmps63 rfl (L := [(0, _)]) rfl fun w hh => ?_
  refine g_seq ?_
  refine g_region ?_
  refine g_eff (e_box rfl (by rfl)) rfl (fun _ _ => ?_)
  rintro ⟨b1, rfl, rfl⟩
  refine g_pure (p_assign rfl) rfl ?_
  refine g_nil ?_
  refine g_qt ?_
  refine g_seq ?_
  refine g_seq ?_
  refine g_region ?_
  refine g_pure (p_fieldAddr rfl) rfl ?_
  refine g_pure (p_load (by rfl) rfl (by first | (apply Has.own; (repeat' (first | exact Take.here | apply Take.there)); done) | exact Has.ro (by assumption)) (by first | rfl | assumption)) rfl ?_
  refine g_nil ?_
  refine g_qt ?_
  refine g_if rfl (fun h => ?_) (fun h => ?_)
  · subst h
    refine g_seq ?_
    refine g_region ?_
    refine g_pure (p_fieldAddr rfl) rfl ?_
    refine g_pure (p_load (by rfl) rfl (by first | (apply Has.own; (repeat' (first | exact Take.here | apply Take.there)); done) | exact Has.ro (by assumption)) (by first | rfl | assumption)) rfl ?_
    first | refine g_pure (p_negi rfl (by omega)) rfl ?_ | refine g_pure (p_neg rfl) rfl ?_
    refine g_pure (p_assign rfl) rfl ?_
    refine g_nil ?_
    refine g_qt ?_
    refine g_ret ?_
    refine g_qt_ret ?_
    exact g_post (Ho := []) (rs := [.tmp 2]) rfl (.tmp rfl .nil) ⟨rfl, rfl⟩ (by repeat' (first | exact Cover.nil | exact Take.here | apply Cover.cons | apply Take.there))
  · subst h
    refine g_skip ?_
    refine g_qt ?_
    refine g_seq ?_
    refine g_region ?_
    refine g_pure (p_fieldAddr rfl) rfl ?_
    refine g_pure (p_load (by rfl) rfl (by first | (apply Has.own; (repeat' (first | exact Take.here | apply Take.there)); done) | exact Has.ro (by assumption)) (by first | rfl | assumption)) rfl ?_
    refine g_pure (p_assign rfl) rfl ?_
    refine g_nil ?_
    refine g_qt ?_
    refine g_ret ?_
    exact g_post (Ho := []) (rs := [.tmp 2]) rfl (.tmp rfl .nil) ⟨rfl, rfl⟩ (by repeat' (first | exact Cover.nil | exact Take.here | apply Cover.cons | apply Take.there))
theorem lnot_ok {ρ : Nat → Obj → Prop} (p : Int × Bool) : Con Tryz.prog ρ 38 #[.agg #[.int .i64 p.1, .bool p.2]] [] (fun v H => v = .agg #[.int .i64 p.1, .bool (!p.2)] ∧ H = []) := by
  refine con_intro Tryz.func38 Tryz.call38 rfl Tryz.ntmps38 rfl (L := [(0, _)]) rfl fun w hh => ?_
  refine g_seq ?_
  refine g_region ?_
  refine g_eff (e_box rfl (by rfl)) rfl (fun _ _ => ?_)
  rintro ⟨b1, rfl, rfl⟩
  refine g_eff (e_alloc (by rfl)) rfl (fun _ _ => ?_)
  rintro ⟨b2, rfl, rfl⟩
  refine g_nil ?_
  refine g_qt ?_
  refine g_seq ?_
  refine g_region ?_
  refine g_pure (p_fieldAddr rfl) rfl ?_
  refine g_pure (p_load (by rfl) rfl (by first | (apply Has.own; (repeat' (first | exact Take.here | apply Take.there)); done) | exact Has.ro (by assumption)) (by first | rfl | assumption)) rfl ?_
  refine g_pure (p_fieldAddr rfl) rfl ?_
  refine g_pure (p_load (by rfl) rfl (by first | (apply Has.own; (repeat' (first | exact Take.here | apply Take.there)); done) | exact Has.ro (by assumption)) (by first | rfl | assumption)) rfl ?_
  refine g_pure (p_not rfl) rfl ?_
  refine g_pure (p_build (by rfl) rfl (by rfl)) rfl ?_
  first | refine g_eff0 (e_storeO rfl rfl (by rfl) (by rfl) (by rfl) (by repeat' (first | exact Take.here | apply Take.there)) (by rfl)) (fun _ _ => ?_) | refine g_eff0 (e_storeN rfl rfl (by rfl) (by rfl) (by rfl) (by repeat' (first | exact Take.here | apply Take.there)) (by simp)) (fun _ _ => ?_)
  rintro rfl
  refine g_nil ?_
  refine g_qt ?_
  refine g_ret ?_
  exact g_post (Ho := []) (rs := [.cell 2 78]) rfl (Res.cellN (by rfl) rfl (Has.own (by repeat' (first | exact Take.here | apply Take.there))) (by rfl) .nil) ⟨rfl, rfl⟩ (by repeat' (first | exact Cover.nil | exact Take.here | apply Cover.cons | apply Take.there))
theorem lof_ok {ρ : Nat → Obj → Prop} (l : Int) (hl : 0 ≤ l ∧ l ≤ 1000000) : Con Tryz.prog ρ 39 #[.int .i64 l] [] (fun v H => v = .agg #[.int .i64 (l / 2), .bool (decide (l % 2 = 1))] ∧ H = []) := by
  refine con_intro Tryz.func39 Tryz.call39 rfl Tryz.ntmps39 rfl (L := [(0, _)]) rfl fun w hh => ?_
  refine g_seq ?_
  refine g_region ?_
  refine g_eff (e_alloc (by rfl)) rfl (fun _ _ => ?_)
  rintro ⟨b2, rfl, rfl⟩
  refine g_nil ?_
  refine g_qt ?_
  refine g_seq ?_
  refine g_region ?_
  refine g_pure (p_move rfl) rfl ?_
  first | refine g_pure (p_quon rfl rfl (by omega) (by omega)) rfl ?_ | refine g_pure (p_quoi rfl rfl (by omega) (by omega)) rfl ?_ | refine g_pure (p_quo rfl rfl (by omega)) rfl ?_
  refine g_pure (p_move rfl) rfl ?_
  first | refine g_pure (p_remn rfl rfl (by omega) (by omega)) rfl ?_ | refine g_pure (p_rem rfl rfl (by omega)) rfl ?_
  refine g_pure (p_eql rfl rfl) rfl ?_
  refine g_pure (p_build (by rfl) rfl (by rfl)) rfl ?_
  first | refine g_eff0 (e_storeO rfl rfl (by rfl) (by rfl) (by rfl) (by repeat' (first | exact Take.here | apply Take.there)) (by rfl)) (fun _ _ => ?_) | refine g_eff0 (e_storeN rfl rfl (by rfl) (by rfl) (by rfl) (by repeat' (first | exact Take.here | apply Take.there)) (by simp)) (fun _ _ => ?_)
  rintro rfl
  refine g_nil ?_
  refine g_qt ?_
  refine g_ret ?_
  exact g_post (Ho := []) (rs := [.cell 2 78]) rfl (Res.cellN (by rfl) rfl (Has.own (by repeat' (first | exact Take.here | apply Take.there))) (by rfl) .nil) ⟨rfl, rfl⟩ (by repeat' (first | exact Cover.nil | exact Take.here | apply Cover.cons | apply Take.there))
theorem clause_ok' {ρ : Nat → Obj → Prop} (al : Option Addr) (cl : Nat) (ls : List (Int × Bool)) (hl : RSl ρ 2 al ls.length (ls.flatMap encQc)) (hlen : ls.length ≤ 1000000) (hb : ∀ p ∈ ls, 0 ≤ p.1 ∧ p.1 ≤ 1000000) :
    Con Tryz.prog ρ 37 #[.slice al ls.length cl] [] (fun v H => ∃ a c, v = .slice a (ls.map numL).length c ∧ H = [OwnSl 3 1 a (ls.map numL).length c ((ls.map numL).map encI)]) := by
  obtain ⟨b, off, cs, T, fz, hr⟩ := RSl.row encQc_len hl
  refine con_intro Tryz.func37 Tryz.call37 rfl Tryz.ntmps37 rfl (L := [(0, _)]) rfl fun w hh => ?_
  refine g_seq ?_
  refine g_region ?_
  refine g_pure (p_assign rfl) rfl ?_
  refine g_nil ?_
  refine g_qt ?_
  refine g_seq ?_
  refine g_region ?_
  refine g_pure (p_assign rfl) rfl ?_
  refine g_nil ?_
  refine g_qt ?_
  refine g_seq ?_
  refine g_seq ?_
  refine g_region ?_
  refine g_pure (p_move rfl) rfl ?_
  refine g_pure (p_len (by rfl) rfl) rfl ?_
  refine g_pure (p_move rfl) rfl ?_
  refine g_nil ?_
  refine g_qt ?_
  refine g_block ?_
  refine g_ownnil (e := 3) (size := 1) ?_
  refine g_loop (fun q : Nat × Option Addr × Nat => [(3, .slice q.2.1 q.1 q.2.2), (6, .slice al ls.length cl), (7, .int .i64 ls.length), (8, .int .i64 q.1)])
    (fun q => [OwnSl 3 1 q.2.1 q.1 q.2.2 (((ls.take q.1).map numL).map encI)]) (fun q => q.1 ≤ ls.length) (fun q => ls.length - q.1) (0, none, 0) (Nat.zero_le _) (by (repeat (first | exact trivial | refine ⟨by rfl, ?_⟩)); done) (by repeat' (first | exact Cover.nil | exact Take.here | apply Cover.cons | apply Take.there)) ?_
  rintro ⟨i, oa, oc⟩ hi
  dsimp only at hi ⊢
  refine g_seq ?_
  refine g_region ?_
  refine g_pure (p_lss rfl rfl) rfl ?_
  refine g_nil ?_
  refine g_qt ?_
  refine g_seq ?_
  refine g_ifd rfl (fun q => ?_) (fun q => ?_)
  · have hil : i < ls.length := by omega
    obtain ⟨r1, r2, r4⟩ := hr (by omega)
    obtain ⟨p, hp⟩ : ∃ p, ls[i] = p := ⟨_, rfl⟩
    have r3 : sub cs (off + (i : Int).toNat * 2) 2 = some [.int .i64 p.1, .bool p.2] := by rw [← hp]; exact (r4 i hil).1 (by decide)
    have hbp := hb p (by rw [← hp]; exact List.getElem_mem hil)
    have e3 : ((ls.take (i + 1)).map numL).map encI = ((ls.take i).map numL).map encI ++ [.int .i64 (numL p)] := by
      rw [List.take_add_one, List.getElem?_eq_getElem hil, hp]; simp [encI]
    refine g_skip ?_
    refine g_qt ?_
    refine g_seq ?_
    refine g_block ?_
    refine g_seq ?_
    refine g_region ?_
    refine g_pure (p_indexAddr rfl rfl (by omega) (fun _ => r1)) rfl ?_
    refine g_pure (p_loadN (by rfl) rfl (Has.ro r2) r3) rfl ?_
    refine g_eff (e_alloc (by rfl)) rfl (fun _ _ => ?_)
    rintro ⟨b5, rfl, rfl⟩
    first | refine g_eff0 (e_storeO rfl rfl (by rfl) (by rfl) (by rfl) (by repeat' (first | exact Take.here | apply Take.there)) (by rfl)) (fun _ _ => ?_) | refine g_eff0 (e_storeN rfl rfl (by rfl) (by rfl) (by rfl) (by repeat' (first | exact Take.here | apply Take.there)) (by simp)) (fun _ _ => ?_)
    rintro rfl
    refine g_nil ?_
    refine g_qt ?_
    refine g_region ?_
    refine g_pure (p_move rfl) rfl ?_
    first | refine g_pure (p_loadO (by rfl) rfl (by first | (apply Has.own; (repeat' (first | exact Take.here | apply Take.there)); done) | exact Has.ro (by assumption)) (by rfl)) rfl ?_ | refine g_pure (p_loadN (by rfl) rfl (by first | (apply Has.own; (repeat' (first | exact Take.here | apply Take.there)); done) | exact Has.ro (by assumption)) (by first | rfl | assumption)) rfl ?_
    refine g_call (Hin := []) (Hr := ?hr1) (R := ?rr1) rfl rfl rfl ?hin1 ?hc1 ?hk1
    case hin1 => repeat' (first | exact Cover.nil | exact Take.here | apply Cover.cons | apply Take.there)
    case hc1 => intro ρ' hρ hR; exact lnum_ok p hbp
    rintro _ _ ⟨rfl, rfl⟩
    refine g_eff (e_bs (xs := [.tmp 14]) rfl rfl rfl (by rfl) (by rfl) rfl (by rfl)) rfl (fun _ _ => ?_)
    rintro ⟨b15, rfl, rfl⟩
    refine g_eff (e_appendO (by rfl) (by rfl) rfl rfl (by first | (apply Has.own; (repeat' (first | exact Take.here | apply Take.there)); done) | exact Has.ro (by assumption)) (by rfl) (by rfl) (by repeat' (first | exact Take.here | apply Take.there)) (by omega) (by first | omega | (dsimp only; omega) | (simp <;> omega)) (by omega)) rfl (fun _ _ => ?_)
    rintro ⟨a16, c16, rfl, rfl⟩
    refine g_pure (p_assign rfl) rfl ?_
    refine g_nil ?_
    refine g_qb ?_
    refine g_qt ?_
    refine g_region ?_
    first | refine g_pure (p_addi rfl rfl (by omega)) rfl ?_ | refine g_pure (p_add rfl rfl) rfl ?_
    refine g_pure (p_move rfl) rfl ?_
    refine g_nil ?_
    refine g_qn ?_
    rw [← e3]
    exact g_next (i + 1, a16, c16) (by (repeat (first | exact trivial | refine ⟨by rfl, ?_⟩)); done) (by repeat' (first | exact Cover.nil | exact Take.here | apply Cover.cons | apply Take.there)) (by dsimp only; omega) (by dsimp only; omega)
  · have hie : i = ls.length := by omega
    subst hie
    refine g_exit ?_
    refine g_qt_exit ?_
    refine g_qn_exit ?_
    refine g_qb_exit ?_
    refine g_qt ?_
    refine g_seq ?_
    refine g_region ?_
    refine g_pure (p_move rfl) rfl ?_
    refine g_pure (p_assign rfl) rfl ?_
    refine g_nil ?_
    refine g_qt ?_
    refine g_ret ?_
    rw [List.take_length]
    exact g_post (Ho := [OwnSl 3 1 oa ls.length oc ((ls.map numL).map encI)]) (rs := [.tmp 2]) rfl (.tmp rfl .nil) ⟨oa, oc, by rw [List.length_map]; rfl, by rw [List.length_map]⟩ (by repeat' (first | exact Cover.nil | exact Take.here | apply Cover.cons | apply Take.there))
theorem nask_ok {ρ : Nat → Obj → Prop} (b5 b6 mb : Nat) (oa : Option Addr) (oc : Nat) (L O : List Nat) (l : Int) (hl : 0 ≤ l ∧ l ≤ 1000000) (hO : O.length ≤ 1000000) :
    Con Tryz.prog ρ 62 #[.int .i64 l, .pointer (some ⟨b5, 0, none⟩), .pointer (some ⟨b6, 0, none⟩)]
      [Blk b5 (.cells [.map (some mb)].toArray 73 (0, 0)), Blk b6 (.cells [.slice oa O.length oc].toArray 23 (0, 0)), OwnSl 3 1 oa O.length oc (O.map fun v : Nat => encI v), MapB encQ mb (knL L)]
      (fun v H => v = .tuple #[] ∧ ∃ L' O' oa' oc', askF L O (l / 2).toNat = (L', O') ∧ H = [Blk b5 (.cells [.map (some mb)].toArray 73 (0, 0)), Blk b6 (.cells [.slice oa' O'.length oc'].toArray 23 (0, 0)), OwnSl 3 1 oa' O'.length oc' (O'.map fun v : Nat => encI v), MapB encQ mb (knL L')]) := by
  obtain ⟨v, hv⟩ : ∃ v : Nat, l / 2 = v := ⟨(l / 2).toNat, by omega⟩
  have hlook := knL_get L v
  rw [hv, Int.toNat_natCast]
  refine con_intro Tryz.func62 Tryz.call62 rfl Tryz.ntmps62 rfl (L := [(0, _), (1, _), (2, _)]) rfl fun w hh => ?_
  refine g_seq ?_
  refine g_region ?_
  refine g_pure (p_move rfl) rfl ?_
  first | refine g_pure (p_quon rfl rfl (by omega) (by omega)) rfl ?_ | refine g_pure (p_quoi rfl rfl (by omega) (by omega)) rfl ?_ | refine g_pure (p_quo rfl rfl (by omega)) rfl ?_
  refine g_pure (p_build (by rfl) rfl (by rfl)) rfl ?_
  refine g_eff (e_alloc (by rfl)) rfl (fun _ _ => ?_)
  rintro ⟨b4, rfl, rfl⟩
  first | refine g_eff0 (e_storeO rfl rfl (by rfl) (by rfl) (by rfl) (by repeat' (first | exact Take.here | apply Take.there)) (by rfl)) (fun _ _ => ?_) | refine g_eff0 (e_storeN rfl rfl (by rfl) (by rfl) (by rfl) (by repeat' (first | exact Take.here | apply Take.there)) (by simp)) (fun _ _ => ?_)
  rintro rfl
  refine g_nil ?_
  refine g_qt ?_
  refine g_seq ?_
  refine g_region ?_
  refine g_pure (p_load (by rfl) rfl (by first | (apply Has.own; (repeat' (first | exact Take.here | apply Take.there)); done) | exact Has.ro (by assumption)) (by first | rfl | assumption)) rfl ?_
  first | refine g_pure (p_loadO (by rfl) rfl (by first | (apply Has.own; (repeat' (first | exact Take.here | apply Take.there)); done) | exact Has.ro (by assumption)) (by rfl)) rfl ?_ | refine g_pure (p_loadN (by rfl) rfl (by first | (apply Has.own; (repeat' (first | exact Take.here | apply Take.there)); done) | exact Has.ro (by assumption)) (by first | rfl | assumption)) rfl ?_
  refine g_pure (p_look1 (k := ((v : Int), false)) keyLit rfl (by rw [← hv]; rfl) (HasMap.own (by repeat' (first | exact Take.here | apply Take.there))) hlook) rfl ?_
  refine g_pure (p_not rfl) rfl ?_
  refine g_nil ?_
  refine g_qt ?_
  refine g_ifnd rfl (fun h => ?_) (fun h => ?_)
  · have hk := (knL_idx v L 0).2 h
    refine g_seq ?_
    refine g_region ?_
    refine g_pure (p_load (by rfl) rfl (by first | (apply Has.own; (repeat' (first | exact Take.here | apply Take.there)); done) | exact Has.ro (by assumption)) (by first | rfl | assumption)) rfl ?_
    first | refine g_pure (p_loadO (by rfl) rfl (by first | (apply Has.own; (repeat' (first | exact Take.here | apply Take.there)); done) | exact Has.ro (by assumption)) (by rfl)) rfl ?_ | refine g_pure (p_loadN (by rfl) rfl (by first | (apply Has.own; (repeat' (first | exact Take.here | apply Take.there)); done) | exact Has.ro (by assumption)) (by first | rfl | assumption)) rfl ?_
    refine g_eff0 (e_mapNew (k := ((v : Int), false)) keyLit rfl (by rw [← hv]; rfl) rfl (by repeat' (first | exact Take.here | apply Take.there)) hk) (fun _ _ => ?_)
    rintro rfl
    refine g_nil ?_
    refine g_qt ?_
    refine g_region ?_
    refine g_pure (p_load (by rfl) rfl (by first | (apply Has.own; (repeat' (first | exact Take.here | apply Take.there)); done) | exact Has.ro (by assumption)) (by first | rfl | assumption)) rfl ?_
    refine g_pure (p_fieldAddr rfl) rfl ?_
    refine g_pure (p_load (by rfl) rfl (by first | (apply Has.own; (repeat' (first | exact Take.here | apply Take.there)); done) | exact Has.ro (by assumption)) (by first | rfl | assumption)) rfl ?_
    refine g_eff (e_bs (xs := [.tmp 16]) rfl rfl rfl (by rfl) (by rfl) rfl (by rfl)) rfl (fun _ _ => ?_)
    rintro ⟨b17, rfl, rfl⟩
    refine g_eff (e_appendO (by rfl) (by rfl) rfl rfl (by first | (apply Has.own; (repeat' (first | exact Take.here | apply Take.there)); done) | exact Has.ro (by assumption)) (by rfl) (by rfl) (by repeat' (first | exact Take.here | apply Take.there)) (by omega) (by first | omega | (dsimp only; omega) | (simp <;> omega)) (by omega)) rfl (fun _ _ => ?_)
    rintro ⟨a18, c18, rfl, rfl⟩
    first | refine g_eff0 (e_storeO rfl rfl (by rfl) (by rfl) (by rfl) (by repeat' (first | exact Take.here | apply Take.there)) (by rfl)) (fun _ _ => ?_) | refine g_eff0 (e_store1 (by rfl) rfl rfl rfl (by repeat' (first | exact Take.here | apply Take.there)) (by first | decide | (simp <;> omega) | omega)) (fun _ _ => ?_)
    rintro rfl
    refine g_nil ?_
    rw [← knL_snoc]
    refine g_weak (A := OwnSl 3 1 a18 (O.length + 1) c18 ((O.map fun v : Nat => encI v) ++ [.int .i64 (l / 2)])) (B := OwnSl 3 1 a18 (O ++ [v]).length c18 ((O ++ [v]).map fun v : Nat => encI v)) (by repeat' (first | exact Take.here | apply Take.there)) (fun h hh => by rw [hv] at hh; rw [List.length_append, List.map_append]; exact hh) ?_
    exact g_postn (Ho := [Blk b5 (.cells [.map (some mb)].toArray 73 (0, 0)), Blk b6 (.cells [.slice a18 (O ++ [v]).length c18].toArray 23 (0, 0)), OwnSl 3 1 a18 (O ++ [v]).length c18 ((O ++ [v]).map fun v : Nat => encI v), MapB encQ mb (knL (L ++ [v]))]) (rs := []) rfl .nil ⟨rfl, L ++ [v], O ++ [v], a18, c18, if_neg h, rfl⟩ (by rw [List.length_append]; exact (by repeat' (first | exact Cover.nil | exact Take.here | apply Cover.cons | apply Take.there)))
  · refine g_skip ?_
    exact g_postn (rs := []) rfl .nil ⟨rfl, L, O, oa, oc, if_pos h, rfl⟩ (by repeat' (first | exact Cover.nil | exact Take.here | apply Cover.cons | apply Take.there))
end Go.Proofs.YtopgbgnmjogeeaaGreatDoor
/- Chapter 36: what roots need. Conditions: none. -/
namespace Go.Proofs.YtopgbgnmjogeeaaGreatDoor
set_option maxRecDepth 8000
set_option linter.unusedVariables false
set_option linter.unusedSimpArgs false
set_option linter.unusedSectionVars false
open Go Go.Z Go.Z.Aig Go.Z.Tse

theorem gate_r {ρ : Nat → Obj → Prop} {p : Nat} {S : St} {v x y : Int} {z : Bool} (h : gate1 S v = (x, y, z)) (hv : I64 v) (hg : Ro ρ (Gr p S)) :
    Con Tryz.prog ρ 36 #[.pointer (some ⟨p, 0, none⟩), .int .i64 v] [] (fun u H => u = .tuple #[.int .i64 x, .int .i64 y, .bool z] ∧ H = []) := by
  have := gate_ok (ρ := ρ) p S v hv hg
  rwa [h] at this
theorem gate1_yes {S : St} {v : Nat} {x y : Int} (h : gate1 S (v : Int) = (x, y, true)) : 0 < v ∧ S[v]? = some (x, y, false) := by
  unfold gate1 at h
  split at h
  · rename_i a b e
    injection h with e1 e2
    injection e2 with e2 _
    subst e1; subst e2
    split at e
    · exact ⟨by omega, e⟩
    · cases e
  · cases h
theorem gate1_no {S : St} {v : Nat} {x y x' y' : Int} (h : gate1 S (v : Int) = (x, y, false)) (h0 : 0 < v) (hs : S[v]? = some (x', y', false)) : False := by
  unfold gate1 at h
  rw [if_pos (by omega), Int.toNat_natCast, hs] at h
  cases h

theorem needed_ok {ρ : Nat → Obj → Prop} (p : Nat) (S : St) (hw : WF S) (hg : Ro ρ (Gr p S)) (al : Option Addr) (cl : Nat) (rs : List Int) (hl : RSl ρ 1 al rs.length (rs.map encI)) (hlen : rs.length ≤ 1000000) (hr : ∀ r ∈ rs, has S r) :
    Con Tryz.prog ρ 35 #[.pointer (some ⟨p, 0, none⟩), .slice al rs.length cl] [] (fun v H => ∃ mb L, v = .map (some mb) ∧ (∀ u, decide (u ∈ L) = true ↔ Nd S rs u) ∧ H = [MapB encQ mb (knL L)]) := by
  have hlim := hw.lim
  obtain ⟨_, b, off, cs, T, fz, hcs⟩ := hl
  refine con_intro Tryz.func35 Tryz.call35 rfl Tryz.ntmps35 rfl (L := [(0, _), (1, _)]) rfl fun w hh => ?_
  refine g_seq ?_
  refine g_region ?_
  refine g_pure (p_assign rfl) rfl ?_
  refine g_nil ?_
  refine g_qt ?_
  refine g_seq ?_
  refine g_region ?_
  refine g_eff (e_makeMap rfl) rfl (fun _ _ => ?_)
  rintro ⟨b14, rfl, rfl⟩
  refine g_eff (e_alloc (by rfl)) rfl (fun _ _ => ?_)
  rintro ⟨b5, rfl, rfl⟩
  first | refine g_eff0 (e_storeO rfl rfl (by rfl) (by rfl) (by rfl) (by repeat' (first | exact Take.here | apply Take.there)) (by rfl)) (fun _ _ => ?_) | refine g_eff0 (e_store1 (by rfl) rfl rfl rfl (by repeat' (first | exact Take.here | apply Take.there)) (by first | decide | (simp <;> omega) | omega)) (fun _ _ => ?_)
  rintro rfl
  refine g_nil ?_
  refine g_qt ?_
  refine g_seq ?_
  refine g_region ?_
  refine g_eff (e_alloc (by rfl)) rfl (fun _ _ => ?_)
  rintro ⟨b6, rfl, rfl⟩
  refine g_nil ?_
  refine g_qt ?_
  refine g_seq ?_
  refine g_region ?_
  refine g_pure (p_makeFunc rfl rfl) rfl ?_
  refine g_pure (p_assign rfl) rfl ?_
  refine g_nil ?_
  refine g_qt ?_
  refine g_seq ?_
  refine g_seq ?_
  refine g_region ?_
  refine g_pure (p_move rfl) rfl ?_
  refine g_pure (p_len (by rfl) rfl) rfl ?_
  refine g_pure (p_move rfl) rfl ?_
  refine g_nil ?_
  refine g_qt ?_
  refine g_block ?_
  refine g_weak (B := MapB encQ b14 (knL [])) (A := Blk b14 (.map #[] 0)) (by repeat' (first | exact Take.here | apply Take.there)) (fun k hk => ⟨#[], 0, rfl, hk⟩) ?_
  refine g_ownnil (e := 3) (size := 1) ?_
  refine g_loop (fun q : Nat × (List Nat × List Nat) × Option Addr × Nat => [(0, .pointer (some ⟨p, 0, none⟩)), (5, .pointer (some ⟨b5, 0, none⟩)), (6, .pointer (some ⟨b6, 0, none⟩)), (7, .func (.func 62) #[] #[.pointer (some ⟨b5, 0, none⟩), .pointer (some ⟨b6, 0, none⟩)]), (16, .slice al rs.length cl), (17, .int .i64 rs.length), (18, .int .i64 q.1)])
    (fun q => [Blk b5 (.cells [.map (some b14)].toArray 73 (0, 0)), Blk b6 (.cells [.slice q.2.2.1 q.2.1.2.length q.2.2.2].toArray 23 (0, 0)), OwnSl 3 1 q.2.2.1 q.2.1.2.length q.2.2.2 (q.2.1.2.map fun v : Nat => encI v), MapB encQ b14 (knL q.2.1.1)])
    (fun q => q.1 ≤ rs.length ∧ NI S rs [] q.2.1.1 q.2.1.2 ∧ ∀ r ∈ rs.take q.1, (r / 2).toNat ∈ q.2.1.1) (fun q => rs.length - q.1) (0, ([], []), none, 0) ⟨Nat.zero_le _, ⟨List.nodup_nil, fun v h => absurd h List.not_mem_nil, fun v h => absurd h List.not_mem_nil, fun v h => absurd h List.not_mem_nil, Nat.le_refl _⟩, fun r h => absurd h List.not_mem_nil⟩ (by (repeat (first | exact trivial | refine ⟨by rfl, ?_⟩)); done) (by repeat' (first | exact Cover.nil | exact Take.here | apply Cover.cons | apply Take.there)) ?_
  rintro ⟨i, ⟨L, O⟩, oa, oc⟩ ⟨hi, hN, hR⟩
  dsimp only at hi hN hR ⊢
  refine g_seq ?_
  refine g_region ?_
  refine g_pure (p_lss rfl rfl) rfl ?_
  refine g_nil ?_
  refine g_qt ?_
  refine g_seq ?_
  refine g_ifd rfl (fun q => ?_) (fun q => ?_)
  · have hil : i < rs.length := by omega
    obtain ⟨r1, r2, r3⟩ := hcs (by omega)
    have hri := hr rs[i] (List.getElem_mem hil)
    have h0 := hri.1
    have h1 := hri.2
    have hx : cs[off + (i : Int).toNat * 1]? = some (.int .i64 rs[i]) := by simpa [encI, List.getElem?_eq_getElem hil] using r3 i (.int .i64 rs[i]) (by simp [List.getElem?_eq_getElem hil, encI])
    have hOl := hN.le
    have hLl := hN.len
    refine g_skip ?_
    refine g_qt ?_
    refine g_seq ?_
    refine g_block ?_
    refine g_seq ?_
    refine g_region ?_
    refine g_pure (p_indexAddr rfl rfl (by omega) (fun _ => r1)) rfl ?_
    refine g_pure (p_load (by rfl) rfl (Has.ro r2) hx) rfl ?_
    refine g_pure (p_assign rfl) rfl ?_
    refine g_nil ?_
    refine g_qt ?_
    refine g_region ?_
    refine g_pure (p_move rfl) rfl ?_
    refine g_pure (p_move rfl) rfl ?_
    refine g_call (Hin := ?hi1) (Hr := ?hr1) (R := ?rr1) rfl rfl rfl ?hin1 ?hc1 ?hk1
    case hc1 => intro ρ' hρ hR; exact nask_ok b5 b6 b14 oa oc L O rs[i] (by omega) (by omega)
    case hin1 => repeat' (first | exact Cover.nil | exact Take.here | apply Cover.cons | apply Take.there)
    rintro _ _ ⟨rfl, L', O', oa', oc', hq, rfl⟩
    refine g_nil ?_
    refine g_qb ?_
    refine g_qt ?_
    refine g_region ?_
    first | refine g_pure (p_addi rfl rfl (by omega)) rfl ?_ | refine g_pure (p_add rfl rfl) rfl ?_
    refine g_pure (p_move rfl) rfl ?_
    refine g_nil ?_
    refine g_qn ?_
    obtain ⟨hN', hm, hsub, _⟩ := hN.ask (by omega) (.root (List.getElem_mem hil)) hq
    exact g_next (i + 1, (L', O'), oa', oc') (by (repeat (first | exact trivial | refine ⟨by rfl, ?_⟩)); done) (by repeat' (first | exact Cover.nil | exact Take.here | apply Cover.cons | apply Take.there)) ⟨by dsimp only; omega, hN', fun r hrm => by
      rw [List.take_add_one, List.getElem?_eq_getElem hil] at hrm
      rcases List.mem_append.1 hrm with hrm | hrm
      · exact hsub _ (hR r hrm)
      · obtain rfl := List.mem_singleton.1 hrm
        exact hm⟩ (by dsimp only; omega)
  · have hie : i = rs.length := by omega
    rw [hie, List.take_length] at hR
    refine g_exit ?_
    refine g_qt_exit ?_
    refine g_qn_exit ?_
    refine g_qb_exit ?_
    refine g_qt ?_
    refine g_seq ?_
    refine g_block ?_
    refine g_loop (fun q : (List Nat × List Nat) × Option Addr × Nat => [(0, .pointer (some ⟨p, 0, none⟩)), (5, .pointer (some ⟨b5, 0, none⟩)), (6, .pointer (some ⟨b6, 0, none⟩)), (7, .func (.func 62) #[] #[.pointer (some ⟨b5, 0, none⟩), .pointer (some ⟨b6, 0, none⟩)])])
      (fun q => [Blk b5 (.cells [.map (some b14)].toArray 73 (0, 0)), Blk b6 (.cells [.slice q.2.1 q.1.2.length q.2.2].toArray 23 (0, 0)), OwnSl 3 1 q.2.1 q.1.2.length q.2.2 (q.1.2.map fun v : Nat => encI v), MapB encQ b14 (knL q.1.1)])
      (fun q => NI S rs [] q.1.1 q.1.2 ∧ ∀ r ∈ rs, (r / 2).toNat ∈ q.1.1) (fun q => 2 * (S.length - q.1.1.length) + q.1.2.length) ((L, O), oa, oc) ⟨hN, hR⟩ (by (repeat (first | exact trivial | refine ⟨by rfl, ?_⟩)); done) (by repeat' (first | exact Cover.nil | exact Take.here | apply Cover.cons | apply Take.there)) ?_
    clear hN hR
    rintro ⟨⟨L, O⟩, oa, oc⟩ ⟨hN, hR⟩
    dsimp only at hN hR ⊢
    have hOl := hN.le
    have hLl := hN.len
    refine g_seq ?_
    refine g_seq ?_
    refine g_region ?_
    refine g_pure (p_load (by rfl) rfl (by first | (apply Has.own; (repeat' (first | exact Take.here | apply Take.there)); done) | exact Has.ro (by assumption)) (by first | rfl | assumption)) rfl ?_
    refine g_pure (p_len (by rfl) rfl) rfl ?_
    refine g_pure (p_gtr rfl rfl) rfl ?_
    refine g_nil ?_
    refine g_qt ?_
    refine g_ifd rfl (fun z => ?_) (fun z => ?_)
    · obtain ⟨O1, v, rfl⟩ : ∃ O1 v, O = O1 ++ [v] := ⟨O.dropLast, O.getLast (by intro e; subst e; simp at z), (List.dropLast_concat_getLast _).symm⟩
      have hvL := hN.sub v (by simp)
      obtain ⟨hvS, hvN⟩ := hN.lt v hvL
      have hP := hN.pop
      refine g_own (e := 3) (by repeat' (first | exact Take.here | apply Take.there)) (fun _ h2 _ _ => by simp at h2) ?_
      rintro g cur rfl hc1 hc2 hc3 hc4 hc5
      have hlO : (O1 ++ [v]).length = O1.length + 1 := by simp
      have hj : (((O1.length + 1 : Nat) : Int) - 1).toNat = O1.length := by omega
      rw [hlO] at hc1 hc4 hc5 hOl ⊢
      have hcv : cur[0 + (((O1.length + 1 : Nat) : Int) - 1).toNat * 1]? = some (.int .i64 (v : Int)) := by
        rw [hj]
        refine own_at (k := O1.length) hc4 rfl ?_
        rw [List.map_append, List.getElem?_append_right (by simp)]
        simp [encI]
      have hcO : cur.take (O1.length * 1) = O1.map fun v : Nat => encI v := by
        have := congrArg (List.take O1.length) hc4
        rw [List.take_take, Nat.min_eq_left (by omega), List.map_append, List.take_left' (by simp)] at this
        rw [Nat.mul_one]; exact this
      refine g_skip ?_
      refine g_qt ?_
      refine g_block ?_
      refine g_seq ?_
      refine g_region ?_
      refine g_pure (p_load (by rfl) rfl (by first | (apply Has.own; (repeat' (first | exact Take.here | apply Take.there)); done) | exact Has.ro (by assumption)) (by first | rfl | assumption)) rfl ?_
      refine g_pure (p_load (by rfl) rfl (by first | (apply Has.own; (repeat' (first | exact Take.here | apply Take.there)); done) | exact Has.ro (by assumption)) (by first | rfl | assumption)) rfl ?_
      refine g_pure (p_len (by rfl) rfl) rfl ?_
      first | refine g_pure (p_subi rfl rfl (by omega)) rfl ?_ | refine g_pure (p_sub rfl rfl) rfl ?_
      refine g_pure (p_indexAddr rfl rfl (by omega) (fun _ => rfl)) rfl ?_
      refine g_pure (p_load (by rfl) rfl (Has.own (by repeat' (first | exact Take.here | apply Take.there))) hcv) rfl ?_
      refine g_pure (p_assign rfl) rfl ?_
      refine g_nil ?_
      refine g_qt ?_
      refine g_seq ?_
      refine g_region ?_
      refine g_pure (p_load (by rfl) rfl (by first | (apply Has.own; (repeat' (first | exact Take.here | apply Take.there)); done) | exact Has.ro (by assumption)) (by first | rfl | assumption)) rfl ?_
      refine g_pure (p_load (by rfl) rfl (by first | (apply Has.own; (repeat' (first | exact Take.here | apply Take.there)); done) | exact Has.ro (by assumption)) (by first | rfl | assumption)) rfl ?_
      refine g_pure (p_len (by rfl) rfl) rfl ?_
      first | refine g_pure (p_subi rfl rfl (by omega)) rfl ?_ | refine g_pure (p_sub rfl rfl) rfl ?_
      refine g_pure (p_sliceh rfl rfl (by omega)) rfl ?_
      first | refine g_eff0 (e_storeO rfl rfl (by rfl) (by rfl) (by rfl) (by repeat' (first | exact Take.here | apply Take.there)) (by rfl)) (fun _ _ => ?_) | refine g_eff0 (e_store1 (by rfl) rfl rfl rfl (by repeat' (first | exact Take.here | apply Take.there)) (by first | decide | (simp <;> omega) | omega)) (fun _ _ => ?_)
      rintro rfl
      refine g_nil ?_
      refine g_qt ?_
      refine g_seq ?_
      rw [hj]
      refine g_fold (k := O1.length) (cap := oc) (size := 1) (g := g) (xs := O1.map fun v : Nat => encI v) (by repeat' (first | exact Take.here | apply Take.there)) (by omega) hc2 hc3 hcO ?_
      obtain ⟨x, y, d, hgt⟩ : ∃ x y d, gate1 S (v : Int) = (x, y, d) := ⟨_, _, _, rfl⟩
      have hPl := hP.le
      refine g_region ?_
      refine g_pure (p_move rfl) rfl ?_
      refine g_pure (p_move rfl) rfl ?_
      refine g_call (Hin := []) (Hr := ?hr2) (R := ?rr2) rfl rfl rfl ?hin2 ?hc2 ?hk2
      case hin2 => repeat' (first | exact Cover.nil | exact Take.here | apply Cover.cons | apply Take.there)
      case hc2 => intro ρ' hρ hR; exact gate_r hgt (by unfold I64; omega) (hg.mono hρ)
      rintro _ _ ⟨rfl, rfl⟩
      refine g_pure (p_move rfl) rfl ?_
      refine g_pure (p_extract rfl rfl) rfl ?_
      refine g_pure (p_extract rfl rfl) rfl ?_
      refine g_pure (p_extract rfl rfl) rfl ?_
      refine g_pure (p_assign rfl) rfl ?_
      refine g_pure (p_assign rfl) rfl ?_
      refine g_pure (p_assign rfl) rfl ?_
      refine g_nil ?_
      refine g_qt ?_
      refine g_seq ?_
      refine g_region ?_
      refine g_pure (p_move rfl) rfl ?_
      refine g_nil ?_
      refine g_qt ?_
      refine g_if rfl (fun k => ?_) (fun k => ?_)
      · subst k
        obtain ⟨k1, k2⟩ := gate1_yes hgt
        obtain ⟨k3, k4, k5⟩ := hw.gate v x y k1 k2
        refine g_seq ?_
        refine g_region ?_
        refine g_pure (p_move rfl) rfl ?_
        refine g_pure (p_move rfl) rfl ?_
        refine g_call (Hin := ?hi3) (Hr := ?hr3) (R := ?rr3) rfl rfl rfl ?hin3 ?hc3 ?hk3
        case hc3 => intro ρ' hρ hR; exact nask_ok b5 b6 b14 (some ⟨g, 0, none⟩) oc L O1 x (by omega) (by omega)
        case hin3 => repeat' (first | exact Cover.nil | exact Take.here | apply Cover.cons | apply Take.there)
        rintro _ _ ⟨rfl, L1, O2, oa1, oc1, hq1, rfl⟩
        refine g_nil ?_
        refine g_qt ?_
        refine g_region ?_
        refine g_pure (p_move rfl) rfl ?_
        refine g_pure (p_move rfl) rfl ?_
        obtain ⟨hN1, hm1, hsub1, hme1⟩ := hP.ask (by omega) (.a hvN k1 k2) hq1
        have hPl1 := hN1.le
        have hLl1 := hN1.len
        refine g_call (Hin := ?hi4) (Hr := ?hr4) (R := ?rr4) rfl rfl rfl ?hin4 ?hc4 ?hk4
        case hc4 => intro ρ' hρ hR; exact nask_ok b5 b6 b14 oa1 oc1 L1 O2 y (by omega) (by omega)
        case hin4 => repeat' (first | exact Cover.nil | exact Take.here | apply Cover.cons | apply Take.there)
        rintro _ _ ⟨rfl, L2, O3, oa2, oc2, hq2, rfl⟩
        refine g_nil ?_
        refine g_qb ?_
        refine g_qn ?_
        obtain ⟨hN2, hm2, hsub2, hme2⟩ := hN1.ask (by omega) (.b hvN k1 k2) hq2
        exact g_next ((L2, O3), oa2, oc2) (by (repeat (first | exact trivial | refine ⟨by rfl, ?_⟩)); done) (by repeat' (first | exact Cover.nil | exact Take.here | apply Cover.cons | apply Take.there)) ⟨hN2.done fun x' y' _ h3 => by rw [k2] at h3; cases h3; exact ⟨hsub2 _ hm1, hm2⟩, fun r hrm => hsub2 _ (hsub1 _ (hR r hrm))⟩ (by dsimp only; omega)
      · subst k
        refine g_skip ?_
        refine g_qb ?_
        refine g_qn ?_
        exact g_next ((L, O1), some ⟨g, 0, none⟩, oc) (by (repeat (first | exact trivial | refine ⟨by rfl, ?_⟩)); done) (by repeat' (first | exact Cover.nil | exact Take.here | apply Cover.cons | apply Take.there)) ⟨hP.done fun x' y' h2 h3 => (gate1_no hgt h2 h3).elim, hR⟩ (by dsimp only; omega)
    · have hO0 : O = [] := List.eq_nil_of_length_eq_zero (by omega)
      subst hO0
      refine g_exit ?_
      refine g_qt_exit ?_
      refine g_qn_exit ?_
      refine g_qb_exit ?_
      refine g_qt ?_
      refine g_seq ?_
      refine g_region ?_
      refine g_pure (p_load (by rfl) rfl (by first | (apply Has.own; (repeat' (first | exact Take.here | apply Take.there)); done) | exact Has.ro (by assumption)) (by first | rfl | assumption)) rfl ?_
      refine g_pure (p_assign rfl) rfl ?_
      refine g_nil ?_
      refine g_qt ?_
      refine g_ret ?_
      exact g_post (Ho := [MapB encQ b14 (knL L)]) (rs := [.tmp 4]) rfl (.tmp rfl .nil) ⟨b14, L, rfl, hN.all hR, rfl⟩ (by repeat' (first | exact Cover.nil | exact Take.here | apply Cover.cons | apply Take.there))
end Go.Proofs.YtopgbgnmjogeeaaGreatDoor
/- Chapter 36: the formula of a graph. Conditions: none. -/
namespace Go.Z
set_option maxRecDepth 8000
set_option linter.unusedVariables false
set_option linter.unusedSimpArgs false
set_option linter.unusedSectionVars false
open Go
section
variable {P : Program} {M : Mx} {n : Nat} {L : Fr} {H H1 H2 H3 H4 H5 : List Assn} {T : Act → World → Prop} {eo ei : TypeId} {a : Option Addr} {cap : Nat} {rows : List (List Value)} {hs : List (Option Addr × Nat)}
theorem sat_tail {A : Assn} {X Y : List Assn} (f : ∀ h, Sat X h → Sat Y h) : ∀ {h : Hp}, Sat (A :: X) h → Sat (A :: Y) h := fun ⟨h1, h2, s1, s2, d, e⟩ => ⟨h1, h2, s1, f _ s2, d, e⟩
theorem hdrs_snoc (h : hs.length = rows.length) (g : Option Addr × Nat) (r : List Value) : hdrs (hs ++ [g]) (rows ++ [r]) = hdrs hs rows ++ [hdr g r] := by
  unfold hdrs; rw [List.zipWith_append h]; rfl
theorem inns_snoc (h : hs.length = rows.length) (g : Option Addr × Nat) (r : List Value) : inns ei (hs ++ [g]) (rows ++ [r]) = inns ei hs rows ++ [inn ei g r] := by
  unfold inns; rw [List.zipWith_append h]; rfl
theorem g_push1 (h : hs.length = rows.length) {g : Option Addr × Nat} {r : List Value} {k : Nat} {hd : List Value} (hk : k = rows.length + 1) (hh : hd = hdrs hs rows ++ [hdr g r]) (t1 : Take H (OwnSl eo 1 a k cap hd) H1) (t2 : Take H1 (Al (inns ei hs rows)) H2) (t3 : Take H2 (OwnSl ei 1 g.1 r.length g.2 r) H3)
    (k : G M n L (Own2 eo ei a cap (rows ++ [r]) :: H3) T) : G M n L H T := by
  subst hk hh
  refine g_sat (H' := OwnSl eo 1 a (rows.length + 1) cap (hdrs hs rows ++ [hdr g r]) :: Al (inns ei hs rows) :: OwnSl ei 1 g.1 r.length g.2 r :: H3) (fun w s => sat_tail (fun w s => sat_tail (fun w s => t3.sat s) (t2.sat s)) (t1.sat s)) ?_
  refine g_alpush (l := inns ei hs rows) (X := OwnSl ei 1 g.1 r.length g.2 r) (.there .here) (.there .here) ?_
  refine g_close2 (eo := eo) (ei := ei) (a := a) (cap := cap) (rows := rows ++ [r]) (hs := hs ++ [g]) (by simp [h]) (H1 := Al (inns ei hs rows ++ [OwnSl ei 1 g.1 r.length g.2 r]) :: H3) (H2 := H3) ?_ ?_ k
  · rw [hdrs_snoc h, List.length_append]; exact .there .here
  · rw [inns_snoc h]; exact .here
theorem g_push3 (h : hs.length = rows.length) {g1 g2 g3 : Option Addr × Nat} {r1 r2 r3 : List Value} {k : Nat} {hd : List Value} (hk : k = rows.length + 3) (hh : hd = hdrs hs rows ++ [hdr g1 r1, hdr g2 r2, hdr g3 r3]) (t1 : Take H (OwnSl eo 1 a k cap hd) H1) (t2 : Take H1 (Al (inns ei hs rows)) H2) (t3 : Take H2 (OwnSl ei 1 g1.1 r1.length g1.2 r1) H3) (t4 : Take H3 (OwnSl ei 1 g2.1 r2.length g2.2 r2) H4) (t5 : Take H4 (OwnSl ei 1 g3.1 r3.length g3.2 r3) H5)
    (k : G M n L (Own2 eo ei a cap (rows ++ [r1, r2, r3]) :: H5) T) : G M n L H T := by
  subst hk hh
  refine g_sat (H' := OwnSl eo 1 a (rows.length + 3) cap (hdrs hs rows ++ [hdr g1 r1, hdr g2 r2, hdr g3 r3]) :: Al (inns ei hs rows) :: OwnSl ei 1 g1.1 r1.length g1.2 r1 :: OwnSl ei 1 g2.1 r2.length g2.2 r2 :: OwnSl ei 1 g3.1 r3.length g3.2 r3 :: H5) (fun w s => sat_tail (fun w s => sat_tail (fun w s => sat_tail (fun w s => sat_tail (fun w s => t5.sat s) (t4.sat s)) (t3.sat s)) (t2.sat s)) (t1.sat s)) ?_
  refine g_alpush (l := inns ei hs rows) (X := OwnSl ei 1 g1.1 r1.length g1.2 r1) (.there .here) (.there .here) ?_
  refine g_alpush (l := inns ei hs rows ++ [OwnSl ei 1 g1.1 r1.length g1.2 r1]) (X := OwnSl ei 1 g2.1 r2.length g2.2 r2) .here (.there .here) ?_
  refine g_alpush (l := inns ei hs rows ++ [OwnSl ei 1 g1.1 r1.length g1.2 r1] ++ [OwnSl ei 1 g2.1 r2.length g2.2 r2]) (X := OwnSl ei 1 g3.1 r3.length g3.2 r3) .here (.there .here) ?_
  have er : rows ++ [r1, r2, r3] = rows ++ [r1] ++ [r2] ++ [r3] := by simp
  rw [er] at k
  have e1 : (hs ++ [g1]).length = (rows ++ [r1]).length := by simp [h]
  have e2 : (hs ++ [g1] ++ [g2]).length = (rows ++ [r1] ++ [r2]).length := by simp [h]
  refine g_close2 (eo := eo) (ei := ei) (a := a) (cap := cap) (rows := rows ++ [r1] ++ [r2] ++ [r3]) (hs := hs ++ [g1] ++ [g2] ++ [g3]) (by simp [h]) (H1 := Al (inns ei hs rows ++ [OwnSl ei 1 g1.1 r1.length g1.2 r1] ++ [OwnSl ei 1 g2.1 r2.length g2.2 r2] ++ [OwnSl ei 1 g3.1 r3.length g3.2 r3]) :: H5) (H2 := H5) ?_ ?_ k
  · rw [hdrs_snoc e2, hdrs_snoc e1, hdrs_snoc h]
    simp only [List.length_append, List.length_singleton, List.append_assoc, List.singleton_append, Nat.add_assoc]
    exact .there .here
  · rw [inns_snoc e2, inns_snoc e1, inns_snoc h]; exact .here
end
end Go.Z
namespace Go.Z.Tse
set_option maxRecDepth 8000
set_option linter.unusedVariables false
set_option linter.unusedSimpArgs false
set_option linter.unusedSectionVars false
open Go Go.Z Go.Z.Aig
theorem numL_lit (x : Int) : numL (x / 2, decide (x % 2 = 1)) = litF x := by
  unfold numL litF
  by_cases h : x % 2 = 1 <;> simp [h]
theorem numL_nlit (x : Int) : numL (x / 2, !decide (x % 2 = 1)) = -litF x := by
  unfold numL litF
  by_cases h : x % 2 = 1 <;> simp [h]
def encCl (c : List Int) : List Value := c.map encI
end Go.Z.Tse
namespace Go.Proofs.YtopgbgnmjogeeaaGreatDoor
set_option maxRecDepth 8000
set_option linter.unusedVariables false
set_option linter.unusedSimpArgs false
set_option linter.unusedSectionVars false
open Go Go.Z Go.Z.Aig Go.Z.Tse

set_option maxHeartbeats 1600000 in
theorem of_ok {ρ : Nat → Obj → Prop} (p : Nat) (S : St) (hw : WF S) (hg : Ro ρ (Gr p S)) (al : Option Addr) (cl : Nat) (rs : List Int) (hl : RSl ρ 1 al rs.length (rs.map encI)) (hlen : rs.length ≤ 1000000) (hr : ∀ r ∈ rs, has S r) :
    Con Tryz.prog ρ 10 #[.pointer (some ⟨p, 0, none⟩), .slice al rs.length cl] [] (fun v H => ∃ ca cc nd, (∀ u, nd u = true ↔ Nd S rs u) ∧ v = .tuple #[.agg #[.int .i64 ((S.length : Int) - 1), .slice ca (cnfF S nd rs).length cc], .int .i64 0] ∧ H = [Own2 79 3 ca cc ((cnfF S nd rs).map encCl)]) := by
  have hlim := hw.lim
  have hpos := hw.pos
  have hl' := hl
  obtain ⟨_, b, off, cs, T, fz, hcs⟩ := hl
  have hroot : ∀ (i : Nat) (hil : i < rs.length), 0 ≤ rs[i] ∧ rs[i] < 2 * S.length ∧ cs[off + (i : Int).toNat * 1]? = some (.int .i64 rs[i]) := fun i hil => by
    have hri := hr rs[i] (List.getElem_mem hil)
    obtain ⟨r1, r2, r3⟩ := hcs (by omega)
    exact ⟨hri.1, hri.2, by simpa [encI, List.getElem?_eq_getElem hil] using r3 i (.int .i64 rs[i]) (by simp [List.getElem?_eq_getElem hil, encI])⟩
  refine con_intro Tryz.func10 Tryz.call10 rfl Tryz.ntmps10 rfl (L := [(0, _), (1, _)]) rfl fun w hh => ?_
  refine g_seq ?_
  refine g_region ?_
  refine g_eff (e_alloc (by rfl)) rfl (fun _ _ => ?_)
  rintro ⟨b4, rfl, rfl⟩
  refine g_pure (p_assign rfl) rfl ?_
  refine g_nil ?_
  refine g_qt ?_
  refine g_seq ?_
  refine g_seq ?_
  refine g_region ?_
  refine g_pure (p_move rfl) rfl ?_
  refine g_pure (p_eqnil (by rfl) rfl rfl) rfl ?_
  refine g_nil ?_
  refine g_qt ?_
  refine g_iff rfl ?_
  refine g_skip ?_
  refine g_qt ?_
  refine g_seq ?_
  refine g_region ?_
  refine g_pure (p_move rfl) rfl ?_
  refine g_call (Hin := []) (Hr := ?hr1) (R := ?rr1) rfl rfl rfl ?hin1 ?hc1 ?hk1
  case hin1 => repeat' (first | exact Cover.nil | exact Take.here | apply Cover.cons | apply Take.there)
  case hc1 => intro ρ' hρ hR; exact glen_ok p S (hg.mono hρ)
  rintro _ _ ⟨rfl, rfl⟩
  refine g_pure (p_assign rfl) rfl ?_
  refine g_nil ?_
  refine g_qt ?_
  refine g_seq ?_
  refine g_seq ?_
  refine g_region ?_
  refine g_pure (p_move rfl) rfl ?_
  refine g_pure (p_len (by rfl) rfl) rfl ?_
  refine g_pure (p_move rfl) rfl ?_
  refine g_nil ?_
  refine g_qt ?_
  refine g_block ?_
  refine g_loop (fun i : Nat => [(0, .pointer (some ⟨p, 0, none⟩)), (1, .slice al rs.length cl), (4, .pointer (some ⟨b4, 0, none⟩)), (6, .int .i64 S.length), (23, .slice al rs.length cl), (24, .int .i64 rs.length), (25, .int .i64 i)])
    (fun _ => [Blk b4 (.cells [.int .i64 0, .slice none 0 0].toArray 30 (0, 0))]) (fun i => i ≤ rs.length) (fun i => rs.length - i) 0 (Nat.zero_le _) (by (repeat (first | exact trivial | refine ⟨by rfl, ?_⟩)); done) (by repeat' (first | exact Cover.nil | exact Take.here | apply Cover.cons | apply Take.there)) ?_
  intro i hi
  refine g_seq ?_
  refine g_region ?_
  refine g_pure (p_lss rfl rfl) rfl ?_
  refine g_nil ?_
  refine g_qt ?_
  refine g_seq ?_
  refine g_ifd rfl (fun q => ?_) (fun q => ?_)
  · have hil : i < rs.length := by omega
    obtain ⟨r1, r2, r3⟩ := hcs (by omega)
    obtain ⟨h0, h1, hx⟩ := hroot i hil
    refine g_skip ?_
    refine g_qt ?_
    refine g_seq ?_
    refine g_block ?_
    refine g_seq ?_
    refine g_region ?_
    refine g_pure (p_indexAddr rfl rfl (by omega) (fun _ => r1)) rfl ?_
    refine g_pure (p_load (by rfl) rfl (Has.ro r2) hx) rfl ?_
    refine g_pure (p_assign rfl) rfl ?_
    refine g_nil ?_
    refine g_qt ?_
    refine g_seq ?_
    refine g_region ?_
    refine g_pure (p_move rfl) rfl ?_
    refine g_pure (p_lss rfl rfl) rfl ?_
    refine g_pure (p_move rfl) rfl ?_
    refine g_splitd rfl rfl (fun z => ?_) (fun z => ?_)
    · exfalso; omega
    · refine g_yes rfl rfl ?_
      refine g_pure (p_move rfl) rfl ?_
      refine g_yes rfl rfl ?_
      first | refine g_pure (p_quon rfl rfl (by omega) (by omega)) rfl ?_ | refine g_pure (p_quoi rfl rfl (by omega) (by omega)) rfl ?_ | refine g_pure (p_quo rfl rfl (by omega)) rfl ?_
      refine g_yes rfl rfl ?_
      refine g_pure (p_move rfl) rfl ?_
      refine g_yes rfl rfl ?_
      refine g_pure (p_geq rfl rfl) rfl ?_
      first | refine g_pure (p_pickt rfl rfl) rfl ?_ | refine g_pure (p_pickf rfl rfl) rfl ?_
      refine g_nil ?_
      refine g_qt ?_
      refine g_ifd rfl (fun z2 => ?_) (fun z2 => ?_)
      · exfalso; omega
      · refine g_skip ?_
        refine g_qb ?_
        refine g_qt ?_
        refine g_region ?_
        first | refine g_pure (p_addi rfl rfl (by omega)) rfl ?_ | refine g_pure (p_add rfl rfl) rfl ?_
        refine g_pure (p_move rfl) rfl ?_
        refine g_nil ?_
        refine g_qn ?_
        exact g_next (i + 1) (by (repeat (first | exact trivial | refine ⟨by rfl, ?_⟩)); done) (by repeat' (first | exact Cover.nil | exact Take.here | apply Cover.cons | apply Take.there)) (by omega) (by omega)
  · refine g_exit ?_
    refine g_qt_exit ?_
    refine g_qn_exit ?_
    refine g_qb_exit ?_
    refine g_qt ?_
    refine g_seq ?_
    refine g_seq ?_
    refine g_region ?_
    refine g_pure (p_move rfl) rfl ?_
    first | refine g_pure (p_subi rfl rfl (by omega)) rfl ?_ | refine g_pure (p_sub rfl rfl) rfl ?_
    refine g_pure (p_gtr rfl rfl) rfl ?_
    refine g_nil ?_
    refine g_qt ?_
    refine g_ifd rfl (fun z => ?_) (fun z => ?_)
    · exfalso; omega
    · refine g_skip ?_
      refine g_qt ?_
      refine g_seq ?_
      refine g_region ?_
      refine g_pure (p_move rfl) rfl ?_
      first | refine g_pure (p_subi rfl rfl (by omega)) rfl ?_ | refine g_pure (p_sub rfl rfl) rfl ?_
      refine g_pure (p_build (by rfl) rfl (by rfl)) rfl ?_
      refine g_eff (e_alloc (by rfl)) rfl (fun _ _ => ?_)
      rintro ⟨b9, rfl, rfl⟩
      first | refine g_eff0 (e_storeO rfl rfl (by rfl) (by rfl) (by rfl) (by repeat' (first | exact Take.here | apply Take.there)) (by rfl)) (fun _ _ => ?_) | refine g_eff0 (e_storeN rfl rfl (by rfl) (by rfl) (by rfl) (by repeat' (first | exact Take.here | apply Take.there)) (by simp)) (fun _ _ => ?_)
      rintro rfl
      refine g_nil ?_
      refine g_qt ?_
      refine g_seq ?_
      refine g_region ?_
      refine g_pure (p_move rfl) rfl ?_
      refine g_pure (p_move rfl) rfl ?_
      refine g_call (Hin := []) (Hr := ?hr2) (R := ?rr2) rfl rfl rfl ?hin2 ?hc2 ?hk2
      case hin2 => repeat' (first | exact Cover.nil | exact Take.here | apply Cover.cons | apply Take.there)
      case hc2 => intro ρ' hρ hR; exact needed_ok p S hw (hg.mono hρ) al cl rs (hl'.mono hρ) hlen hr
      rintro _ _ ⟨mb, nl, rfl, hnd, rfl⟩
      refine g_pure (p_assign rfl) rfl ?_
      refine g_nil ?_
      refine g_qt ?_
      refine g_seq ?_
      refine g_seq ?_
      refine g_region ?_
      refine g_pure (p_move rfl) rfl ?_
      refine g_pure (p_move rfl) rfl ?_
      refine g_nil ?_
      refine g_qt ?_
      refine g_block ?_
      refine g_ownnil (e := 79) (size := 1) ?_
      refine g_nils (eo := 79) (ei := 3) (a := none) (k := 0) (cap := 0) .here ?_
      refine g_loop (fun q : Nat × Option Addr × Nat => [(0, .pointer (some ⟨p, 0, none⟩)), (1, .slice al rs.length cl), (4, .pointer (some ⟨b4, 0, none⟩)), (6, .int .i64 S.length), (9, .pointer (some ⟨b9, 0, none⟩)), (10, .map (some mb)), (49, .int .i64 S.length), (50, .int .i64 q.1)])
        (fun q => [Blk b4 (.cells [.int .i64 0, .slice none 0 0].toArray 30 (0, 0)), Blk b9 (.cells [.int .i64 ((S.length : Int) - 1), .slice q.2.1 (gates S (fun u => decide (u ∈ nl)) q.1).length q.2.2].toArray 30 (0, 0)), Own2 79 3 q.2.1 q.2.2 ((gates S (fun u => decide (u ∈ nl)) q.1).map encCl), MapB encQ mb (knL nl)])
        (fun q => q.1 ≤ S.length) (fun q => S.length - q.1) (0, none, 0) (Nat.zero_le _) (by (repeat (first | exact trivial | refine ⟨by rfl, ?_⟩)); done) (by repeat' (first | exact Cover.nil | exact Take.here | apply Cover.cons | apply Take.there)) ?_
      rintro ⟨v, ca, cc⟩ hv
      dsimp only at hv ⊢
      obtain ⟨F, hF⟩ : ∃ F, gates S (fun u => decide (u ∈ nl)) v = F := ⟨_, rfl⟩
      have hFl : F.length ≤ 3 * v := by rw [← hF]; exact gates_len _ _ _
      have hnx := gates_succ S (fun u => decide (u ∈ nl)) v
      rw [hF] at hnx ⊢
      refine g_seq ?_
      refine g_region ?_
      refine g_pure (p_lss rfl rfl) rfl ?_
      refine g_nil ?_
      refine g_qt ?_
      refine g_seq ?_
      refine g_ifd rfl (fun w => ?_) (fun w => ?_)
      · have hvl : v < S.length := by omega
        obtain ⟨x, y, d, hgt⟩ : ∃ x y d, gate1 S (v : Int) = (x, y, d) := ⟨_, _, _, rfl⟩
        refine g_skip ?_
        refine g_qt ?_
        refine g_seq ?_
        refine g_block ?_
        refine g_seq ?_
        refine g_region ?_
        refine g_pure (p_move rfl) rfl ?_
        refine g_pure (p_assign rfl) rfl ?_
        refine g_nil ?_
        refine g_qt ?_
        refine g_seq ?_
        refine g_region ?_
        refine g_pure (p_move rfl) rfl ?_
        refine g_pure (p_move rfl) rfl ?_
        refine g_call (Hin := []) (Hr := ?hr3) (R := ?rr3) rfl rfl rfl ?hin3 ?hc3 ?hk3
        case hin3 => repeat' (first | exact Cover.nil | exact Take.here | apply Cover.cons | apply Take.there)
        case hc3 => intro ρ' hρ hR; exact gate_r hgt (by unfold I64; omega) (hg.mono hρ)
        rintro _ _ ⟨rfl, rfl⟩
        refine g_pure (p_move rfl) rfl ?_
        refine g_pure (p_extract rfl rfl) rfl ?_
        refine g_pure (p_extract rfl rfl) rfl ?_
        refine g_pure (p_extract rfl rfl) rfl ?_
        refine g_pure (p_assign rfl) rfl ?_
        refine g_pure (p_assign rfl) rfl ?_
        refine g_pure (p_assign rfl) rfl ?_
        refine g_nil ?_
        refine g_qt ?_
        refine g_seq ?_
        refine g_seq ?_
        have hlook := knL_get nl v
        have hskip : ∀ X : Prop, (gates S (fun u => decide (u ∈ nl)) (v + 1) = F → X) → (d = false ∨ ¬ v ∈ nl) → X := fun X k h => k (by
          rw [hnx]
          rcases h with rfl | h
          · have : gcls S v = [] := by
              by_cases h0 : v = 0
              · exact gcls_other (.inl h0)
              · obtain ⟨⟨x', y', z'⟩, hs⟩ : ∃ g, S[v]? = some g := ⟨_, List.getElem?_eq_getElem hvl⟩
                cases z' with
                | true => exact gcls_other (.inr ⟨x', y', hs⟩)
                | false => exact (gate1_no hgt (by omega) hs).elim
            rw [this]; simp
          · rw [decide_eq_false h, if_neg (by simp), List.append_nil])
        cases d with
        | false =>
          refine hskip _ (fun hnx => ?_) (.inl rfl)
          refine g_region ?_
          refine g_pure (p_move rfl) rfl ?_
          refine g_pure (p_not rfl) rfl ?_
          refine g_pure (p_move rfl) rfl ?_
          refine g_no rfl rfl rfl rfl ?_
          refine g_no rfl rfl rfl rfl ?_
          refine g_no rfl rfl rfl rfl ?_
          refine g_no rfl rfl rfl rfl ?_
          refine g_no rfl rfl rfl rfl ?_
          first | refine g_pure (p_pickt rfl rfl) rfl ?_ | refine g_pure (p_pickf rfl rfl) rfl ?_
          refine g_nil ?_
          refine g_qt ?_
          refine g_ift rfl ?_
          refine g_exit ?_
          refine g_qt_exit ?_
          refine g_qb_exit ?_
          refine g_qt ?_
          refine g_region ?_
          first | refine g_pure (p_addi rfl rfl (by omega)) rfl ?_ | refine g_pure (p_add rfl rfl) rfl ?_
          refine g_pure (p_move rfl) rfl ?_
          refine g_nil ?_
          refine g_qn ?_
          exact g_next (v + 1, ca, cc) (by (repeat (first | exact trivial | refine ⟨by rfl, ?_⟩)); done) (by rw [hnx]; exact (by repeat' (first | exact Cover.nil | exact Take.here | apply Cover.cons | apply Take.there))) (by dsimp only; omega) (by dsimp only; omega)
        | true =>
          by_cases hm : v ∈ nl
          · rw [decide_eq_true hm] at hlook
            obtain ⟨k1, k2⟩ := gate1_yes hgt
            obtain ⟨k3, k4, k5⟩ := hw.gate v x y k1 k2
            refine g_region ?_
            refine g_pure (p_move rfl) rfl ?_
            refine g_pure (p_not rfl) rfl ?_
            refine g_pure (p_move rfl) rfl ?_
            refine g_yes rfl rfl ?_
            refine g_pure (p_move rfl) rfl ?_
            refine g_yes rfl rfl ?_
            refine g_pure (p_move rfl) rfl ?_
            refine g_yes rfl rfl ?_
            refine g_pure (p_build (by rfl) rfl (by rfl)) rfl ?_
            refine g_yes rfl rfl ?_
            refine g_pure (p_look1 (k := ((v : Int), false)) keyLit rfl rfl (HasMap.own (by repeat' (first | exact Take.here | apply Take.there))) hlook) rfl ?_
            refine g_yes rfl rfl ?_
            refine g_pure (p_not rfl) rfl ?_
            first | refine g_pure (p_pickt rfl rfl) rfl ?_ | refine g_pure (p_pickf rfl rfl) rfl ?_
            refine g_nil ?_
            refine g_qt ?_
            refine g_iff rfl ?_
            refine g_skip ?_
            refine g_qt ?_
            refine g_seq ?_
            refine g_region ?_
            refine g_pure (p_move rfl) rfl ?_
            refine g_pure (p_build (by rfl) rfl (by rfl)) rfl ?_
            refine g_eff (e_alloc (by rfl)) rfl (fun _ _ => ?_)
            rintro ⟨b15, rfl, rfl⟩
            first | refine g_eff0 (e_storeO rfl rfl (by rfl) (by rfl) (by rfl) (by repeat' (first | exact Take.here | apply Take.there)) (by rfl)) (fun _ _ => ?_) | refine g_eff0 (e_storeN rfl rfl (by rfl) (by rfl) (by rfl) (by repeat' (first | exact Take.here | apply Take.there)) (by simp)) (fun _ _ => ?_)
            rintro rfl
            refine g_nil ?_
            refine g_qt ?_
            refine g_open2 (H' := _) (eo := 79) (ei := 3) (a := ca) (cap := cc) (rows := F.map encCl) (by repeat' (first | exact Take.here | apply Take.there)) ?_
            rintro hs hhs
            have hml : (F.map encCl).length = F.length := List.length_map _
            rw [hml] at hhs ⊢
            refine m_begin0 (.fl 0 0 (.fl 1 1 (.fl 2 1 (.fl 4 0 (.fl 8 1 (.fl 10 0 (.fl 14 1 (.fl 15 0 (.fl 18 0 (.ef 3 (.ef 5 (.ef 6 (.ef 7 (.ef 9 (.ef 11 (.ef 12 (.ef 13 (.ef 16 (.ef 17 (.ef 19 (.ef 20 (.ef 21 (.ef 22 (.ef 23 (.ef 24 (.fl 25 0 (.ef 26 .done))))))))))))))))))))))))))) (by kernel_rfl) (by kernel_rfl) ?_
            refine m_float0 rfl (fun _ _ => p_fieldAddr rfl) rfl ?_
            refine m_float rfl (p_load (by rfl) rfl (by first | (apply Has.own; (repeat' (first | exact Take.here | apply Take.there)); done) | exact Has.ro (by assumption)) (by first | rfl | assumption)) rfl ?_
            first | refine m_float rfl (p_loadO (by rfl) rfl (by first | (apply Has.own; (repeat' (first | exact Take.here | apply Take.there)); done) | exact Has.ro (by assumption)) (by rfl)) rfl ?_ | refine m_float rfl (p_loadN (by rfl) rfl (by first | (apply Has.own; (repeat' (first | exact Take.here | apply Take.there)); done) | exact Has.ro (by assumption)) (by first | rfl | assumption)) rfl ?_
            refine m_float0 rfl (fun _ _ => p_move rfl) rfl ?_
            first | refine m_float rfl (p_loadO (by rfl) rfl (by first | (apply Has.own; (repeat' (first | exact Take.here | apply Take.there)); done) | exact Has.ro (by assumption)) (by rfl)) rfl ?_ | refine m_float rfl (p_loadN (by rfl) rfl (by first | (apply Has.own; (repeat' (first | exact Take.here | apply Take.there)); done) | exact Has.ro (by assumption)) (by first | rfl | assumption)) rfl ?_
            refine m_float0 rfl (fun _ _ => p_move rfl) rfl ?_
            first | refine m_float rfl (p_loadO (by rfl) rfl (by first | (apply Has.own; (repeat' (first | exact Take.here | apply Take.there)); done) | exact Has.ro (by assumption)) (by rfl)) rfl ?_ | refine m_float rfl (p_loadN (by rfl) rfl (by first | (apply Has.own; (repeat' (first | exact Take.here | apply Take.there)); done) | exact Has.ro (by assumption)) (by first | rfl | assumption)) rfl ?_
            refine m_float0 rfl (fun _ _ => p_move rfl) rfl ?_
            refine m_float0 rfl (fun _ _ => p_move rfl) rfl ?_
            refine m_call (Hin := []) (Hr := ?hr4) (R := ?rr4) rfl wantedN rfl rfl rfl ?hin4 ?hc4 ?hk4
            case hin4 => repeat' (first | exact Cover.nil | exact Take.here | apply Cover.cons | apply Take.there)
            case hc4 => intro ρ' hρ hR; exact lnot_ok ((v : Int), false)
            rintro _ _ ⟨rfl, rfl⟩
            refine ⟨.some (by repeat' (first | exact Cover.nil | exact Take.here | apply Cover.cons | apply Take.there)), ?_⟩
            refine m_call (Hin := []) (Hr := ?hr5) (R := ?rr5) rfl wantedN rfl rfl rfl ?hin5 ?hc5 ?hk5
            case hin5 => repeat' (first | exact Cover.nil | exact Take.here | apply Cover.cons | apply Take.there)
            case hc5 => intro ρ' hρ hR; exact lof_ok x (by omega)
            rintro _ _ ⟨rfl, rfl⟩
            refine ⟨.some (by repeat' (first | exact Cover.nil | exact Take.here | apply Cover.cons | apply Take.there)), ?_⟩
            refine m_eff rfl (e_bs (xs := [.tmp 74, .tmp 76]) rfl rfl rfl (by rfl) (by rfl) rfl (by rfl)) rfl (fun _ _ => ?_)
            rintro ⟨b77, rfl, rfl⟩
            refine ⟨.some (by repeat' (first | exact Cover.nil | exact Take.here | apply Cover.cons | apply Take.there)), ?_⟩
            refine m_call (Hin := []) (Hr := ?hr6) (R := ?rr6) rfl wantedN rfl rfl rfl ?hin6 ?hc6 ?hk6
            case hin6 => repeat' (first | exact Cover.nil | exact Take.here | apply Cover.cons | apply Take.there)
            case hc6 => intro ρ' hρ hR; exact clause_ok' (some ⟨b77, 0, none⟩) 2 [((v : Int), true), (x / 2, decide (x % 2 = 1))] (RSl.of_blk (Take.ro (A := Blk b77 (.cells (List.flatMap encQc [((v : Int), true), (x / 2, decide (x % 2 = 1))]).toArray 78 (0, 0))) (by repeat' (first | exact Take.here | apply Take.there)) hR).blk (Nat.le_refl _)) (by simp) (by intro p hp; simp at hp; rcases hp with rfl | rfl <;> dsimp only <;> omega)
            rintro _ _ ⟨a78, c78, rfl, rfl⟩
            refine ⟨.some (by repeat' (first | exact Cover.nil | exact Take.here | apply Cover.cons | apply Take.there)), ?_⟩
            refine m_call (Hin := []) (Hr := ?hr7) (R := ?rr7) rfl wantedN rfl rfl rfl ?hin7 ?hc7 ?hk7
            case hin7 => repeat' (first | exact Cover.nil | exact Take.here | apply Cover.cons | apply Take.there)
            case hc7 => intro ρ' hρ hR; exact lnot_ok ((v : Int), false)
            rintro _ _ ⟨rfl, rfl⟩
            refine ⟨.some (by repeat' (first | exact Cover.nil | exact Take.here | apply Cover.cons | apply Take.there)), ?_⟩
            refine m_call (Hin := []) (Hr := ?hr8) (R := ?rr8) rfl wantedN rfl rfl rfl ?hin8 ?hc8 ?hk8
            case hin8 => repeat' (first | exact Cover.nil | exact Take.here | apply Cover.cons | apply Take.there)
            case hc8 => intro ρ' hρ hR; exact lof_ok y (by omega)
            rintro _ _ ⟨rfl, rfl⟩
            refine ⟨.some (by repeat' (first | exact Cover.nil | exact Take.here | apply Cover.cons | apply Take.there)), ?_⟩
            refine m_eff rfl (e_bs (xs := [.tmp 80, .tmp 82]) rfl rfl rfl (by rfl) (by rfl) rfl (by rfl)) rfl (fun _ _ => ?_)
            rintro ⟨b83, rfl, rfl⟩
            refine ⟨.some (by repeat' (first | exact Cover.nil | exact Take.here | apply Cover.cons | apply Take.there)), ?_⟩
            refine m_call (Hin := []) (Hr := ?hr9) (R := ?rr9) rfl wantedN rfl rfl rfl ?hin9 ?hc9 ?hk9
            case hin9 => repeat' (first | exact Cover.nil | exact Take.here | apply Cover.cons | apply Take.there)
            case hc9 => intro ρ' hρ hR; exact clause_ok' (some ⟨b83, 0, none⟩) 2 [((v : Int), true), (y / 2, decide (y % 2 = 1))] (RSl.of_blk (Take.ro (A := Blk b83 (.cells (List.flatMap encQc [((v : Int), true), (y / 2, decide (y % 2 = 1))]).toArray 78 (0, 0))) (by repeat' (first | exact Take.here | apply Take.there)) hR).blk (Nat.le_refl _)) (by simp) (by intro p hp; simp at hp; rcases hp with rfl | rfl <;> dsimp only <;> omega)
            rintro _ _ ⟨a84, c84, rfl, rfl⟩
            refine ⟨.some (by repeat' (first | exact Cover.nil | exact Take.here | apply Cover.cons | apply Take.there)), ?_⟩
            refine m_call (Hin := []) (Hr := ?hr10) (R := ?rr10) rfl wantedN rfl rfl rfl ?hin10 ?hc10 ?hk10
            case hin10 => repeat' (first | exact Cover.nil | exact Take.here | apply Cover.cons | apply Take.there)
            case hc10 => intro ρ' hρ hR; exact lof_ok x (by omega)
            rintro _ _ ⟨rfl, rfl⟩
            refine ⟨.some (by repeat' (first | exact Cover.nil | exact Take.here | apply Cover.cons | apply Take.there)), ?_⟩
            refine m_call (Hin := []) (Hr := ?hr11) (R := ?rr11) rfl wantedN rfl rfl rfl ?hin11 ?hc11 ?hk11
            case hin11 => repeat' (first | exact Cover.nil | exact Take.here | apply Cover.cons | apply Take.there)
            case hc11 => intro ρ' hρ hR; exact lnot_ok (x / 2, decide (x % 2 = 1))
            rintro _ _ ⟨rfl, rfl⟩
            refine ⟨.some (by repeat' (first | exact Cover.nil | exact Take.here | apply Cover.cons | apply Take.there)), ?_⟩
            refine m_call (Hin := []) (Hr := ?hr12) (R := ?rr12) rfl wantedN rfl rfl rfl ?hin12 ?hc12 ?hk12
            case hin12 => repeat' (first | exact Cover.nil | exact Take.here | apply Cover.cons | apply Take.there)
            case hc12 => intro ρ' hρ hR; exact lof_ok y (by omega)
            rintro _ _ ⟨rfl, rfl⟩
            refine ⟨.some (by repeat' (first | exact Cover.nil | exact Take.here | apply Cover.cons | apply Take.there)), ?_⟩
            refine m_call (Hin := []) (Hr := ?hr13) (R := ?rr13) rfl wantedN rfl rfl rfl ?hin13 ?hc13 ?hk13
            case hin13 => repeat' (first | exact Cover.nil | exact Take.here | apply Cover.cons | apply Take.there)
            case hc13 => intro ρ' hρ hR; exact lnot_ok (y / 2, decide (y % 2 = 1))
            rintro _ _ ⟨rfl, rfl⟩
            refine ⟨.some (by repeat' (first | exact Cover.nil | exact Take.here | apply Cover.cons | apply Take.there)), ?_⟩
            refine m_eff rfl (e_bs (xs := [.tmp 85, .tmp 88, .tmp 91]) rfl rfl rfl (by rfl) (by rfl) rfl (by rfl)) rfl (fun _ _ => ?_)
            rintro ⟨b92, rfl, rfl⟩
            refine ⟨.some (by repeat' (first | exact Cover.nil | exact Take.here | apply Cover.cons | apply Take.there)), ?_⟩
            refine m_call (Hin := []) (Hr := ?hr14) (R := ?rr14) rfl wantedN rfl rfl rfl ?hin14 ?hc14 ?hk14
            case hin14 => repeat' (first | exact Cover.nil | exact Take.here | apply Cover.cons | apply Take.there)
            case hc14 => intro ρ' hρ hR; exact clause_ok' (some ⟨b92, 0, none⟩) 3 [((v : Int), false), (x / 2, !decide (x % 2 = 1)), (y / 2, !decide (y % 2 = 1))] (RSl.of_blk (Take.ro (A := Blk b92 (.cells (List.flatMap encQc [((v : Int), false), (x / 2, !decide (x % 2 = 1)), (y / 2, !decide (y % 2 = 1))]).toArray 78 (0, 0))) (by repeat' (first | exact Take.here | apply Take.there)) hR).blk (Nat.le_refl _)) (by simp) (by intro p hp; simp at hp; rcases hp with rfl | rfl | rfl <;> dsimp only <;> omega)
            rintro _ _ ⟨a93, c93, rfl, rfl⟩
            refine ⟨.some (by repeat' (first | exact Cover.nil | exact Take.here | apply Cover.cons | apply Take.there)), ?_⟩
            refine m_eff rfl (e_bs (xs := [.tmp 78, .tmp 84, .tmp 93]) rfl rfl rfl (by rfl) (by rfl) rfl (by rfl)) rfl (fun _ _ => ?_)
            rintro ⟨b94, rfl, rfl⟩
            refine ⟨.some (by repeat' (first | exact Cover.nil | exact Take.here | apply Cover.cons | apply Take.there)), ?_⟩
            refine m_eff rfl (e_appendO (by rfl) (by rfl) rfl rfl (by first | (apply Has.own; (repeat' (first | exact Take.here | apply Take.there)); done) | exact Has.ro (by assumption)) (by rfl) (by rfl) (by repeat' (first | exact Take.here | apply Take.there)) (by omega) (by first | omega | (dsimp only; omega) | (simp <;> omega)) (by omega)) rfl (fun _ _ => ?_)
            rintro ⟨a95, c95, rfl, rfl⟩
            refine ⟨.none (by kernel_rfl), ?_⟩
            refine m_float0 rfl (fun _ _ => p_fieldAddr rfl) rfl ?_
            first | refine m_eff0 rfl (e_storeO rfl rfl (by rfl) (by rfl) (by rfl) (by repeat' (first | exact Take.here | apply Take.there)) (by rfl)) (fun _ _ => ?_) | refine m_eff0 rfl (e_store1 (by rfl) rfl rfl rfl (by repeat' (first | exact Take.here | apply Take.there)) (by first | decide | (simp <;> omega) | omega)) (fun _ _ => ?_)
            rintro rfl
            refine ⟨.none (by kernel_rfl), ?_⟩
            refine m_nil ?_
            refine g_qb ?_
            refine g_qt ?_
            refine g_region ?_
            first | refine g_pure (p_addi rfl rfl (by omega)) rfl ?_ | refine g_pure (p_add rfl rfl) rfl ?_
            refine g_pure (p_move rfl) rfl ?_
            refine g_nil ?_
            refine g_qn ?_
            have hgc : gates S (fun u => decide (u ∈ nl)) (v + 1) = F ++ [[-(v : Int), litF x], [-(v : Int), litF y], [(v : Int), -litF x, -litF y]] := by rw [hnx, decide_eq_true hm, if_pos rfl, gcls_gate k1 k2]
            refine g_push3 (rows := F.map encCl) (hs := hs) (ei := 3) (by rw [hml]; exact hhs) (g1 := (a78, c78)) (g2 := (a84, c84)) (g3 := (a93, c93)) (r1 := encCl ([((v : Int), true), (x / 2, decide (x % 2 = 1))].map numL)) (r2 := encCl ([((v : Int), true), (y / 2, decide (y % 2 = 1))].map numL)) (r3 := encCl ([((v : Int), false), (x / 2, !decide (x % 2 = 1)), (y / 2, !decide (y % 2 = 1))].map numL)) (by rw [hml]) rfl (by repeat' (first | exact Take.here | apply Take.there)) (by repeat' (first | exact Take.here | apply Take.there)) (by repeat' (first | exact Take.here | apply Take.there)) (by repeat' (first | exact Take.here | apply Take.there)) (by repeat' (first | exact Take.here | apply Take.there)) ?_
            have hrw : F.map encCl ++ [encCl ([((v : Int), true), (x / 2, decide (x % 2 = 1))].map numL), encCl ([((v : Int), true), (y / 2, decide (y % 2 = 1))].map numL), encCl ([((v : Int), false), (x / 2, !decide (x % 2 = 1)), (y / 2, !decide (y % 2 = 1))].map numL)] = (gates S (fun u => decide (u ∈ nl)) (v + 1)).map encCl := by
              rw [hgc, List.map_append]
              simp only [List.map_cons, List.map_nil, numL_lit, numL_nlit]
              rfl
            have hln : F.length + 3 = (gates S (fun u => decide (u ∈ nl)) (v + 1)).length := by rw [hgc]; simp
            rw [hrw, hln]
            exact g_next (v + 1, a95, c95) (by (repeat (first | exact trivial | refine ⟨by rfl, ?_⟩)); done) (by repeat' (first | exact Cover.nil | exact Take.here | apply Cover.cons | apply Take.there)) (by dsimp only; omega) (by dsimp only; omega)
          · rw [decide_eq_false hm] at hlook
            refine hskip _ (fun hnx => ?_) (.inr hm)
            refine g_region ?_
            refine g_pure (p_move rfl) rfl ?_
            refine g_pure (p_not rfl) rfl ?_
            refine g_pure (p_move rfl) rfl ?_
            refine g_yes rfl rfl ?_
            refine g_pure (p_move rfl) rfl ?_
            refine g_yes rfl rfl ?_
            refine g_pure (p_move rfl) rfl ?_
            refine g_yes rfl rfl ?_
            refine g_pure (p_build (by rfl) rfl (by rfl)) rfl ?_
            refine g_yes rfl rfl ?_
            refine g_pure (p_look1 (k := ((v : Int), false)) keyLit rfl rfl (HasMap.own (by repeat' (first | exact Take.here | apply Take.there))) hlook) rfl ?_
            refine g_yes rfl rfl ?_
            refine g_pure (p_not rfl) rfl ?_
            first | refine g_pure (p_pickt rfl rfl) rfl ?_ | refine g_pure (p_pickf rfl rfl) rfl ?_
            refine g_nil ?_
            refine g_qt ?_
            refine g_ift rfl ?_
            refine g_exit ?_
            refine g_qt_exit ?_
            refine g_qb_exit ?_
            refine g_qt ?_
            refine g_region ?_
            first | refine g_pure (p_addi rfl rfl (by omega)) rfl ?_ | refine g_pure (p_add rfl rfl) rfl ?_
            refine g_pure (p_move rfl) rfl ?_
            refine g_nil ?_
            refine g_qn ?_
            exact g_next (v + 1, ca, cc) (by (repeat (first | exact trivial | refine ⟨by rfl, ?_⟩)); done) (by rw [hnx]; exact (by repeat' (first | exact Cover.nil | exact Take.here | apply Cover.cons | apply Take.there))) (by dsimp only; omega) (by dsimp only; omega)
      · have hve : v = S.length := by omega
        subst hve
        refine g_exit ?_
        refine g_qt_exit ?_
        refine g_qn_exit ?_
        refine g_qb_exit ?_
        refine g_qt ?_
        refine g_seq ?_
        refine g_seq ?_
        refine g_region ?_
        refine g_pure (p_move rfl) rfl ?_
        refine g_pure (p_len (by rfl) rfl) rfl ?_
        refine g_pure (p_move rfl) rfl ?_
        refine g_nil ?_
        refine g_qt ?_
        refine g_block ?_
        refine g_loop (fun q : Nat × Option Addr × Nat => [(0, .pointer (some ⟨p, 0, none⟩)), (1, .slice al rs.length cl), (4, .pointer (some ⟨b4, 0, none⟩)), (9, .pointer (some ⟨b9, 0, none⟩)), (98, .slice al rs.length cl), (99, .int .i64 rs.length), (100, .int .i64 q.1)])
          (fun q => [Blk b4 (.cells [.int .i64 0, .slice none 0 0].toArray 30 (0, 0)), Blk b9 (.cells [.int .i64 ((S.length : Int) - 1), .slice q.2.1 (F ++ (rs.take q.1).flatMap rcl).length q.2.2].toArray 30 (0, 0)), Own2 79 3 q.2.1 q.2.2 ((F ++ (rs.take q.1).flatMap rcl).map encCl)])
          (fun q => q.1 ≤ rs.length ∧ ((rs.take q.1).flatMap rcl).length ≤ q.1) (fun q => rs.length - q.1) (0, ca, cc) ⟨Nat.zero_le _, Nat.zero_le _⟩ (by (repeat (first | exact trivial | refine ⟨by rfl, ?_⟩)); done) (by simp only [List.take_zero, List.flatMap_nil, List.append_nil]; exact (by repeat' (first | exact Cover.nil | exact Take.here | apply Cover.cons | apply Take.there))) ?_
        rintro ⟨i, ca, cc⟩ ⟨hi, hle⟩
        dsimp only at hi hle ⊢
        have hnx : ∀ (hil : i < rs.length), (rs.take (i + 1)).flatMap rcl = (rs.take i).flatMap rcl ++ rcl rs[i] := fun hil => by rw [List.take_add_one, List.getElem?_eq_getElem hil, List.flatMap_append]; simp
        obtain ⟨E, hE⟩ : ∃ E, F ++ (rs.take i).flatMap rcl = E := ⟨_, rfl⟩
        have hEl : E.length = F.length + ((rs.take i).flatMap rcl).length := by rw [← hE, List.length_append]
        have hml : (E.map encCl).length = E.length := List.length_map _
        have hnE : ∀ (hil : i < rs.length), F ++ (rs.take (i + 1)).flatMap rcl = E ++ rcl rs[i] := fun hil => by rw [hnx hil, ← List.append_assoc, hE]
        rw [hE]
        refine g_seq ?_
        refine g_region ?_
        refine g_pure (p_lss rfl rfl) rfl ?_
        refine g_nil ?_
        refine g_qt ?_
        refine g_seq ?_
        refine g_ifd rfl (fun w2 => ?_) (fun w2 => ?_)
        · have hil : i < rs.length := by omega
          obtain ⟨r1, r2, r3⟩ := hcs (by omega)
          obtain ⟨h0, h1, hx⟩ := hroot i hil
          have hnE := hnE hil
          have hnx := hnx hil
          generalize rs[i] = r at h0 h1 hx hnE hnx
          refine g_skip ?_
          refine g_qt ?_
          refine g_seq ?_
          refine g_block ?_
          refine g_seq ?_
          refine g_region ?_
          refine g_pure (p_indexAddr rfl rfl (by omega) (fun _ => r1)) rfl ?_
          refine g_pure (p_load (by rfl) rfl (Has.ro r2) hx) rfl ?_
          refine g_pure (p_assign rfl) rfl ?_
          refine g_nil ?_
          refine g_qt ?_
          refine g_seq ?_
          refine g_region ?_
          refine g_pure (p_move rfl) rfl ?_
          refine g_nil ?_
          refine g_qt ?_
          refine g_block ?_
          refine g_seq ?_
          refine g_region ?_
          refine g_pure (p_eql rfl rfl) rfl ?_
          refine g_pure (p_assign rfl) rfl ?_
          refine g_nil ?_
          refine g_qt ?_
          refine g_ifd rfl (fun u => ?_) (fun u => ?_)
          · have hc : rcl r = [[]] := by rw [u]; rfl
            refine g_open2 (H' := _) (eo := 79) (ei := 3) (a := ca) (cap := cc) (rows := E.map encCl) (by repeat' (first | exact Take.here | apply Take.there)) ?_
            rintro hs hhs
            rw [hml] at hhs ⊢
            refine g_region ?_
            refine g_pure (p_fieldAddr rfl) rfl ?_
            refine g_pure (p_load (by rfl) rfl (by first | (apply Has.own; (repeat' (first | exact Take.here | apply Take.there)); done) | exact Has.ro (by assumption)) (by first | rfl | assumption)) rfl ?_
            refine g_eff (e_bs (xs := [.const (.slice .none 0 0)]) rfl rfl rfl (by rfl) (by rfl) rfl (by rfl)) rfl (fun _ _ => ?_)
            rintro ⟨b118, rfl, rfl⟩
            refine g_eff (e_appendO (by rfl) (by rfl) rfl rfl (by first | (apply Has.own; (repeat' (first | exact Take.here | apply Take.there)); done) | exact Has.ro (by assumption)) (by rfl) (by rfl) (by repeat' (first | exact Take.here | apply Take.there)) (by omega) (by first | omega | (dsimp only; omega) | (simp <;> omega)) (by omega)) rfl (fun _ _ => ?_)
            rintro ⟨a119, c119, rfl, rfl⟩
            refine g_pure (p_fieldAddr rfl) rfl ?_
            first | refine g_eff0 (e_storeO rfl rfl (by rfl) (by rfl) (by rfl) (by repeat' (first | exact Take.here | apply Take.there)) (by rfl)) (fun _ _ => ?_) | refine g_eff0 (e_store1 (by rfl) rfl rfl rfl (by repeat' (first | exact Take.here | apply Take.there)) (by first | decide | (simp <;> omega) | omega)) (fun _ _ => ?_)
            rintro rfl
            refine g_nil ?_
            refine g_qb ?_
            refine g_qb ?_
            refine g_qt ?_
            refine g_region ?_
            first | refine g_pure (p_addi rfl rfl (by omega)) rfl ?_ | refine g_pure (p_add rfl rfl) rfl ?_
            refine g_pure (p_move rfl) rfl ?_
            refine g_nil ?_
            refine g_qn ?_
            refine g_ownnil (e := 3) (size := 1) ?_
            refine g_push1 (rows := E.map encCl) (hs := hs) (ei := 3) (by rw [hml]; exact hhs) (g := (none, 0)) (r := encCl []) (by rw [hml]) rfl (by repeat' (first | exact Take.here | apply Take.there)) (by repeat' (first | exact Take.here | apply Take.there)) (by repeat' (first | exact Take.here | apply Take.there)) ?_
            have hrw : E.map encCl ++ [encCl []] = (F ++ (rs.take (i + 1)).flatMap rcl).map encCl := by rw [hnE, hc, List.map_append]; rfl
            have hln : E.length + 1 = (F ++ (rs.take (i + 1)).flatMap rcl).length := by rw [hnE, hc]; simp
            rw [hrw, hln]
            exact g_next (i + 1, a119, c119) (by (repeat (first | exact trivial | refine ⟨by rfl, ?_⟩)); done) (by repeat' (first | exact Cover.nil | exact Take.here | apply Cover.cons | apply Take.there)) ⟨by dsimp only; omega, by dsimp only; rw [hnx, hc, List.length_append]; exact Nat.add_le_add_right hle 1⟩ (by dsimp only; omega)
          · refine g_seq ?_
            refine g_region ?_
            refine g_pure (p_eql rfl rfl) rfl ?_
            refine g_pure (p_assign rfl) rfl ?_
            refine g_nil ?_
            refine g_qt ?_
            refine g_ifd rfl (fun u2 => ?_) (fun u2 => ?_)
            · have hc : rcl r = [] := by rw [u2]; rfl
              have hrw : E = F ++ (rs.take (i + 1)).flatMap rcl := by rw [hnE, hc, List.append_nil]
              refine g_skip ?_
              refine g_qb ?_
              refine g_qb ?_
              refine g_qt ?_
              refine g_region ?_
              first | refine g_pure (p_addi rfl rfl (by omega)) rfl ?_ | refine g_pure (p_add rfl rfl) rfl ?_
              refine g_pure (p_move rfl) rfl ?_
              refine g_nil ?_
              refine g_qn ?_
              rw [hrw]
              exact g_next (i + 1, ca, cc) (by (repeat (first | exact trivial | refine ⟨by rfl, ?_⟩)); done) (by repeat' (first | exact Cover.nil | exact Take.here | apply Cover.cons | apply Take.there)) ⟨by dsimp only; omega, by dsimp only; rw [hnx, hc, List.append_nil]; omega⟩ (by dsimp only; omega)
            · have hc : rcl r = [[litF r]] := by unfold rcl; rw [if_neg u, if_neg u2]
              refine g_open2 (H' := _) (eo := 79) (ei := 3) (a := ca) (cap := cc) (rows := E.map encCl) (by repeat' (first | exact Take.here | apply Take.there)) ?_
              rintro hs hhs
              rw [hml] at hhs ⊢
              refine m_begin0 (.fl 0 0 (.fl 1 1 (.fl 2 0 (.ef 3 (.ef 4 (.ef 5 (.ef 6 (.ef 7 (.fl 8 0 (.ef 9 .done)))))))))) (by kernel_rfl) (by kernel_rfl) ?_
              refine m_float0 rfl (fun _ _ => p_fieldAddr rfl) rfl ?_
              refine m_float rfl (p_load (by rfl) rfl (by first | (apply Has.own; (repeat' (first | exact Take.here | apply Take.there)); done) | exact Has.ro (by assumption)) (by first | rfl | assumption)) rfl ?_
              refine m_float0 rfl (fun _ _ => p_move rfl) rfl ?_
              refine m_call (Hin := []) (Hr := ?hr15) (R := ?rr15) rfl wantedN rfl rfl rfl ?hin15 ?hc15 ?hk15
              case hin15 => repeat' (first | exact Cover.nil | exact Take.here | apply Cover.cons | apply Take.there)
              case hc15 => intro ρ' hρ hR; exact lof_ok r (by omega)
              rintro _ _ ⟨rfl, rfl⟩
              refine ⟨.some (by repeat' (first | exact Cover.nil | exact Take.here | apply Cover.cons | apply Take.there)), ?_⟩
              refine m_eff rfl (e_bs (xs := [.tmp 108]) rfl rfl rfl (by rfl) (by rfl) rfl (by rfl)) rfl (fun _ _ => ?_)
              rintro ⟨b109, rfl, rfl⟩
              refine ⟨.some (by repeat' (first | exact Cover.nil | exact Take.here | apply Cover.cons | apply Take.there)), ?_⟩
              refine m_call (Hin := []) (Hr := ?hr16) (R := ?rr16) rfl wantedN rfl rfl rfl ?hin16 ?hc16 ?hk16
              case hin16 => repeat' (first | exact Cover.nil | exact Take.here | apply Cover.cons | apply Take.there)
              case hc16 => intro ρ' hρ hR; exact clause_ok' (some ⟨b109, 0, none⟩) 1 [(r / 2, decide (r % 2 = 1))] (RSl.of_blk (Take.ro (A := Blk b109 (.cells (List.flatMap encQc [(r / 2, decide (r % 2 = 1))]).toArray 78 (0, 0))) (by repeat' (first | exact Take.here | apply Take.there)) hR).blk (Nat.le_refl _)) (by simp) (by intro p hp; simp at hp; subst hp; dsimp only; omega)
              rintro _ _ ⟨a110, c110, rfl, rfl⟩
              refine ⟨.some (by repeat' (first | exact Cover.nil | exact Take.here | apply Cover.cons | apply Take.there)), ?_⟩
              refine m_eff rfl (e_bs (xs := [.tmp 110]) rfl rfl rfl (by rfl) (by rfl) rfl (by rfl)) rfl (fun _ _ => ?_)
              rintro ⟨b111, rfl, rfl⟩
              refine ⟨.some (by repeat' (first | exact Cover.nil | exact Take.here | apply Cover.cons | apply Take.there)), ?_⟩
              refine m_eff rfl (e_appendO (by rfl) (by rfl) rfl rfl (by first | (apply Has.own; (repeat' (first | exact Take.here | apply Take.there)); done) | exact Has.ro (by assumption)) (by rfl) (by rfl) (by repeat' (first | exact Take.here | apply Take.there)) (by omega) (by first | omega | (dsimp only; omega) | (simp <;> omega)) (by omega)) rfl (fun _ _ => ?_)
              rintro ⟨a112, c112, rfl, rfl⟩
              refine ⟨.none (by kernel_rfl), ?_⟩
              refine m_float0 rfl (fun _ _ => p_fieldAddr rfl) rfl ?_
              first | refine m_eff0 rfl (e_storeO rfl rfl (by rfl) (by rfl) (by rfl) (by repeat' (first | exact Take.here | apply Take.there)) (by rfl)) (fun _ _ => ?_) | refine m_eff0 rfl (e_store1 (by rfl) rfl rfl rfl (by repeat' (first | exact Take.here | apply Take.there)) (by first | decide | (simp <;> omega) | omega)) (fun _ _ => ?_)
              rintro rfl
              refine ⟨.none (by kernel_rfl), ?_⟩
              refine m_nil ?_
              refine g_qb ?_
              refine g_qb ?_
              refine g_qt ?_
              refine g_region ?_
              first | refine g_pure (p_addi rfl rfl (by omega)) rfl ?_ | refine g_pure (p_add rfl rfl) rfl ?_
              refine g_pure (p_move rfl) rfl ?_
              refine g_nil ?_
              refine g_qn ?_
              refine g_push1 (rows := E.map encCl) (hs := hs) (ei := 3) (by rw [hml]; exact hhs) (g := (a110, c110)) (r := encCl ([(r / 2, decide (r % 2 = 1))].map numL)) (by rw [hml]) rfl (by repeat' (first | exact Take.here | apply Take.there)) (by repeat' (first | exact Take.here | apply Take.there)) (by repeat' (first | exact Take.here | apply Take.there)) ?_
              have hrw : E.map encCl ++ [encCl ([(r / 2, decide (r % 2 = 1))].map numL)] = (F ++ (rs.take (i + 1)).flatMap rcl).map encCl := by
                rw [hnE, hc, List.map_append]
                simp only [List.map_cons, List.map_nil, numL_lit]
              have hln : E.length + 1 = (F ++ (rs.take (i + 1)).flatMap rcl).length := by rw [hnE, hc]; simp
              rw [hrw, hln]
              exact g_next (i + 1, a112, c112) (by (repeat (first | exact trivial | refine ⟨by rfl, ?_⟩)); done) (by repeat' (first | exact Cover.nil | exact Take.here | apply Cover.cons | apply Take.there)) ⟨by dsimp only; omega, by dsimp only; rw [hnx, hc, List.length_append]; exact Nat.add_le_add_right hle 1⟩ (by dsimp only; omega)
        · have hie : i = rs.length := by omega
          subst hie
          rw [List.take_length] at hE
          refine g_exit ?_
          refine g_qt_exit ?_
          refine g_qn_exit ?_
          refine g_qb_exit ?_
          refine g_qt ?_
          refine g_seq ?_
          refine g_region ?_
          first | refine g_pure (p_loadO (by rfl) rfl (by first | (apply Has.own; (repeat' (first | exact Take.here | apply Take.there)); done) | exact Has.ro (by assumption)) (by rfl)) rfl ?_ | refine g_pure (p_loadN (by rfl) rfl (by first | (apply Has.own; (repeat' (first | exact Take.here | apply Take.there)); done) | exact Has.ro (by assumption)) (by first | rfl | assumption)) rfl ?_
          first | refine g_eff0 (e_storeO rfl rfl (by rfl) (by rfl) (by rfl) (by repeat' (first | exact Take.here | apply Take.there)) (by rfl)) (fun _ _ => ?_) | refine g_eff0 (e_storeN rfl rfl (by rfl) (by rfl) (by rfl) (by repeat' (first | exact Take.here | apply Take.there)) (by simp)) (fun _ _ => ?_)
          rintro rfl
          refine g_pure (p_assign rfl) rfl ?_
          refine g_nil ?_
          refine g_qt ?_
          refine g_ret ?_
          subst hE hF
          exact g_post (Ho := [Own2 79 3 ca cc ((cnfF S (fun u => decide (u ∈ nl)) rs).map encCl)]) (rs := [.cell 4 30, .tmp 5]) rfl (Res.cellN (by rfl) rfl (Has.own (by repeat' (first | exact Take.here | apply Take.there))) (by rfl) (.tmp rfl .nil)) ⟨ca, cc, fun u => decide (u ∈ nl), hnd, rfl, rfl⟩ (by repeat' (first | exact Cover.nil | exact Take.here | apply Cover.cons | apply Take.there))
end Go.Proofs.YtopgbgnmjogeeaaGreatDoor
/- SatGraphs, plain: the formula of a gate is satisfiable exactly if inputs make the gate true. No program in sight. Conditions: none. -/
namespace Go.Z.Tse
set_option maxRecDepth 8000
set_option linter.unusedVariables false
set_option linter.unusedSimpArgs false
set_option linter.unusedSectionVars false
open Go Go.Z Go.Z.Aig Go.Proofs.YtopgbgnmjogeeaaGreatDoor

def inG : Gt := (0, 0, true)
def S0 (m : Nat) : St := (0, 0, false) :: List.replicate m inG
theorem S0_len (m : Nat) : (S0 m).length = m + 1 := by simp [S0]
theorem S0_succ (m : Nat) : S0 m ++ [(0, 0, true)] = S0 (m + 1) := by
  unfold S0; rw [List.replicate_succ', List.cons_append]; rfl
theorem S0_wf : ∀ m : Nat, m ≤ 1000 → WF (S0 m)
  | 0, _ => WF.new
  | m + 1, h => by
    rw [← S0_succ]
    exact (S0_wf m (by omega)).input (by rw [S0_len]; omega)
theorem ins_rep : ∀ (k i : Nat), (ins i (List.replicate k inG)).length = k
  | 0, _ => rfl
  | k + 1, i => by
    rw [List.replicate_succ]
    show (_ :: ins (i + 1) (List.replicate k inG)).length = _
    rw [List.length_cons, ins_rep k]
theorem ins_no : ∀ (R : List Gt) (i : Nat), (∀ g ∈ R, g.2.2 = false) → ins i R = []
  | [], _, _ => rfl
  | g :: R, i, h => by
    have := h g (by simp)
    simp only [ins]
    rw [if_neg (by rw [this]; simp)]
    exact ins_no R _ fun x hx => h x (by simp [hx])
/-- a graph with m inputs and gates behind them -/
structure GI (m : Nat) (T : St) : Prop where
  wf : WF T
  ext : Ext (S0 m) T
theorem GI.ins {m : Nat} {T : St} (h : GI m T) : (ins 0 T).length = m := by
  obtain ⟨R, rfl, hR⟩ := h.ext
  rw [ins_append, ins_no R _ hR, List.append_nil]
  show (Aig.ins 1 (List.replicate m inG)).length = m
  exact ins_rep m 1
theorem GI.inp {m : Nat} {T : St} (h : GI m T) {v : Nat} {x y : Int} (hv : 0 < v) (hs : T[v]? = some (x, y, true)) : v ≤ m ∧ rank T v = v - 1 := by
  obtain ⟨R, rfl, hR⟩ := h.ext
  have hl : (S0 m).length = m + 1 := S0_len m
  by_cases hvm : v < m + 1
  · refine ⟨by omega, ?_⟩
    unfold rank
    rw [List.take_append_of_le_length (by omega)]
    obtain ⟨u, rfl⟩ : ∃ u, v = u + 1 := ⟨v - 1, by omega⟩
    unfold S0
    rw [List.take_succ_cons]
    show (Aig.ins 1 ((List.replicate m inG).take u)).length = _
    rw [List.take_replicate, ins_rep]; omega
  · rw [List.getElem?_append_right (by omega)] at hs
    have := hR _ (List.mem_of_getElem? hs)
    cases this

theorem cnf_check {T : St} (hw : WF T) (nd : Nat → Bool) {rs : List Int} (hr : ∀ r ∈ rs, Aig.has T r) : check1 ((T.length : Int) - 1) (cnfF T nd rs) = 0 := by
  have h1 := hw.pos
  have h2 := hw.lim
  unfold check1
  rw [if_neg (by omega), if_neg (by omega), if_pos]
  unfold allB
  rw [List.all_eq_true]
  intro c hc
  rw [List.all_eq_true]
  intro l hl
  have := cnfF_ok hw nd hr c hc l hl
  unfold Sat.okL at this
  unfold okB
  rw [decide_eq_false (by omega), decide_eq_false (by omega), decide_eq_false (by omega)]; rfl
theorem gcls_short (S : St) (v : Nat) : ∀ c ∈ gcls S v, c.length ≤ 3 := by
  intro c hc
  unfold gcls at hc
  split at hc
  · split at hc
    · cases hc
    · simp only [List.mem_cons, List.not_mem_nil, or_false] at hc
      rcases hc with rfl | rfl | rfl <;> simp
  · cases hc
theorem cnf_short (S : St) (nd : Nat → Bool) (rs : List Int) : ∀ c ∈ cnfF S nd rs, c.length ≤ 3 := by
  intro c hc
  unfold cnfF gates at hc
  rcases List.mem_append.1 hc with hc | hc
  · obtain ⟨v, _, hc⟩ := List.mem_flatMap.1 hc
    split at hc
    · exact gcls_short S v c hc
    · cases hc
  · obtain ⟨r, _, hc⟩ := List.mem_flatMap.1 hc
    unfold rcl at hc
    split at hc
    · obtain rfl := List.mem_singleton.1 hc; simp
    · split at hc
      · cases hc
      · obtain rfl := List.mem_singleton.1 hc; simp
theorem rcl_len : ∀ rs : List Int, (rs.flatMap rcl).length ≤ rs.length
  | [] => by simp
  | r :: rs => by
    rw [List.flatMap_cons, List.length_append, List.length_cons]
    have := rcl_len rs
    have : (rcl r).length ≤ 1 := by unfold rcl; split <;> (try split) <;> simp
    omega
theorem cnf_len (S : St) (nd : Nat → Bool) (rs : List Int) : (cnfF S nd rs).length ≤ 3 * S.length + rs.length := by
  unfold cnfF
  rw [List.length_append]
  have := gates_len S nd S.length
  have := rcl_len rs
  omega
theorem cnf_Ok {T : St} (hw : WF T) (nd : Nat → Bool) {rs : List Int} (hr : ∀ r ∈ rs, Aig.has T r) (hl : rs.length ≤ 1000) : Ok ((T.length : Int) - 1).toNat (cnfF T nd rs) := by
  have h2 := hw.lim
  have h3 := cnf_len T nd rs
  have h4 := cnf_short T nd rs
  refine ⟨?_, by omega, by omega, fun c hc => by have := h4 c hc; omega, fun k => ?_⟩
  · rw [show ((T.length : Int) - 1).toNat = T.length - 1 by omega]
    exact cnfF_ok hw nd hr
  · have h5 := Sat.useRow_total (cnfF T nd rs) k
    have h6 := Sat.total_le (cnfF T nd rs) h4
    omega
theorem cnf_FmR {ρ : Nat → Obj → Prop} {ca : Option Addr} {T : St} (hw : WF T) (nd : Nat → Bool) {rs : List Int} (hr : ∀ r ∈ rs, Aig.has T r) (hl : rs.length ≤ 1000) (h : RSl2 ρ ca ((cnfF T nd rs).map encCl)) : FmR ρ ca (cnfF T nd rs) := by
  have h2 := hw.lim
  have h3 := cnf_len T nd rs
  have h4 := cnf_short T nd rs
  have h5 := cnfF_ok hw nd hr
  refine ⟨h, by omega, fun c hc => by have := h4 c hc; omega, fun c hc x hx => ?_⟩
  have := h5 c hc x hx
  unfold Sat.okL at this
  unfold I64; omega
theorem root_law {m : Nat} {T : St} (hG : GI m T) (hm : m ≤ 5) (hl : T.length ≤ 36) {nd : Nat → Bool} {root : Int} (hr : Aig.has T root) (hnd : ∀ u, nd u = true ↔ Nd T [root] u) {code e : Int} {cells : List Value} (h : Sat.Sol ((T.length : Int) - 1) (cnfF T nd [root]) 1099511627776 code cells e) :
    e = 0 ∧ ((code = 1 ∧ ∃ xs : List Bool, cells = xs.map encB ∧ m ≤ xs.length ∧ xs.length ≤ 100 ∧ litv (vals T (xs.take m)) root = true) ∨ (code = 2 ∧ cells = [] ∧ ∀ inp, litv (vals T inp) root = false)) := by
  have hw := hG.wf
  have hr' : ∀ r ∈ [root], Aig.has T r := fun r h => by rw [List.mem_singleton.1 h]; exact hr
  have hpos := hw.pos
  have hck := cnf_check hw nd hr'
  have hok := cnfF_ok hw nd hr'
  obtain ⟨R, hTR, _⟩ := hG.ext
  have hml : m + 1 ≤ T.length := by rw [hTR, List.length_append, S0_len]; omega
  rcases h with ⟨h1, _⟩ | ⟨_, h2, _⟩ | ⟨_, _, rfl, r, h3, rfl, rfl⟩
  · omega
  · exact absurd hck h2
  · rw [show ((T.length : Int) - 1).toNat = T.length - 1 by omega] at h3 ⊢
    have hf := h3.first hok .nil
    refine ⟨rfl, ?_⟩
    cases r with
    | unk =>
      refine absurd rfl (h3.known (fun p hp => absurd hp List.not_mem_nil) ?_)
      unfold Sat.pot
      rw [Sat.cnt_none]
      have : 2 ^ (T.length - 1) ≤ 2 ^ 35 := Nat.pow_le_pow_right (by decide) (by omega)
      simp; omega
    | sat b =>
      refine .inl ⟨rfl, Sat.mods (T.length - 1) b, Sat.mods_cells _ b, by rw [Sat.mods_len]; omega, by rw [Sat.mods_len]; omega, ?_⟩
      have hM := Sat.satF_Mod (n := T.length - 1) hf.1
      refine mod_roots hw hnd hr' hM (fun v x y hv hs => ?_) root (by simp)
      obtain ⟨k1, k2⟩ := hG.inp hv hs
      rw [k2, ← Sat.mods_at (n := T.length - 1) b (by omega) (by omega)]
      unfold Sat.moOf
      rw [List.getD_eq_getElem?_getD, List.getElem?_take_of_lt (by omega), ← List.getD_eq_getElem?_getD]
    | uns =>
      refine .inr ⟨rfl, rfl, fun inp => ?_⟩
      cases hv : litv (vals T inp) root with
      | false => rfl
      | true =>
        refine absurd (.inl fun v x e => by cases e) (hf _ ((vals_mod hw nd (fun r hr => (hr' r hr).1) inp).2 fun r hrm => ?_))
        rw [List.mem_singleton.1 hrm]; exact hv
theorem some_law {m : Nat} {T : St} {root : Int} (h : ∀ k, k < 2 ^ m → litv (vals T (Sat.mlist m k)) root = false) {xs : List Bool} (hx : xs.length = m) : litv (vals T xs) root = false := by
  have := h (Sat.val xs) (by rw [← hx]; exact Sat.val_lt xs)
  rwa [Sat.mlist_val hx] at this
end Go.Z.Tse
/- SatGraphs: the walk. Conditions: none. -/
namespace Go.Z.Tse
set_option maxRecDepth 8000
set_option linter.unusedVariables false
set_option linter.unusedSimpArgs false
set_option linter.unusedSectionVars false
open Go Go.Z Go.Z.Aig Go.Proofs.YtopgbgnmjogeeaaGreatDoor
abbrev Ga := Int × Int × Bool × Bool
def encGa (g : Ga) : List Value := [.int .i64 g.1, .int .i64 g.2.1, .bool g.2.2.1, .bool g.2.2.2]
theorem encGa_len (g : Ga) : (encGa g).length = 4 := rfl
theorem means_out {S : St} {r : Int × Int × St} {k : Nat} {f : (Int → Bool) → Bool} (h : Means S r k f) : ∃ v T, r = (v, 0, T) ∧ Means S (v, 0, T) k f := by
  obtain ⟨v, e, T⟩ := r
  have : e = 0 := h.ok
  subst this
  exact ⟨v, T, rfl, h⟩
theorem has_i64' {S : St} (hw : WF S) {a : Int} (h : has S a) : I64 a := by
  have := hw.lim; have := h.1; have := h.2; unfold I64; omega
theorem u64_pos (n : Int) : 0 ≤ IntKind.u64.wrap n := by simp [IntKind.wrap, IntKind.signed, IntKind.bits]; omega
theorem u64_len {n : Nat} (h : n ≤ 1000000) : IntKind.u64.wrap (n : Int) = n := by simp [IntKind.wrap, IntKind.signed, IntKind.bits]; omega
theorem pick_lt {n : Nat} (h0 : 0 < n) (h : n ≤ 1000000) (a : Int) : 0 ≤ IntKind.u64.wrap a % IntKind.u64.wrap (n : Int) ∧ IntKind.u64.wrap a % IntKind.u64.wrap (n : Int) < n := by
  rw [u64_len h]
  exact ⟨Int.emod_nonneg _ (by omega), Int.emod_lt_of_pos _ (by omega)⟩
theorem shl_nat' {m : Nat} (h : m ≤ 9) : IntKind.i64.wrap (1 * 2 ^ (min ((m : Nat) : Int).toNat IntKind.i64.bits)) = ((2 ^ m : Nat) : Int) := by
  have : m = 0 ∨ m = 1 ∨ m = 2 ∨ m = 3 ∨ m = 4 ∨ m = 5 ∨ m = 6 ∨ m = 7 ∨ m = 8 ∨ m = 9 := by omega
  rcases this with rfl | rfl | rfl | rfl | rfl | rfl | rfl | rfl | rfl | rfl <;> rfl
theorem GI.add {m : Nat} {T U : St} {a : Int} {f : (Int → Bool) → Bool} {k : Nat} (h : GI m T) (g : Means T (a, 0, U) k f) : GI m U := ⟨g.wf, h.ext.trans g.ext⟩
theorem eval_root {m : Nat} {T : St} (h : GI m T) {inp : List Bool} (hi : inp.length = m) {root : Int} (hr : has T root) : eval1 T inp [root] = ([litv (vals T inp) root], 0) := by
  unfold eval1
  rw [if_neg (by rw [h.ins]; omega), if_pos (by rw [List.all_eq_true]; intro x hx; rw [List.mem_singleton.1 hx]; exact hasB_iff.2 hr)]
  rfl
end Go.Z.Tse
namespace Go.Proofs.YtopgbgnmjogeeaaGreatDoor
set_option maxRecDepth 8000
set_option linter.unusedVariables false
set_option linter.unusedSimpArgs false
set_option linter.unusedSectionVars false
open Go Go.Z Go.Z.Aig Go.Z.Tse

theorem rsl_take {ρ : Nat → Obj → Prop} {a : Option Addr} {n m : Nat} {xs : List Value} (h : RSl ρ 1 a n xs) (hm : m ≤ n) : RSl ρ 1 a m (xs.take m) := by
  obtain ⟨h1, b, off, cs, T, fz, h2⟩ := h
  refine ⟨by rw [List.length_take]; omega, b, off, cs, T, fz, fun h0 => ?_⟩
  obtain ⟨k1, k2, k3⟩ := h2 (by omega)
  refine ⟨k1, k2, fun j v hj => k3 j v ?_⟩
  rw [List.getElem?_take] at hj
  split at hj
  · exact hj
  · cases hj

theorem nnot_ok {ρ : Nat → Obj → Prop} {T : St} (hw : WF T) {a : Int} (ha : has T a) : Con Tryz.prog ρ 60 #[.int .i64 a] [] (fun v H => v = .int .i64 (nt a) ∧ H = []) := by
  have := not_ok (ρ := ρ) a
  rwa [nt_xor a (has_i64' hw ha)] at this

end Go.Proofs.YtopgbgnmjogeeaaGreatDoor
