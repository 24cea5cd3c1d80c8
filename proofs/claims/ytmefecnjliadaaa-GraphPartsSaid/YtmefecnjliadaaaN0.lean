/- Chapter 04, plain: the search for components (Tarjan's) finds the classes of vertices that reach each other. No program in sight. Conditions: none. -/
import Derived.Test.YtmefecnjliadaaaZi
namespace Go.Z.Gra
set_option maxRecDepth 8000
set_option linter.unusedVariables false
set_option linter.unusedSimpArgs false
set_option linter.unusedSectionVars false
open Go Go.Z

/-- from x there is a path to y -/
inductive Rch (N : Nat → List Nat) : Nat → Nat → Prop
  | refl (x : Nat) : Rch N x x
  | step {x y z : Nat} : Rch N x y → z ∈ N y → Rch N x z
theorem Rch.trans {N : Nat → List Nat} {x y z : Nat} (h : Rch N x y) (g : Rch N y z) : Rch N x z := by
  induction g with
  | refl => exact h
  | step _ hz ih => exact .step ih hz
theorem Rch.one {N : Nat → List Nat} {x y : Nat} (h : y ∈ N x) : Rch N x y := .step (.refl x) h
theorem Rch.closed {N : Nat → List Nat} {A : Nat → Prop} (hA : ∀ x, A x → ∀ y ∈ N x, A y) {x y : Nat} (h : Rch N x y) (hx : A x) : A y := by
  induction h with
  | refl => exact hx
  | step _ hz ih => exact hA _ ih _ hz

def upd {α : Type} (f : Nat → α) (v : Nat) (x : α) : Nat → α := fun u => if u = v then x else f u
theorem upd_same {α : Type} (f : Nat → α) (v : Nat) (x : α) : upd f v x v = x := by simp [upd]
theorem upd_ne {α : Type} (f : Nat → α) {v u : Nat} (x : α) (h : u ≠ v) : upd f v x u = f u := by simp [upd, h]
theorem upd_id {α : Type} (f : Nat → α) (v : Nat) : upd f v (f v) = f := by
  funext u; unfold upd; split
  · rename_i h; rw [h]
  · rfl
def updL {α : Type} (f : Nat → α) (l : List Nat) (x : α) : Nat → α := fun u => if u ∈ l then x else f u

/-- the state of the search -/
structure Tj where
  ix : Nat → Nat
  lo : Nat → Nat
  on : Nat → Bool
  nu : Nat → Nat
  st : List Nat
  ct : Nat
  pa : Nat
/-- a frame: its vertex, its next edge, and (a ghost) what stands behind it on the stack -/
abbrev Fr4 := Nat × Nat × List Nat
def segF (g : Fr4) : List Nat := g.1 :: g.2.2
def Tj.enter (t : Tj) (v : Nat) : Tj := { t with ct := t.ct + 1, ix := upd t.ix v (t.ct + 1), lo := upd t.lo v (t.ct + 1), st := t.st ++ [v], on := upd t.on v true }

structure FrOk (N : Nat → List Nat) (t : Tj) (g : Fr4) : Prop where
  deg : g.2.1 ≤ (N g.1).length
  rch : ∀ w ∈ segF g, Rch N g.1 w
  low : ∀ w ∈ segF g, t.lo g.1 ≤ t.lo w
  le : t.lo g.1 ≤ t.ix g.1
  wit : ∃ x ∈ t.st, t.ix x = t.lo g.1 ∧ Rch N g.1 x
  fin : ∀ w ∈ g.2.2, t.lo w < t.ix w ∧ ∃ x ∈ t.st, t.ix x = t.lo w ∧ Rch N w x
  out : ∀ w ∈ g.2.2, ∀ x ∈ N w, t.ix x ≠ 0 ∧ (x ∈ t.st → t.lo g.1 ≤ t.ix x)
  own : ∀ x ∈ (N g.1).take g.2.1, t.ix x ≠ 0 ∧ (x ∈ t.st → t.lo g.1 ≤ t.ix x)
def Chain (N : Nat → List Nat) : List Fr4 → Prop
  | [] => True
  | [_] => True
  | g :: h :: l => Rch N g.1 h.1 ∧ Chain N (h :: l)
structure TI (n : Nat) (N : Nat → List Nat) (t : Tj) (G : List Fr4) : Prop where
  st : t.st = G.flatMap segF
  nd : t.st.Nodup
  on : ∀ x, t.on x = true ↔ x ∈ t.st
  pos : ∀ x ∈ t.st, 0 < t.ix x
  cnt : ∀ x, t.ix x ≤ t.ct
  inc : t.st.Pairwise fun x y => t.ix x < t.ix y
  lt : ∀ x, t.ix x ≠ 0 → x < n
  fr : ∀ g ∈ G, FrOk N t g
  ch : Chain N G
  cl : ∀ x, t.ix x ≠ 0 → x ∉ t.st → ∀ y ∈ N x, t.ix y ≠ 0 ∧ y ∉ t.st
  num : ∀ x, t.ix x ≠ 0 → x ∉ t.st → t.nu x < t.pa
  cls : ∀ x y, t.ix x ≠ 0 → x ∉ t.st → t.ix y ≠ 0 → y ∉ t.st → (t.nu x = t.nu y ↔ Rch N x y ∧ Rch N y x)

theorem chain_snoc {N : Nat → List Nat} : ∀ {G : List Fr4} {g h : Fr4}, Chain N (G ++ [g]) → Rch N g.1 h.1 → Chain N (G ++ [g, h])
  | [], g, h, _, r => ⟨r, trivial⟩
  | [x], g, h, c, r => ⟨c.1, r, trivial⟩
  | x :: y :: G, g, h, c, r => ⟨c.1, chain_snoc (G := y :: G) c.2 r⟩
theorem chain_last {N : Nat → List Nat} : ∀ {G : List Fr4} {g h : Fr4}, Chain N (G ++ [g, h]) → Rch N g.1 h.1 ∧ Chain N (G ++ [g])
  | [], g, h, c => ⟨c.1, trivial⟩
  | [x], g, h, c => ⟨c.2.1, c.1, trivial⟩
  | x :: y :: G, g, h, c => let ⟨r, c'⟩ := chain_last (G := y :: G) c.2; ⟨r, c.1, c'⟩
theorem chain_init {N : Nat → List Nat} : ∀ {G : List Fr4} {g : Fr4}, Chain N (G ++ [g]) → Chain N G
  | [], _, _ => trivial
  | [_], _, _ => trivial
  | x :: y :: G, g, c => ⟨c.1, chain_init (G := y :: G) c.2⟩
theorem chain_swap {N : Nat → List Nat} : ∀ {G : List Fr4} {g h : Fr4}, g.1 = h.1 → Chain N (G ++ [g]) → Chain N (G ++ [h])
  | [], g, h, e, _ => trivial
  | [x], g, h, e, c => ⟨by rw [← e]; exact c.1, trivial⟩
  | x :: y :: G, g, h, e, c => ⟨c.1, chain_swap (G := y :: G) e c.2⟩

theorem mem_seg {G : List Fr4} {g : Fr4} (hg : g ∈ G) {w : Nat} (hw : w ∈ segF g) : w ∈ G.flatMap segF := List.mem_flatMap.2 ⟨g, hg, hw⟩

/-- the beginning: one frame on an empty stack -/
theorem TI.start {n : Nat} {N : Nat → List Nat} {t : Tj} (h : TI n N t []) {v : Nat} (hv : v < n) (h0 : t.ix v = 0) : TI n N (t.enter v) [(v, 0, [])] := by
  have hst : t.st = [] := h.st
  have hne : ∀ {x}, t.ix x ≠ 0 → x ≠ v := fun hx e => hx (by rw [e]; exact h0)
  have hst' : (t.enter v).st = [v] := by show t.st ++ [v] = _; rw [hst]; rfl
  have hnot : ∀ x, x ∉ t.st := fun x => by rw [hst]; exact List.not_mem_nil
  have hix : ∀ {x}, (t.enter v).ix x ≠ 0 → x ∉ (t.enter v).st → t.ix x ≠ 0 ∧ x ≠ v := fun {x} h1 h2 => by
    rw [hst', List.mem_singleton] at h2
    have e : (t.enter v).ix x = t.ix x := upd_ne _ _ h2
    rw [e] at h1
    exact ⟨h1, h2⟩
  refine ⟨hst'.trans rfl, by rw [hst']; simp, fun x => ?_, fun x hx => ?_, fun x => ?_, by rw [hst']; simp, fun x hx => ?_, fun g hg => ?_, trivial, fun x hx hs y hy => ?_, fun x hx hs => ?_, fun x y hx hs hy hs' => ?_⟩
  · rw [hst', List.mem_singleton]
    by_cases e : x = v
    · subst e; simp [Tj.enter, upd]
    · show upd t.on v true x = true ↔ _
      rw [upd_ne _ _ e, h.on]
      exact ⟨fun h' => absurd h' (hnot x), fun h' => absurd h' e⟩
  · rw [hst', List.mem_singleton] at hx
    subst hx
    show 0 < upd t.ix x (t.ct + 1) x
    rw [upd_same]; omega
  · show upd t.ix v (t.ct + 1) x ≤ t.ct + 1
    unfold upd
    split
    · exact Nat.le_refl _
    · have := h.cnt x; omega
  · by_cases e : x = v
    · rw [e]; exact hv
    · have e' : (t.enter v).ix x = t.ix x := upd_ne _ _ e
      rw [e'] at hx; exact h.lt x hx
  · rw [List.mem_singleton.1 hg]
    refine ⟨Nat.zero_le _, fun w hw => ?_, fun w hw => ?_, ?_, ⟨v, by rw [hst']; simp, ?_, .refl _⟩, fun w hw => absurd hw List.not_mem_nil, fun w hw => absurd hw List.not_mem_nil, fun x hx => absurd hx (by simp)⟩
    · have : w = v := by simpa [segF] using hw
      rw [this]; exact .refl _
    · have : w = v := by simpa [segF] using hw
      rw [this]; exact Nat.le_refl _
    · show upd t.lo v (t.ct + 1) v ≤ upd t.ix v (t.ct + 1) v
      rw [upd_same, upd_same]; exact Nat.le_refl _
    · show upd t.ix v (t.ct + 1) v = upd t.lo v (t.ct + 1) v
      rw [upd_same, upd_same]
  · obtain ⟨h1, h2⟩ := hix hx hs
    obtain ⟨h3, h4⟩ := h.cl x h1 (hnot x) y hy
    have e : (t.enter v).ix y = t.ix y := upd_ne _ _ (hne h3)
    exact ⟨by rw [e]; exact h3, by rw [hst', List.mem_singleton]; exact hne h3⟩
  · obtain ⟨h1, h2⟩ := hix hx hs
    exact h.num x h1 (hnot x)
  · obtain ⟨h1, _⟩ := hix hx hs
    obtain ⟨h2, _⟩ := hix hy hs'
    exact h.cls x y h1 (hnot x) h2 (hnot y)

theorem flat_snoc (G : List Fr4) (g : Fr4) : (G ++ [g]).flatMap segF = G.flatMap segF ++ segF g := by simp
/-- facts on the top frame -/
structure Top (t : Tj) (G : List Fr4) (g : Fr4) : Prop where
  st : t.st = G.flatMap segF ++ segF g
  below : ∀ x ∈ G.flatMap segF, ∀ y ∈ segF g, t.ix x < t.ix y
  first : ∀ y ∈ g.2.2, t.ix g.1 < t.ix y
  ge : ∀ y ∈ segF g, t.ix g.1 ≤ t.ix y
  apart : ∀ x ∈ G.flatMap segF, x ∉ segF g
theorem TI.top {n : Nat} {N : Nat → List Nat} {t : Tj} {G : List Fr4} {g : Fr4} (h : TI n N t (G ++ [g])) : Top t G g := by
  have hst := h.st
  rw [flat_snoc] at hst
  have hi := h.inc
  have hn := h.nd
  rw [hst] at hi hn
  obtain ⟨i1, i2, i3⟩ := List.pairwise_append.1 hi
  obtain ⟨n1, n2, n3⟩ := List.nodup_append.1 hn
  have i2' := List.pairwise_cons.1 (show List.Pairwise _ (g.1 :: g.2.2) from i2)
  refine ⟨hst, i3, i2'.1, fun y hy => ?_, fun x hx hy => n3 x hx x hy rfl⟩
  rcases List.mem_cons.1 (show y ∈ g.1 :: g.2.2 from hy) with rfl | hy
  · exact Nat.le_refl _
  · exact Nat.le_of_lt (i2'.1 y hy)
theorem TI.mem {n : Nat} {N : Nat → List Nat} {t : Tj} {G : List Fr4} (h : TI n N t G) {g : Fr4} (hg : g ∈ G) {w : Nat} (hw : w ∈ segF g) : w ∈ t.st := by rw [h.st]; exact mem_seg hg hw

theorem FrOk.lo_ne {N : Nat → List Nat} {t : Tj} {g : Fr4} (h : FrOk N t g) {v m : Nat} (hv : v ∉ segF g) : FrOk N { t with lo := upd t.lo v m } g := by
  have hne : ∀ {w}, w ∈ segF g → w ≠ v := fun hw e => hv (by rw [← e]; exact hw)
  have h1 : upd t.lo v m g.1 = t.lo g.1 := upd_ne _ _ (hne (List.mem_cons_self ..))
  have h2 : ∀ {w}, w ∈ segF g → upd t.lo v m w = t.lo w := fun hw => upd_ne _ _ (hne hw)
  have h3 : ∀ {w}, w ∈ g.2.2 → upd t.lo v m w = t.lo w := fun hw => h2 (List.mem_cons_of_mem _ hw)
  exact ⟨h.deg, h.rch, fun w hw => by show upd t.lo v m g.1 ≤ upd t.lo v m w; rw [h1, h2 hw]; exact h.low w hw, by show upd t.lo v m g.1 ≤ _; rw [h1]; exact h.le,
    by show ∃ x ∈ t.st, t.ix x = upd t.lo v m g.1 ∧ _; rw [h1]; exact h.wit, fun w hw => by show upd t.lo v m w < _ ∧ ∃ x ∈ t.st, t.ix x = upd t.lo v m w ∧ _; rw [h3 hw]; exact h.fin w hw,
    fun w hw x hx => by show _ ∧ (_ → upd t.lo v m g.1 ≤ _); rw [h1]; exact h.out w hw x hx, fun x hx => by show _ ∧ (_ → upd t.lo v m g.1 ≤ _); rw [h1]; exact h.own x hx⟩

theorem take_edge {l : List Nat} {i : Nat} (hi : i < l.length) {x : Nat} (hx : x ∈ l.take (i + 1)) : x ∈ l.take i ∨ x = l[i] := by
  rw [List.take_add_one, List.getElem?_eq_getElem hi, Option.toList_some] at hx
  rcases List.mem_append.1 hx with h | h
  · exact .inl h
  · exact .inr (List.mem_singleton.1 h)

/-- an edge to a vertex that was visited -/
theorem TI.edge {n : Nat} {N : Nat → List Nat} {t : Tj} {G : List Fr4} {v i : Nat} {r : List Nat} (h : TI n N t (G ++ [(v, i, r)])) (hi : i < (N v).length) (h0 : t.ix (N v)[i] ≠ 0) {m : Nat} (hm : m = if t.on (N v)[i] then min (t.lo v) (t.ix (N v)[i]) else t.lo v) :
    TI n N { t with lo := upd t.lo v m } (G ++ [(v, i + 1, r)]) := by
  have T := h.top
  have hg := h.fr (v, i, r) (by simp)
  have hvr : v ∉ r := by
    have := h.nd
    rw [T.st] at this
    have := (List.nodup_append.1 this).2.1
    exact (List.nodup_cons.1 (show (v :: r).Nodup from this)).1
  have hle : m ≤ t.lo v := by rw [hm]; split; exact Nat.min_le_left _ _; exact Nat.le_refl _
  have hwm : (N v)[i] ∈ t.st → m ≤ t.ix (N v)[i] := fun hw => by rw [hm, if_pos ((h.on _).2 hw)]; exact Nat.min_le_right _ _
  refine ⟨by rw [show t.st = _ from T.st, flat_snoc]; rfl, h.nd, h.on, h.pos, h.cnt, h.inc, h.lt, fun g hg' => ?_, chain_swap (g := (v, i, r)) rfl h.ch, h.cl, h.num, h.cls⟩
  rcases List.mem_append.1 hg' with hg' | hg'
  · refine (h.fr g (List.mem_append_left _ hg')).lo_ne fun hv => ?_
    exact T.apart v (mem_seg hg' hv) (List.mem_cons_self ..)
  · rw [List.mem_singleton.1 hg']
    have e1 : upd t.lo v m v = m := upd_same _ _ _
    have e2 : ∀ {w}, w ∈ r → upd t.lo v m w = t.lo w := fun hw => upd_ne _ _ (fun e => hvr (by rw [← e]; exact hw))
    refine ⟨by show i + 1 ≤ (N v).length; omega, hg.rch, fun w hw => ?_, ?_, ?_, fun w hw => ?_, fun w hw x hx => ?_, fun x hx => ?_⟩
    · show upd t.lo v m v ≤ upd t.lo v m w
      rw [e1]
      rcases List.mem_cons.1 (show w ∈ v :: r from hw) with rfl | hw'
      · rw [e1]; exact Nat.le_refl _
      · rw [e2 hw']; exact Nat.le_trans hle (hg.low w hw)
    · show upd t.lo v m v ≤ t.ix v
      rw [e1]; exact Nat.le_trans hle hg.le
    · show ∃ x ∈ t.st, t.ix x = upd t.lo v m v ∧ _
      rw [e1, hm]
      split
      · rename_i hon
        rcases Nat.le_total (t.lo v) (t.ix (N v)[i]) with hc | hc
        · rw [Nat.min_eq_left hc]; exact hg.wit
        · rw [Nat.min_eq_right hc]; exact ⟨_, (h.on _).1 hon, rfl, .one (List.getElem_mem hi)⟩
      · exact hg.wit
    · show upd t.lo v m w < _ ∧ ∃ x ∈ t.st, t.ix x = upd t.lo v m w ∧ _
      rw [e2 hw]; exact hg.fin w hw
    · show _ ∧ (_ → upd t.lo v m v ≤ _)
      rw [e1]
      have := hg.out w hw x hx
      exact ⟨this.1, fun hs => Nat.le_trans hle (this.2 hs)⟩
    · show _ ∧ (_ → upd t.lo v m v ≤ _)
      rw [e1]
      rcases take_edge hi hx with hx | rfl
      · have := hg.own x hx
        exact ⟨this.1, fun hs => Nat.le_trans hle (this.2 hs)⟩
      · exact ⟨h0, hwm⟩

theorem FrOk.enter {N : Nat → List Nat} {t : Tj} {g : Fr4} (h : FrOk N t g) {w : Nat} (hs : ∀ x ∈ segF g, t.ix x ≠ 0) (hst : ∀ x ∈ t.st, t.ix x ≠ 0) (hw : t.ix w = 0) : FrOk N (t.enter w) g := by
  have hne : ∀ {x}, t.ix x ≠ 0 → x ≠ w := fun hx e => hx (by rw [e]; exact hw)
  have hix : ∀ {x}, t.ix x ≠ 0 → (t.enter w).ix x = t.ix x := fun hx => upd_ne _ _ (hne hx)
  have hlo : ∀ {x}, t.ix x ≠ 0 → (t.enter w).lo x = t.lo x := fun hx => upd_ne _ _ (hne hx)
  have hv := hs g.1 (List.mem_cons_self ..)
  have hmem : ∀ {x}, t.ix x ≠ 0 → x ∈ (t.enter w).st → x ∈ t.st := fun hx hm => by
    rcases List.mem_append.1 (show _ ∈ t.st ++ [w] from hm) with hm | hm
    · exact hm
    · exact absurd (List.mem_singleton.1 hm) (hne hx)
  have wit : ∀ {k y : Nat}, (∃ x ∈ t.st, t.ix x = k ∧ Rch N y x) → ∃ x ∈ (t.enter w).st, (t.enter w).ix x = k ∧ Rch N y x := fun ⟨x, hx, e, r⟩ => ⟨x, List.mem_append_left _ hx, (hix (hst x hx)).trans e, r⟩
  refine ⟨h.deg, h.rch, fun x hx => ?_, ?_, ?_, fun x hx => ?_, fun x hx y hy => ?_, fun y hy => ?_⟩
  · rw [hlo hv, hlo (hs x hx)]; exact h.low x hx
  · rw [hlo hv, hix hv]; exact h.le
  · rw [hlo hv]; exact wit h.wit
  · have hx0 := hs x (List.mem_cons_of_mem _ hx)
    rw [hlo hx0, hix hx0]
    exact ⟨(h.fin x hx).1, wit (h.fin x hx).2⟩
  · have := h.out x hx y hy
    rw [hlo hv, hix this.1]
    exact ⟨this.1, fun hm => this.2 (hmem this.1 hm)⟩
  · have := h.own y hy
    rw [hlo hv, hix this.1]
    exact ⟨this.1, fun hm => this.2 (hmem this.1 hm)⟩

/-- an edge to a new vertex -/
theorem TI.new {n : Nat} {N : Nat → List Nat} {t : Tj} {G : List Fr4} {v i : Nat} {r : List Nat} (h : TI n N t (G ++ [(v, i, r)])) (hi : i < (N v).length) (h0 : t.ix (N v)[i] = 0) (hn : (N v)[i] < n) :
    TI n N (t.enter (N v)[i]) (G ++ [(v, i + 1, r), ((N v)[i], 0, [])]) := by
  have T := h.top
  generalize hw : (N v)[i] = w at *
  have hwN : w ∈ N v := by rw [← hw]; exact List.getElem_mem hi
  have hpos : ∀ x ∈ t.st, t.ix x ≠ 0 := fun x hx => Nat.ne_of_gt (h.pos x hx)
  have hws : w ∉ t.st := fun hm => hpos w hm h0
  have hne : ∀ {x}, t.ix x ≠ 0 → x ≠ w := fun hx e => hx (by rw [e]; exact h0)
  have hix : ∀ {x}, x ≠ w → (t.enter w).ix x = t.ix x := fun hx => upd_ne _ _ hx
  have hixw : (t.enter w).ix w = t.ct + 1 := upd_same _ _ _
  have hst : (t.enter w).st = t.st ++ [w] := rfl
  have hold : ∀ {x}, (t.enter w).ix x ≠ 0 → x ∉ (t.enter w).st → t.ix x ≠ 0 ∧ x ∉ t.st := fun {x} h1 h2 => by
    rw [hst, List.mem_append, not_or, List.mem_singleton] at h2
    rw [hix h2.2] at h1
    exact ⟨h1, h2.1⟩
  have hfr : ∀ g ∈ G ++ [(v, i, r)], FrOk N (t.enter w) g := fun g hg => (h.fr g hg).enter (fun x hx => hpos x (h.mem hg hx)) hpos h0
  refine ⟨?_, ?_, fun x => ?_, fun x hx => ?_, fun x => ?_, ?_, fun x hx => ?_, fun g hg => ?_, ?_, fun x hx hs y hy => ?_, fun x hx hs => ?_, fun x y hx hs hy hs' => ?_⟩
  · rw [hst, T.st]; simp [segF]
  · rw [hst, List.nodup_append]
    exact ⟨h.nd, by simp, fun a ha b hb e => hws (by rw [← List.mem_singleton.1 hb, ← e]; exact ha)⟩
  · rw [hst, List.mem_append, List.mem_singleton]
    by_cases e : x = w
    · subst e; simp [Tj.enter, upd]
    · show upd t.on w true x = true ↔ _
      rw [upd_ne _ _ e, h.on]; simp [e]
  · rw [hst] at hx
    rcases List.mem_append.1 hx with hx | hx
    · rw [hix (hne (hpos x hx))]; exact h.pos x hx
    · rw [List.mem_singleton.1 hx, hixw]; omega
  · show upd t.ix w (t.ct + 1) x ≤ t.ct + 1
    unfold upd
    split
    · exact Nat.le_refl _
    · have := h.cnt x; omega
  · rw [hst, List.pairwise_append]
    refine ⟨h.inc.imp_of_mem fun {a b} ha hb hlt => ?_, by simp, fun a ha b hb => ?_⟩
    · rw [hix (hne (hpos a ha)), hix (hne (hpos b hb))]; exact hlt
    · rw [List.mem_singleton.1 hb, hixw, hix (hne (hpos a ha))]
      have := h.cnt a; omega
  · by_cases e : x = w
    · rw [e]; exact hn
    · rw [hix e] at hx; exact h.lt x hx
  · rcases List.mem_append.1 hg with hg | hg
    · exact hfr g (List.mem_append_left _ hg)
    · rcases List.mem_cons.1 hg with rfl | hg
      · have hv := hfr (v, i, r) (by simp)
        have hvst : v ∈ t.st := h.mem (g := (v, i, r)) (by simp) (List.mem_cons_self ..)
        refine ⟨by show i + 1 ≤ (N v).length; omega, hv.rch, hv.low, hv.le, hv.wit, hv.fin, hv.out, fun x hx => ?_⟩
        rcases take_edge hi hx with hx | rfl
        · exact hv.own x hx
        · rw [hw, hixw]
          refine ⟨by omega, fun _ => ?_⟩
          have h1 := hv.le
          rw [hix (hne (hpos v hvst))] at h1
          have := h.cnt v
          show (t.enter w).lo v ≤ _
          exact Nat.le_trans h1 (by omega)
      · rw [List.mem_singleton.1 hg]
        refine ⟨Nat.zero_le _, fun x hx => ?_, fun x hx => ?_, ?_, ⟨w, by rw [hst]; simp, ?_, .refl _⟩, fun x hx => absurd hx List.not_mem_nil, fun x hx => absurd hx List.not_mem_nil, fun x hx => absurd hx (by simp)⟩
        · have : x = w := by simpa [segF] using hx
          rw [this]; exact .refl _
        · have : x = w := by simpa [segF] using hx
          rw [this]; exact Nat.le_refl _
        · show upd t.lo w (t.ct + 1) w ≤ upd t.ix w (t.ct + 1) w
          rw [upd_same, upd_same]; exact Nat.le_refl _
        · show upd t.ix w (t.ct + 1) w = upd t.lo w (t.ct + 1) w
          rw [upd_same, upd_same]
  · exact chain_snoc (chain_swap (g := (v, i, r)) rfl h.ch) (.one hwN)
  · obtain ⟨h1, h2⟩ := hold hx hs
    obtain ⟨h3, h4⟩ := h.cl x h1 h2 y hy
    exact ⟨by rw [hix (hne h3)]; exact h3, by rw [hst, List.mem_append, not_or]; exact ⟨h4, fun e => hne h3 (List.mem_singleton.1 e)⟩⟩
  · obtain ⟨h1, h2⟩ := hold hx hs
    exact h.num x h1 h2
  · obtain ⟨h1, h2⟩ := hold hx hs
    obtain ⟨h3, h4⟩ := hold hy hs'
    exact h.cls x y h1 h2 h3 h4
end Go.Z.Gra
