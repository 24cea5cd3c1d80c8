/- Own layer: calls of the library that write a row: sorting and dropping repeats. Conditions: none. -/
import Derived.Test.YtmefecnjliadaaaZo
import Derived.Test.YtmefecnjliadaaaTy
import Derived.Test.YtmefecnjliadaaaSh
import Derived.Test.YtmefecnjliadaaaNa
import Derived.Lib.RowBridge
namespace Go.Z
set_option maxRecDepth 8000
set_option linter.unusedVariables false
set_option linter.unusedSimpArgs false
set_option linter.unusedSectionVars false
open Go Go.Sort
theorem sat_blk {b : Nat} {o : Obj} {hp : Hp} (s : Sat [Blk b o] hp) : hp = one b o := by
  obtain ⟨h1, h2, e1, e2, _, e3⟩ := s
  have e1' : h1 = one b o := e1
  have e2' : h2 = fun _ => none := e2
  subst e1'; subst e2'
  rw [e3]; funext c; unfold join; cases one b o c <;> rfl
theorem one_self {b : Nat} {o : Obj} : one b o b = some o := by simp [one]
theorem blk_sat {b : Nat} {o : Obj} : Sat [Blk b o] (one b o) :=
  ⟨one b o, fun _ => none, rfl, rfl, fun b => .inr rfl, by funext c; unfold join; cases one b o c <;> rfl⟩
theorem put_zero {α : Type} [Inhabited α] (enc : α → Value) (d : List α) (cs : List Value) (h : d.length ≤ cs.length) : putCells enc 0 d.toArray cs.toArray = (d.map enc ++ cs.drop d.length).toArray := by
  apply Array.ext_getElem?
  intro k
  simp only [putCells, Array.getElem?_mapIdx, List.getElem?_toArray, List.size_toArray]
  by_cases hk : k < d.length
  · rw [List.getElem?_append_left (by simpa using hk), List.getElem?_map, List.getElem?_eq_getElem hk, List.getElem?_eq_getElem (by omega : k < cs.length)]
    simp only [Option.map_some, Nat.zero_le, Nat.zero_add, true_and, hk, if_true, Nat.sub_zero]
    rw [getElem!_pos _ k (by simpa using hk)]
    try rfl
  · rw [List.getElem?_append_right (by simp; omega), List.length_map, List.getElem?_drop, show d.length + (k - d.length) = k by omega]
    have hf : ¬ (0 ≤ k ∧ k < 0 + d.length) := by omega
    cases cs[k]? with
    | none => rfl
    | some v => simp only [Option.map_some, if_neg hf]
theorem ms_put {α : Type} [Inhabited α] (enc : α → Value) {ρ : Nat → Obj → Prop} {w : World} {b : Nat} {cs : Array Value} {T : TypeId} {fz : Nat × Nat} (hw : w.heap[b]? = some (.cells cs T fz)) (hr : ∀ b' o, ρ b' o → w.heap[b']? = some o ∧ one b (.cells cs T fz) b' = none) (d : Array α) (off k : Nat) (os : Array Obj) :
    Ms ⟨ρ, w, one b (.cells cs T fz)⟩ [Blk b (.cells (putCells enc off d cs) T fz)] (grow (putRow enc (w.drewN k) b off d) os) := by
  have hb := lt_of_heap hw
  have hh : (grow (putRow enc (w.drewN k) b off d) os).heap = (w.heap.modify b (onCells (putCells enc off d))) ++ os := rfl
  have hat : ∀ c, c < w.heap.size → (grow (putRow enc (w.drewN k) b off d) os).heap[c]? = if b = c then (w.heap[c]?).map (onCells (putCells enc off d)) else w.heap[c]? := fun c hc => by
    rw [hh, Array.getElem?_append_left (by simpa using hc), Array.getElem?_modify]
  refine ⟨rfl, rfl, rfl, ?_, fun c hc hn => ?_, fun c o ho => ?_, one b (.cells (putCells enc off d cs) T fz), blk_sat, fun c o ho => ?_, fun c hc => ?_, fun c o ho => ?_⟩
  · rw [hh]; simp
  · have : b ≠ c := fun e => by subst e; simp [one] at hn
    rw [hat c hc, if_neg this]
  · have h1 := hr c o ho
    have : b ≠ c := fun e => by subst e; simp [one] at h1
    rw [hat c (lt_of_heap h1.1), if_neg this, h1.1]
  · unfold one at ho
    split at ho
    · rename_i e; subst e; cases ho
      rw [hat c hb, if_pos rfl, hw]; rfl
    · cases ho
  · refine .inl fun h => hc ?_
    have h' : one b (.cells cs T fz) c = none := h
    unfold one at h' ⊢
    split at h'
    · cases h'
    · rename_i e; rw [if_neg e]
  · have h1 := (hr c o ho).2
    unfold one at h1 ⊢
    split at h1
    · cases h1
    · rename_i e; rw [if_neg e]
theorem holds_blk {α : Type} [Inhabited α] (enc : α → Value) {w : World} {b : Nat} {cs : List Value} {T : TypeId} (hw : w.heap[b]? = some (.cells cs.toArray T (0, 0))) (d : List α) (h : cs.take d.length = d.map enc) : Go.Sort.Holds enc w b 0 d.toArray := fun j hj => by
  have hj' : j < d.length := by simpa using hj
  refine ⟨?_, ?_⟩
  · rw [Nat.zero_add, getElem!_pos _ j hj]
    have h1 : (cs.take d.length)[j]? = some (enc d[j]) := by rw [h, List.getElem?_map, List.getElem?_eq_getElem hj']; rfl
    rw [List.getElem?_take, if_pos hj'] at h1
    simp [World.cell?, hw, h1]
  · simp [World.frozen?, hw]
theorem ms_same {ρ : Nat → Obj → Prop} {H : List Assn} {hp : Hp} {w : World} (s : Sat H hp) (su : Sub hp w) (r : ∀ b o, ρ b o → w.heap[b]? = some o ∧ hp b = none) : Ms ⟨ρ, w, hp⟩ H w :=
  ⟨rfl, rfl, rfl, Nat.le_refl _, fun _ _ _ => rfl, fun b o h => (r b o h).1, hp, s, su, fun b h => .inl h, fun b o h => (r b o h).2⟩
theorem sat_own {e : TypeId} {size : Nat} {a : Option Addr} {k cap : Nat} {xs : List Value} {hp : Hp} (s : Sat [OwnSl e size a k cap xs] hp) (h0 : 0 < k) :
    xs.length = k * size ∧ ∃ (g : Nat) (cur : List Value), a = some ⟨g, 0, none⟩ ∧ k ≤ cap ∧ cap ≤ maxLen ∧ cur.length = cap * size ∧ cur.take (k * size) = xs ∧ hp = one g (.cells cur.toArray e (0, 0)) := by
  obtain ⟨h1, h2, ⟨e1, e2⟩, e3, _, e4⟩ := s
  have e3' : h2 = fun _ => none := e3
  subst e3'
  have e5 : hp = h1 := by rw [e4]; funext c; unfold join; cases h1 c <;> rfl
  subst e5
  refine ⟨e1, ?_⟩
  rcases e2 with ⟨_, a2, _⟩ | h
  · omega
  · exact h
/-- a call that leaves the row g of the caller's with other cells -/
theorem ms_row {ρ : Nat → Obj → Prop} {w : World} {g cap k' : Nat} {cur : List Value} {T : TypeId} (hw : w.heap[g]? = some (.cells cur.toArray T (0, 0))) (hr : ∀ b' o, ρ b' o → w.heap[b']? = some o ∧ one g (.cells cur.toArray T (0, 0)) b' = none)
    (hcl : cur.length = cap * 1) (hcm : cap ≤ maxLen) (d : List Int) (hd : d.length ≤ cap) (hk : k' ≤ d.length) (k : Nat) (os : Array Obj) :
    Ms ⟨ρ, w, one g (.cells cur.toArray T (0, 0))⟩ [OwnSl T 1 (some ⟨g, 0, none⟩) k' cap ((d.take k').map encI)] (grow (putRow encI (w.drewN k) g 0 d.toArray) os) := by
  have h := ms_put encI hw hr d.toArray 0 k os
  rw [put_zero encI d cur (by omega)] at h
  have hm : cap ≤ 9223372036854775807 := by simp only [maxLen] at hcm; omega
  refine h.weaken (fun q hq => ?_)
  have := own_of_blk (e := T) (size := 1) (g := g) (k := k') (cap := cap) (cur := d.map encI ++ cur.drop d.length) (by omega) hm (by simp; omega) q hq
  rw [Nat.mul_one, List.take_append_of_le_length (by simpa using hk), ← List.map_take] at this
  exact this
end Go.Z
namespace Go.Proofs.Ytmefecnjliadaaa
set_option maxRecDepth 8000
set_option linter.unusedVariables false
set_option linter.unusedSimpArgs false
set_option linter.unusedSectionVars false
open Go Go.Z Go.Z.Gr Go.Sort Go.Lib
theorem sort_ok {ρ : Nat → Obj → Prop} (a : Option Addr) (cap : Nat) (l : List Int) (hl : l.length < 4611686018427387904) : Con Try.prog ρ 39 #[.slice a l.length cap] [OwnSl 3 1 a l.length cap (l.map Z.encI)]
    (fun v H => v = .tuple #[] ∧ H = [OwnSl 3 1 a l.length cap ((l.mergeSort leI).map Z.encI)]) :=
  ⟨Try.call39, fun w hp sa su r => by
    rcases Nat.eq_zero_or_pos l.length with h0 | h0
    · have hn : l = [] := List.eq_nil_of_length_eq_zero h0
      subst hn
      exact Calls.mono (show Calls Try.prog 39 #[.slice a 0 cap] w _ from Any.slices_Sort_int_none lays189 a cap w) fun e w' ⟨e1, e2⟩ => ⟨_, _, e1, ⟨rfl, rfl⟩, by subst e2; rw [List.mergeSort_nil]; exact ms_same sa su r⟩
    · obtain ⟨_, g, cur, rfl, k1, k2, k3, k4, rfl⟩ := sat_own sa h0
      have hw := su g _ one_self
      have hH : Go.Sort.Holds (Value.int .i64) w g 0 l.toArray := holds_blk (Value.int .i64) hw l (by rw [Nat.mul_one] at k4; exact k4)
      refine Calls.mono (show Calls Try.prog 39 #[.slice (some ⟨g, 0, none⟩) l.length cap] w _ from Any.slices_Sort_int lays189 g 0 cap l w hH (lt_of_heap hw) hl) fun e w' ⟨e1, n, os, e2⟩ => ⟨_, _, e1, ⟨rfl, rfl⟩, ?_⟩
      have hms := ms_row (k' := l.length) hw r k3 k2 (l.mergeSort leI) (by rw [List.length_mergeSort]; exact k1) (by rw [List.length_mergeSort]; exact Nat.le_refl _) n os
      rw [List.take_of_length_le (by rw [List.length_mergeSort]; exact Nat.le_refl _)] at hms
      subst e2
      exact hms⟩
theorem compact_ok {ρ : Nat → Obj → Prop} (a : Option Addr) (cap : Nat) (l : List Int) (hl : l.length ≤ 9223372036854775807) : Con Try.prog ρ 40 #[.slice a l.length cap] [OwnSl 3 1 a l.length cap (l.map Z.encI)]
    (fun v H => v = .slice a (Lib.compact l).length cap ∧ H = [OwnSl 3 1 a (Lib.compact l).length cap ((Lib.compact l).map Z.encI)]) :=
  ⟨Try.call40, fun w hp sa su r => by
    rcases Nat.eq_zero_or_pos l.length with h0 | h0
    · have hn : l = [] := List.eq_nil_of_length_eq_zero h0
      subst hn
      exact Calls.mono (show Calls Try.prog 40 #[.slice a 0 cap] w _ from Any.slices_Compact_int_empty laysNm220 a cap w) fun e w' ⟨e1, e2⟩ => ⟨_, _, e1, ⟨rfl, rfl⟩, by subst e2; exact ms_same sa su r⟩
    · obtain ⟨_, g, cur, rfl, k1, k2, k3, k4, rfl⟩ := sat_own sa h0
      have hw := su g _ one_self
      have hle := Lib.compact_length_le l
      have hH : Go.Sort.Holds (Value.int .i64) w g 0 l.toArray := holds_blk (Value.int .i64) hw l (by rw [Nat.mul_one] at k4; exact k4)
      refine Calls.mono (show Calls Try.prog 40 #[.slice (some ⟨g, 0, none⟩) l.length cap] w _ from Any.slices_Compact_int laysNm220 g 0 cap l w hH hl k1) fun e w' ⟨e1, q, e2⟩ => ⟨_, _, e1, ⟨rfl, rfl⟩, ?_⟩
      have hms := ms_row (k' := (Lib.compact l).length) hw r k3 k2 (Lib.compact l ++ List.replicate (l.length - (Lib.compact l).length) 0) (by rw [List.length_append, List.length_replicate]; omega) (by rw [List.length_append]; omega) q #[]
      rw [List.take_left, grow_empty] at hms
      subst e2
      exact hms⟩

end Go.Proofs.Ytmefecnjliadaaa
