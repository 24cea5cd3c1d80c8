/- Own layer, part 8: what the arguments of a law read as, and the end of a law's row. Conditions: none; generic in the program. -/
import Derived.Test.YtmefecnjliadaaaZg
import Derived.ProofKit
import Derived.OpenShut
import Derived.ShutString
import Derived.ChangeOld
import Derived.Below
import Derived.Carry
import Derived.Deep.Slices
import Derived.SizedLaws
namespace Go.Z
set_option maxRecDepth 8000
set_option linter.unusedVariables false
set_option linter.unusedSimpArgs false
set_option linter.unusedSectionVars false
open Go Go.Deep

/-- all memory that is there before the call -/
def Old (W : World) : Nat → Obj → Prop := fun b o => W.heap[b]? = some o

/-- the cells cs read as a value of type t -/
def Rdx {H : Type} (enc : TypeId × Value → H) (P : Program) (W : World) (t : TypeId) (cs : List Value) : Prop := ∃ fuel x, DataW.trod enc P W 0 (fun _ => true) true fuel t cs = some x

variable {H : Type} {enc : TypeId × Value → H} {P : Program} {W W' : World} {t : TypeId} {cs : List Value}

theorem Rdx.of {v : Value} {d : DataW H} {ps : List MemPlace} (h : DataW.Trod enc P W 0 (fun _ => true) true t v d ps) : Rdx enc P W t v.cells.toList := let ⟨n, e⟩ := h; ⟨n, _, e⟩

theorem rd_int {k : IntKind} (ht : P.underlying t = some (.int k)) (h : Rdx enc P W t cs) : ∃ n, cs = [.int k n] ∧ (Lit.int k n).wf = true :=
  let ⟨_, _, e⟩ := h; let ⟨n, a, _, b⟩ := DataW.trod_int ht e; ⟨n, a, b⟩
theorem rd_bool (ht : P.underlying t = some .bool) (h : Rdx enc P W t cs) : ∃ b, cs = [.bool b] :=
  let ⟨_, _, e⟩ := h; let ⟨n, a, _⟩ := DataW.trod_bool ht e; ⟨n, a⟩
theorem rd_string (ht : P.underlying t = some .string) (h : Rdx enc P W t cs) : ∃ s : ByteArray, cs = [.string s] ∧ s.size ≤ maxLen :=
  let ⟨_, _, e⟩ := h; let ⟨n, a, _, b⟩ := DataW.trod_string ht e; ⟨n, a, b⟩
theorem rd_struct {fs : Array Field} (ht : P.underlying t = some (.struct fs)) (h : Rdx enc P W t cs) :
    cs.length = P.cellsOf t ∧ ∀ (i : Nat) (f : Field), fs[i]? = some f → Rdx enc P W f.type ((cs.drop f.offset).take (P.cellsOf f.type)) := by
  obtain ⟨_, _, e⟩ := h
  obtain ⟨xs, n, _, _, a, hl, b⟩ := DataW.trod_struct ht e
  refine ⟨a, fun i f hf => ?_⟩
  have := b i f hf
  have hi : i < xs.length := by rw [hl]; exact (Array.getElem?_eq_some_iff.1 hf).1
  rw [List.getElem?_eq_getElem hi] at this
  exact ⟨n, _, this⟩

theorem weightsAll_mem {e : TypeId} {d : DataW H} : ∀ {l : List (DataW H)}, d ∈ l → ∀ n ∈ d.weights P e, n ∈ DataW.weightsAll P e l
  | d' :: l, hd, n, hn => by
    simp only [DataW.weightsAll, List.mem_append]
    rcases List.mem_cons.1 hd with rfl | h
    · exact .inl hn
    · exact .inr (weightsAll_mem h n hn)
theorem rd_sliceW {e : TypeId} {size : Nat} {fuel : Nat} {x : DataW H × List MemPlace} (ht : P.underlying t = some (.slice e)) (hc : P.cellsOf e = size) (hp : 0 < size) (hh : DataW.trod enc P W 0 (fun _ => true) true fuel t cs = some x) :
    ∃ (a : Option Addr) (cap : Nat) (xss : List (List Value)), cs = [.slice a xss.length cap] ∧ xss.length ≤ cap ∧ cap ≤ maxLen ∧ (∀ c ∈ xss, c.length = size ∧ ∃ n y, DataW.trod enc P W 0 (fun _ => true) true n e c = some y ∧ ∀ q ∈ y.1.weights P e, q ∈ x.1.weights P t) ∧ RSl (Old W) size a xss.length xss.flatten ∧ (cap = 0 ∨ cap * P.bytesOf e ∈ x.1.weights P t) := by
  subst hc
  rcases open_slice ht hh with ⟨rfl, _⟩ | ⟨a, len, cap, m, n, D, Pl, rfl, hb, hl, hm, hmm, hxe, hx⟩
  · exact ⟨none, 0, [], rfl, Nat.le_refl _, Nat.zero_le _, fun c hc => absurd hc List.not_mem_nil, RSl.nil, .inl rfl⟩
  simp only [if_true] at hmm
  subst hmm
  obtain ⟨V, hV⟩ := choose_lt (α := List Value) (p := fun i v => W.cells? 0 (a.add (i * P.cellsOf e)) (P.cellsOf e) = some v ∧ DataW.trod enc P W 0 (fun _ => true) true n e v = some (D i, Pl i)) hx
  have hlen : ((List.range len).map V).length = len := by simp
  have hV1 : ∀ i, i < len → (V i).length = P.cellsOf e := fun i hi => (World.cells?_some (hV i (by omega)).1).2.1
  refine ⟨some a, m, (List.range len).map V, by rw [hlen], by rw [hlen]; exact hl, hm, fun c hc => ?_, ?_, .inr ?_⟩
  · obtain ⟨i, hi, rfl⟩ := List.mem_map.1 hc
    have hi' : i < len := by simpa using hi
    refine ⟨hV1 i hi', n, _, (hV i (by omega)).2, fun q hq => ?_⟩
    rw [hxe]
    simp only [DataW.weights, ht, List.mem_cons, List.mem_append]
    exact .inr (.inl (weightsAll_mem (List.mem_map.2 ⟨i, hi, rfl⟩) q hq))
  rotate_left
  · rw [hxe]
    simp only [DataW.weights, ht, List.mem_cons, List.length_map, List.length_range]
    exact .inl (by rw [show len + (m - len) = m by omega])
  rw [hlen]
  rcases Nat.eq_zero_or_pos len with h0 | h0
  · subst h0; exact RSl.nil
  have cell : ∀ i j, i < len → j < P.cellsOf e → W.cell? (a.add (i * P.cellsOf e + j)) = (V i)[j]? := fun i j hi hj => by
    have := (World.cells?_some (hV i (by omega)).1).2.2 j hj
    rwa [add_add] at this
  have c0 := cell 0 0 h0 hp
  have hv0 : ∃ v, (V 0)[0]? = some v := ⟨_, List.getElem?_eq_getElem (by rw [hV1 0 h0]; exact hp)⟩
  obtain ⟨v0, hv0⟩ := hv0
  rw [hv0] at c0
  have c0' : W.cell? a = some v0 := by simpa [Addr.add] using c0
  have hs := World.cell?_spot c0'
  obtain ⟨b, off, sp⟩ := a
  cases hs
  have hblk : ∃ c T fz, W.heap[b]? = some (.cells c T fz) := by
    simp only [World.cell?] at c0'
    split at c0'
    · rename_i c T fz e1; exact ⟨c, T, fz, e1⟩
    · cases c0'
  obtain ⟨c, T, fz, e1⟩ := hblk
  have rd : ∀ k v, W.cell? (Addr.add ⟨b, off, none⟩ k) = some v → c.toList[off + k]? = some v := fun k v hk => by
    have : Addr.add ⟨b, off, none⟩ k = ⟨b, off + k, none⟩ := by unfold Addr.add; split <;> simp_all
    rw [this] at hk
    simp only [World.cell?, e1] at hk
    simpa using hk
  have hk : ∀ c ∈ (List.range len).map V, c.length = P.cellsOf e := fun c hc => by
    obtain ⟨i, hi, rfl⟩ := List.mem_map.1 hc
    exact hV1 i (by simpa using hi)
  have hfl : ((List.range len).map V).flatten = (List.range len).flatMap fun i => if i < len then V i else List.replicate (P.cellsOf e) (.bool false) := by
    rw [← List.flatMap_def]
    exact flatMap_congr_range fun i hi => by simp [hi]
  have hk2 : ∀ i : Nat, (if i < len then V i else List.replicate (P.cellsOf e) (.bool false)).length = P.cellsOf e := fun i => by
    split
    · exact hV1 i (by assumption)
    · simp
  have hll := rows_len (fun i : Nat => if i < len then V i else List.replicate (P.cellsOf e) (.bool false)) (P.cellsOf e) hk2 (List.range len)
  refine ⟨by rw [hfl, hll]; simp, b, off, c.toList, T, fz, fun _ => ⟨rfl, by simpa [Old] using e1, fun j v hj => ?_⟩⟩
  rw [hfl] at hj
  have hj1 := (List.getElem?_eq_some_iff.1 hj).1
  rw [hll] at hj1
  simp only [List.length_range] at hj1
  have hi : j / P.cellsOf e < len := (Nat.div_lt_iff_lt_mul hp).2 hj1
  obtain ⟨r1, r2⟩ := rows_at (fun i : Nat => if i < len then V i else List.replicate (P.cellsOf e) (.bool false)) (P.cellsOf e) hk2 (List.range len) (j / P.cellsOf e) (by simpa using hi)
  have hjm := Nat.mod_lt j hp
  have hje : j / P.cellsOf e * P.cellsOf e + j % P.cellsOf e = j := Nat.div_add_mod' j _
  have : (V (j / P.cellsOf e))[j % P.cellsOf e]? = some v := by
    have := congrArg (fun l : List Value => l[j % P.cellsOf e]?) r1
    simp only [List.getElem_range, hi, if_true, List.getElem?_take, hjm, List.getElem?_drop, hje, hj] at this
    exact this.symm
  refine rd j v ?_
  rw [← hje, cell _ _ hi hjm, this]

theorem rd_slice {e : TypeId} {size : Nat} (ht : P.underlying t = some (.slice e)) (hc : P.cellsOf e = size) (hp : 0 < size) (h : Rdx enc P W t cs) :
    ∃ (a : Option Addr) (cap : Nat) (xss : List (List Value)), cs = [.slice a xss.length cap] ∧ xss.length ≤ cap ∧ cap ≤ maxLen ∧ (∀ c ∈ xss, c.length = size ∧ Rdx enc P W e c) ∧ RSl (Old W) size a xss.length xss.flatten := by
  obtain ⟨_, _, hh⟩ := h
  obtain ⟨a, cap, xss, h1, h2, h3, h4, h5, _⟩ := rd_sliceW ht hc hp hh
  exact ⟨a, cap, xss, h1, h2, h3, fun c hc => let ⟨k1, n, y, k2, _⟩ := h4 c hc; ⟨k1, n, y, k2⟩, h5⟩

/-- .. and all of it within the form's own reach -/
def Rdw {H : Type} (enc : TypeId × Value → H) (P : Program) (W : World) (t : TypeId) (cs : List Value) : Prop := ∃ fuel x, DataW.trod enc P W 0 (fun _ => true) true fuel t cs = some x ∧ ∀ q ∈ x.1.weights P t, q ≤ 140737488351232
theorem Rdw.rdx (h : Rdw enc P W t cs) : Rdx enc P W t cs := let ⟨n, x, e, _⟩ := h; ⟨n, x, e⟩
theorem Rdw.of {v : Value} {d : DataW H} {ps : List MemPlace} {ts : List TypeId} {ds : List (DataW H)} {j : Nat} (hsz : (DataW.weightsEach P ts ds).all (· ≤ reachBytes) = true) (h1 : ts[j]? = some t) (h2 : ds[j]? = some d) (h : DataW.Trod enc P W 0 (fun _ => true) true t v d ps) : Rdw enc P W t v.cells.toList :=
  let ⟨n, e⟩ := h; ⟨n, _, e, fun q hq => of_decide_eq_true (List.all_eq_true.1 hsz q (DataW.weights_mem_each h1 h2 q hq))⟩
theorem rdw_struct {fs : Array Field} (ht : P.underlying t = some (.struct fs)) (h : Rdw enc P W t cs) :
    cs.length = P.cellsOf t ∧ ∀ (i : Nat) (f : Field), fs[i]? = some f → Rdw enc P W f.type ((cs.drop f.offset).take (P.cellsOf f.type)) := by
  obtain ⟨_, x, e, hw⟩ := h
  obtain ⟨xs, n, _, hx, a, hl, b⟩ := DataW.trod_struct ht e
  refine ⟨a, fun i f hf => ?_⟩
  have := b i f hf
  have hi : i < xs.length := by rw [hl]; exact (Array.getElem?_eq_some_iff.1 hf).1
  rw [List.getElem?_eq_getElem hi] at this
  refine ⟨n, _, this, fun q hq => hw q ?_⟩
  rw [hx]
  simp only [DataW.weights, ht]
  exact DataW.weights_mem_each (j := i) (by rw [List.getElem?_map, Array.getElem?_toList, hf]; rfl) (by rw [List.getElem?_map, List.getElem?_eq_getElem hi]; rfl) q hq
theorem rdw_slice {e : TypeId} {size : Nat} (ht : P.underlying t = some (.slice e)) (hc : P.cellsOf e = size) (hp : 0 < size) (h : Rdw enc P W t cs) :
    ∃ (a : Option Addr) (cap : Nat) (xss : List (List Value)), cs = [.slice a xss.length cap] ∧ xss.length ≤ cap ∧ cap ≤ maxLen ∧ (∀ c ∈ xss, c.length = size ∧ Rdw enc P W e c) ∧ RSl (Old W) size a xss.length xss.flatten ∧ cap * P.bytesOf e ≤ 140737488351232 := by
  obtain ⟨_, _, hh, hw⟩ := h
  obtain ⟨a, cap, xss, h1, h2, h3, h4, h5, h6⟩ := rd_sliceW ht hc hp hh
  refine ⟨a, cap, xss, h1, h2, h3, fun c hc => let ⟨k1, n, y, k2, k3⟩ := h4 c hc; ⟨k1, n, y, k2, fun q hq => hw q (k3 q hq)⟩, h5, ?_⟩
  rcases h6 with h6 | h6
  · rw [h6]; omega
  · exact hw _ h6

/-- a list of rows that are all of the form f x -/
theorem rows_of {α : Type} {p : List Value → Prop} (f : α → List Value) : ∀ {xss : List (List Value)}, (∀ c ∈ xss, ∃ x, c = f x) → ∃ l : List α, xss = l.map f
  | [], _ => ⟨[], rfl⟩
  | c :: r, h => by
    obtain ⟨x, rfl⟩ := h c (List.mem_cons_self ..)
    obtain ⟨l, rfl⟩ := rows_of (p := p) f (xss := r) fun c hc => h c (List.mem_cons_of_mem _ hc)
    exact ⟨x :: l, rfl⟩

/-- rows with a property of what they hold -/
theorem rows_with {α : Type} (q : α → Prop) (f : α → List Value) : ∀ {xss : List (List Value)}, (∀ c ∈ xss, ∃ x, c = f x ∧ q x) → ∃ l : List α, xss = l.map f ∧ ∀ x ∈ l, q x
  | [], _ => ⟨[], rfl, fun x hx => absurd hx List.not_mem_nil⟩
  | c :: r, h => by
    obtain ⟨x, rfl, hx⟩ := h c (List.mem_cons_self ..)
    obtain ⟨l, rfl, hl⟩ := rows_with q f (xss := r) fun c hc => h c (List.mem_cons_of_mem _ hc)
    exact ⟨x :: l, rfl, fun y hy => by
      rcases List.mem_cons.1 hy with rfl | hy
      · exact hx
      · exact hl y hy⟩

/-- A slice argument: a list of things, each laid out as f says. -/
theorem rd_list {α : Type} (q : α → Prop) (f : α → List Value) {e : TypeId} {size : Nat} (ht : P.underlying t = some (.slice e)) (hc : P.cellsOf e = size) (hp : 0 < size)
    (he : ∀ c, c.length = size → Rdx enc P W e c → ∃ x, c = f x ∧ q x) (h : Rdx enc P W t cs) :
    ∃ (a : Option Addr) (cap : Nat) (l : List α), cs = [.slice a l.length cap] ∧ l.length ≤ cap ∧ cap ≤ maxLen ∧ (∀ x ∈ l, q x) ∧ RSl (Old W) size a l.length (l.flatMap f) := by
  obtain ⟨a, cap, xss, h1, h2, h3, h4, h5⟩ := rd_slice ht hc hp h
  obtain ⟨l, rfl, hl⟩ := rows_with q f (xss := xss) fun c hc => he c (h4 c hc).1 (h4 c hc).2
  rw [List.length_map] at h1 h2 h5
  exact ⟨a, cap, l, h1, h2, h3, hl, by rw [List.flatMap_def]; exact h5⟩

theorem map_flat {α : Type} (g : α → Value) (l : List α) : (l.flatMap fun x => [g x]) = l.map g := by
  induction l with
  | nil => rfl
  | cons x l ih => simp [ih]

/-- .. of one cell each -/
theorem rd_list1 {α : Type} (q : α → Prop) (g : α → Value) {e : TypeId} (ht : P.underlying t = some (.slice e)) (hc : P.cellsOf e = 1)
    (he : ∀ c, Rdx enc P W e c → ∃ x, c = [g x] ∧ q x) (h : Rdx enc P W t cs) :
    ∃ (a : Option Addr) (cap : Nat) (l : List α), cs = [.slice a l.length cap] ∧ l.length ≤ cap ∧ cap ≤ maxLen ∧ (∀ x ∈ l, q x) ∧ RSl (Old W) 1 a l.length (l.map g) := by
  obtain ⟨a, cap, l, h1, h2, h3, h4, h5⟩ := rd_list q (fun x => [g x]) ht hc (by decide) (fun c _ => he c) h
  exact ⟨a, cap, l, h1, h2, h3, h4, by rw [map_flat] at h5; exact h5⟩

theorem wf_i64 {n : Int} (h : (Lit.int .i64 n).wf = true) : -9223372036854775808 ≤ n ∧ n ≤ 9223372036854775807 := by
  simpa [Lit.wf, IntKind.min, IntKind.max, IntKind.signed, IntKind.bits] using h
theorem wf_u64 {n : Int} (h : (Lit.int .u64 n).wf = true) : 0 ≤ n ∧ n ≤ 18446744073709551615 := by
  simpa [Lit.wf, IntKind.min, IntKind.max, IntKind.signed, IntKind.bits] using h
theorem wf_u16 {n : Int} (h : (Lit.int .u16 n).wf = true) : 0 ≤ n ∧ n ≤ 65535 := by
  simpa [Lit.wf, IntKind.min, IntKind.max, IntKind.signed, IntKind.bits] using h
theorem wf_u8 {n : Int} (h : (Lit.int .u8 n).wf = true) : 0 ≤ n ∧ n ≤ 255 := by
  simpa [Lit.wf, IntKind.min, IntKind.max, IntKind.signed, IntKind.bits] using h

/-! ### two ways that meet -/
section
variable {M : Mx} {n : Nat} {L : Fr} {H' : List Assn} {Q : Exit → Act → World → Prop}
theorem g_join {α : Type} {c : Code} (st : α → Fr) (hp : α → List Assn) (inv : α → Prop)
    (h1 : G M n L H' (TC P c (QN (fun a w => ∃ y, inv y ∧ Holds n (st y) a ∧ Ms M (hp y) w) Q))) (h2 : ∀ y, inv y → G M n (st y) (hp y) (TP Q .normal)) : G M n L H' (TC P c Q) := by
  intro a w ha hm
  have h := h1 a w ha hm
  unfold TC QN at *
  refine wp_mono h fun e a w q => ?_
  cases e with
  | normal =>
    obtain ⟨y, hi, ha', hm'⟩ := q
    have := h2 y hi a w ha' hm'
    unfold TP at this
    exact this
  | _ => exact q
theorem g_joined {α : Type} {st : α → Fr} {hp : α → List Assn} {inv : α → Prop} (y : α) (hL : SubFr L (st y)) {Hr : List Assn} (hH : Cover H' (hp y) Hr) (hi : inv y) : G M n L H' (fun a w => ∃ y, inv y ∧ Holds n (st y) a ∧ Ms M (hp y) w) :=
  fun _ _ ha hm => ⟨y, hi, ha.sub hL, hm.cover hH⟩
end

/-- the first elements of a slice -/
theorem RSl.pre {ρ : Nat → Obj → Prop} {α : Type} {f : α → List Value} {size : Nat} (hf : ∀ x, (f x).length = size) {a : Option Addr} {l : List α} (h : RSl ρ size a l.length (l.flatMap f)) {m : Nat} (hm : m ≤ l.length) : RSl ρ size a (l.take m).length ((l.take m).flatMap f) := by
  obtain ⟨e1, b, off, cs, T, fz, e2⟩ := h
  refine ⟨rows_len f size hf _, b, off, cs, T, fz, fun hk => ?_⟩
  rw [List.length_take] at hk
  obtain ⟨r1, r2, r3⟩ := e2 (by omega)
  refine ⟨r1, r2, fun j v hj => r3 j v ?_⟩
  rw [← rows_take f size hf l m hm, List.getElem?_take] at hj
  split at hj
  · exact hj
  · cases hj

/-! ### the end of a row -/
theorem law_calls {f : FuncId} {args : Array Value} (h : Con P (Old W) f args [] (fun v _ => v = .bool true)) :
    Calls P f args W fun e W' => e = .returned (.bool true) ∧ RowKit.Below W.heap.size W W' :=
  (h.2 W (fun _ => none) rfl (fun b o e => by cases e) (fun b o e => ⟨e, rfl⟩)).mono fun e W' ⟨v, H', he, hR, m⟩ =>
    ⟨by rw [he, hR], m.os, m.tape, m.output, m.size, fun k hk => m.keep k hk rfl⟩

theorem trodAll_below (hl : laidOutB P = true) (hb : RowKit.Below W.heap.size W W') : ∀ {ts : List TypeId} {vs : List Value} {ds : List (DataW H)} {ps : List MemPlace}, (ts.all fun t => P.readableRec t && decide (t < P.types.size)) = true →
    DataW.TrodAll enc P W 0 (fun _ => true) true ts vs ds ps → DataW.TrodAll enc P W' 0 (fun b => decide (b < W.heap.size)) true ts vs ds ps
  | [], vs, ds, ps, _, h => by
    obtain ⟨rfl, rfl, rfl⟩ := ChangeShapes.trodAll_nil h
    rfl
  | t :: ts, vs, ds, ps, hr, h => by
    obtain ⟨v, vs', d, ds', p, q, rfl, rfl, rfl, h1, h2⟩ := ChangeShapes.trodAll_cons h
    simp only [List.all_cons, Bool.and_eq_true, decide_eq_true_eq] at hr
    obtain ⟨⟨r1, r2⟩, r3⟩ := hr
    have hlt : ∀ x ∈ p, x.block < W.heap.size := by obtain ⟨m, hm⟩ := h1; exact DataW.trod_lt m _ _ _ hm
    exact trodAll_cons_mk (RowKit.Below.trod hl r1 r2 h1 hb hlt) (trodAll_below hl hb r3 h2)
end Go.Z
