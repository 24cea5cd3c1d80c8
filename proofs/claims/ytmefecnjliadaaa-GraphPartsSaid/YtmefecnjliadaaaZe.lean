/- Own layer, part 5: slices of slices, make, composite structs, maps, packed assertions. Conditions: none; generic in the program. -/
import Derived.Test.YtmefecnjliadaaaZd
namespace Go.Z
set_option maxRecDepth 8000
set_option linter.unusedVariables false
set_option linter.unusedSimpArgs false
set_option linter.unusedSectionVars false
open Go

variable {P : Program} {n : Nat} {L L' : Fr} {H H' Hs Hi Hr : List Assn} {M : Mx} {Q : Exit → Act → World → Prop} {ops : Array Oper} {rest : List Oper}
variable {dd : Option Tmp} {ty t : TypeId} {ps : String} {af : Array Edge} {gd : Option (Nat × Bool)} {x y z : Operand} {v u : Value} {w w' : World} {T : Act → World → Prop}

/-! ### packed assertions -/
def Pk (K : List Assn → Prop) : Assn := fun h => ∃ H, K H ∧ Sat H h
theorem g_open {K : List Assn → Prop} (tk : Take H (Pk K) H') (h : ∀ H1, K H1 → G M n L (H1 ++ H') T) : G M n L H T := by
  intro a w ha hm
  obtain ⟨hh, s, su, d, r⟩ := hm.own
  obtain ⟨h1, h2, ⟨H1, hk, s1⟩, s2, dd, rfl⟩ := tk.sat s
  exact h H1 hk a w ha ⟨hm.os, hm.tape, hm.output, hm.size, hm.keep, hm.ro, join h1 h2, sat_append s1 s2 dd, su, d, r⟩
theorem g_close {K : List Assn → Prop} {H1 : List Assn} (hk : K H1) (hc : Cover H H1 Hr) (h : G M n L (Pk K :: Hr) T) : G M n L H T := by
  intro a w ha hm
  obtain ⟨hh, s, su, d, r⟩ := hm.own
  obtain ⟨hi, hr, s1, s2, dd, rfl⟩ := hc.sat s
  exact h a w ha ⟨hm.os, hm.tape, hm.output, hm.size, hm.keep, hm.ro, join hi hr, ⟨hi, hr, ⟨H1, hk, s1⟩, s2, dd, rfl⟩, su, d, r⟩
theorem Ro.unpack {ρ : Nat → Obj → Prop} {K : List Assn → Prop} (h : Ro ρ (Pk K)) : ∃ H1, K H1 ∧ Ros ρ H1 := by
  obtain ⟨hh, ⟨H1, hk, s⟩, r⟩ := h
  exact ⟨H1, hk, ros_of_sat s r⟩
theorem g_weak {A B : Assn} (tk : Take H A H') (hab : ∀ k, A k → B k) (h : G M n L (B :: H') T) : G M n L H T := fun a w ha hm => by
  have hm' : Ms M (A :: H') w := by
    obtain ⟨hh, s, su, d, r⟩ := hm.own
    exact ⟨hm.os, hm.tape, hm.output, hm.size, hm.keep, hm.ro, hh, tk.sat s, su, d, r⟩
  exact h a w ha (hm'.weaken hab)

/-- The facts on an own slice. -/
theorem g_own {e : TypeId} {size : Nat} {a1 : Option Addr} {k cap : Nat} {xs : List Value} (tk : Take H (OwnSl e size a1 k cap xs) H')
    (h0 : a1 = none → k = 0 → cap = 0 → xs = [] → G M n L H' T)
    (h1 : ∀ (g : Nat) (cur : List Value), a1 = some ⟨g, 0, none⟩ → k ≤ cap → cap ≤ 9223372036854775807 → cur.length = cap * size → cur.take (k * size) = xs → xs.length = k * size → G M n L (Blk g (.cells cur.toArray e (0, 0)) :: H') T) : G M n L H T := fun a w ha hm => by
  obtain ⟨e1, e2⟩ := OwnSl.cases tk hm
  rcases e2 with ⟨r1, r2, r3, hm'⟩ | ⟨g, cur, r1, r2, r3, r4, r5, hm'⟩
  · exact h0 r1 r2 r3 (List.eq_nil_of_length_eq_zero (by rw [e1, r2]; simp)) a w ha hm'
  · exact h1 g cur r1 r2 (by simp only [maxLen] at r3; omega) r4 r5 e1 a w ha hm'
theorem own_of_blk {e : TypeId} {size g k cap : Nat} {cur : List Value} (h1 : k ≤ cap) (h2 : cap ≤ 9223372036854775807) (h3 : cur.length = cap * size) :
    ∀ h, Blk g (.cells cur.toArray e (0, 0)) h → OwnSl e size (some ⟨g, 0, none⟩) k cap (cur.take (k * size)) h := fun h hb =>
  ⟨by rw [List.length_take, h3, Nat.min_eq_left (Nat.mul_le_mul_right _ h1)], .inr ⟨g, cur, rfl, h1, by simp only [maxLen]; omega, h3, rfl, hb⟩⟩
theorem g_fold {e : TypeId} {size g k cap : Nat} {cur xs : List Value} (tk : Take H (Blk g (.cells cur.toArray e (0, 0))) H') (h1 : k ≤ cap) (h2 : cap ≤ 9223372036854775807) (h3 : cur.length = cap * size) (h4 : cur.take (k * size) = xs)
    (h : G M n L (OwnSl e size (some ⟨g, 0, none⟩) k cap xs :: H') T) : G M n L H T := by subst h4; exact g_weak tk (own_of_blk h1 h2 h3) h
theorem g_ownnil {e : TypeId} {size : Nat} (h : G M n L (OwnSl e size none 0 0 [] :: H) T) : G M n L H T := fun a w ha hm => h a w ha (hm.emp ⟨by simp, .inl ⟨rfl, rfl, rfl, rfl⟩⟩)
theorem own_shrink {e : TypeId} {size : Nat} {a1 : Option Addr} {k m cap : Nat} {xs : List Value} (hm : m ≤ k) : ∀ h, OwnSl e size a1 k cap xs h → OwnSl e size a1 m cap (xs.take (m * size)) h := fun h ⟨e1, e2⟩ => by
  have hle : m * size ≤ k * size := Nat.mul_le_mul_right _ hm
  refine ⟨by rw [List.length_take, e1, Nat.min_eq_left hle], ?_⟩
  rcases e2 with ⟨r1, r2, r3, r4⟩ | ⟨g, cur, r1, r2, r3, r4, r5, r6⟩
  · exact .inl ⟨r1, by omega, r3, r4⟩
  · exact .inr ⟨g, cur, r1, by omega, r3, r4, by rw [← r5, List.take_take, Nat.min_eq_left hle], r6⟩

/-- Read-only cells of a slice. -/
def RSl (ρ : Nat → Obj → Prop) (size : Nat) (a : Option Addr) (k : Nat) (xs : List Value) : Prop :=
  xs.length = k * size ∧ ∃ b off cs T fz, 0 < k → a = some ⟨b, off, none⟩ ∧ ρ b (.cells (cs : List Value).toArray T fz) ∧ ∀ j v, xs[j]? = some v → cs[off + j]? = some v

theorem RSl.of_own {ρ : Nat → Obj → Prop} {e : TypeId} {size : Nat} {a1 : Option Addr} {k cap : Nat} {xs : List Value} (h : Ro ρ (OwnSl e size a1 k cap xs)) : RSl ρ size a1 k xs := by
  obtain ⟨hh, ⟨e1, e2⟩, r⟩ := h
  refine ⟨e1, ?_⟩
  rcases e2 with ⟨r1, r2, r3, r4⟩ | ⟨g, cur, r1, r2, r3, r4, r5, r6⟩
  · exact ⟨0, 0, [], 0, (0, 0), fun h => by omega⟩
  · refine ⟨g, 0, cur, e, (0, 0), fun _ => ⟨r1, r g _ (by rw [r6]; simp [one]), fun j v hj => ?_⟩⟩
    rw [← r5, List.getElem?_take] at hj
    split at hj
    · simpa using hj
    · cases hj
theorem RSl.of_blk {ρ : Nat → Obj → Prop} {size b k : Nat} {cs : List Value} {T : TypeId} {fz : Nat × Nat} (h : ρ b (.cells cs.toArray T fz)) (hl : k * size ≤ cs.length) : RSl ρ size (some ⟨b, 0, none⟩) k (cs.take (k * size)) :=
  ⟨by rw [List.length_take, Nat.min_eq_left hl], b, 0, cs, T, fz, fun _ => ⟨rfl, h, fun j v hj => by
    rw [List.getElem?_take] at hj
    split at hj
    · simpa using hj
    · cases hj⟩⟩
theorem RSl.nil {ρ : Nat → Obj → Prop} {size : Nat} {a : Option Addr} : RSl ρ size a 0 [] := ⟨by simp, 0, 0, [], 0, (0, 0), fun h => by omega⟩
theorem RSl.mono {ρ ρ' : Nat → Obj → Prop} {size : Nat} {a : Option Addr} {k : Nat} {xs : List Value} (h : RSl ρ size a k xs) (s : ∀ b o, ρ b o → ρ' b o) : RSl ρ' size a k xs := by
  obtain ⟨e1, b, off, cs, T, fz, e2⟩ := h
  exact ⟨e1, b, off, cs, T, fz, fun hk => ⟨(e2 hk).1, s _ _ (e2 hk).2.1, (e2 hk).2.2⟩⟩
theorem sub_of {cs xs : List Value} {o k i : Nat} (h : ∀ j v, xs[j]? = some v → cs[o + j]? = some v) (hk : 0 < k) (hi : i + k ≤ xs.length) : sub cs (o + i) k = some ((xs.drop i).take k) := by
  have hlen : o + (i + k) ≤ cs.length := by
    have h1 : xs[i + k - 1]? = some xs[i + k - 1] := List.getElem?_eq_getElem (by omega)
    have := h _ _ h1
    have := (List.getElem?_eq_some_iff.1 this).1
    omega
  unfold sub
  rw [if_pos (by omega)]
  congr 1
  apply List.ext_getElem?
  intro j
  simp only [List.getElem?_take, List.getElem?_drop]
  split
  · rename_i hj
    have h1 : xs[i + j]? = some xs[i + j] := List.getElem?_eq_getElem (by omega)
    rw [h1, show o + i + j = o + (i + j) from by omega]
    exact h _ _ h1
  · rfl

theorem sub_take {cur vs : List Value} {N o k : Nat} (h : sub (cur.take N) o k = some vs) : sub cur o k = some vs := by
  unfold sub at *
  split at h
  · rename_i hl
    rw [List.length_take] at hl
    rw [if_pos (by omega)]
    rw [← h, List.drop_take, List.take_take, Nat.min_eq_left (by omega)]
  · cases h

/-- rows of equal width, one behind the other -/
theorem rows_at {α : Type} (enc : α → List Value) (k : Nat) (hk : ∀ a, (enc a).length = k) : ∀ (l : List α) (i : Nat) (h : i < l.length), ((l.flatMap enc).drop (i * k)).take k = enc l[i] ∧ i * k + k ≤ (l.flatMap enc).length
  | [], i, h => by simp at h
  | a :: l, 0, _ => by simp [hk]
  | a :: l, i + 1, h => by
    obtain ⟨h1, h2⟩ := rows_at enc k hk l i (by simpa using h)
    have e : (i + 1) * k = (enc a).length + i * k := by rw [hk, Nat.add_mul]; omega
    refine ⟨?_, ?_⟩
    · rw [List.flatMap_cons, e, List.drop_append, List.drop_of_length_le (by omega), List.nil_append, Nat.add_sub_cancel_left]
      simpa using h1
    · rw [List.flatMap_cons, List.length_append, e]; omega
theorem rows_len {α : Type} (enc : α → List Value) (k : Nat) (hk : ∀ a, (enc a).length = k) : ∀ l : List α, (l.flatMap enc).length = l.length * k
  | [] => by simp
  | a :: l => by rw [List.flatMap_cons, List.length_append, hk, rows_len enc k hk l, List.length_cons, Nat.add_mul]; omega
theorem rows_take {α : Type} (enc : α → List Value) (k : Nat) (hk : ∀ a, (enc a).length = k) : ∀ (l : List α) (i : Nat), i ≤ l.length → (l.flatMap enc).take (i * k) = (l.take i).flatMap enc
  | l, 0, _ => by simp
  | [], i + 1, h => by simp at h
  | a :: l, i + 1, h => by
    have e : (i + 1) * k = (enc a).length + i * k := by rw [hk, Nat.add_mul]; omega
    rw [List.flatMap_cons, e, List.take_append, List.take_of_length_le (by omega), Nat.add_sub_cancel_left, rows_take enc k hk l i (by simpa using h)]
    simp

/-- element i of a read-only slice of rows -/
theorem RSl.row {ρ : Nat → Obj → Prop} {α : Type} {enc : α → List Value} {size : Nat} {a : Option Addr} {l : List α} (hk : ∀ a, (enc a).length = size) (h : RSl ρ size a l.length (l.flatMap enc)) :
    ∃ b off cs T fz, 0 < l.length → a = some ⟨b, off, none⟩ ∧ ρ b (.cells (cs : List Value).toArray T fz) ∧ ∀ i (hi : i < l.length), (0 < size → sub cs (off + i * size) size = some (enc l[i])) ∧ ∀ j v, (enc l[i])[j]? = some v → cs[off + i * size + j]? = some v := by
  obtain ⟨e1, b, off, cs, T, fz, e2⟩ := h
  refine ⟨b, off, cs, T, fz, fun hl => ⟨(e2 hl).1, (e2 hl).2.1, fun i hi => ?_⟩⟩
  obtain ⟨r1, r2⟩ := rows_at enc size hk l i hi
  refine ⟨fun hs => ?_, fun j v hj => ?_⟩
  · rw [sub_of (e2 hl).2.2 hs r2, r1]
  · rw [Nat.add_assoc]
    refine (e2 hl).2.2 _ _ ?_
    have hj2 : j < size := by
      have := (List.getElem?_eq_some_iff.1 hj).1
      rwa [hk] at this
    rw [← r1, List.getElem?_take, if_pos hj2, List.getElem?_drop] at hj
    exact hj

/-! ### make -/
theorem e_makeMap {r : Option Operand} (hr : r = none) : Eff P M n L H ⟨dd, .makeMap t r, ty, ps, af, gd⟩ (fun v H' => ∃ b, v = .map (some b) ∧ H' = Blk b (.map #[] 0) :: H) :=
  Eff.of_run fun a w ha hm => ⟨_, _, _, by subst hr; simp [execOp, Instr.makeMap], ⟨w.heap.size, rfl, rfl⟩, hm.alloc _⟩

theorem madeCells_one (v : Value) (k : Nat) : madeCells #[v] k = (List.replicate k v).toArray := by
  apply Array.ext
  · simp [madeCells]
  · intro i h1 h2
    simp [madeCells, Nat.mod_one]

theorem madeCells_eq (k : Nat) (z : List Value) : madeCells z.toArray (k * z.length) = ((List.replicate k z).flatten).toArray := by
  have key : ∀ k, (List.range (k * z.length)).map (fun i => z.toArray[i % z.toArray.size]!) = (List.replicate k z).flatten := by
    intro k
    induction k with
    | zero => simp
    | succ k ih =>
      rw [List.replicate_succ, List.flatten_cons, ← ih, show (k + 1) * z.length = z.length + k * z.length from by rw [Nat.add_mul]; omega, List.range_add, List.map_append]
      congr 1
      · apply List.ext_getElem
        · simp
        · intro i h1 h2
          simp at h1
          simp [Nat.mod_eq_of_lt h2, h2]
      · rw [List.map_map]
        apply List.map_congr_left
        intro i _
        simp
  apply Array.ext'
  rw [← key k]
  simp [madeCells]

theorem e_make {ye : Ty} {e : TypeId} {k k' : IntKind} {i : Int} {z : Value} [hsl : SlC P t e ye] (hz : ye.zero.cells = #[z]) (hs : ye.size = 1) (h1 : ev L x = some (.int k i)) (h2 : ev L y = some (.int k' i)) (h0 : 0 ≤ i) (hb : (ye.bytes : Int) * i ≤ 281474976710656) (h63 : i ≤ 9223372036854775807) :
    Eff P M n L H ⟨dd, .makeSlice t x y, ty, ps, af, gd⟩ (fun v H' => ∃ b, v = .slice (some ⟨b, 0, none⟩) i.toNat i.toNat ∧ H' = Blk b (.cells (List.replicate i.toNat z).toArray e (0, 0)) :: H) :=
  Eff.of_run fun a w ha hm => by
    obtain ⟨yt, ht, hd⟩ := hsl.t
    have he := hsl.e
    obtain ⟨inf, hri, hib, his, hi, hiz⟩ := he.run_info
    have ht' : P.underlying t = some (.slice e) := by rw [ht.u, hd]
    have hr := run_make (P := P) w t e inf ye.zero ht' hi hiz k k' i i h0 (Int.le_refl _) (by rw [hib]; exact hb) h63
    rw [his, hs, Nat.mul_one, hz, madeCells_one] at hr
    exact ⟨_, _, _, by simp [execOp, ha.ev h1, ha.ev h2, hr], ⟨w.heap.size, rfl, rfl⟩, hm.alloc _⟩
/-- make at a literal size, elements of any width -/
theorem e_makeN {ye : Ty} {e : TypeId} {k k' : IntKind} {i : Int} {l : List Value} [hsl : SlC P t e ye] (h1 : ev L x = some (.int k i)) (h2 : ev L y = some (.int k' i)) (h0 : 0 ≤ i) (hb : (ye.bytes : Int) * i ≤ 281474976710656) (h63 : i ≤ 9223372036854775807) (hl : madeCells ye.zero.cells (i.toNat * ye.size) = l.toArray) :
    Eff P M n L H ⟨dd, .makeSlice t x y, ty, ps, af, gd⟩ (fun v H' => ∃ b, v = .slice (some ⟨b, 0, none⟩) i.toNat i.toNat ∧ H' = Blk b (.cells l.toArray e (0, 0)) :: H) :=
  Eff.of_run fun a w ha hm => by
    obtain ⟨yt, ht, hd⟩ := hsl.t
    have he := hsl.e
    obtain ⟨inf, hri, hib, his, hi, hiz⟩ := he.run_info
    have ht' : P.underlying t = some (.slice e) := by rw [ht.u, hd]
    have hr := run_make (P := P) w t e inf ye.zero ht' hi hiz k k' i i h0 (Int.le_refl _) (by rw [hib]; exact hb) h63
    rw [his, hl] at hr
    exact ⟨_, _, _, by simp [execOp, ha.ev h1, ha.ev h2, hr], ⟨w.heap.size, rfl, rfl⟩, hm.alloc _⟩

/-! ### slices of slices -/
theorem p_sliceh {ye : Ty} {e : TypeId} {k : IntKind} {j : Int} {ad : Option Addr} {m cap : Nat} [hsl : SlC P t e ye] (h1 : ev L x = some (.slice ad m cap)) (h2 : ev L y = some (.int k j)) (hj : 0 ≤ j ∧ j ≤ cap) :
    Pur P M n L H ⟨dd, .slice t x none (some y) none, ty, ps, af, gd⟩ (.slice ad j.toNat cap) := fun a w ha _ => by
  obtain ⟨yt, ht, hd⟩ := hsl.t
  have he := hsl.e
  have e0 : (ad.map fun q => q.add 0) = ad := by cases ad <;> simp [Addr.add]
  simp [execOp, Instr.sliceAt, Instr.slice, Instr.sliceBounds, Instr.sliceBound, asIntOf, ha.ev h1, ha.ev h2, ht.run_u, hd, hj, he.run_size, e0]
theorem p_slicel {ye : Ty} {e : TypeId} {k : IntKind} {i : Int} {ad : Option Addr} {m cap : Nat} [hsl : SlC P t e ye] (h1 : ev L x = some (.slice ad m cap)) (h2 : ev L y = some (.int k i)) (hi : 0 ≤ i ∧ i ≤ m) :
    Pur P M n L H ⟨dd, .slice t x (some y) none none, ty, ps, af, gd⟩ (.slice (if cap = i.toNat then ad else ad.map (·.add (i.toNat * ye.size))) (m - i.toNat) (cap - i.toNat)) := fun a w ha _ => by
  obtain ⟨yt, ht, hd⟩ := hsl.t
  have he := hsl.e
  simp [execOp, Instr.sliceAt, Instr.slice, Instr.sliceBounds, Instr.sliceBound, asIntOf, ha.ev h1, ha.ev h2, ht.run_u, hd, hi, he.run_size]
theorem p_slicelh {ye : Ty} {e : TypeId} {k k' : IntKind} {i j : Int} {ad : Option Addr} {m cap : Nat} [hsl : SlC P t e ye] (h1 : ev L x = some (.slice ad m cap)) (h2 : ev L y = some (.int k i)) (h3 : ev L z = some (.int k' j)) (hi : 0 ≤ i ∧ i ≤ j) (hj : j ≤ cap) :
    Pur P M n L H ⟨dd, .slice t x (some y) (some z) none, ty, ps, af, gd⟩ (.slice (if cap = i.toNat then ad else ad.map (·.add (i.toNat * ye.size))) (j.toNat - i.toNat) (cap - i.toNat)) := fun a w ha _ => by
  obtain ⟨yt, ht, hd⟩ := hsl.t
  have he := hsl.e
  have e1 : 0 ≤ j ∧ j ≤ (cap : Int) := ⟨by omega, hj⟩
  have e2 : 0 ≤ i ∧ i ≤ (j.toNat : Int) := ⟨hi.1, by omega⟩
  simp [execOp, Instr.sliceAt, Instr.slice, Instr.sliceBounds, Instr.sliceBound, asIntOf, ha.ev h1, ha.ev h2, ha.ev h3, ht.run_u, hd, e1, e2, he.run_size]
  intro hlt; omega

theorem eqIn_slnil {d : Nat} {e : TypeId} {ad : Option Addr} {m c : Nat} {yt : Ty} [ht : TyC P t yt] (hd : yt.d = .slice e) (w : World) : (Op.equalIn (d + 1) t (.slice ad m c) (.slice none 0 0)).run P w = .ok ad.isNone w := by
  cases ad <;> simp only [Op.equalIn, Sem.run_bind, ht.run_u, hd, Result.andThen_ok, Sem.run_pure, Option.isNone]
theorem p_eqslnil {e tz : TypeId} {ad : Option Addr} {m c : Nat} {yt : Ty} [ht : TyC P t yt] (hd : yt.d = .slice e) (h1 : ev L x = some (.slice ad m c)) (h2 : ev L y = some (.slice none 0 0)) : Pur P M n L H ⟨dd, .binOp .eql t x y tz, ty, ps, af, gd⟩ (.bool ad.isNone) :=
  p_eqOf h1 h2 (fun w => by simp only [binOp, Op.equal, Op.maxDepth, Sem.run_bind, Sem.run_pure]) (fun w => rfl) (eqIn_slnil hd)

/-- append of nothing -/
theorem e_append0 {e : TypeId} {ye : Ty} {a1 : Option Addr} {k cap c : Nat} {b2 : Option Addr} [hsl : SlC P t e ye] (h1 : ev L x = some (.slice a1 k cap)) (h2 : ev L y = some (.slice b2 0 c)) (hk : k ≤ cap) :
    Eff P M n L H ⟨dd, .call ⟨.builtin .append, #[x, y], #[t, t]⟩, ty, ps, af, gd⟩ (fun v H2 => v = .slice a1 k cap ∧ H2 = H) :=
  Eff.of_run fun a w ha hm => by
    obtain ⟨yt, ht, hd⟩ := hsl.t
    have he := hsl.e
    refine ⟨.slice a1 k cap, H, w, ?_, ⟨rfl, rfl⟩, hm⟩
    cases b2 <;> cases a1 <;> simp [execOp, resolve, invoke, builtin, ha.ev h1, ha.ev h2, Builtin.append_, ht.run_u, hd, he.run_size, Builtin.lenOf, hk, Builtin.firstCells, loadCells, loadCellsFrom, storeCells]

/-! ### composite structs -/
class BuildC (P : Program) (t : Nat) (places : outParam (List (Nat × Nat))) : Prop where
  h : ∃ fs, P.underlying t = some (.struct fs) ∧ ∀ w, ((fs.mapM fun f => do pure (f.offset, ← sizeOf f.type) : Sem _)).run P w = .ok places.toArray w

theorem BuildC.mk' {t : Nat} {fs : Array Field} {places : List (Nat × Nat)} (h1 : P.underlying t = some (.struct fs)) (h2 : fs.toList.map (fun f => (P.info? f.type).map fun i => (f.offset, i.size)) = places.map some) : BuildC P t places := by
  refine ⟨fs, h1, fun w => ?_⟩
  obtain ⟨fl⟩ := fs
  simp only [List.mapM_toArray, map_eq_pure_bind, Sem.run_bind] at h2 ⊢
  have key : ∀ (fl : List Field) (places : List (Nat × Nat)), fl.map (fun f => (P.info? f.type).map fun i => (f.offset, i.size)) = places.map some → (fl.mapM (m := Sem) fun f => do pure (f.offset, ← sizeOf f.type)).run P w = .ok places w := by
    intro fl
    induction fl with
    | nil => intro places h; cases places with
      | nil => simp
      | cons _ _ => simp at h
    | cons f fl ih =>
      intro places h
      cases places with
      | nil => simp at h
      | cons p places =>
        simp only [List.map_cons, List.cons.injEq, Option.map_eq_some_iff] at h
        obtain ⟨⟨i, hi, hp⟩, hr⟩ := h
        rw [List.mapM_cons, Sem.run_bind, Sem.run_bind]
        have : (sizeOf f.type).run P w = .ok i.size w := by simp [sizeOf, typeInfo, hi]
        rw [this]
        simp only [Result.andThen_ok, Sem.run_pure, Sem.run_bind, ih places hr, hp]
  rw [key fl places h2]
  rfl

def fillL (place : Nat → Option (Nat × Nat)) (cs : List Value) : List (Nat × Value) → Option (List Value)
  | [] => some cs
  | (i, v) :: rest =>
    match place i with
    | none => none
    | some (off, size) => if v.cells.toList.length = size then (match putO cs off v.cells.toList with | some cs' => fillL place cs' rest | none => none) else none

theorem fillL_eq (place : Nat → Option (Nat × Nat)) : ∀ (parts : List (Nat × Value)) (cs l : List Value), fillL place cs parts = some l → Instr.fill place cs.toArray parts = some l.toArray
  | [], cs, l, h => by simp [fillL] at h; subst h; rfl
  | (i, v) :: rest, cs, l, h => by
    unfold fillL at h
    unfold Instr.fill
    cases hp : place i with
    | none => rw [hp] at h; cases h
    | some p =>
      obtain ⟨off, size⟩ := p
      rw [hp] at h
      simp only at h ⊢
      split at h
      · rename_i hc
        cases hp2 : putO cs off v.cells.toList with
        | none => rw [hp2] at h; cases h
        | some cs' =>
          rw [hp2] at h
          obtain ⟨e1, e2⟩ := putO_eq _ _ _ _ hp2
          subst e1
          rw [if_neg (by simp at hc e2 ⊢; omega)]
          have hf := fold_set v.cells.toList cs.toArray off 0 (by simp at hc e2 ⊢; omega)
          have e : (v.cells.zipIdx.foldl (fun cs (x : Value × Nat) => cs.setIfInBounds (off + x.2) x.1) cs.toArray) = (putL cs off v.cells.toList).toArray := by
            apply Array.ext'
            rw [← Array.foldl_toList, Array.toList_zipIdx]
            simpa [putL] using hf
          have := fillL_eq place rest _ _ h
          rw [← e] at this
          exact this
      · cases h

def evP (L : Fr) : List (Nat × Operand) → Option (List (Nat × Value))
  | [] => some []
  | (i, x) :: xs => match ev L x, evP L xs with
    | some v, some vs => some ((i, v) :: vs)
    | _, _ => none

theorem p_build {yt : Ty} {places : List (Nat × Nat)} {parts : Array (Nat × Operand)} {pv : List (Nat × Value)} {z l : List Value} [ht : TyC P t yt] [hb : BuildC P t places] (hz : yt.zero.cells = z.toArray) (hp : evP L parts.toList = some pv) (hf : fillL (fun i => places[i]?) z pv = some l) :
    Pur P M n L H ⟨dd, .build t parts, ty, ps, af, gd⟩ (.agg l.toArray) := fun a w ha _ => by
  obtain ⟨fs, hu, hm⟩ := hb.h
  have e1 : (parts.map fun (i, x) => (i, a.eval x)).toList = pv := by
    have key : ∀ (l : List (Nat × Operand)) (pv : List (Nat × Value)), evP L l = some pv → l.map (fun (i, x) => (i, a.eval x)) = pv := by
      intro l
      induction l with
      | nil => intro pv h; simp [evP] at h; subst h; rfl
      | cons p l ih =>
        intro pv h
        obtain ⟨i, x⟩ := p
        unfold evP at h
        cases e1 : ev L x with
        | none => rw [e1] at h; cases h
        | some v =>
          cases e2 : evP L l with
          | none => rw [e1, e2] at h; cases h
          | some vs => rw [e1, e2] at h; simp at h; subst h; simp [ha.ev e1, ih _ e2]
    rw [Array.toList_map]; exact key _ _ hp
  have e2 := fillL_eq _ _ _ _ hf
  have e3 : (fun (i : Nat) => places[i]?) = (fun (i : Nat) => places.toArray[i]?) := by funext i; simp
  rw [e3] at e2
  have hu' : (underlying t).run P w = .ok (.struct fs) w := by simp [underlying, hu]
  have hrun : ∀ PA : Array (Nat × Value), PA.toList = pv → (Instr.build t PA).run P w = .ok (.agg l.toArray) w := by
    intro PA hPA
    unfold Instr.build
    simp only [Sem.run_bind, ht.run_zero, hu', Result.andThen_ok, hm, hz, hPA]
    simp only [e2, Sem.run_pure]
  simp only [execOp, Sem.run_bind, hrun _ e1, Result.andThen_ok, Sem.run_pure]

theorem p_eqagg {tz : TypeId} {xs ys : Array Value} {r : Bool} (he : ∀ w, (Op.equalIn (9999 + 1) t (.agg xs) (.agg ys)).run P w = .ok r w) (hm : P.eqGuardType P.depth t = false) (h1 : ev L x = some (.agg xs)) (h2 : ev L y = some (.agg ys)) : Pur P M n L H ⟨dd, .binOp .eql t x y tz, ty, ps, af, gd⟩ (.bool r) :=
  p_eqOf h1 h2 (fun w => by simp only [binOp, Op.equal, Op.maxDepth, Sem.run_bind, Sem.run_pure]) (fun w => run_eqGuard_agg w _ t x y xs ys hm) he
theorem p_neagg {tz : TypeId} {xs ys : Array Value} {r : Bool} (he : ∀ w, (Op.equalIn (9999 + 1) t (.agg xs) (.agg ys)).run P w = .ok r w) (hm : P.eqGuardType P.depth t = false) (h1 : ev L x = some (.agg xs)) (h2 : ev L y = some (.agg ys)) : Pur P M n L H ⟨dd, .binOp .neq t x y tz, ty, ps, af, gd⟩ (.bool (!r)) :=
  p_neOf h1 h2 (fun w => by simp only [binOp, Op.equal, Op.maxDepth, Sem.run_bind, Sem.run_pure]) (fun w => run_eqGuard_agg w _ t x y xs ys hm) he
end Go.Z
