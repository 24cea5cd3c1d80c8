/- Own layer: pieces of strings, bytes of a string as a row of one's own (which bears a mark behind its end), and back. Conditions: none; generic in the program. -/
import Derived.Test.YtcnfcoojmbjdlaaGreatDoorY0
import Derived.Lib.FrozenHead
import Derived.Lib.ConvBytes
import Derived.Laws.IdiomStrings
import Derived.Laws.Strings3
namespace Go.Z
set_option maxRecDepth 8000
set_option linter.unusedVariables false
set_option linter.unusedSimpArgs false
set_option linter.unusedSectionVars false
open Go Go.Lib

variable {P : Program} {n : Nat} {L L' : Fr} {H H' Hi Hr : List Assn} {M : Mx} {Q : Exit → Act → World → Prop} {ops : Array Oper} {rest : List Oper}
variable {dd : Option Tmp} {ty t tu : TypeId} {ps : String} {af : Array Edge} {gd : Option (Nat × Bool)} {x y z : Operand} {v u : Value} {w w' : World} {tz : TypeId}

theorem p_slices {yt : Ty} {l : List UInt8} {k k' : IntKind} {i j : Int} [ht : TyC P t yt] (hd : yt.d = .string) (h1 : ev L x = some (.string ⟨l.toArray⟩)) (h2 : ev L y = some (.int k i)) (h3 : ev L z = some (.int k' j)) (h0 : 0 ≤ i ∧ i ≤ j) (hj : j ≤ l.length) :
    Pur P M n L H ⟨dd, .slice t x (some y) (some z) none, ty, ps, af, gd⟩ (.string ⟨((l.drop i.toNat).take (j.toNat - i.toNat)).toArray⟩) := fun a w ha _ => by
  have hu : P.underlying t = some .string := by rw [ht.u, hd]
  have hs : (⟨l.toArray⟩ : ByteArray).size = l.length := rfl
  have hr := run_slice_string (P := P) w t ⟨l.toArray⟩ k k' i j hu h0.1 h0.2 (by rw [hs]; exact hj)
  have hat := run_sliceAt_string (P := P) (w := w) t (.string ⟨l.toArray⟩) (some (.int k i)) (some (.int k' j)) none hu
  rw [ByteArray.extract_mk] at hr
  rw [hr] at hat
  simp only [execOp, ha.ev h1, Option.map_some, ha.ev h2, ha.ev h3, Option.map_none, Sem.run_bind, hat, Result.andThen_ok, Sem.run_pure]
theorem p_slicesl {yt : Ty} {l : List UInt8} {k : IntKind} {i : Int} [ht : TyC P t yt] (hd : yt.d = .string) (h1 : ev L x = some (.string ⟨l.toArray⟩)) (h2 : ev L y = some (.int k i)) (h0 : 0 ≤ i ∧ i ≤ l.length) :
    Pur P M n L H ⟨dd, .slice t x (some y) none none, ty, ps, af, gd⟩ (.string ⟨(l.drop i.toNat).toArray⟩) := fun a w ha _ => by
  have hu : P.underlying t = some .string := by rw [ht.u, hd]
  have hs : (⟨l.toArray⟩ : ByteArray).size = l.length := rfl
  have hr := run_slice_string_from_if (P := P) w t ⟨l.toArray⟩ k i hu
  have hat := run_sliceAt_string (P := P) (w := w) t (.string ⟨l.toArray⟩) (some (.int k i)) none none hu
  rw [if_pos ⟨h0.1, by rw [hs]; exact h0.2⟩, hs, ByteArray.extract_mk, List.take_of_length_le (by rw [List.length_drop]; omega)] at hr
  rw [hr] at hat
  simp only [execOp, ha.ev h1, Option.map_some, ha.ev h2, Option.map_none, Sem.run_bind, hat, Result.andThen_ok, Sem.run_pure]

/-- a row of bytes of one's own; a mark may lie behind its end -/
def OwnB (e : TypeId) (a : Option Addr) (k cap : Nat) (xs : List Value) : Assn := fun h => xs.length = k ∧ ∃ (g : Nat) (cur : List Value) (fz : Nat × Nat), a = some ⟨g, 0, none⟩ ∧ k ≤ cap ∧ cap ≤ maxLen ∧ cur.length = cap ∧ cur.take k = xs ∧ (fz = (0, 0) ∨ cap ≤ fz.1) ∧ h = one g (.cells cur.toArray e fz)
theorem OwnB.cases {e : TypeId} {a : Option Addr} {k cap : Nat} {xs : List Value} (t : Take H (OwnB e a k cap xs) H') (hm : Ms M H w) :
    xs.length = k ∧ ∃ (g : Nat) (cur : List Value) (fz : Nat × Nat), a = some ⟨g, 0, none⟩ ∧ k ≤ cap ∧ cap ≤ maxLen ∧ cur.length = cap ∧ cur.take k = xs ∧ (fz = (0, 0) ∨ cap ≤ fz.1) ∧ Ms M (Blk g (.cells cur.toArray e fz) :: H') w := by
  obtain ⟨hh, s, su, d, r⟩ := hm.own
  obtain ⟨h1, h2, ⟨e1, g, cur, fz, a1, a2, a3, a4, a5, a6, a7⟩, s2, dd, rfl⟩ := t.sat s
  exact ⟨e1, g, cur, fz, a1, a2, a3, a4, a5, a6, hm.os, hm.tape, hm.output, hm.size, hm.keep, hm.ro, _, ⟨h1, h2, a7, s2, dd, rfl⟩, su, d, r⟩
theorem storeCells_mark (P : Program) (g o : Nat) (t : TypeId) (fz : Nat × Nat) : ∀ (vs : List Value) (i : Nat) (cur : Array Value) (w : World), w.heap[g]? = some (.cells cur t fz) → (fz = (0, 0) ∨ cur.size ≤ fz.1) → o + i + vs.length ≤ cur.size → (∀ v ∈ vs, v.oneCell' = true) →
    (storeCells ⟨g, o, none⟩ vs i).run P w = .ok () (w.setRow g (cur.toList.take (o + i) ++ vs ++ cur.toList.drop (o + i + vs.length)).toArray)
  | [], i, cur, w, hg, _, _, _ => by
    simp only [storeCells, List.append_nil, List.length_nil, Nat.add_zero, List.take_append_drop, Array.toArray_toList]
    rw [setRow_self w g cur t fz hg]
    rfl
  | v :: rest, i, cur, w, hg, hfz, hl, h1 => by
    have hi : o + i < cur.size := by simp at hl; omega
    have hadd : (⟨g, o, none⟩ : Addr).add i = ⟨g, o + i, none⟩ := by unfold Addr.add; split <;> simp_all
    have hcell : w.cell? ⟨g, o + i, none⟩ = some cur[o + i] := by simp [World.cell?, hg, hi]
    have hfro : w.frozen? ⟨g, o + i, none⟩ = false := by
      obtain ⟨lo, hi'⟩ := fz
      simp only [World.frozen?, hg, Bool.and_eq_false_iff, decide_eq_false_iff_not]
      rcases hfz with e | e
      · injection e with e1 e2; subst e1; subst e2; right; omega
      · left; simp only at e; omega
    have hst : (store ((⟨g, o, none⟩ : Addr).add i) v).run P w = .ok () (w.setRow g (cur.setIfInBounds (o + i) v)) := by
      rw [hadd, run_store P w _ v _ (h1 v (by simp)), hcell]
      simp [hfro, setCell_eq_setRow w g (o + i) cur t fz v hg]
    have ih := storeCells_mark P g o t fz rest (i + 1) (cur.setIfInBounds (o + i) v) (w.setRow g (cur.setIfInBounds (o + i) v)) (setRow_heap w g cur _ t _ hg) (by simpa using hfz) (by simp at hl ⊢; omega) (fun x hx => h1 x (by simp [hx]))
    simp only [storeCells, Sem.run_bind, hst, Result.andThen_ok, ih, setRow_setRow]
    congr 3
    have e := list_seg_step cur.toList (o + i) v rest (by simp at hl ⊢; omega)
    simpa [Array.toList_setIfInBounds, Nat.add_assoc] using e
theorem append_mark (w : World) (t u ty e : TypeId) (i : TypeInfo) (ht : P.underlying t = some (.slice e)) (hu : P.underlying u = some .string) (hi : P.info? e = some i) (hs1 : i.size = 1)
    (g sLen sCap : Nat) (cur : Array Value) (fz : Nat × Nat) (hg : w.heap[g]? = some (.cells cur e fz)) (hfz : fz = (0, 0) ∨ cur.size ≤ fz.1) (s : ByteArray)
    (hroom : sLen + s.size ≤ sCap) (hfit : sLen + s.size ≤ cur.size) :
    (Builtin.append_ #[t, u] ty #[.slice (some ⟨g, 0, none⟩) sLen sCap, .string s]).run P w =
      .ok (.slice (some ⟨g, 0, none⟩) (sLen + s.size) sCap) (w.setRow g (cur.toList.take sLen ++ strCells s ++ cur.toList.drop (sLen + s.size)).toArray) := by
  have hf := run_firstCells_string (P := P) w 1 s
  have hst := storeCells_mark P g sLen e fz (strCells s) 0 cur w hg hfz (by simpa [strCells_length] using hfit) (strCells_oneCell s)
  simp only [Nat.add_zero, strCells_length] at hst
  simp [Builtin.append_, run_underlying ht, run_underlying hu, sizeOf, typeInfo, hi, hs1, Builtin.lenOf, hroom, hf, Addr.add_lit, hst]
/-- bytes of a string appended -/
theorem e_appStrB {e : TypeId} {ye yu : Ty} {a1 : Option Addr} {k cap : Nat} {xs : List Value} {s : ByteArray} [hsl : SlC P t e ye] [hu : TyC P tu yu] (hud : yu.d = .string) (hz : ye.zero = .int .u8 0) (hs1 : ye.size = 1) (hb : ye.bytes = 1)
    (h1 : ev L x = some (.slice a1 k cap)) (h2 : ev L y = some (.string s)) (tk : Take H (OwnB e a1 k cap xs) H') (hbd : k + s.size ≤ 140737488355328) :
    Eff P M n L H ⟨dd, .call ⟨.builtin .append, #[x, y], #[t, tu]⟩, ty, ps, af, gd⟩ (fun v H2 => ∃ a2 c2, v = .slice a2 (k + s.size) c2 ∧ H2 = OwnB e a2 (k + s.size) c2 (xs ++ strCells s) :: H') :=
  Eff.of_run fun a w ha hm => by
    obtain ⟨yt, ht, hd⟩ := hsl.t
    have he := hsl.e
    obtain ⟨i, hri, hib, his, hi, hiz⟩ := he.run_info
    have ht' : P.underlying t = some (.slice e) := by rw [ht.u, hd]
    have hu' : P.underlying tu = some .string := by rw [hu.u, hud]
    rw [hs1] at his; rw [hb] at hib; rw [hz] at hiz
    obtain ⟨hxl, g, cur, fz, rfl, hnc, hcm, hcl, htk, hfz, hm'⟩ := OwnB.cases tk hm
    have hexec : ∀ (r : Result Value), (Builtin.append_ #[t, tu] ty #[.slice (some ⟨g, 0, none⟩) k cap, .string s]).run P w = r →
        (execOp a.eval ⟨dd, .call ⟨.builtin .append, #[x, y], #[t, tu]⟩, ty, ps, af, gd⟩).run P w = r.andThen fun v w => .ok (.value v) w := fun r hr => by
      simp [execOp, resolve, invoke, builtin, ha.ev h1, ha.ev h2, hr]
    have hlen : (xs ++ strCells s).length = k + s.size := by rw [List.length_append, hxl, strCells_length]
    by_cases hroom : k + s.size ≤ cap
    · have hb := hm'.blk .here
      have hr := append_mark (P := P) w t tu ty e i ht' hu' hi his g k cap cur.toArray fz hb (by simpa [hcl] using hfz) s hroom (by simp; omega)
      refine ⟨_, _, _, hexec _ hr, ⟨_, _, rfl, rfl⟩, ?_⟩
      have hs := hm'.set' .here (.cells (cur.take k ++ strCells s ++ cur.drop (k + s.size)).toArray e fz) (w' := w.setRow g (cur.toArray.toList.take k ++ strCells s ++ cur.toArray.toList.drop (k + s.size)).toArray)
        rfl rfl rfl (by simp) (setRow_heap w g _ _ e _ hb) (fun c hc => setRow_other w g c _ hc)
      refine hs.weaken fun kk hk => ?_
      have e1 : kk = one g _ := hk
      rw [e1]
      refine ⟨hlen, g, _, fz, rfl, hroom, hcm, ?_, ?_, hfz, rfl⟩
      · simp only [List.length_append, List.length_take, List.length_drop, strCells_length]; omega
      · rw [htk, ← hlen]; exact List.take_left
    · have holds : ∀ j u, xs[j]? = some u → w.cell? ((⟨g, 0, none⟩ : Addr).add j) = some u := fun j u hj => by
        rw [cells_add w g j cur e _ (hm'.blk .here) 0, Nat.zero_add]
        rw [← htk, List.getElem?_take] at hj
        split at hj
        · exact hj
        · cases hj
      have hr := run_append_grow_string (P := P) w t tu ty e i (.int .u8 0) ht' hu' hi hiz ⟨g, 0, none⟩ k cap xs (by rw [his, Nat.mul_one]; exact hxl) holds s (by omega) (by omega) (by rw [hib]; exact growslice_fits (by omega) (by omega))
      refine ⟨_, _, _, hexec _ hr, ⟨_, _, rfl, rfl⟩, ?_⟩
      have := (hm'.tail.drawn (w.drawn + 1)).alloc (.cells (xs ++ strCells s ++ (Builtin.zeroCells (Value.int .u8 0).cells (grownCap w (k + s.size) cap e - (k + s.size))).toList).toArray e (0, 0))
      have hw := this.weaken (B := OwnB e (some ⟨w.heap.size, 0, none⟩) (k + s.size) (grownCap w (k + s.size) cap e) (xs ++ strCells s)) (fun kk hk => by
        have e1 : kk = one w.heap.size _ := hk
        rw [e1]
        have hge := grownCap_ge w (k + s.size) cap e
        have hcm : grownCap w (k + s.size) cap e ≤ maxLen := grownCap_le_maxLen w (k + s.size) cap e (by simp only [maxLen]; omega)
        have hz1 : (Value.int IntKind.u8 0).cells.size = 1 := rfl
        refine ⟨hlen, _, _, (0, 0), rfl, hge, hcm, ?_, ?_, .inl rfl, rfl⟩
        · rw [List.length_append, hlen, Array.length_toList, size_zeroCells, hz1]; omega
        · rw [← hlen]; exact List.take_left)
      have e9 : (xs ++ strCells s ++ (Builtin.zeroCells (Value.int .u8 0).cells (grownCap w (k + s.size) cap e - (k + s.size))).toList).toArray = xs.toArray ++ (strCells s).toArray ++ Builtin.zeroCells (Value.int .u8 0).cells (grownCap w (k + s.size) cap e - (k + s.size)) := by
        apply Array.ext'; simp
      rw [e9] at hw
      exact hw
/-- the bytes of a string as a row of one's own -/
theorem e_stb {src dst e : TypeId} {ys ye : Ty} {s : ByteArray} [hs : TyC P src ys] [hsl : SlC P dst e ye] (hd : ys.d = .string) (hde : ye.d = .int .u8) (h1 : ev L x = some (.string s)) (hbd : s.size ≤ 140737488355328) :
    Eff P M n L H ⟨dd, .convert src dst x, ty, ps, af, gd⟩ (fun v H2 => ∃ a2 c2, v = .slice a2 s.size c2 ∧ H2 = OwnB e a2 s.size c2 (strCells s) :: H) :=
  Eff.of_run fun a w ha hm => by
    obtain ⟨yt, ht, hdt⟩ := hsl.t
    have he := hsl.e
    have hr := Lib.run_convert_string_bytes (P := P) w src dst e s (u := .string) (by rw [hs.u, hd]) (by rw [ht.u, hdt]) (by rw [he.u, hde])
    have hge := grownCap_ge w s.size 0 e
    have hcm : grownCap w s.size 0 e ≤ maxLen := grownCap_le_maxLen w s.size 0 e (by simp only [maxLen]; omega)
    have hbc : (bytesCells w e s).toList = strCells s ++ List.replicate (grownCap w s.size 0 e - s.size) (.int .u8 0) := by
      simp [bytesCells, strCells]
    have hsz : (bytesCells w e s).size = grownCap w s.size 0 e := by
      have := congrArg List.length hbc
      rw [Array.length_toList, List.length_append, strCells_length, List.length_replicate] at this; omega
    refine ⟨.slice (some ⟨w.heap.size, 0, none⟩) s.size (grownCap w s.size 0 e), OwnB e (some ⟨w.heap.size, 0, none⟩) s.size (grownCap w s.size 0 e) (strCells s) :: H, bytesWorld w e s, ?_, ⟨_, _, rfl, rfl⟩, ?_⟩
    · simp only [execOp, ha.ev h1, Sem.run_bind, hr, Result.andThen_ok, Sem.run_pure]
    · have h2 := (hm.drawn (w.drawn + 1)).alloc (.cells (bytesCells w e s) e (0, 0))
      have h3 := h2.set' .here (.cells (bytesCells w e s) e ((bytesCells w e s).size, (bytesCells w e s).size + 1)) (w' := bytesWorld w e s) (by simp [bytesWorld, World.freeze]) (by simp [bytesWorld, World.freeze]) (by simp [bytesWorld, World.freeze]) (by rw [bytesWorld_size]; simp) (bytesWorld_at_new w e s) (fun c hc => by
        simp [bytesWorld, World.freeze, Array.getElem?_modify, Ne.symm hc])
      refine h3.weaken fun kk hk => ?_
      have e1 : kk = one w.heap.size _ := hk
      rw [e1]
      refine ⟨strCells_length s, w.heap.size, (bytesCells w e s).toList, ((bytesCells w e s).size, (bytesCells w e s).size + 1), rfl, hge, hcm, by rw [Array.length_toList, hsz], ?_, .inr (by show grownCap w s.size 0 e ≤ (bytesCells w e s).size; omega), ?_⟩
      · rw [hbc, ← strCells_length s]; exact List.take_left
      · rw [Array.toArray_toList]
/-- a string of the row's bytes -/
theorem p_btsB {src dst e : TypeId} {yd ye : Ty} [hs : SlC P src e ye] [hd : TyC P dst yd] (hde : ye.d = .int .u8) (hdd : yd.d = .string) {a1 : Option Addr} {k cap : Nat} {l : List UInt8} (h1 : ev L x = some (.slice a1 k cap)) (tk : Take H (OwnB e a1 k cap (byteCells l)) H') :
    Pur P M n L H ⟨dd, .convert src dst x, ty, ps, af, gd⟩ (.string ⟨l.toArray⟩) := fun a w ha hm => by
  obtain ⟨yt, ht, hdt⟩ := hs.t
  have he := hs.e
  obtain ⟨hxl, g, cur, fz, rfl, hnc, hcm, hcl, htk, hfz, hm'⟩ := OwnB.cases tk hm
  rw [byteCells_length] at hxl
  subst hxl
  have hu : P.underlying src = some (.slice e) := by rw [ht.u, hdt]
  have hue : P.underlying e = some (.int .u8) := by rw [he.u, hde]
  have hud : P.underlying dst = some .string := by rw [hd.u, hdd]
  have hr := run_convert_bytes_back (P := P) w src dst e ⟨g, 0, none⟩ cap l hu hue hud (fun j hj => by
    rw [cells_add w g j cur e _ (hm'.blk .here) 0, Nat.zero_add]
    have : (byteCells l)[j]? = some (.int .u8 l[j].toNat) := by simp [byteCells, hj]
    rw [← htk, List.getElem?_take, if_pos hj] at this
    exact this)
  simp only [execOp, ha.ev h1, Sem.run_bind, hr, Result.andThen_ok, Sem.run_pure]
end Go.Z
