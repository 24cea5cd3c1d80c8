/- Own layer: what a strings.Builder's functions take: append of a string's bytes, unsafe pointers, a string made of bytes. Conditions: none; generic in the program. -/
import Derived.Test.YtcnfcoojmbjdlaaGreatDoorZl
import Derived.Test.YtcnfcoojmbjdlaaGreatDoorHq
import Derived.Lib.Builder
import Derived.Lib.AppendStr
import Derived.Lib.UnsafeStr
import Derived.Laws.Externs
namespace Go.Z
set_option maxRecDepth 8000
set_option linter.unusedVariables false
set_option linter.unusedSimpArgs false
set_option linter.unusedSectionVars false
open Go Go.Lib

variable {P : Program} {n : Nat} {L L' : Fr} {H H' Hi Hr : List Assn} {M : Mx} {Q : Exit → Act → World → Prop} {ops : Array Oper} {rest : List Oper}
variable {dd : Option Tmp} {ty t tu : TypeId} {ps : String} {af : Array Edge} {gd : Option (Nat × Bool)} {x y z : Operand} {v u : Value} {w w' : World} {tz : TypeId}

theorem e_appStr {e : TypeId} {ye yu : Ty} {a1 : Option Addr} {k cap : Nat} {xs : List Value} {s : ByteArray} [hsl : SlC P t e ye] [hu : TyC P tu yu] (hud : yu.d = .string) (hz : ye.zero = .int .u8 0) (hs1 : ye.size = 1) (hb : ye.bytes = 1)
    (h1 : ev L x = some (.slice a1 k cap)) (h2 : ev L y = some (.string s)) (tk : Take H (OwnSl e 1 a1 k cap xs) H') (hbd : k + s.size ≤ 140737488355328) :
    Eff P M n L H ⟨dd, .call ⟨.builtin .append, #[x, y], #[t, tu]⟩, ty, ps, af, gd⟩ (fun v H2 => ∃ a2 c2, v = .slice a2 (k + s.size) c2 ∧ H2 = OwnSl e 1 a2 (k + s.size) c2 (xs ++ strCells s) :: H') :=
  Eff.of_run fun a w ha hm => by
    obtain ⟨yt, ht, hd⟩ := hsl.t
    have he := hsl.e
    obtain ⟨i, hri, hib, his, hi, hiz⟩ := he.run_info
    have ht' : P.underlying t = some (.slice e) := by rw [ht.u, hd]
    have hu' : P.underlying tu = some .string := by rw [hu.u, hud]
    rw [hs1] at his; rw [hb] at hib; rw [hz] at hiz
    obtain ⟨hxl, hcase⟩ := OwnSl.cases tk hm
    have hxl' : xs.length = k := by simpa using hxl
    have hexec : ∀ (r : Result Value), (Builtin.append_ #[t, tu] ty #[.slice a1 k cap, .string s]).run P w = r →
        (execOp a.eval ⟨dd, .call ⟨.builtin .append, #[x, y], #[t, tu]⟩, ty, ps, af, gd⟩).run P w = r.andThen fun v w => .ok (.value v) w := fun r hr => by
      simp [execOp, resolve, invoke, builtin, ha.ev h1, ha.ev h2, hr]
    have back : Ms M (OwnSl e 1 a1 k cap xs :: H') w := by
      obtain ⟨hh, s, su, d, r⟩ := hm.own
      exact ⟨hm.os, hm.tape, hm.output, hm.size, hm.keep, hm.ro, hh, tk.sat s, su, d, r⟩
    have hlen : (xs ++ strCells s).length = (k + s.size) * 1 := by rw [List.length_append, hxl', strCells_length, Nat.mul_one]
    have grown : ∀ old, old < k + s.size → OwnSl e 1 (some ⟨w.heap.size, 0, none⟩) (k + s.size) (grownCap w (k + s.size) old e) (xs ++ strCells s)
        (one w.heap.size (.cells (xs ++ strCells s ++ (Builtin.zeroCells (Value.int .u8 0).cells (grownCap w (k + s.size) old e - (k + s.size))).toList).toArray e (0, 0))) := fun old ho => by
      have hge := grownCap_ge w (k + s.size) old e
      have hcm : grownCap w (k + s.size) old e ≤ maxLen := grownCap_le_maxLen w (k + s.size) old e (by simp only [maxLen]; omega)
      have hz1 : (Value.int IntKind.u8 0).cells.size = 1 := rfl
      refine ⟨hlen, .inr ⟨_, _, rfl, hge, hcm, ?_, ?_, rfl⟩⟩
      · rw [List.length_append, hlen, Array.length_toList, size_zeroCells, hz1]; omega
      · rw [← hlen]; exact List.take_left
    rcases hcase with ⟨rfl, rfl, rfl, hm'⟩ | ⟨g, cur, rfl, hnc, hcm, hcl, htk, hm'⟩
    · have hx0 : xs = [] := List.eq_nil_of_length_eq_zero hxl'
      subst hx0
      by_cases hm0 : s.size = 0
      · have hn : strCells s = [] := List.eq_nil_of_length_eq_zero (by rw [strCells_length]; exact hm0)
        have hf := run_firstCells_string (P := P) w 1 s
        rw [hm0] at hf
        have hr : (Builtin.append_ #[t, tu] ty #[.slice none 0 0, .string s]).run P w = .ok (.slice none 0 0) w := by
          simp [Builtin.append_, run_underlying ht', run_underlying hu', sizeOf, typeInfo, hi, his, Builtin.lenOf, hm0, hf]
        refine ⟨_, _, _, hexec _ hr, ⟨none, 0, by rw [hm0], rfl⟩, ?_⟩
        rw [hm0, hn]; exact back
      · have hr := run_append_nil_string (P := P) w t tu ty e i (.int .u8 0) ht' hu' hi hiz s (by omega) (by omega) (by rw [hib]; omega)
        refine ⟨_, _, _, hexec _ hr, ⟨_, _, by rw [Nat.zero_add], rfl⟩, ?_⟩
        have := (hm'.drawn (w.drawn + 1)).alloc (.cells ([] ++ strCells s ++ (Builtin.zeroCells (Value.int .u8 0).cells (grownCap w (0 + s.size) 0 e - (0 + s.size))).toList).toArray e (0, 0))
        have hw := this.weaken (B := OwnSl e 1 (some ⟨w.heap.size, 0, none⟩) (0 + s.size) (grownCap w s.size 0 e) ([] ++ strCells s)) (fun kk hk => by
          have e1 : kk = one w.heap.size _ := hk
          rw [e1]; have := grown 0 (by omega); simp only [Nat.zero_add] at this ⊢; exact this)
        have e9 : ([] ++ strCells s ++ (Builtin.zeroCells (Value.int .u8 0).cells (grownCap w (0 + s.size) 0 e - (0 + s.size))).toList).toArray = (s.data.map fun b => Value.int .u8 b.toNat) ++ Builtin.zeroCells (Value.int .u8 0).cells (grownCap w s.size 0 e - s.size) := by
          apply Array.ext'; simp [strCells]
        rw [e9] at hw
        exact hw
    · by_cases hroom : k + s.size ≤ cap
      · have hb := hm'.blk .here
        have hcl' : cur.length = cap := by simpa using hcl
        have hr := run_append_room_string (P := P) w t tu ty e i ht' hu' hi his g k cap cur.toArray hb s hroom (by simp; omega)
        refine ⟨_, _, _, hexec _ hr, ⟨_, _, rfl, rfl⟩, ?_⟩
        have hs := hm'.set' .here (.cells (cur.take k ++ strCells s ++ cur.drop (k + s.size)).toArray e (0, 0)) (w' := w.setRow g (cur.toArray.toList.take k ++ strCells s ++ cur.toArray.toList.drop (k + s.size)).toArray)
          rfl rfl rfl (by simp) (setRow_heap w g _ _ e _ hb) (fun c hc => setRow_other w g c _ hc)
        refine hs.weaken fun kk hk => ?_
        have e1 : kk = one g _ := hk
        rw [e1]
        refine ⟨hlen, .inr ⟨g, _, rfl, hroom, hcm, ?_, ?_, rfl⟩⟩
        · simp only [List.length_append, List.length_take, List.length_drop, strCells_length]; omega
        · rw [Nat.mul_one] at htk; rw [htk, ← hlen]; exact List.take_left
      · have holds : ∀ j u, xs[j]? = some u → w.cell? ((⟨g, 0, none⟩ : Addr).add j) = some u := fun j u hj => by
          rw [cells_add w g j cur e _ (hm'.blk .here) 0, Nat.zero_add]
          rw [← htk, List.getElem?_take] at hj
          split at hj
          · exact hj
          · cases hj
        have hr := run_append_grow_string (P := P) w t tu ty e i (.int .u8 0) ht' hu' hi hiz ⟨g, 0, none⟩ k cap xs (by rw [his]; exact hxl) holds s (by omega) (by omega) (by rw [hib]; exact growslice_fits (by omega) (by omega))
        refine ⟨_, _, _, hexec _ hr, ⟨_, _, rfl, rfl⟩, ?_⟩
        have := (hm'.tail.drawn (w.drawn + 1)).alloc (.cells (xs ++ strCells s ++ (Builtin.zeroCells (Value.int .u8 0).cells (grownCap w (k + s.size) cap e - (k + s.size))).toList).toArray e (0, 0))
        have hw := this.weaken (B := OwnSl e 1 (some ⟨w.heap.size, 0, none⟩) (k + s.size) (grownCap w (k + s.size) cap e) (xs ++ strCells s)) (fun kk hk => by
          have e1 : kk = one w.heap.size _ := hk
          rw [e1]; exact grown cap (by omega))
        have e9 : (xs ++ strCells s ++ (Builtin.zeroCells (Value.int .u8 0).cells (grownCap w (k + s.size) cap e - (k + s.size))).toList).toArray = xs.toArray ++ (strCells s).toArray ++ Builtin.zeroCells (Value.int .u8 0).cells (grownCap w (k + s.size) cap e - (k + s.size)) := by
          apply Array.ext'; simp
        rw [e9] at hw
        exact hw

theorem p_sliceData {a : Addr} {k c : Nat} {ts : Array TypeId} (h1 : ev L x = some (.slice (some a) k c)) (hc : c ≠ 0) : Pur P M n L H ⟨dd, .call ⟨.builtin .unsafeSliceData, #[x], ts⟩, ty, ps, af, gd⟩ (.pointer (some a)) := fun b w ha _ => by
  have hr := run_unsafeSliceData_row (P := P) w ts ty a k c hc
  simp [execOp, resolve, invoke, builtin, ha.ev h1, hr]
/-- unsafe.String: the bytes; the row stays frozen and is given up -/
theorem e_unsafeString {pt it e : TypeId} {yp : Ty} {g : Nat} {l : List UInt8} {cur : List Value} [hp : TyC P pt yp] (hpd : yp.d = .pointer e) (hc : P.cellsOf e = 1) (h0 : l ≠ [])
    (h1 : ev L x = some (.pointer (some ⟨g, 0, none⟩))) (h2 : ev L y = some (.int .i64 l.length)) (tk : Take H (Blk g (.cells cur.toArray e (0, 0))) H') (hcur : cur.take l.length = byteCells l) (h63 : l.length ≤ 9223372036854775807) :
    Eff P M n L H ⟨dd, .call ⟨.builtin .unsafeString, #[x, y], #[pt, it]⟩, ty, ps, af, gd⟩ (fun v H2 => v = .string ⟨l.toArray⟩ ∧ H2 = H') :=
  Eff.of_run fun a w ha hm => by
    have hg := hm.blk tk
    have hlc : l.length ≤ cur.length := by
      have := congrArg List.length hcur
      rw [byteCells_length, List.length_take] at this; omega
    have hr := run_unsafeString_row (P := P) w pt it ty e (by rw [hp.u, hpd]) hc g cur.length (by simp [World.shape?, hg]) l h0 hlc h63 (fun j b hj => by
      rw [cells_add w g j cur e _ hg 0, Nat.zero_add]
      have : (byteCells l)[j]? = some (.int .u8 b.toNat) := by simp [byteCells, hj]
      rw [← hcur, List.getElem?_take] at this
      split at this
      · exact this
      · cases this)
    refine ⟨_, H', w.freeze ⟨g, 0, none⟩ l.length, ?_, ⟨rfl, rfl⟩, ?_⟩
    · simp [execOp, resolve, invoke, builtin, ha.ev h1, ha.ev h2, hr]
    · have hl0 : l.length ≠ 0 := by simpa using h0
      refine (hm.set' tk (.cells cur.toArray e (0, 0 + l.length)) (w' := w.freeze ⟨g, 0, none⟩ l.length) ?_ ?_ ?_ ?_ ?_ ?_).tail
      · simp [World.freeze, hl0]
      · simp [World.freeze, hl0]
      · simp [World.freeze, hl0]
      · simp [World.freeze, hl0]
      · simp [World.freeze, hl0, Array.getElem?_modify, hg]
      · intro c hcg; simp [World.freeze, hl0, Array.getElem?_modify, Ne.symm hcg]
theorem p_neself {te : TypeId} {yt ye : Ty} {ad : Addr} [ht : TyC P t yt] [he : TyC P te ye] (hd : yt.d = .pointer te) (h1 : ev L x = some (.pointer (some ad))) (h2 : ev L y = some (.pointer (some ad))) :
    Pur P M n L H ⟨dd, .binOp .neq t x y tz, ty, ps, af, gd⟩ (.bool false) := fun a w ha _ => by
  obtain ⟨i, -, -, -, hi, -⟩ := he.run_info
  have hr := run_neq_ptr_same (P := P) w ad (show P.underlying t = some (.pointer te) by rw [ht.u, hd]) hi
  simp [execOp, ha.ev h1, ha.ev h2, eqGuard, hr]
theorem p_toU {src dst te T : TypeId} {ys yd ye : Ty} {b o : Nat} {l : List Value} {fz : Nat × Nat} [hs : TyC P src ys] [hd : TyC P dst yd] [he : TyC P te ye] (h1 : ys.d = .pointer te) (h2 : yd.d = .unsafePointer) (h3 : ye.size ≠ 0)
    (hx : ev L x = some (.pointer (some ⟨b, o, none⟩))) (hh : Has M H b (.cells l.toArray T fz)) (hlt : o < l.length) : Pur P M n L H ⟨dd, .convert src dst x, ty, ps, af, gd⟩ (.pointer (some ⟨b, o, none⟩)) := fun a w ha hm => by
  obtain ⟨i, -, -, his, hi, -⟩ := he.run_info
  have hr := run_to_unsafe (P := P) w (src := src) (dst := dst) (t := te) (e := T) (j := i) (cells := l.length) ⟨b, o, none⟩ (by rw [hs.u, h1]) (by rw [hd.u, h2]) hi (by rw [his]; exact h3) (by simp [World.shape?, hh w hm]) hlt
  simp [execOp, ha.ev hx, hr]
theorem p_fromU {src dst tu T : TypeId} {ys yd yu : Ty} {b o : Nat} {l : List Value} {fz : Nat × Nat} [hs : TyC P src ys] [hd : TyC P dst yd] [hu : TyC P tu yu] (h1 : ys.d = .unsafePointer) (h2 : yd.d = .pointer tu)
    (hx : ev L x = some (.pointer (some ⟨b, o, none⟩))) (hh : Has M H b (.cells l.toArray T fz)) (hl : liesAt P P.depth T (l.length / P.cellsOf T) o tu 1 = true) : Pur P M n L H ⟨dd, .convert src dst x, ty, ps, af, gd⟩ (.pointer (some ⟨b, o, none⟩)) := fun a w ha hm => by
  obtain ⟨i, -, -, -, hi, -⟩ := hu.run_info
  have hr := run_from_unsafe (P := P) w (src := src) (dst := dst) (u := tu) (e := T) (j := i) (cells := l.length) ⟨b, o, none⟩ (by rw [hs.u, h1]) (by rw [hd.u, h2]) hi (by simp [World.shape?, hh w hm]) hl
  simp [execOp, ha.ev hx, hr]
/-- a call of a function that the model itself answers, with a value and no effect -/
theorem p_extern {fv : Operand} {f : Nat} {args : Array Operand} {tys : Array TypeId} {vs : List Value} (hf : ev L fv = some (.func (.func f) #[] #[])) (hargs : evL L args.toList = some vs)
    (hx : ∀ w, (callFunc f vs.toArray).run P w = .ok (.value v) w) : Pur P M n L H ⟨dd, .call ⟨.value fv, args, tys⟩, ty, ps, af, gd⟩ v := fun a w ha _ => by
  have e1 : args.map a.eval = vs.toArray := by apply Array.ext'; simpa using evs ha _ _ (by rw [← evL_eq]; exact hargs)
  simp only [execOp, resolve, ha.ev hf, Deferred.ofValue, e1, Sem.run_bind, Sem.run_pure, Result.andThen_ok, invoke]
  simp [hx]
end Go.Z
