/- Own texts, put together: Y0 Yp Y1 Yq Y2 Y3 Y4 Y5 Y6 Ym Y7. Conditions: as told at each. -/
import Derived.Test.YtopgbgnmjogeeaaGreatDoorZl
import Derived.Test.YtopgbgnmjogeeaaGreatDoorHq
import Derived.Lib.Builder
import Derived.Lib.AppendStr
import Derived.Lib.UnsafeStr
import Derived.Laws.Externs
import Derived.Lib.Split
import Derived.Lib.CutLaws
import Derived.Test.YtopgbgnmjogeeaaGreatDoorHp
import Derived.Test.YtopgbgnmjogeeaaGreatDoorTy
import Derived.Test.YtopgbgnmjogeeaaGreatDoorSh
import Derived.Test.YtopgbgnmjogeeaaGreatDoorRows
import Derived.Lib.AppendIntMem
import Derived.Lib.AtoiErrMem
import Derived.Stop.LaidErr
import Derived.Lib.LaidTab
import Derived.Test.YtopgbgnmjogeeaaGreatDoorMCmS0
import Derived.Test.YtopgbgnmjogeeaaGreatDoorMCmV0
import Derived.Test.YtopgbgnmjogeeaaGreatDoorMCmW0
import Derived.Lib.FrozenHead
import Derived.Lib.ConvBytes
import Derived.Laws.IdiomStrings
import Derived.Laws.Strings3
/- Own layer: what a strings.Builder's functions take: append of a string's bytes, unsafe pointers, a string made of bytes. Conditions: none; generic in the program. -/
namespace Go.Z
set_option maxRecDepth 8000
set_option linter.unusedVariables false
set_option linter.unusedSimpArgs false
set_option linter.unusedSectionVars false
open Go Go.Lib

variable {P : Program} {n : Nat} {L L' : Fr} {H H' Hi Hr : List Assn} {M : Mx} {Q : Exit → Act → World → Prop} {ops : Array Oper} {rest : List Oper}
variable {dd : Option Tmp} {ty t tu : TypeId} {ps : String} {af : Array Edge} {gd : Option (Nat × Bool)} {x y z : Operand} {v u : Value} {w w' : World} {tz : TypeId}

theorem e_appStr {e : TypeId} {ye yu : Ty} {a1 : Option Addr} {k cap : Nat} {xs : List Value} {s : ByteArray} [hsl : SlC P t e ye] [hu : TyC P tu yu] (hud : yu.d = .string) (hz : ye.zero = .int .u8 0) (hs1 : ye.size = 1) (hb : ye.bytes = 1)
    (h1 : ev L x = some (.slice a1 k cap)) (h2 : ev L y = some (.string s)) (tk : Take H (OwnSl e 1 a1 k cap xs) H') (hbd : k + s.size ≤ 140737488355328) :
    Eff P M n L H ⟨dd, .call ⟨.builtin .append, #[x, y], #[t, tu]⟩, ty, ps, af, gd⟩ (fun v H2 => ∃ a2 c2, v = .slice a2 (k + s.size) c2 ∧ H2 = OwnSl e 1 a2 (k + s.size) c2 (xs ++ strCells s) :: H') :=
  Eff.of_run fun a w ha hm => by
    obtain ⟨yt, ht, hd⟩ := hsl.t
    have he := hsl.e
    obtain ⟨i, hri, hib, his, hi, hiz⟩ := he.run_info
    have ht' : P.underlying t = some (.slice e) := by rw [ht.u, hd]
    have hu' : P.underlying tu = some .string := by rw [hu.u, hud]
    rw [hs1] at his; rw [hb] at hib; rw [hz] at hiz
    obtain ⟨hxl, hcase⟩ := OwnSl.cases tk hm
    have hxl' : xs.length = k := by simpa using hxl
    have hexec : ∀ (r : Result Value), (Builtin.append_ #[t, tu] ty #[.slice a1 k cap, .string s]).run P w = r →
        (execOp a.eval ⟨dd, .call ⟨.builtin .append, #[x, y], #[t, tu]⟩, ty, ps, af, gd⟩).run P w = r.andThen fun v w => .ok (.value v) w := fun r hr => by
      simp [execOp, resolve, invoke, builtin, ha.ev h1, ha.ev h2, hr]
    have back : Ms M (OwnSl e 1 a1 k cap xs :: H') w := by
      obtain ⟨hh, s, su, d, r⟩ := hm.own
      exact ⟨hm.os, hm.tape, hm.output, hm.size, hm.keep, hm.ro, hh, tk.sat s, su, d, r⟩
    have hlen : (xs ++ strCells s).length = (k + s.size) * 1 := by rw [List.length_append, hxl', strCells_length, Nat.mul_one]
    have grown : ∀ old, old < k + s.size → OwnSl e 1 (some ⟨w.heap.size, 0, none⟩) (k + s.size) (grownCap w (k + s.size) old e) (xs ++ strCells s)
        (one w.heap.size (.cells (xs ++ strCells s ++ (Builtin.zeroCells (Value.int .u8 0).cells (grownCap w (k + s.size) old e - (k + s.size))).toList).toArray e (0, 0))) := fun old ho => by
      have hge := grownCap_ge w (k + s.size) old e
      have hcm : grownCap w (k + s.size) old e ≤ maxLen := grownCap_le_maxLen w (k + s.size) old e (by simp only [maxLen]; omega)
      have hz1 : (Value.int IntKind.u8 0).cells.size = 1 := rfl
      refine ⟨hlen, .inr ⟨_, _, rfl, hge, hcm, ?_, ?_, rfl⟩⟩
      · rw [List.length_append, hlen, Array.length_toList, size_zeroCells, hz1]; omega
      · rw [← hlen]; exact List.take_left
    rcases hcase with ⟨rfl, rfl, rfl, hm'⟩ | ⟨g, cur, rfl, hnc, hcm, hcl, htk, hm'⟩
    · have hx0 : xs = [] := List.eq_nil_of_length_eq_zero hxl'
      subst hx0
      by_cases hm0 : s.size = 0
      · have hn : strCells s = [] := List.eq_nil_of_length_eq_zero (by rw [strCells_length]; exact hm0)
        have hf := run_firstCells_string (P := P) w 1 s
        rw [hm0] at hf
        have hr : (Builtin.append_ #[t, tu] ty #[.slice none 0 0, .string s]).run P w = .ok (.slice none 0 0) w := by
          simp [Builtin.append_, run_underlying ht', run_underlying hu', sizeOf, typeInfo, hi, his, Builtin.lenOf, hm0, hf]
        refine ⟨_, _, _, hexec _ hr, ⟨none, 0, by rw [hm0], rfl⟩, ?_⟩
        rw [hm0, hn]; exact back
      · have hr := run_append_nil_string (P := P) w t tu ty e i (.int .u8 0) ht' hu' hi hiz s (by omega) (by omega) (by rw [hib]; omega)
        refine ⟨_, _, _, hexec _ hr, ⟨_, _, by rw [Nat.zero_add], rfl⟩, ?_⟩
        have := (hm'.drawn (w.drawn + 1)).alloc (.cells ([] ++ strCells s ++ (Builtin.zeroCells (Value.int .u8 0).cells (grownCap w (0 + s.size) 0 e - (0 + s.size))).toList).toArray e (0, 0))
        have hw := this.weaken (B := OwnSl e 1 (some ⟨w.heap.size, 0, none⟩) (0 + s.size) (grownCap w s.size 0 e) ([] ++ strCells s)) (fun kk hk => by
          have e1 : kk = one w.heap.size _ := hk
          rw [e1]; have := grown 0 (by omega); simp only [Nat.zero_add] at this ⊢; exact this)
        have e9 : ([] ++ strCells s ++ (Builtin.zeroCells (Value.int .u8 0).cells (grownCap w (0 + s.size) 0 e - (0 + s.size))).toList).toArray = (s.data.map fun b => Value.int .u8 b.toNat) ++ Builtin.zeroCells (Value.int .u8 0).cells (grownCap w s.size 0 e - s.size) := by
          apply Array.ext'; simp [strCells]
        rw [e9] at hw
        exact hw
    · by_cases hroom : k + s.size ≤ cap
      · have hb := hm'.blk .here
        have hcl' : cur.length = cap := by simpa using hcl
        have hr := run_append_room_string (P := P) w t tu ty e i ht' hu' hi his g k cap cur.toArray hb s hroom (by simp; omega)
        refine ⟨_, _, _, hexec _ hr, ⟨_, _, rfl, rfl⟩, ?_⟩
        have hs := hm'.set' .here (.cells (cur.take k ++ strCells s ++ cur.drop (k + s.size)).toArray e (0, 0)) (w' := w.setRow g (cur.toArray.toList.take k ++ strCells s ++ cur.toArray.toList.drop (k + s.size)).toArray)
          rfl rfl rfl (by simp) (setRow_heap w g _ _ e _ hb) (fun c hc => setRow_other w g c _ hc)
        refine hs.weaken fun kk hk => ?_
        have e1 : kk = one g _ := hk
        rw [e1]
        refine ⟨hlen, .inr ⟨g, _, rfl, hroom, hcm, ?_, ?_, rfl⟩⟩
        · simp only [List.length_append, List.length_take, List.length_drop, strCells_length]; omega
        · rw [Nat.mul_one] at htk; rw [htk, ← hlen]; exact List.take_left
      · have holds : ∀ j u, xs[j]? = some u → w.cell? ((⟨g, 0, none⟩ : Addr).add j) = some u := fun j u hj => by
          rw [cells_add w g j cur e _ (hm'.blk .here) 0, Nat.zero_add]
          rw [← htk, List.getElem?_take] at hj
          split at hj
          · exact hj
          · cases hj
        have hr := run_append_grow_string (P := P) w t tu ty e i (.int .u8 0) ht' hu' hi hiz ⟨g, 0, none⟩ k cap xs (by rw [his]; exact hxl) holds s (by omega) (by omega) (by rw [hib]; exact growslice_fits (by omega) (by omega))
        refine ⟨_, _, _, hexec _ hr, ⟨_, _, rfl, rfl⟩, ?_⟩
        have := (hm'.tail.drawn (w.drawn + 1)).alloc (.cells (xs ++ strCells s ++ (Builtin.zeroCells (Value.int .u8 0).cells (grownCap w (k + s.size) cap e - (k + s.size))).toList).toArray e (0, 0))
        have hw := this.weaken (B := OwnSl e 1 (some ⟨w.heap.size, 0, none⟩) (k + s.size) (grownCap w (k + s.size) cap e) (xs ++ strCells s)) (fun kk hk => by
          have e1 : kk = one w.heap.size _ := hk
          rw [e1]; exact grown cap (by omega))
        have e9 : (xs ++ strCells s ++ (Builtin.zeroCells (Value.int .u8 0).cells (grownCap w (k + s.size) cap e - (k + s.size))).toList).toArray = xs.toArray ++ (strCells s).toArray ++ Builtin.zeroCells (Value.int .u8 0).cells (grownCap w (k + s.size) cap e - (k + s.size)) := by
          apply Array.ext'; simp
        rw [e9] at hw
        exact hw

theorem p_sliceData {a : Addr} {k c : Nat} {ts : Array TypeId} (h1 : ev L x = some (.slice (some a) k c)) (hc : c ≠ 0) : Pur P M n L H ⟨dd, .call ⟨.builtin .unsafeSliceData, #[x], ts⟩, ty, ps, af, gd⟩ (.pointer (some a)) := fun b w ha _ => by
  have hr := run_unsafeSliceData_row (P := P) w ts ty a k c hc
  simp [execOp, resolve, invoke, builtin, ha.ev h1, hr]
/-- unsafe.String: the bytes; the row stays frozen and is given up -/
theorem e_unsafeString {pt it e : TypeId} {yp : Ty} {g : Nat} {l : List UInt8} {cur : List Value} [hp : TyC P pt yp] (hpd : yp.d = .pointer e) (hc : P.cellsOf e = 1) (h0 : l ≠ [])
    (h1 : ev L x = some (.pointer (some ⟨g, 0, none⟩))) (h2 : ev L y = some (.int .i64 l.length)) (tk : Take H (Blk g (.cells cur.toArray e (0, 0))) H') (hcur : cur.take l.length = byteCells l) (h63 : l.length ≤ 9223372036854775807) :
    Eff P M n L H ⟨dd, .call ⟨.builtin .unsafeString, #[x, y], #[pt, it]⟩, ty, ps, af, gd⟩ (fun v H2 => v = .string ⟨l.toArray⟩ ∧ H2 = H') :=
  Eff.of_run fun a w ha hm => by
    have hg := hm.blk tk
    have hlc : l.length ≤ cur.length := by
      have := congrArg List.length hcur
      rw [byteCells_length, List.length_take] at this; omega
    have hr := run_unsafeString_row (P := P) w pt it ty e (by rw [hp.u, hpd]) hc g cur.length (by simp [World.shape?, hg]) l h0 hlc h63 (fun j b hj => by
      rw [cells_add w g j cur e _ hg 0, Nat.zero_add]
      have : (byteCells l)[j]? = some (.int .u8 b.toNat) := by simp [byteCells, hj]
      rw [← hcur, List.getElem?_take] at this
      split at this
      · exact this
      · cases this)
    refine ⟨_, H', w.freeze ⟨g, 0, none⟩ l.length, ?_, ⟨rfl, rfl⟩, ?_⟩
    · simp [execOp, resolve, invoke, builtin, ha.ev h1, ha.ev h2, hr]
    · have hl0 : l.length ≠ 0 := by simpa using h0
      refine (hm.set' tk (.cells cur.toArray e (0, 0 + l.length)) (w' := w.freeze ⟨g, 0, none⟩ l.length) ?_ ?_ ?_ ?_ ?_ ?_).tail
      · simp [World.freeze, hl0]
      · simp [World.freeze, hl0]
      · simp [World.freeze, hl0]
      · simp [World.freeze, hl0]
      · simp [World.freeze, hl0, Array.getElem?_modify, hg]
      · intro c hcg; simp [World.freeze, hl0, Array.getElem?_modify, Ne.symm hcg]
theorem p_neself {te : TypeId} {yt ye : Ty} {ad : Addr} [ht : TyC P t yt] [he : TyC P te ye] (hd : yt.d = .pointer te) (h1 : ev L x = some (.pointer (some ad))) (h2 : ev L y = some (.pointer (some ad))) :
    Pur P M n L H ⟨dd, .binOp .neq t x y tz, ty, ps, af, gd⟩ (.bool false) := fun a w ha _ => by
  obtain ⟨i, -, -, -, hi, -⟩ := he.run_info
  have hr := run_neq_ptr_same (P := P) w ad (show P.underlying t = some (.pointer te) by rw [ht.u, hd]) hi
  simp [execOp, ha.ev h1, ha.ev h2, eqGuard, hr]
theorem p_toU {src dst te T : TypeId} {ys yd ye : Ty} {b o : Nat} {l : List Value} {fz : Nat × Nat} [hs : TyC P src ys] [hd : TyC P dst yd] [he : TyC P te ye] (h1 : ys.d = .pointer te) (h2 : yd.d = .unsafePointer) (h3 : ye.size ≠ 0)
    (hx : ev L x = some (.pointer (some ⟨b, o, none⟩))) (hh : Has M H b (.cells l.toArray T fz)) (hlt : o < l.length) : Pur P M n L H ⟨dd, .convert src dst x, ty, ps, af, gd⟩ (.pointer (some ⟨b, o, none⟩)) := fun a w ha hm => by
  obtain ⟨i, -, -, his, hi, -⟩ := he.run_info
  have hr := run_to_unsafe (P := P) w (src := src) (dst := dst) (t := te) (e := T) (j := i) (cells := l.length) ⟨b, o, none⟩ (by rw [hs.u, h1]) (by rw [hd.u, h2]) hi (by rw [his]; exact h3) (by simp [World.shape?, hh w hm]) hlt
  simp [execOp, ha.ev hx, hr]
theorem p_fromU {src dst tu T : TypeId} {ys yd yu : Ty} {b o : Nat} {l : List Value} {fz : Nat × Nat} [hs : TyC P src ys] [hd : TyC P dst yd] [hu : TyC P tu yu] (h1 : ys.d = .unsafePointer) (h2 : yd.d = .pointer tu)
    (hx : ev L x = some (.pointer (some ⟨b, o, none⟩))) (hh : Has M H b (.cells l.toArray T fz)) (hl : liesAt P P.depth T (l.length / P.cellsOf T) o tu 1 = true) : Pur P M n L H ⟨dd, .convert src dst x, ty, ps, af, gd⟩ (.pointer (some ⟨b, o, none⟩)) := fun a w ha hm => by
  obtain ⟨i, -, -, -, hi, -⟩ := hu.run_info
  have hr := run_from_unsafe (P := P) w (src := src) (dst := dst) (u := tu) (e := T) (j := i) (cells := l.length) ⟨b, o, none⟩ (by rw [hs.u, h1]) (by rw [hd.u, h2]) hi (by simp [World.shape?, hh w hm]) hl
  simp [execOp, ha.ev hx, hr]
/-- a call of a function that the model itself answers, with a value and no effect -/
theorem p_extern {fv : Operand} {f : Nat} {args : Array Operand} {tys : Array TypeId} {vs : List Value} (hf : ev L fv = some (.func (.func f) #[] #[])) (hargs : evL L args.toList = some vs)
    (hx : ∀ w, (callFunc f vs.toArray).run P w = .ok (.value v) w) : Pur P M n L H ⟨dd, .call ⟨.value fv, args, tys⟩, ty, ps, af, gd⟩ v := fun a w ha _ => by
  have e1 : args.map a.eval = vs.toArray := by apply Array.ext'; simpa using evs ha _ _ (by rw [← evL_eq]; exact hargs)
  simp only [execOp, resolve, ha.ev hf, Deferred.ofValue, e1, Sem.run_bind, Sem.run_pure, Result.andThen_ok, invoke]
  simp [hx]
end Go.Z
/- Cutting and splitting bytes at one byte, plain: the library's functions say the same. No program in sight. Conditions: none. -/
namespace Go.Z.Txt
set_option maxRecDepth 8000
set_option linter.unusedVariables false
set_option linter.unusedSimpArgs false
set_option linter.unusedSectionVars false
open Go Go.Lib

/-- the pieces of l between the instances of c -/
def pieces (c : UInt8) : List UInt8 → List (List UInt8)
  | [] => [[]]
  | b :: l => if b = c then [] :: pieces c l else
    match pieces c l with
    | [] => [[b]]
    | x :: r => (b :: x) :: r
theorem pieces_ne (c : UInt8) (l : List UInt8) : pieces c l ≠ [] := by
  cases l with
  | nil => simp [pieces]
  | cons b l =>
    unfold pieces
    split
    · simp
    · split <;> simp
theorem pieces_free {c : UInt8} : ∀ {l : List UInt8}, c ∉ l → pieces c l = [l]
  | [], _ => rfl
  | b :: l, h => by
    rw [List.mem_cons, not_or] at h
    rw [pieces, if_neg (fun e => h.1 e.symm), pieces_free h.2]
theorem pieces_hit {c : UInt8} : ∀ {x : List UInt8} (r : List UInt8), c ∉ x → pieces c (x ++ c :: r) = x :: pieces c r
  | [], r, _ => by rw [List.nil_append, pieces, if_pos rfl]
  | b :: x, r, h => by
    rw [List.mem_cons, not_or] at h
    rw [List.cons_append, pieces, if_neg (fun e => h.1 e.symm), pieces_hit r h.2]
theorem cut_or (c : UInt8) : ∀ l : List UInt8, c ∉ l ∨ ∃ x r, l = x ++ c :: r ∧ c ∉ x
  | [] => .inl (by simp)
  | b :: l => by
    by_cases hb : b = c
    · exact .inr ⟨[], l, by rw [hb]; rfl, by simp⟩
    · rcases cut_or c l with h | ⟨x, r, rfl, h⟩
      · exact .inl (by simp [h, Ne.symm hb])
      · exact .inr ⟨b :: x, r, rfl, by simp [h, Ne.symm hb]⟩
theorem index_free {c : UInt8} : ∀ {l : List UInt8}, c ∉ l → index l [c] = -1
  | [], _ => rfl
  | b :: l, h => by
    rw [List.mem_cons, not_or] at h
    have h1 : [c].isPrefixOf (b :: l) = false := by simp [List.isPrefixOf, h.1]
    rw [index, h1, index_free h.2]; rfl
theorem index_hit {c : UInt8} : ∀ {x : List UInt8} (r : List UInt8), c ∉ x → index (x ++ c :: r) [c] = x.length
  | [], r, _ => by rw [List.nil_append, index]; simp [List.isPrefixOf]
  | b :: x, r, h => by
    rw [List.mem_cons, not_or] at h
    have h1 : [c].isPrefixOf (b :: (x ++ c :: r)) = false := by simp [List.isPrefixOf, h.1]
    rw [List.cons_append, index, h1, index_hit r h.2]
    have : ((x.length : Int) == -1) = false := by rw [beq_eq_false_iff_ne]; omega
    simp only [Bool.false_eq_true, if_false, this, List.length_cons]
    omega
theorem count_pos {c : UInt8} (x r : List UInt8) (h : c ∉ x) : count (x ++ c :: r) [c] = 1 + count r [c] := by
  rw [count_hit (by simp) (index_hit r h)]
  congr 2
  rw [show x.length + [c].length = x.length + 1 from rfl, List.drop_append, List.drop_of_length_le (by omega), show x.length + 1 - x.length = 1 by omega]; rfl
theorem split_pieces (c : UInt8) : ∀ (n : Nat) (l : List UInt8), l.length ≤ n → splitK [c] 0 (count l [c]) l = pieces c l := by
  intro n
  induction n with
  | zero =>
    intro l h
    have : l = [] := List.eq_nil_of_length_eq_zero (by omega)
    subst this
    rw [count_miss (index_free (by simp))]; rfl
  | succ n ih =>
    intro l h
    rcases cut_or c l with hf | ⟨x, r, rfl, hx⟩
    · rw [count_miss (index_free hf), pieces_free hf]; rfl
    · rw [count_pos x r hx, Nat.add_comm, splitK, index_hit r hx, pieces_hit r hx]
      have hm : ((x.length : Int) == -1) = false := by rw [beq_eq_false_iff_ne]; omega
      rw [if_neg (by rw [hm]; decide), Int.toNat_natCast, Nat.add_zero]
      have h1 : (x ++ c :: r).drop (x.length + [c].length) = r := by
        rw [show x.length + [c].length = x.length + 1 from rfl, List.drop_append, List.drop_of_length_le (by omega), show x.length + 1 - x.length = 1 by omega]; rfl
      rw [h1, List.take_left, ih r (by simp at h; omega)]
theorem splitB_pieces (s : ByteArray) (c : UInt8) : (splitB ⟨#[c]⟩ 0 (countB s ⟨#[c]⟩) s).map (·.data.toList) = pieces c s.data.toList := by
  rw [splitB_data]
  exact split_pieces c _ _ (Nat.le_refl _)
theorem cut_free {c : UInt8} {l : List UInt8} (h : c ∉ l) : cut l [c] = (l, [], false) := by
  rw [cut, index_free h]; rfl
theorem cut_hit {c : UInt8} {x : List UInt8} (r : List UInt8) (h : c ∉ x) : cut (x ++ c :: r) [c] = (x, r, true) := by
  rw [cut, index_hit r h, if_pos (by omega), Int.toNat_natCast]
  have h1 : (x ++ c :: r).drop (x.length + [c].length) = r := by
    rw [show x.length + [c].length = x.length + 1 from rfl, List.drop_append, List.drop_of_length_le (by omega), show x.length + 1 - x.length = 1 by omega]; rfl
  rw [h1, List.take_left]
/-- the pieces joined again -/
def glue (c : UInt8) : List (List UInt8) → List UInt8
  | [] => []
  | [x] => x
  | x :: r => x ++ c :: glue c r
theorem glue_cons {c : UInt8} {x y : List UInt8} {r : List (List UInt8)} : glue c (x :: y :: r) = x ++ c :: glue c (y :: r) := rfl
theorem pieces_glue {c : UInt8} : ∀ {l : List (List UInt8)}, l ≠ [] → (∀ x ∈ l, c ∉ x) → pieces c (glue c l) = l
  | [], h, _ => absurd rfl h
  | [x], _, h => pieces_free (h x (by simp))
  | x :: y :: r, _, h => by
    rw [glue_cons, pieces_hit _ (h x (by simp)), pieces_glue (by simp) (fun z hz => h z (by simp [hz]))]
theorem glue_pieces (c : UInt8) : ∀ l : List UInt8, glue c (pieces c l) = l
  | [] => rfl
  | b :: l => by
    have ih := glue_pieces c l
    rw [pieces]
    split
    · rename_i h; subst h
      cases hp : pieces b l with
      | nil => exact absurd hp (pieces_ne _ _)
      | cons x r => rw [hp] at ih; rw [glue_cons, ih]; rfl
    · cases hp : pieces c l with
      | nil => exact absurd hp (pieces_ne _ _)
      | cons x r =>
        rw [hp] at ih
        cases r with
        | nil => simp only [glue] at ih ⊢; rw [ih]
        | cons y r => simp only [glue] at ih ⊢; rw [List.cons_append, ih]
theorem pieces_mem {c : UInt8} : ∀ {l : List UInt8} {x : List UInt8}, x ∈ pieces c l → c ∉ x ∧ x.length ≤ l.length
  | [], x, h => by
    simp [pieces] at h; subst h; simp
  | b :: l, x, h => by
    rw [pieces] at h
    split at h
    · rcases List.mem_cons.1 h with rfl | h
      · simp
      · have := pieces_mem h; exact ⟨this.1, by simp; omega⟩
    · rename_i hb
      cases hp : pieces c l with
      | nil => exact absurd hp (pieces_ne _ _)
      | cons y r =>
        rw [hp] at h
        rcases List.mem_cons.1 h with rfl | h
        · have := pieces_mem (l := l) (x := y) (by rw [hp]; simp)
          exact ⟨by simp [this.1, Ne.symm hb], by simp; omega⟩
        · have := pieces_mem (l := l) (x := x) (by rw [hp]; simp [h])
          exact ⟨this.1, by simp; omega⟩
end Go.Z.Txt
/- Chapter 36: contracts of the library (strings, strconv, a builder) in the words of the own layer. Conditions: none. -/
namespace Go.Proofs.YtopgbgnmjogeeaaGreatDoor
set_option maxRecDepth 8000
set_option linter.unusedVariables false
set_option linter.unusedSimpArgs false
set_option linter.unusedSectionVars false
open Go Go.Z Go.Z.Txt Go.RowKit

/-- the library's table of powers of ten, by its name in the given rows -/
def tabName : String := (Rows.cnfOfRow.laid.map (fun x => x.1)).getD 2 ""
/-- what the listed variables of the library hold, in every world that agrees with what nobody writes -/
structure LibC (ρ : Nat → Obj → Prop) : Prop where
  tab : Knows ρ fun w => Lib.TabIs Tryz.prog w tabName .u64 Lib.pow10Tab
  syn : ∃ tp p, Knows ρ fun w => w.var? Tryz.prog "strconv.ErrSyntax" = some #[.iface tp p]
  rng : ∃ tp p, Knows ρ fun w => w.var? Tryz.prog "strconv.ErrRange" = some #[.iface tp p]
  mx : ∃ m, Knows ρ fun w => w.cell? ⟨1, 0, none⟩ = some (.int .i64 m)
theorem LibC.mono {ρ ρ' : Nat → Obj → Prop} (h : LibC ρ) (s : ∀ b o, ρ b o → ρ' b o) : LibC ρ' :=
  ⟨h.tab.mono s, let ⟨a, b, c⟩ := h.syn; ⟨a, b, c.mono s⟩, let ⟨a, b, c⟩ := h.rng; ⟨a, b, c.mono s⟩, let ⟨a, c⟩ := h.mx; ⟨a, c.mono s⟩⟩

def strOf (l : List UInt8) : ByteArray := ⟨l.toArray⟩
theorem itoa_ok {ρ : Nat → Obj → Prop} (hk : LibC ρ) (n : Int) (h0 : I64 n) : Con Tryz.prog ρ 43 #[.int .i64 n] [] (fun v H => v = .string (strOf (Lib.itoa n)) ∧ H = []) :=
  con_below Tryz.call43 fun w hw => by
    have ht := hk.tab w hw
    have h : Calls Tryz.prog 43 #[.int .i64 n] w fun e w' => e = .returned (.string ⟨(Lib.itoa n).toArray⟩) ∧ ∃ k os, w' = Go.Sort.grow (w.drewN k) os := Any.strconv_Itoa laysM171 n h0.1 h0.2 w ht
    exact h.mono fun e w' ⟨e1, k, os, e2⟩ => ⟨_, e1, rfl, by subst e2; exact Lib.below_grow _ w (Nat.le_refl _) k os⟩
/-- what strconv.Atoi answers -/
def AtoiP (l : List UInt8) (v : Value) : Prop := match Lib.atoiAll l with
  | .ok n => v = .tuple #[.int .i64 n, .nilIface]
  | _ => ∃ n t p, v = .tuple #[.int .i64 n, .iface t p]
theorem atoi_ok {ρ : Nat → Obj → Prop} (hk : LibC ρ) (s : ByteArray) (hs : s.size ≤ 281474976710656) : Con Tryz.prog ρ 81 #[.string s] [] (fun v H => AtoiP s.data.toList v ∧ H = []) :=
  con_below Tryz.call81 fun w hw => by
    unfold AtoiP
    cases ha : Lib.atoiAll s.data.toList
    · rename_i n
      have h : Calls Tryz.prog 81 #[.string s] w fun e w' => e = .returned (.tuple #[.int .i64 n, .nilIface]) ∧ (w' = w ∨ ∃ t, w' = Lib.bytesWorld w _ t) := Any.strconv_Atoi_ok laysC172 s (by omega) n ha w
      exact h.mono fun e w' ⟨e1, e2⟩ => ⟨_, e1, rfl, by
        rcases e2 with e2 | ⟨t, e2⟩
        · subst e2; exact Below.refl _ _
        · subst e2; exact Lib.bytesWorld_below _ _ _⟩
    · obtain ⟨tp, p, hv⟩ := hk.syn
      exact (show Calls Tryz.prog 81 #[.string s] w _ from Any.strconv_Atoi_syntax_var laysC172 s hs ha tp p w (hv w hw)).mono fun e w' ⟨N, e1, _, _, hb⟩ => ⟨_, e1, ⟨_, _, _, rfl⟩, hb⟩
    · obtain ⟨tp, p, hv⟩ := hk.rng
      exact (show Calls Tryz.prog 81 #[.string s] w _ from Any.strconv_Atoi_range_var laysC172 s hs ha tp p w (hv w hw)).mono fun e w' ⟨N, e1, _, _, hb⟩ => ⟨_, e1, ⟨_, _, _, rfl⟩, hb⟩
theorem cut_ok {ρ : Nat → Obj → Prop} (hk : LibC ρ) (s sep : ByteArray) (hs : s.size < 4294967281) : Con Tryz.prog ρ 79 #[.string s, .string sep] []
    (fun v H => v = .tuple #[.string (strOf (Lib.cut s.data.toList sep.data.toList).1), .string (strOf (Lib.cut s.data.toList sep.data.toList).2.1), .bool (Lib.cut s.data.toList sep.data.toList).2.2] ∧ H = []) :=
  con_below Tryz.call79 fun w hw => by
    obtain ⟨m, hm⟩ := hk.mx
    have h : Calls Tryz.prog 79 #[.string s, .string sep] w _ := Any.strings_Cut lays145 s sep m w hs (hm w hw)
    exact h.mono fun e w' ⟨e1, n, e2⟩ => ⟨_, e1, rfl, by subst e2; exact ⟨rfl, rfl, rfl, Nat.le_refl _, fun _ _ => rfl⟩⟩
theorem split_ok {ρ : Nat → Obj → Prop} (hk : LibC ρ) (s : ByteArray) (c : UInt8) (hs : s.size < 4294967281) : Con Tryz.prog ρ 67 #[.string s, .string ⟨#[c]⟩] []
    (fun v H => ∃ (b : Nat) (ws : List ByteArray), ws.map (·.data.toList) = pieces c s.data.toList ∧ v = .slice (some ⟨b, 0, none⟩) ws.length ws.length ∧ H = [Blk b (.cells (ws.map Value.string).toArray 9 (0, 0))]) :=
  ⟨Tryz.call67, fun w hp sa su r => by
    obtain ⟨m, hm⟩ := hk.mx
    have h : Calls Tryz.prog 67 #[.string s, .string ⟨#[c]⟩] w _ := Any.strings_Split lays146 (by kernel_rfl) s ⟨#[c]⟩ m w hs (hm w fun b o hb => (r b o hb).1) (show 1 ≤ 1 by decide)
    refine h.mono fun e w' ⟨e1, e2⟩ => ⟨_, [Blk w.heap.size (.cells ((Lib.splitB ⟨#[c]⟩ 0 (Lib.countB s ⟨#[c]⟩) s).map Value.string).toArray 9 (0, 0))], e1, ⟨w.heap.size, Lib.splitB ⟨#[c]⟩ 0 (Lib.countB s ⟨#[c]⟩) s, splitB_pieces s c, ?_, rfl⟩, ?_⟩
    · rw [Lib.splitB_all ⟨#[c]⟩ (show 1 ≤ 1 by decide) 0 _ s rfl]
    · subst e2
      have m0 : Ms ⟨ρ, w, hp⟩ [] w := ⟨rfl, rfl, rfl, Nat.le_refl _, fun _ _ _ => rfl, fun b o hr => (r b o hr).1, hp, sa, su, fun b e => .inl e, fun b o hr => (r b o hr).2⟩
      exact m0.alloc _⟩

/-! ### a builder -/
theorem noEsc (p : Option Addr) (w : World) : (callFunc 77 #[.pointer p]).run Tryz.prog w = .ok (.value (.pointer p)) w := by
  rw [run_callFunc_extern Tryz.func77 (by kernel_rfl) (by kernel_rfl) (by kernel_rfl) (e := Extern.AbiNoEscape.same) (by kernel_rfl)]
  rw [Lib.run_noEscape]; rfl
theorem liesB : liesAt Tryz.prog Tryz.prog.depth 88 (2 / Tryz.prog.cellsOf 88) 0 88 1 = true := by kernel_rfl
theorem byteC : Tryz.prog.cellsOf 5 = 1 := by kernel_rfl
theorem check_b {ρ : Nat → Obj → Prop} (b : Nat) (p v : Value) (hp : p = .pointer none ∨ p = .pointer (some ⟨b, 0, none⟩)) :
    Con Tryz.prog ρ 64 #[.pointer (some ⟨b, 0, none⟩)] [Blk b (.cells [p, v].toArray 88 (0, 0))] (fun u H => u = .tuple #[] ∧ H = [Blk b (.cells [.pointer (some ⟨b, 0, none⟩), v].toArray 88 (0, 0))]) := by
  rcases hp with rfl | rfl
  · refine con_intro Tryz.func64 Tryz.call64 rfl Tryz.ntmps64 rfl (L := [(0, _)]) rfl fun w hh => ?_
    refine g_seq ?_
    refine g_region ?_
    refine g_pure (p_move rfl) rfl ?_
    refine g_pure (p_nilCheck rfl) rfl ?_
    refine g_pure (p_fieldAddr rfl) rfl ?_
    refine g_pure (p_load (by rfl) rfl (by first | (apply Has.own; (repeat' (first | exact Take.here | apply Take.there)); done) | exact Has.ro (by assumption)) (by first | rfl | assumption)) rfl ?_
    refine g_pure (p_eqnil (by rfl) rfl rfl) rfl ?_
    refine g_nil ?_
    refine g_qt ?_
    refine g_ift rfl ?_
    refine g_region ?_
    refine g_pure (p_move rfl) rfl ?_
    refine g_pure (p_move rfl) rfl ?_
    refine g_pure (p_toU (te := 88) (l := [.pointer none, v]) (by rfl) (by rfl) (Nat.succ_ne_zero 1) rfl (Has.own (by repeat' (first | exact Take.here | apply Take.there))) (Nat.zero_lt_succ 1)) rfl ?_
    refine g_pure (p_extern rfl rfl (noEsc _)) rfl ?_
    refine g_pure (p_fromU (l := [.pointer none, v]) (by rfl) (by rfl) rfl (Has.own (by repeat' (first | exact Take.here | apply Take.there))) liesB) rfl ?_
    refine g_pure (p_nilCheck rfl) rfl ?_
    refine g_pure (p_fieldAddr rfl) rfl ?_
    first | refine g_eff0 (e_storeO rfl rfl (by rfl) (by rfl) (by rfl) (by repeat' (first | exact Take.here | apply Take.there)) (by rfl)) (fun _ _ => ?_) | refine g_eff0 (e_store1 (by rfl) rfl rfl rfl (by repeat' (first | exact Take.here | apply Take.there)) (by first | decide | (simp <;> omega) | omega)) (fun _ _ => ?_)
    rintro rfl
    refine g_nil ?_
    exact g_postn (rs := []) rfl .nil ⟨rfl, rfl⟩ (by repeat' (first | exact Cover.nil | exact Take.here | apply Cover.cons | apply Take.there))
  · refine con_intro Tryz.func64 Tryz.call64 rfl Tryz.ntmps64 rfl (L := [(0, _)]) rfl fun w hh => ?_
    refine g_seq ?_
    refine g_region ?_
    refine g_pure (p_move rfl) rfl ?_
    refine g_pure (p_nilCheck rfl) rfl ?_
    refine g_pure (p_fieldAddr rfl) rfl ?_
    refine g_pure (p_load (by rfl) rfl (by first | (apply Has.own; (repeat' (first | exact Take.here | apply Take.there)); done) | exact Has.ro (by assumption)) (by first | rfl | assumption)) rfl ?_
    refine g_pure (p_eqnil (by rfl) rfl rfl) rfl ?_
    refine g_nil ?_
    refine g_qt ?_
    refine g_iff rfl ?_
    refine g_seq ?_
    refine g_region ?_
    refine g_pure (p_move rfl) rfl ?_
    refine g_pure (p_nilCheck rfl) rfl ?_
    refine g_pure (p_fieldAddr rfl) rfl ?_
    refine g_pure (p_load (by rfl) rfl (by first | (apply Has.own; (repeat' (first | exact Take.here | apply Take.there)); done) | exact Has.ro (by assumption)) (by first | rfl | assumption)) rfl ?_
    refine g_pure (p_move rfl) rfl ?_
    refine g_pure (p_neself (by rfl) rfl rfl) rfl ?_
    refine g_nil ?_
    refine g_qt ?_
    refine g_iff rfl ?_
    refine g_skip ?_
    exact g_postn (rs := []) rfl .nil ⟨rfl, rfl⟩ (by repeat' (first | exact Cover.nil | exact Take.here | apply Cover.cons | apply Take.there))
theorem write_b {ρ : Nat → Obj → Prop} (b : Nat) (p : Value) (a : Option Addr) (k cap : Nat) (xs : List Value) (s : ByteArray) (hp : p = .pointer none ∨ p = .pointer (some ⟨b, 0, none⟩)) (hk : k + s.size ≤ 140737488355328) :
    Con Tryz.prog ρ 42 #[.pointer (some ⟨b, 0, none⟩), .string s] [Blk b (.cells [p, .slice a k cap].toArray 88 (0, 0)), OwnSl 5 1 a k cap xs]
    (fun u H => ∃ a2 c2, u = .tuple #[.int .i64 s.size, .nilIface] ∧ H = [Blk b (.cells [.pointer (some ⟨b, 0, none⟩), .slice a2 (k + s.size) c2].toArray 88 (0, 0)), OwnSl 5 1 a2 (k + s.size) c2 (xs ++ Lib.strCells s)]) := by
  refine con_intro Tryz.func42 Tryz.call42 rfl Tryz.ntmps42 rfl (L := [(0, _), (1, _)]) rfl fun w hh => ?_
  refine g_seq ?_
  refine g_region ?_
  refine g_pure (p_assign rfl) rfl ?_
  refine g_pure (p_assign rfl) rfl ?_
  refine g_nil ?_
  refine g_qt ?_
  refine g_seq ?_
  refine g_region ?_
  refine g_pure (p_move rfl) rfl ?_
  refine g_call (Hin := [Blk b (.cells [p, .slice a k cap].toArray 88 (0, 0))]) (Hr := ?hr1) (R := ?rr1) rfl rfl rfl ?hin1 ?hc1 ?hk1
  case hin1 => repeat' (first | exact Cover.nil | exact Take.here | apply Cover.cons | apply Take.there)
  case hc1 => intro ρ' hρ hR; exact check_b b p (.slice a k cap) hp
  rintro _ _ ⟨rfl, rfl⟩
  refine g_nil ?_
  refine g_qt ?_
  refine g_seq ?_
  refine g_region ?_
  refine g_pure (p_move rfl) rfl ?_
  refine g_pure (p_move rfl) rfl ?_
  refine g_pure (p_nilCheck rfl) rfl ?_
  refine g_pure (p_fieldAddr rfl) rfl ?_
  refine g_pure (p_load (by rfl) rfl (by first | (apply Has.own; (repeat' (first | exact Take.here | apply Take.there)); done) | exact Has.ro (by assumption)) (by first | rfl | assumption)) rfl ?_
  refine g_pure (p_move rfl) rfl ?_
  refine g_eff (e_appStr (by rfl) (by rfl) (by rfl) (by rfl) rfl rfl (by repeat' (first | exact Take.here | apply Take.there)) hk) rfl (fun _ _ => ?_)
  rintro ⟨a14, c14, rfl, rfl⟩
  refine g_pure (p_nilCheck rfl) rfl ?_
  refine g_pure (p_fieldAddr rfl) rfl ?_
  first | refine g_eff0 (e_storeO rfl rfl (by rfl) (by rfl) (by rfl) (by repeat' (first | exact Take.here | apply Take.there)) (by rfl)) (fun _ _ => ?_) | refine g_eff0 (e_store1 (by rfl) rfl rfl rfl (by repeat' (first | exact Take.here | apply Take.there)) (by first | decide | (simp <;> omega) | omega)) (fun _ _ => ?_)
  rintro rfl
  refine g_nil ?_
  refine g_qt ?_
  refine g_seq ?_
  refine g_region ?_
  refine g_pure (p_move rfl) rfl ?_
  refine g_pure (p_lens (by rfl) rfl) rfl ?_
  refine g_pure (p_assign rfl) rfl ?_
  refine g_pure (p_assign rfl) rfl ?_
  refine g_nil ?_
  refine g_qt ?_
  refine g_ret ?_
  exact g_post (rs := [.tmp 4, .tmp 5]) rfl (.tmp rfl (.tmp rfl .nil)) ⟨a14, c14, rfl, rfl⟩ (by repeat' (first | exact Cover.nil | exact Take.here | apply Cover.cons | apply Take.there))
theorem string_b {ρ : Nat → Obj → Prop} (b g : Nat) (p : Value) (cap : Nat) (l : List UInt8) (cur : List Value) (h0 : l ≠ []) (hc : cap ≠ 0) (hcur : cur.take l.length = Lib.byteCells l) (h63 : l.length ≤ 9223372036854775807) :
    Con Tryz.prog ρ 44 #[.pointer (some ⟨b, 0, none⟩)] [Blk b (.cells [p, .slice (some ⟨g, 0, none⟩) l.length cap].toArray 88 (0, 0)), Blk g (.cells cur.toArray 5 (0, 0))]
    (fun u H => u = .string (strOf l) ∧ H = [Blk b (.cells [p, .slice (some ⟨g, 0, none⟩) l.length cap].toArray 88 (0, 0))]) := by
  refine con_intro Tryz.func44 Tryz.call44 rfl Tryz.ntmps44 rfl (L := [(0, _)]) rfl fun w hh => ?_
  refine g_seq ?_
  refine g_region ?_
  refine g_pure (p_assign rfl) rfl ?_
  refine g_nil ?_
  refine g_qt ?_
  refine g_seq ?_
  refine m_begin0 (.fl 0 0 (.fl 1 0 (.fl 2 0 (.fl 3 1 (.fl 5 0 (.fl 6 0 (.fl 7 0 (.fl 8 1 (.fl 9 0 (.ef 4 (.ef 10 (.fl 11 0 .done)))))))))))) (by kernel_rfl) (by kernel_rfl) ?_
  refine m_float0 rfl (fun _ _ => p_move rfl) rfl ?_
  refine m_float0 rfl (fun _ _ => p_nilCheck rfl) rfl ?_
  refine m_float0 rfl (fun _ _ => p_fieldAddr rfl) rfl ?_
  refine m_float rfl (p_load (by rfl) rfl (by first | (apply Has.own; (repeat' (first | exact Take.here | apply Take.there)); done) | exact Has.ro (by assumption)) (by first | rfl | assumption)) rfl ?_
  refine m_float0 rfl (fun _ _ => p_move rfl) rfl ?_
  refine m_float0 rfl (fun _ _ => p_nilCheck rfl) rfl ?_
  refine m_float0 rfl (fun _ _ => p_fieldAddr rfl) rfl ?_
  refine m_float rfl (p_load (by rfl) rfl (by first | (apply Has.own; (repeat' (first | exact Take.here | apply Take.there)); done) | exact Has.ro (by assumption)) (by first | rfl | assumption)) rfl ?_
  refine m_float0 rfl (fun _ _ => p_len (by rfl) rfl) rfl ?_
  refine m_eff rfl ((p_sliceData rfl hc).eff) rfl (fun _ _ => ?_)
  rintro ⟨rfl, rfl⟩
  refine ⟨.some (by repeat' (first | exact Cover.nil | exact Take.here | apply Cover.cons | apply Take.there)), ?_⟩
  refine m_eff rfl (e_unsafeString (by rfl) byteC h0 rfl rfl (by repeat' (first | exact Take.here | apply Take.there)) hcur h63) rfl (fun _ _ => ?_)
  rintro ⟨rfl, rfl⟩
  refine ⟨.none (by kernel_rfl), ?_⟩
  refine m_float0 rfl (fun _ _ => p_assign rfl) rfl ?_
  refine m_nil ?_
  refine g_qt ?_
  refine g_ret ?_
  exact g_post (rs := [.tmp 2]) rfl (.tmp rfl .nil) ⟨rfl, rfl⟩ (by repeat' (first | exact Cover.nil | exact Take.here | apply Cover.cons | apply Take.there))
end Go.Proofs.YtopgbgnmjogeeaaGreatDoor
/- The text of a formula and its reading, plain: what is written is read back. No program in sight. Conditions: none. -/
namespace Go.Z.Txt
set_option maxRecDepth 8000
set_option linter.unusedVariables false
set_option linter.unusedSimpArgs false
set_option linter.unusedSectionVars false
open Go Go.Lib Go.Z.Val

theorem pu1 {m d : Nat} (hd : d < 10) (hm : m ≤ 1000000000000) : parseUint10 m [UInt8.ofNat (48 + d)] = .ok (m * 10 + d) := by
  simp only [parseUint10]
  rw [dig_nat hd, if_pos (by omega), if_neg (by omega), if_neg (by omega)]
  congr 1; omega
theorem pud (u : Nat) : u ≤ 1000000000000 → parseUint10 0 (decDigits u) = .ok u := by
  refine dec_ind (p := fun u => u ≤ 1000000000000 → parseUint10 0 (decDigits u) = .ok u) (fun u h _ => ?_) (fun u h ih hb => ?_) u
  · rw [dec_small h, pu1 h (by decide)]; simp
  · rw [dec_big h, pu_append _ _ _ _ (ih (by omega)), pu1 (Nat.mod_lt _ (by decide)) (by omega)]
    congr 1; omega
theorem magd {u : Nat} (h : u ≤ 1000000000000) : parseMag (decDigits u) = .ok u := by
  unfold parseMag; rw [if_neg (dec_digits u).1, pud u h]
theorem atoi_it {n : Int} (h : -1000000000000 ≤ n ∧ n ≤ 1000000000000) : atoiAll (itoa n) = .ok n := by
  by_cases hn : n < 0
  · rw [itoa_neg hn, atoiAll_minus, magd (by omega)]
    unfold signed; dsimp only
    rw [if_neg (by omega)]
    congr 1; omega
  · rw [itoa_pos hn]
    obtain ⟨h1, h2⟩ := dec_digits n.toNat
    have hm := magd (u := n.toNat) (by omega)
    cases hd : decDigits n.toNat with
    | nil => exact absurd hd h1
    | cons c r =>
      rw [hd] at hm h2
      have hc := h2 c (by simp)
      rw [atoiAll_plain c r (by omega) (by omega), hm]
      unfold signless; dsimp only
      rw [if_neg (by omega)]
      congr 1; omega
theorem itoa_len {n : Int} (h : -2147483648 ≤ n ∧ n ≤ 2147483648) : (itoa n).length ≤ 11 := by
  by_cases hn : n < 0
  · rw [itoa_neg hn]
    have := dec_len (k := 9) n.natAbs (by omega)
    rw [List.length_cons]; omega
  · rw [itoa_pos hn]
    have := dec_len (k := 9) n.toNat (by omega)
    omega
theorem itoa_chars {n : Int} : ∀ b ∈ itoa n, b.toNat = 45 ∨ (48 ≤ b.toNat ∧ b.toNat ≤ 57) := by
  intro b hb
  by_cases hn : n < 0
  · rw [itoa_neg hn] at hb
    rcases List.mem_cons.1 hb with rfl | hb
    · exact .inl rfl
    · exact .inr ((dec_digits _).2 b hb)
  · rw [itoa_pos hn] at hb
    exact .inr ((dec_digits _).2 b hb)
theorem itoa_free {n : Int} {c : UInt8} (hc : c.toNat < 45) : c ∉ itoa n := fun h => by
  have := itoa_chars c h; omega
theorem itoa_zero : itoa 0 = [48] := by rw [itoa_pos (by decide)]; exact dec_small (by decide)

/-- the number with a text -/
def numV (l : List UInt8) : Option Int :=
  if 11 < l.length then none else
  match atoiAll l with
  | .ok n => if itoa n = l ∧ -2147483648 ≤ n ∧ n ≤ 2147483648 then some n else none
  | _ => none
theorem numV_itoa {n : Int} (h : -2147483648 ≤ n ∧ n ≤ 2147483648) : numV (itoa n) = some n := by
  unfold numV
  rw [if_neg (by have := itoa_len h; omega), atoi_it (by omega)]
  exact if_pos ⟨rfl, h.1, h.2⟩
theorem numV_some {l : List UInt8} {n : Int} (h : numV l = some n) : itoa n = l ∧ -2147483648 ≤ n ∧ n ≤ 2147483648 := by
  unfold numV at h
  split at h
  · cases h
  · split at h
    · split at h
      · rename_i hh; injection h with h; subst h; exact hh
      · cases h
    · cases h
theorem numV_none {l : List UInt8} (h : numV l = none) (n : Int) (hn : -2147483648 ≤ n ∧ n ≤ 2147483648) : itoa n ≠ l := fun e => by
  subst e; rw [numV_itoa hn] at h; cases h

/-- the line of a clause, without its end -/
def lineT (c : List Int) : List UInt8 := (c.map fun x => itoa x ++ [32]).flatten ++ [48]
def headT (n : Int) (k : Nat) : List UInt8 := [112, 32, 99, 110, 102, 32] ++ itoa n ++ [32] ++ itoa k
/-- the text of a formula -/
def textV (n : Int) (F : List (List Int)) : List UInt8 := headT n F.length ++ [10] ++ (F.map fun c => lineT c ++ [10]).flatten

/-- the numbers of a clause's words: 0 stands last, and there alone -/
def wordsV : List (List UInt8) → Option (List Int)
  | [] => none
  | [w] => match numV w with
    | some n => if n = 0 then some [] else none
    | none => none
  | w :: r => match numV w with
    | some n => if n = 0 then none else (wordsV r).map (n :: ·)
    | none => none
def farV (vars : Int) (c : List Int) : Bool := c.any fun x => decide (vars < x) || decide (x < -vars)
def bodyV (vars : Int) : Nat → List UInt8 → Int → Except (Int × Int) (List (List Int))
  | 0, rest, line => if rest = [] then .ok [] else .error (line + 1, 5)
  | k + 1, rest, line =>
    match cut rest [10] with
    | (s, r, true) =>
      match wordsV (pieces 32 s) with
      | none => .error (line + 1, 5)
      | some c => if farV vars c then .error (line + 1, 14) else (bodyV vars k r (line + 1)).map (c :: ·)
    | (_, _, false) => .error (line + 1, 4)
def headV (s : List UInt8) : Except Int (Int × Int) :=
  match pieces 32 s with
  | [p, q, a, b] =>
    if p = [112] ∧ q = [99, 110, 102] then
      match numV a, numV b with
      | some x, some y => if x < 0 ∨ y < 0 then .error 5 else if 262144 < x then .error 3 else .ok (x, y)
      | _, _ => .error 5
    else .error 5
  | _ => .error 5
def parseV (t : List UInt8) : Except (Int × Int) (Int × List (List Int)) :=
  match cut t [10] with
  | (s, r, true) =>
    match headV s with
    | .error e => .error (1, e)
    | .ok (x, y) => (bodyV x y.toNat r 1).map (x, ·)
  | (_, _, false) => .error (1, 4)

theorem line_glue : ∀ c : List Int, lineT c = glue 32 (c.map itoa ++ [[48]])
  | [] => rfl
  | x :: c => by
    have ih := line_glue c
    cases hc : c.map itoa ++ [[48]] with
    | nil => simp at hc
    | cons y r =>
      rw [List.map_cons, List.cons_append, hc, glue_cons, ← hc, ← ih]
      simp [lineT]
theorem line_pieces (c : List Int) : pieces 32 (lineT c) = c.map itoa ++ [[48]] := by
  rw [line_glue]
  refine pieces_glue (by simp) fun x hx => ?_
  rcases List.mem_append.1 hx with hx | hx
  · obtain ⟨n, -, rfl⟩ := List.mem_map.1 hx
    exact itoa_free (by decide)
  · rw [List.mem_singleton.1 hx]; decide
theorem line_free (c : List Int) : (10 : UInt8) ∉ lineT c := by
  unfold lineT
  rw [List.mem_append, not_or]
  refine ⟨fun h => ?_, by decide⟩
  obtain ⟨l, hl, hm⟩ := List.mem_flatten.1 h
  obtain ⟨n, -, rfl⟩ := List.mem_map.1 hl
  rcases List.mem_append.1 hm with hm | hm
  · exact itoa_free (by decide) hm
  · revert hm; decide
theorem words_line : ∀ c : List Int, (∀ x ∈ c, x ≠ 0 ∧ -2147483648 ≤ x ∧ x ≤ 2147483648) → wordsV (c.map itoa ++ [[48]]) = some c
  | [], _ => by
    have : numV [48] = some 0 := by rw [← itoa_zero]; exact numV_itoa (by decide)
    simp [wordsV, this]
  | x :: c, h => by
    have ih := words_line c fun y hy => h y (by simp [hy])
    have hx := h x (by simp)
    cases hc : c.map itoa ++ [[48]] with
    | nil => simp at hc
    | cons y r =>
      rw [List.map_cons, List.cons_append, hc, wordsV, numV_itoa hx.2]
      · dsimp only
        rw [if_neg hx.1, ← hc, ih]; rfl
      · simp
theorem body_text {vars : Int} (hv : vars ≤ 262144) : ∀ (F : List (List Int)) (line : Int), (∀ c ∈ F, ∀ x ∈ c, x ≠ 0 ∧ -vars ≤ x ∧ x ≤ vars) →
    bodyV vars F.length (F.map fun c => lineT c ++ [10]).flatten line = .ok F
  | [], line, _ => by simp [bodyV]
  | c :: F, line, h => by
    have hc := h c (by simp)
    rw [List.map_cons, List.flatten_cons, List.append_assoc, List.singleton_append, List.length_cons, bodyV, cut_hit _ (line_free c)]
    dsimp only
    rw [line_pieces, words_line c fun x hx => by have := hc x hx; omega]
    dsimp only
    rw [if_neg ?_, body_text hv F (line + 1) fun d hd => h d (by simp [hd])]
    · rfl
    · intro hf
      unfold farV at hf
      obtain ⟨x, hx, hh⟩ := List.any_eq_true.1 hf
      have := hc x hx
      simp at hh; omega
theorem head_free (n : Int) (k : Nat) : (10 : UInt8) ∉ headT n k := by
  unfold headT
  simp only [List.mem_append, not_or]
  exact ⟨⟨⟨by decide, itoa_free (by decide)⟩, by decide⟩, itoa_free (by decide)⟩
theorem head_pieces (n : Int) (k : Nat) : pieces 32 (headT n k) = [[112], [99, 110, 102], itoa n, itoa k] := by
  have e : headT n k = glue 32 [[112], [99, 110, 102], itoa n, itoa k] := by simp [headT, glue]
  rw [e]
  refine pieces_glue (by simp) fun x hx => ?_
  simp only [List.mem_cons, List.not_mem_nil, or_false] at hx
  rcases hx with rfl | rfl | rfl | rfl
  · decide
  · decide
  · exact itoa_free (by decide)
  · exact itoa_free (by decide)
theorem parse_text {n : Int} {F : List (List Int)} (h0 : 0 ≤ n) (h1 : n ≤ 262144) (hk : F.length ≤ 2147483648) (h : ∀ c ∈ F, ∀ x ∈ c, x ≠ 0 ∧ -n ≤ x ∧ x ≤ n) : parseV (textV n F) = .ok (n, F) := by
  unfold parseV textV
  rw [List.append_assoc, List.singleton_append, cut_hit _ (head_free n F.length)]
  dsimp only
  unfold headV
  rw [head_pieces]
  dsimp only
  rw [if_pos ⟨rfl, rfl⟩, numV_itoa (by omega), numV_itoa (by omega)]
  dsimp only
  rw [if_neg (by omega), if_neg (by omega)]
  dsimp only
  rw [Int.toNat_natCast, body_text h1 F 1 h]; rfl
end Go.Z.Txt
/- Chapter 36: a formula's text. Conditions: none. -/
namespace Go.Proofs.YtopgbgnmjogeeaaGreatDoor
set_option maxRecDepth 8000
set_option linter.unusedVariables false
set_option linter.unusedSimpArgs false
set_option linter.unusedSectionVars false
open Go Go.Z Go.Z.Txt Go.Z.Sat Go.RowKit

theorem itoa_len64 {n : Int} (h : I64 n) : (Lib.itoa n).length ≤ 20 := by
  unfold I64 at h
  by_cases hn : n < 0
  · rw [Go.Z.Val.itoa_neg hn]
    have := Go.Z.Val.dec_len (k := 18) n.natAbs (by omega)
    rw [List.length_cons]; omega
  · rw [Go.Z.Val.itoa_pos hn]
    have := Go.Z.Val.dec_len (k := 18) n.toNat (by omega)
    omega
theorem strOf_list (l : List UInt8) : (strOf l).data.toList = l := rfl
theorem strOf_size (l : List UInt8) : (strOf l).size = l.length := rfl
theorem app_list (a b : ByteArray) : (a ++ b).data.toList = a.data.toList ++ b.data.toList := by
  rw [ByteArray.data_append, Array.toList_append]
theorem lit_size (a : Array UInt8) : (⟨a⟩ : ByteArray).size = a.size := rfl
theorem size_list (a : ByteArray) : a.size = a.data.toList.length := rfl
theorem write_w {ρ : Nat → Obj → Prop} (b : Nat) (p : Value) (a : Option Addr) (cap : Nat) (W : List UInt8) (s : ByteArray) (hp : p = .pointer none ∨ p = .pointer (some ⟨b, 0, none⟩)) (hk : W.length + s.size ≤ 140737488355328) :
    Con Tryz.prog ρ 42 #[.pointer (some ⟨b, 0, none⟩), .string s] [Blk b (.cells [p, .slice a W.length cap].toArray 88 (0, 0)), OwnSl 5 1 a W.length cap (Lib.byteCells W)]
    (fun u H => ∃ a2 c2, u = .tuple #[.int .i64 s.size, .nilIface] ∧ H = [Blk b (.cells [.pointer (some ⟨b, 0, none⟩), .slice a2 (W ++ s.data.toList).length c2].toArray 88 (0, 0)), OwnSl 5 1 a2 (W ++ s.data.toList).length c2 (Lib.byteCells (W ++ s.data.toList))]) :=
  (write_b b p a W.length cap (Lib.byteCells W) s hp hk).mono fun v H ⟨a2, c2, e1, e2⟩ => ⟨a2, c2, e1, by rw [Lib.byteCells_append, List.length_append, ← size_list, ← Lib.strCells_eq]; exact e2⟩

/-- what is written before the clause number i -/
def outW (n : Int) (F : List (List Int)) (i : Nat) : List UInt8 := headT n F.length ++ [10] ++ ((F.take i).map fun c => lineT c ++ [10]).flatten
/-- .. and the first j literals of the clause c behind that -/
def inW (W : List UInt8) (c : List Int) (j : Nat) : List UInt8 := W ++ ((c.take j).map fun x => Lib.itoa x ++ [32]).flatten
theorem inW_zero (W : List UInt8) (c : List Int) : inW W c 0 = W := by simp [inW]
theorem inW_succ (W : List UInt8) (c : List Int) {j : Nat} (hj : j < c.length) : inW W c (j + 1) = inW W c j ++ (Lib.itoa c[j] ++ [32]) := by
  unfold inW
  rw [List.take_add_one, List.getElem?_eq_getElem hj, Option.toList_some, List.map_append, List.flatten_append]
  simp
theorem outW_succ (n : Int) (F : List (List Int)) {i : Nat} (hi : i < F.length) : outW n F (i + 1) = inW (outW n F i) F[i] F[i].length ++ [48, 10] := by
  unfold outW inW
  rw [List.take_add_one, List.getElem?_eq_getElem hi, Option.toList_some, List.map_append, List.flatten_append, List.take_length]
  simp [lineT]
theorem outW_all (n : Int) (F : List (List Int)) : outW n F F.length = textV n F := by unfold outW textV; rw [List.take_length]
theorem outW_zero (n : Int) (F : List (List Int)) : outW n F 0 = headT n F.length ++ [10] := by simp [outW]
theorem outW_le (n : Int) (F : List (List Int)) (i : Nat) : (outW n F i).length ≤ (textV n F).length := by
  have h : (textV n F) = outW n F i ++ ((F.drop i).map fun c => lineT c ++ [10]).flatten := by
    unfold outW textV
    rw [List.append_assoc (headT n F.length ++ [10]), ← List.flatten_append, ← List.map_append, List.take_append_drop]
  rw [h, List.length_append]; omega
theorem inW_le (n : Int) (F : List (List Int)) {i j : Nat} (hi : i < F.length) : (inW (outW n F i) F[i] j).length ≤ (textV n F).length := by
  have h1 := outW_le n F (i + 1)
  rw [outW_succ n F hi] at h1
  have h2 : inW (outW n F i) F[i] F[i].length = inW (outW n F i) F[i] j ++ ((F[i].drop j).map fun x => Lib.itoa x ++ [32]).flatten := by
    unfold inW
    rw [List.take_length, List.append_assoc, ← List.flatten_append, ← List.map_append, List.take_append_drop]
  rw [h2] at h1
  simp only [List.length_append] at h1; omega

theorem text_ok {ρ : Nat → Obj → Prop} (hk : LibC ρ) (n : Int) (hn : I64 n) (ca : Option Addr) (cc : Nat) (F : Fm) (hF : FmR ρ ca F) (hsz : (textV n F).length ≤ 4294967280) :
    Con Tryz.prog ρ 17 #[.agg #[.int .i64 n, .slice ca F.length cc]] []
      (fun v H => v = (if check1 n F = 0 then .tuple #[.string (strOf (textV n F)), .int .i64 0] else .tuple #[.string (strOf []), .int .i64 (check1 n F)]) ∧ H = []) := by
  have hlen := hF.len
  have hn' := itoa_len64 hn
  have hl' := itoa_len64 (n := (F.length : Int)) (by unfold I64; omega)
  have hFl : I64 (F.length : Int) := by unfold I64; omega
  refine con_intro Tryz.func17 Tryz.call17 rfl Tryz.ntmps17 rfl (L := [(0, _)]) rfl fun w hh => ?_
  refine g_seq ?_
  refine g_region ?_
  refine g_eff (e_box rfl (by rfl)) rfl (fun _ _ => ?_)
  rintro ⟨b1, rfl, rfl⟩
  refine g_pure (p_assign rfl) rfl ?_
  refine g_pure (p_assign rfl) rfl ?_
  refine g_nil ?_
  refine g_qt ?_
  refine g_seq ?_
  refine g_seq ?_
  refine g_region ?_
  first | refine g_pure (p_loadO (by rfl) rfl (by first | (apply Has.own; (repeat' (first | exact Take.here | apply Take.there)); done) | exact Has.ro (by assumption)) (by rfl)) rfl ?_ | refine g_pure (p_loadN (by rfl) rfl (by first | (apply Has.own; (repeat' (first | exact Take.here | apply Take.there)); done) | exact Has.ro (by assumption)) (by first | rfl | assumption)) rfl ?_
  refine g_call (Hin := []) (Hr := ?hr1) (R := ?rr1) rfl rfl rfl ?hin1 ?hc1 ?hk1
  case hin1 => repeat' (first | exact Cover.nil | exact Take.here | apply Cover.cons | apply Take.there)
  case hc1 => intro ρ' hρ hR; exact check_ok n hn ca cc F (hF.mono hρ)
  rintro _ _ ⟨rfl, rfl⟩
  refine g_pure (p_assign rfl) rfl ?_
  refine g_nil ?_
  refine g_qt ?_
  refine g_seq ?_
  refine g_region ?_
  refine g_pure (p_move rfl) rfl ?_
  refine g_pure (p_neq rfl rfl) rfl ?_
  refine g_nil ?_
  refine g_qt ?_
  refine g_ifnd rfl (fun h1 => ?_) (fun h1 => ?_)
  · refine g_seq ?_
    refine g_region ?_
    refine g_pure (p_move rfl) rfl ?_
    refine g_pure (p_assign rfl) rfl ?_
    refine g_pure (p_assign rfl) rfl ?_
    refine g_nil ?_
    refine g_qt ?_
    refine g_ret ?_
    refine g_qt_ret ?_
    exact g_post (Ho := []) (rs := [.tmp 2, .tmp 3]) rfl (.tmp rfl (.tmp rfl .nil)) ⟨by rw [if_neg h1]; rfl, rfl⟩ (by repeat' (first | exact Cover.nil | exact Take.here | apply Cover.cons | apply Take.there))
  · have e0 : strOf (headT n F.length ++ [10]) = ⟨#[112, 32, 99, 110, 102, 32]⟩ ++ strOf (Lib.itoa n) ++ ⟨#[32]⟩ ++ strOf (Lib.itoa (F.length : Int)) ++ ⟨#[10]⟩ := by
      apply ByteArray.ext
      apply Array.ext'
      simp only [app_list, strOf_list, headT]
    refine g_skip ?_
    refine g_qt ?_
    refine g_seq ?_
    refine g_region ?_
    refine g_eff (e_alloc (by rfl)) rfl (fun _ _ => ?_)
    rintro ⟨b5, rfl, rfl⟩
    refine g_nil ?_
    refine g_qt ?_
    refine g_seq ?_
    refine g_ownnil (e := 5) (size := 1) ?_
    refine m_begin (.fl 0 0 (.fl 1 1 (.fl 5 0 (.fl 6 1 (.fl 7 0 (.ef 2 (.fl 3 0 (.fl 4 0 (.ef 8 (.fl 9 0 (.fl 10 0 (.ef 11 .done)))))))))))) [Blk b1 (.cells [.int .i64 n, .slice ca F.length cc].toArray 30 (0, 0))] (by kernel_rfl) (by kernel_rfl) (by repeat' (first | exact Cover.nil | exact Take.here | apply Cover.cons | apply Take.there)) ?_
    refine m_float0 rfl (fun _ _ => p_fieldAddr rfl) rfl ?_
    refine m_float rfl (p_load (by rfl) rfl (by first | (apply Has.own; (repeat' (first | exact Take.here | apply Take.there)); done) | exact Has.ro (by assumption)) (by first | rfl | assumption)) rfl ?_
    refine m_float0 rfl (fun _ _ => p_fieldAddr rfl) rfl ?_
    refine m_float rfl (p_load (by rfl) rfl (by first | (apply Has.own; (repeat' (first | exact Take.here | apply Take.there)); done) | exact Has.ro (by assumption)) (by first | rfl | assumption)) rfl ?_
    refine m_float0 rfl (fun _ _ => p_len (by rfl) rfl) rfl ?_
    refine m_call (Hin := []) (Hr := ?hr2) (R := ?rr2) rfl wantedN rfl rfl rfl ?hin2 ?hc2 ?hk2
    case hin2 => repeat' (first | exact Cover.nil | exact Take.here | apply Cover.cons | apply Take.there)
    case hc2 => intro ρ' hρ hR; exact itoa_ok (hk.mono hρ) n hn
    rintro _ _ ⟨rfl, rfl⟩
    refine ⟨.some (by repeat' (first | exact Cover.nil | exact Take.here | apply Cover.cons | apply Take.there)), ?_⟩
    refine m_float0 rfl (fun _ _ => p_adds (by rfl) rfl rfl (by simp only [ByteArray.size_append, strOf_size, lit_size, List.size_toArray, List.length_cons, List.length_nil]; omega)) rfl ?_
    refine m_float0 rfl (fun _ _ => p_adds (by rfl) rfl rfl (by simp only [ByteArray.size_append, strOf_size, lit_size, List.size_toArray, List.length_cons, List.length_nil]; omega)) rfl ?_
    refine m_call (Hin := []) (Hr := ?hr3) (R := ?rr3) rfl wantedN rfl rfl rfl ?hin3 ?hc3 ?hk3
    case hin3 => repeat' (first | exact Cover.nil | exact Take.here | apply Cover.cons | apply Take.there)
    case hc3 => intro ρ' hρ hR; exact itoa_ok (hk.mono hρ) (F.length : Int) hFl
    rintro _ _ ⟨rfl, rfl⟩
    refine ⟨.none (by kernel_rfl), ?_⟩
    refine m_float0 rfl (fun _ _ => p_adds (by rfl) rfl rfl (by simp only [ByteArray.size_append, strOf_size, lit_size, List.size_toArray, List.length_cons, List.length_nil]; omega)) rfl ?_
    refine m_float0 rfl (fun _ _ => p_adds (by rfl) rfl rfl (by simp only [ByteArray.size_append, strOf_size, lit_size, List.size_toArray, List.length_cons, List.length_nil]; omega)) rfl ?_
    refine m_call (Hin := [Blk b5 (.cells [.pointer none, .slice none 0 0].toArray 88 (0, 0)), OwnSl 5 1 none 0 0 []]) (Hr := ?hr4) (R := ?rr4) rfl wantedN rfl rfl rfl ?hin4 ?hc4 ?hk4
    case hin4 => repeat' (first | exact Cover.nil | exact Take.here | apply Cover.cons | apply Take.there)
    case hc4 => intro ρ' hρ hR; exact write_w b5 (.pointer none) none 0 [] (⟨#[112, 32, 99, 110, 102, 32]⟩ ++ strOf (Lib.itoa n) ++ ⟨#[32]⟩ ++ strOf (Lib.itoa (F.length : Int)) ++ ⟨#[10]⟩) (.inl rfl) (by simp only [ByteArray.size_append, strOf_size, lit_size, List.size_toArray, List.length_cons, List.length_nil]; omega)
    rintro _ _ ⟨a26, c26, rfl, rfl⟩
    refine ⟨.none (by kernel_rfl), ?_⟩
    refine m_nil ?_
    refine g_qt ?_
    refine g_seq ?_
    refine g_seq ?_
    refine g_region ?_
    refine g_pure (p_fieldAddr rfl) rfl ?_
    refine g_pure (p_load (by rfl) rfl (by first | (apply Has.own; (repeat' (first | exact Take.here | apply Take.there)); done) | exact Has.ro (by assumption)) (by first | rfl | assumption)) rfl ?_
    refine g_pure (p_len (by rfl) rfl) rfl ?_
    refine g_pure (p_move rfl) rfl ?_
    refine g_nil ?_
    refine g_qt ?_
    refine g_block ?_
    have e1 : ([] : List UInt8) ++ (⟨#[112, 32, 99, 110, 102, 32]⟩ ++ strOf (Lib.itoa n) ++ ⟨#[32]⟩ ++ strOf (Lib.itoa (F.length : Int)) ++ ⟨#[10]⟩ : ByteArray).data.toList = outW n F 0 := by
      rw [← e0, outW_zero]; rfl
    rw [e1]
    refine g_loop (fun x : Nat × Option Addr × Nat => [(1, .pointer (some ⟨b1, 0, none⟩)), (5, .pointer (some ⟨b5, 0, none⟩)), (28, .slice ca F.length cc), (29, .int .i64 F.length), (30, .int .i64 x.1)])
      (fun x => [Blk b5 (.cells [.pointer (some ⟨b5, 0, none⟩), .slice x.2.1 (outW n F x.1).length x.2.2].toArray 88 (0, 0)), OwnSl 5 1 x.2.1 (outW n F x.1).length x.2.2 (Lib.byteCells (outW n F x.1))]) (fun x => x.1 ≤ F.length) (fun x => F.length - x.1) (0, a26, c26) (Nat.zero_le _) (by (repeat (first | exact trivial | refine ⟨by rfl, ?_⟩)); done) (by repeat' (first | exact Cover.nil | exact Take.here | apply Cover.cons | apply Take.there)) ?_
    rintro ⟨i, a, cap⟩ hi
    dsimp only at hi ⊢
    refine g_seq ?_
    refine g_region ?_
    refine g_pure (p_lss rfl rfl) rfl ?_
    refine g_nil ?_
    refine g_qt ?_
    refine g_seq ?_
    refine g_ifd rfl (fun q => ?_) (fun q => ?_)
    · have hil : i < F.length := by omega
      obtain ⟨bo, off, cs, T, fz, rfl, hro, hat⟩ := hF.at (by omega)
      obtain ⟨ai, ci, hci, hrow⟩ := hat i hil
      have hcl := hF.lens F[i] (List.getElem_mem hil)
      refine g_skip ?_
      refine g_qt ?_
      refine g_seq ?_
      refine g_block ?_
      refine g_seq ?_
      refine g_region ?_
      refine g_pure (p_indexAddr rfl rfl (by omega) (fun _ => rfl)) rfl ?_
      refine g_pure (p_load (by rfl) rfl (Has.ro hro) (by simpa using hci)) rfl ?_
      refine g_pure (p_assign rfl) rfl ?_
      refine g_nil ?_
      refine g_qt ?_
      refine g_seq ?_
      refine g_seq ?_
      refine g_region ?_
      refine g_pure (p_move rfl) rfl ?_
      refine g_pure (p_len (by rfl) rfl) rfl ?_
      refine g_pure (p_move rfl) rfl ?_
      refine g_nil ?_
      refine g_qt ?_
      refine g_block ?_
      rw [← inW_zero (outW n F i) F[i]]
      refine g_loop (fun x : Nat × Option Addr × Nat => [(1, .pointer (some ⟨b1, 0, none⟩)), (5, .pointer (some ⟨b5, 0, none⟩)), (28, .slice (some ⟨bo, off, none⟩) F.length cc), (29, .int .i64 F.length), (30, .int .i64 i), (34, .slice ai F[i].length ci), (35, .int .i64 F[i].length), (36, .int .i64 x.1)])
        (fun x => [Blk b5 (.cells [.pointer (some ⟨b5, 0, none⟩), .slice x.2.1 (inW (outW n F i) F[i] x.1).length x.2.2].toArray 88 (0, 0)), OwnSl 5 1 x.2.1 (inW (outW n F i) F[i] x.1).length x.2.2 (Lib.byteCells (inW (outW n F i) F[i] x.1))]) (fun x => x.1 ≤ F[i].length) (fun x => F[i].length - x.1) (0, a, cap) (Nat.zero_le _) (by (repeat (first | exact trivial | refine ⟨by rfl, ?_⟩)); done) (by repeat' (first | exact Cover.nil | exact Take.here | apply Cover.cons | apply Take.there)) ?_
      rintro ⟨j, a', cap'⟩ hj
      dsimp only at hj ⊢
      refine g_seq ?_
      refine g_region ?_
      refine g_pure (p_lss rfl rfl) rfl ?_
      refine g_nil ?_
      refine g_qt ?_
      refine g_seq ?_
      refine g_ifd rfl (fun r => ?_) (fun r => ?_)
      · have hjl : j < F[i].length := by omega
        have hx64 := hF.lits F[i] (List.getElem_mem hil) F[i][j] (List.getElem_mem hjl)
        have hxl := itoa_len64 hx64
        have hW := inW_le n F (i := i) (j := j) hil
        obtain ⟨_, b3, off3, cs3, T3, fz3, hcs3⟩ := hrow
        obtain ⟨s1, s2, s3⟩ := hcs3 (by omega)
        have hx : cs3[off3 + (j : Int).toNat * 1]? = some (.int .i64 F[i][j]) := by simpa [encI, List.getElem?_eq_getElem hjl] using s3 j (.int .i64 F[i][j]) (by simp [List.getElem?_eq_getElem hjl, encI])
        refine g_skip ?_
        refine g_qt ?_
        refine g_seq ?_
        refine g_block ?_
        refine g_seq ?_
        refine g_region ?_
        refine g_pure (p_indexAddr rfl rfl (by omega) (fun _ => s1)) rfl ?_
        refine g_pure (p_load (by rfl) rfl (Has.ro s2) hx) rfl ?_
        refine g_pure (p_assign rfl) rfl ?_
        refine g_nil ?_
        refine g_qt ?_
        refine g_region ?_
        refine g_pure (p_move rfl) rfl ?_
        refine g_call (Hin := []) (Hr := ?hr5) (R := ?rr5) rfl rfl rfl ?hin5 ?hc5 ?hk5
        case hin5 => repeat' (first | exact Cover.nil | exact Take.here | apply Cover.cons | apply Take.there)
        case hc5 => intro ρ' hρ hR; exact itoa_ok (hk.mono hρ) F[i][j] hx64
        rintro _ _ ⟨rfl, rfl⟩
        refine g_pure (p_adds (by rfl) rfl rfl (by simp only [ByteArray.size_append, strOf_size, lit_size, List.size_toArray, List.length_cons, List.length_nil]; omega)) rfl ?_
        refine g_call (Hin := ?hi6) (Hr := ?hr6) (R := ?rr6) rfl rfl rfl ?hin6 ?hc6 ?hk6
        case hc6 => intro ρ' hρ hR; exact write_w b5 (.pointer (some ⟨b5, 0, none⟩)) a' cap' (inW (outW n F i) F[i] j) (strOf (Lib.itoa F[i][j]) ++ ⟨#[32]⟩) (.inr rfl) (by simp only [ByteArray.size_append, strOf_size, lit_size, List.size_toArray, List.length_cons, List.length_nil]; omega)
        case hin6 => repeat' (first | exact Cover.nil | exact Take.here | apply Cover.cons | apply Take.there)
        rintro _ _ ⟨a43, c43, rfl, rfl⟩
        refine g_nil ?_
        refine g_qb ?_
        refine g_qt ?_
        refine g_region ?_
        first | refine g_pure (p_addi rfl rfl (by omega)) rfl ?_ | refine g_pure (p_add rfl rfl) rfl ?_
        refine g_pure (p_move rfl) rfl ?_
        refine g_nil ?_
        refine g_qn ?_
        have e2 : inW (outW n F i) F[i] j ++ (strOf (Lib.itoa F[i][j]) ++ ⟨#[32]⟩ : ByteArray).data.toList = inW (outW n F i) F[i] (j + 1) := by
          rw [inW_succ _ _ hjl, app_list]; rfl
        rw [e2]
        exact g_next (j + 1, a43, c43) (by (repeat (first | exact trivial | refine ⟨by rfl, ?_⟩)); done) (by repeat' (first | exact Cover.nil | exact Take.here | apply Cover.cons | apply Take.there)) (by dsimp only; omega) (by dsimp only; omega)
      · have hje : j = F[i].length := by omega
        subst hje
        have hW := inW_le n F (i := i) (j := F[i].length) hil
        refine g_exit ?_
        refine g_qt_exit ?_
        refine g_qn_exit ?_
        refine g_qb_exit ?_
        refine g_qt ?_
        refine g_region ?_
        refine g_call (Hin := ?hi7) (Hr := ?hr7) (R := ?rr7) rfl rfl rfl ?hin7 ?hc7 ?hk7
        case hc7 => intro ρ' hρ hR; exact write_w b5 (.pointer (some ⟨b5, 0, none⟩)) a' cap' (inW (outW n F i) F[i] F[i].length) ⟨#[48, 10]⟩ (.inr rfl) (by simp only [ByteArray.size_append, strOf_size, lit_size, List.size_toArray, List.length_cons, List.length_nil]; omega)
        case hin7 => repeat' (first | exact Cover.nil | exact Take.here | apply Cover.cons | apply Take.there)
        rintro _ _ ⟨a45, c45, rfl, rfl⟩
        refine g_nil ?_
        refine g_qb ?_
        refine g_qt ?_
        refine g_region ?_
        first | refine g_pure (p_addi rfl rfl (by omega)) rfl ?_ | refine g_pure (p_add rfl rfl) rfl ?_
        refine g_pure (p_move rfl) rfl ?_
        refine g_nil ?_
        refine g_qn ?_
        rw [show inW (outW n F i) F[i] F[i].length ++ (⟨#[48, 10]⟩ : ByteArray).data.toList = outW n F (i + 1) from (outW_succ n F hil).symm]
        exact g_next (i + 1, a45, c45) (by (repeat (first | exact trivial | refine ⟨by rfl, ?_⟩)); done) (by repeat' (first | exact Cover.nil | exact Take.here | apply Cover.cons | apply Take.there)) (by dsimp only; omega) (by dsimp only; omega)
    · have hie : i = F.length := by omega
      subst hie
      rw [outW_all]
      have hpos : textV n F ≠ [] := by simp [textV, headT]
      have hl0 : 0 < (textV n F).length := List.length_pos_iff.2 hpos
      refine g_own (by repeat' (first | exact Take.here | apply Take.there)) (fun _ h _ _ => absurd h (by omega)) (fun g cur r1 r2 r3 r4 r5 r6 => ?_)
      subst r1
      refine g_exit ?_
      refine g_qt_exit ?_
      refine g_qn_exit ?_
      refine g_qb_exit ?_
      refine g_qt ?_
      refine g_seq ?_
      refine g_region ?_
      refine g_call (Hin := ?hi8) (Hr := ?hr8) (R := ?rr8) rfl rfl rfl ?hin8 ?hc8 ?hk8
      case hc8 => intro ρ' hρ hR; exact string_b b5 g (.pointer (some ⟨b5, 0, none⟩)) cap (textV n F) cur hpos (by omega) (by rw [Nat.mul_one] at r5; exact r5) (by omega)
      case hin8 => repeat' (first | exact Cover.nil | exact Take.here | apply Cover.cons | apply Take.there)
      rintro _ _ ⟨rfl, rfl⟩
      refine g_pure (p_assign rfl) rfl ?_
      refine g_pure (p_assign rfl) rfl ?_
      refine g_nil ?_
      refine g_qt ?_
      refine g_ret ?_
      exact g_post (Ho := []) (rs := [.tmp 2, .tmp 3]) rfl (.tmp rfl (.tmp rfl .nil)) ⟨by rw [if_pos (by omega)]; rfl, rfl⟩ (by repeat' (first | exact Cover.nil | exact Take.here | apply Cover.cons | apply Take.there))
end Go.Proofs.YtopgbgnmjogeeaaGreatDoor
/- Chapter 36: the reader's parts: the next line, a number. Conditions: none. -/
namespace Go.Proofs.YtopgbgnmjogeeaaGreatDoor
set_option maxRecDepth 8000
set_option linter.unusedVariables false
set_option linter.unusedSimpArgs false
set_option linter.unusedSectionVars false
open Go Go.Z Go.Z.Txt Go.Z.Sat Go.RowKit

theorem strOf_inj {a b : List UInt8} : strOf a = strOf b ↔ a = b := ⟨fun h => by have := congrArg (fun s : ByteArray => s.data.toList) h; exact this, fun h => by rw [h]⟩
theorem atoi_good {ρ : Nat → Obj → Prop} (hk : LibC ρ) (l : List UInt8) (hs : l.length ≤ 281474976710656) {n : Int} (h : Lib.atoiAll l = .ok n) : Con Tryz.prog ρ 81 #[.string (strOf l)] [] (fun v H => v = .tuple #[.int .i64 n, .nilIface] ∧ H = []) :=
  (atoi_ok hk (strOf l) hs).mono fun v H ⟨h1, h2⟩ => ⟨by unfold AtoiP at h1; rw [strOf_list, h] at h1; exact h1, h2⟩
theorem atoi_bad {ρ : Nat → Obj → Prop} (hk : LibC ρ) (l : List UInt8) (hs : l.length ≤ 281474976710656) (h : ∀ n, Lib.atoiAll l ≠ .ok n) : Con Tryz.prog ρ 81 #[.string (strOf l)] [] (fun v H => (∃ n t p, v = .tuple #[.int .i64 n, .iface t p]) ∧ H = []) :=
  (atoi_ok hk (strOf l) hs).mono fun v H ⟨h1, h2⟩ => ⟨by
    unfold AtoiP at h1
    rw [strOf_list] at h1
    split at h1
    · rename_i e; exact absurd e (h _)
    · exact h1, h2⟩
def numR (l : List UInt8) : Value := match numV l with
  | some n => .tuple #[.int .i64 n, .bool true]
  | none => .tuple #[.int .i64 0, .bool false]
theorem numR_no {l : List UInt8} (h : numV l = none) : numR l = .tuple #[.int .i64 0, .bool false] := by unfold numR; rw [h]
theorem number_ok {ρ : Nat → Obj → Prop} (hk : LibC ρ) (l : List UInt8) (hs : l.length ≤ 281474976710656) : Con Tryz.prog ρ 68 #[.string (strOf l)] [] (fun v H => v = numR l ∧ H = []) := by
  refine con_intro Tryz.func68 Tryz.call68 rfl Tryz.ntmps68 rfl (L := [(0, _)]) rfl fun w hh => ?_
  refine g_seq ?_
  refine g_region ?_
  refine g_pure (p_assign rfl) rfl ?_
  refine g_pure (p_assign rfl) rfl ?_
  refine g_nil ?_
  refine g_qt ?_
  refine g_seq ?_
  refine g_seq ?_
  refine g_region ?_
  refine g_pure (p_move rfl) rfl ?_
  refine g_pure ((strOf_size l ▸ p_lens (s := strOf l) (by rfl) rfl)) rfl ?_
  refine g_pure (p_gtr rfl rfl) rfl ?_
  refine g_nil ?_
  refine g_qt ?_
  refine g_ifd rfl (fun h1 => ?_) (fun h1 => ?_)
  · refine g_seq ?_
    refine g_region ?_
    refine g_pure (p_assign rfl) rfl ?_
    refine g_pure (p_assign rfl) rfl ?_
    refine g_nil ?_
    refine g_qt ?_
    refine g_ret ?_
    refine g_qt_ret ?_
    exact g_post (Ho := []) (rs := [.tmp 2, .tmp 3]) rfl (.tmp rfl (.tmp rfl .nil)) ⟨by rw [numR_no (by unfold numV; rw [if_pos (by omega)])]; rfl, rfl⟩ (by repeat' (first | exact Cover.nil | exact Take.here | apply Cover.cons | apply Take.there))
  · refine g_skip ?_
    refine g_qt ?_
    refine g_seq ?_
    refine g_region ?_
    refine g_pure (p_move rfl) rfl ?_
    by_cases ha : ∃ n, Lib.atoiAll l = .ok n
    · obtain ⟨n, ha⟩ := ha
      have hb := Lib.atoiAll_bounds ha
      refine g_call (Hin := []) (Hr := ?hr1) (R := ?rr1) rfl rfl rfl ?hin1 ?hc1 ?hk1
      case hin1 => repeat' (first | exact Cover.nil | exact Take.here | apply Cover.cons | apply Take.there)
      case hc1 => intro ρ' hρ hR; exact atoi_good (hk.mono hρ) l hs ha
      rintro _ _ ⟨rfl, rfl⟩
      have e0 : numV l = if Lib.itoa n = l ∧ -2147483648 ≤ n ∧ n ≤ 2147483648 then some n else none := by
        unfold numV; rw [if_neg (by omega), ha]
      have hno : ¬ (Lib.itoa n = l ∧ -2147483648 ≤ n ∧ n ≤ 2147483648) → numR l = .tuple #[.int .i64 0, .bool false] := fun hh => numR_no (by rw [e0, if_neg hh])
      have hyes : (Lib.itoa n = l ∧ -2147483648 ≤ n ∧ n ≤ 2147483648) → numR l = .tuple #[.int .i64 n, .bool true] := fun hh => by unfold numR; rw [e0, if_pos hh]
      refine g_pure (p_move rfl) rfl ?_
      refine g_pure (p_extract rfl rfl) rfl ?_
      refine g_pure (p_extract rfl rfl) rfl ?_
      refine g_pure (p_assign rfl) rfl ?_
      refine g_pure (p_assign rfl) rfl ?_
      refine g_nil ?_
      refine g_qt ?_
      refine g_seq ?_
      refine g_seq ?_
      refine g_region ?_
      refine g_pure (p_move rfl) rfl ?_
      refine g_pure (p_neqifF (by rfl) rfl rfl) rfl ?_
      refine g_pure (p_move rfl) rfl ?_
      refine g_yes rfl rfl ?_
      refine g_pure (p_move rfl) rfl ?_
      refine g_yes rfl rfl ?_
      refine g_call (Hin := []) (Hr := ?hr2) (R := ?rr2) rfl rfl rfl ?hin2 ?hc2 ?hk2
      case hin2 => repeat' (first | exact Cover.nil | exact Take.here | apply Cover.cons | apply Take.there)
      case hc2 => intro ρ' hρ hR; exact itoa_ok (hk.mono hρ) n hb
      rintro _ _ ⟨rfl, rfl⟩
      refine g_yes rfl rfl ?_
      refine g_pure (p_move rfl) rfl ?_
      refine g_yes rfl rfl ?_
      refine g_pure (p_neqs (by rfl) rfl rfl) rfl ?_
      first | refine g_pure (p_pickt rfl rfl) rfl ?_ | refine g_pure (p_pickf rfl rfl) rfl ?_
      refine g_pure (p_move rfl) rfl ?_
      refine g_splitnd rfl rfl (fun h2 => ?_) (fun h2 => ?_)
      · refine g_no rfl rfl rfl rfl ?_
        refine g_no rfl rfl rfl rfl ?_
        first | refine g_pure (p_pickt rfl rfl) rfl ?_ | refine g_pure (p_pickf rfl rfl) rfl ?_
        refine g_pure (p_move rfl) rfl ?_
        refine g_no rfl rfl rfl rfl ?_
        refine g_no rfl rfl rfl rfl ?_
        first | refine g_pure (p_pickt rfl rfl) rfl ?_ | refine g_pure (p_pickf rfl rfl) rfl ?_
        refine g_nil ?_
        refine g_qt ?_
        refine g_ift rfl ?_
        refine g_seq ?_
        refine g_region ?_
        refine g_pure (p_assign rfl) rfl ?_
        refine g_pure (p_assign rfl) rfl ?_
        refine g_nil ?_
        refine g_qt ?_
        refine g_ret ?_
        refine g_qt_ret ?_
        exact g_post (Ho := []) (rs := [.tmp 2, .tmp 3]) rfl (.tmp rfl (.tmp rfl .nil)) ⟨by first | (rw [hno (fun hh => absurd (strOf_inj.2 hh.1) (by assumption))]; rfl) | (rw [hno (fun hh => by omega)]; rfl) | (rw [hyes ⟨strOf_inj.1 (by assumption), by omega, by omega⟩]; rfl), rfl⟩ (by repeat' (first | exact Cover.nil | exact Take.here | apply Cover.cons | apply Take.there))
      · refine g_yes rfl rfl ?_
        refine g_pure (p_move rfl) rfl ?_
        refine g_yes rfl rfl ?_
        refine g_pure (p_lss rfl rfl) rfl ?_
        first | refine g_pure (p_pickt rfl rfl) rfl ?_ | refine g_pure (p_pickf rfl rfl) rfl ?_
        refine g_pure (p_move rfl) rfl ?_
        refine g_splitd rfl rfl (fun h5 => ?_) (fun h5 => ?_)
        · refine g_no rfl rfl rfl rfl ?_
          refine g_no rfl rfl rfl rfl ?_
          first | refine g_pure (p_pickt rfl rfl) rfl ?_ | refine g_pure (p_pickf rfl rfl) rfl ?_
          refine g_nil ?_
          refine g_qt ?_
          refine g_ift rfl ?_
          refine g_seq ?_
          refine g_region ?_
          refine g_pure (p_assign rfl) rfl ?_
          refine g_pure (p_assign rfl) rfl ?_
          refine g_nil ?_
          refine g_qt ?_
          refine g_ret ?_
          refine g_qt_ret ?_
          exact g_post (Ho := []) (rs := [.tmp 2, .tmp 3]) rfl (.tmp rfl (.tmp rfl .nil)) ⟨by first | (rw [hno (fun hh => absurd (strOf_inj.2 hh.1) (by assumption))]; rfl) | (rw [hno (fun hh => by omega)]; rfl) | (rw [hyes ⟨strOf_inj.1 (by assumption), by omega, by omega⟩]; rfl), rfl⟩ (by repeat' (first | exact Cover.nil | exact Take.here | apply Cover.cons | apply Take.there))
        · refine g_yes rfl rfl ?_
          refine g_pure (p_move rfl) rfl ?_
          refine g_yes rfl rfl ?_
          refine g_pure (p_gtr rfl rfl) rfl ?_
          first | refine g_pure (p_pickt rfl rfl) rfl ?_ | refine g_pure (p_pickf rfl rfl) rfl ?_
          refine g_nil ?_
          refine g_qt ?_
          refine g_ifdL rfl (fun h7 => ?_) (fun h7 => ?_)
          · refine g_seq ?_
            refine g_region ?_
            refine g_pure (p_assign rfl) rfl ?_
            refine g_pure (p_assign rfl) rfl ?_
            refine g_nil ?_
            refine g_qt ?_
            refine g_ret ?_
            refine g_qt_ret ?_
            exact g_post (Ho := []) (rs := [.tmp 2, .tmp 3]) rfl (.tmp rfl (.tmp rfl .nil)) ⟨by first | (rw [hno (fun hh => absurd (strOf_inj.2 hh.1) (by assumption))]; rfl) | (rw [hno (fun hh => by omega)]; rfl) | (rw [hyes ⟨strOf_inj.1 (by assumption), by omega, by omega⟩]; rfl), rfl⟩ (by repeat' (first | exact Cover.nil | exact Take.here | apply Cover.cons | apply Take.there))
          · refine g_skip ?_
            refine g_qt ?_
            refine g_seq ?_
            refine g_region ?_
            refine g_pure (p_move rfl) rfl ?_
            refine g_pure (p_assign rfl) rfl ?_
            refine g_pure (p_assign rfl) rfl ?_
            refine g_nil ?_
            refine g_qt ?_
            refine g_ret ?_
            exact g_post (Ho := []) (rs := [.tmp 2, .tmp 3]) rfl (.tmp rfl (.tmp rfl .nil)) ⟨by first | (rw [hno (fun hh => absurd (strOf_inj.2 hh.1) (by assumption))]; rfl) | (rw [hno (fun hh => by omega)]; rfl) | (rw [hyes ⟨strOf_inj.1 (by assumption), by omega, by omega⟩]; rfl), rfl⟩ (by repeat' (first | exact Cover.nil | exact Take.here | apply Cover.cons | apply Take.there))
    · refine g_call (Hin := []) (Hr := ?hr3) (R := ?rr3) rfl rfl rfl ?hin3 ?hc3 ?hk3
      case hin3 => repeat' (first | exact Cover.nil | exact Take.here | apply Cover.cons | apply Take.there)
      case hc3 => intro ρ' hρ hR; exact atoi_bad (hk.mono hρ) l hs (fun n hn => ha ⟨n, hn⟩)
      rintro _ _ ⟨⟨n, t1, p1, rfl⟩, rfl⟩
      have e0 : numV l = none := by
        unfold numV; rw [if_neg (by omega)]
        split
        · rename_i e; exact absurd ⟨_, e⟩ ha
        · rfl
      refine g_pure (p_move rfl) rfl ?_
      refine g_pure (p_extract rfl rfl) rfl ?_
      refine g_pure (p_extract rfl rfl) rfl ?_
      refine g_pure (p_assign rfl) rfl ?_
      refine g_pure (p_assign rfl) rfl ?_
      refine g_nil ?_
      refine g_qt ?_
      refine g_seq ?_
      refine g_seq ?_
      refine g_region ?_
      refine g_pure (p_move rfl) rfl ?_
      refine g_pure (p_neqifT (by rfl) rfl rfl) rfl ?_
      refine g_pure (p_move rfl) rfl ?_
      refine g_no rfl rfl rfl rfl ?_
      refine g_no rfl rfl rfl rfl ?_
      refine g_no rfl rfl rfl rfl ?_
      refine g_no rfl rfl rfl rfl ?_
      first | refine g_pure (p_pickt rfl rfl) rfl ?_ | refine g_pure (p_pickf rfl rfl) rfl ?_
      refine g_pure (p_move rfl) rfl ?_
      refine g_no rfl rfl rfl rfl ?_
      refine g_no rfl rfl rfl rfl ?_
      first | refine g_pure (p_pickt rfl rfl) rfl ?_ | refine g_pure (p_pickf rfl rfl) rfl ?_
      refine g_pure (p_move rfl) rfl ?_
      refine g_no rfl rfl rfl rfl ?_
      refine g_no rfl rfl rfl rfl ?_
      first | refine g_pure (p_pickt rfl rfl) rfl ?_ | refine g_pure (p_pickf rfl rfl) rfl ?_
      refine g_nil ?_
      refine g_qt ?_
      refine g_ift rfl ?_
      refine g_seq ?_
      refine g_region ?_
      refine g_pure (p_assign rfl) rfl ?_
      refine g_pure (p_assign rfl) rfl ?_
      refine g_nil ?_
      refine g_qt ?_
      refine g_ret ?_
      refine g_qt_ret ?_
      exact g_post (Ho := []) (rs := [.tmp 2, .tmp 3]) rfl (.tmp rfl (.tmp rfl .nil)) ⟨by rw [numR_no e0]; rfl, rfl⟩ (by repeat' (first | exact Cover.nil | exact Take.here | apply Cover.cons | apply Take.there))
theorem next_ok {ρ : Nat → Obj → Prop} (hk : LibC ρ) (r : Nat) (l : List UInt8) (k : Int) (h0 : 0 ≤ k ∧ k ≤ 9000000000000000000) (hs : l.length < 4294967281) :
    Con Tryz.prog ρ 66 #[.pointer (some ⟨r, 0, none⟩)] [Blk r (.cells [.string (strOf l), .int .i64 k].toArray 97 (0, 0))]
      (fun v H => v = (if (Lib.cut l [10]).2.2 then .tuple #[.string (strOf (Lib.cut l [10]).1), .bool true] else .tuple #[.string (strOf []), .bool false]) ∧
        H = [Blk r (.cells [.string (strOf (if (Lib.cut l [10]).2.2 then (Lib.cut l [10]).2.1 else l)), .int .i64 (k + 1)].toArray 97 (0, 0))]) := by
  refine con_intro Tryz.func66 Tryz.call66 rfl Tryz.ntmps66 rfl (L := [(0, _)]) rfl fun w hh => ?_
  refine g_seq ?_
  refine g_region ?_
  refine g_pure (p_assign rfl) rfl ?_
  refine g_pure (p_assign rfl) rfl ?_
  refine g_nil ?_
  refine g_qt ?_
  refine g_seq ?_
  refine g_region ?_
  refine g_pure (p_move rfl) rfl ?_
  refine g_pure (p_nilCheck rfl) rfl ?_
  refine g_pure (p_fieldAddr rfl) rfl ?_
  refine g_pure (p_load (by rfl) rfl (by first | (apply Has.own; (repeat' (first | exact Take.here | apply Take.there)); done) | exact Has.ro (by assumption)) (by first | rfl | assumption)) rfl ?_
  first | refine g_pure (p_addi rfl rfl (by omega)) rfl ?_ | refine g_pure (p_add rfl rfl) rfl ?_
  refine g_pure (p_nilCheck rfl) rfl ?_
  refine g_pure (p_fieldAddr rfl) rfl ?_
  first | refine g_eff0 (e_storeO rfl rfl (by rfl) (by rfl) (by rfl) (by repeat' (first | exact Take.here | apply Take.there)) (by rfl)) (fun _ _ => ?_) | refine g_eff0 (e_store1 (by rfl) rfl rfl rfl (by repeat' (first | exact Take.here | apply Take.there)) (by first | decide | (simp <;> omega) | omega)) (fun _ _ => ?_)
  rintro rfl
  refine g_nil ?_
  refine g_qt ?_
  refine g_seq ?_
  refine g_region ?_
  refine g_pure (p_move rfl) rfl ?_
  refine g_pure (p_nilCheck rfl) rfl ?_
  refine g_pure (p_fieldAddr rfl) rfl ?_
  refine g_pure (p_load (by rfl) rfl (by first | (apply Has.own; (repeat' (first | exact Take.here | apply Take.there)); done) | exact Has.ro (by assumption)) (by first | rfl | assumption)) rfl ?_
  refine g_call (Hin := []) (Hr := ?hr4) (R := ?rr4) rfl rfl rfl ?hin4 ?hc4 ?hk4
  case hin4 => repeat' (first | exact Cover.nil | exact Take.here | apply Cover.cons | apply Take.there)
  case hc4 => intro ρ' hρ hR; exact cut_ok (hk.mono hρ) (strOf l) ⟨#[10]⟩ hs
  rintro _ _ ⟨rfl, rfl⟩
  refine g_pure (p_move rfl) rfl ?_
  refine g_pure (p_extract rfl rfl) rfl ?_
  refine g_pure (p_extract rfl rfl) rfl ?_
  refine g_pure (p_extract rfl rfl) rfl ?_
  refine g_pure (p_assign rfl) rfl ?_
  refine g_pure (p_assign rfl) rfl ?_
  refine g_pure (p_assign rfl) rfl ?_
  refine g_nil ?_
  refine g_qt ?_
  refine g_seq ?_
  refine g_seq ?_
  refine g_region ?_
  refine g_pure (p_move rfl) rfl ?_
  refine g_pure (p_not rfl) rfl ?_
  refine g_nil ?_
  refine g_qt ?_
  have e1 : Lib.cut (strOf l).data.toList (⟨#[10]⟩ : ByteArray).data.toList = Lib.cut l [10] := rfl
  rw [e1]
  cases hc : (Lib.cut l [10]).2.2
  · refine g_ift rfl ?_
    refine g_seq ?_
    refine g_region ?_
    refine g_pure (p_assign rfl) rfl ?_
    refine g_pure (p_assign rfl) rfl ?_
    refine g_nil ?_
    refine g_qt ?_
    refine g_ret ?_
    refine g_qt_ret ?_
    exact g_post (rs := [.tmp 2, .tmp 3]) rfl (.tmp rfl (.tmp rfl .nil)) ⟨rfl, rfl⟩ (by repeat' (first | exact Cover.nil | exact Take.here | apply Cover.cons | apply Take.there))
  · refine g_iff rfl ?_
    refine g_skip ?_
    refine g_qt ?_
    refine g_seq ?_
    refine g_region ?_
    refine g_pure (p_move rfl) rfl ?_
    refine g_pure (p_move rfl) rfl ?_
    refine g_pure (p_nilCheck rfl) rfl ?_
    refine g_pure (p_fieldAddr rfl) rfl ?_
    first | refine g_eff0 (e_storeO rfl rfl (by rfl) (by rfl) (by rfl) (by repeat' (first | exact Take.here | apply Take.there)) (by rfl)) (fun _ _ => ?_) | refine g_eff0 (e_store1 (by rfl) rfl rfl rfl (by repeat' (first | exact Take.here | apply Take.there)) (by first | decide | (simp <;> omega) | omega)) (fun _ _ => ?_)
    rintro rfl
    refine g_nil ?_
    refine g_qt ?_
    refine g_seq ?_
    refine g_region ?_
    refine g_pure (p_move rfl) rfl ?_
    refine g_pure (p_assign rfl) rfl ?_
    refine g_pure (p_assign rfl) rfl ?_
    refine g_nil ?_
    refine g_qt ?_
    refine g_ret ?_
    exact g_post (rs := [.tmp 2, .tmp 3]) rfl (.tmp rfl (.tmp rfl .nil)) ⟨rfl, rfl⟩ (by repeat' (first | exact Cover.nil | exact Take.here | apply Cover.cons | apply Take.there))
end Go.Proofs.YtopgbgnmjogeeaaGreatDoor
/- Chapter 36: the reader's first line. Conditions: none. -/
namespace Go.Z
set_option maxRecDepth 8000
set_option linter.unusedVariables false
set_option linter.unusedSimpArgs false
set_option linter.unusedSectionVars false
open Go
variable {P : Program} {n : Nat} {L : Fr} {H : List Assn} {M : Mx}
variable {dd : Option Tmp} {ty t : TypeId} {ps : String} {af : Array Edge} {gd : Option (Nat × Bool)} {x y : Operand} {tz : TypeId} {yt : Ty}
theorem p_neqsT {i j : ByteArray} [ht : TyC P t yt] (hd : yt.d = .string) (h1 : ev L x = some (.string i)) (h2 : ev L y = some (.string j)) (h : i ≠ j) : Pur P M n L H ⟨dd, .binOp .neq t x y tz, ty, ps, af, gd⟩ (.bool true) := by
  have := p_neqs (P := P) (M := M) (n := n) (H := H) (dd := dd) (t := t) (tz := tz) (ty := ty) (ps := ps) (af := af) (gd := gd) hd h1 h2
  rwa [decide_eq_false h] at this
end Go.Z
namespace Go.Proofs.YtopgbgnmjogeeaaGreatDoor
set_option maxRecDepth 8000
set_option linter.unusedVariables false
set_option linter.unusedSimpArgs false
set_option linter.unusedSectionVars false
open Go Go.Z Go.Z.Txt Go.Z.Sat Go.RowKit

theorem split_w {ρ : Nat → Obj → Prop} (hk : LibC ρ) (l : List UInt8) (c : UInt8) (hs : l.length < 4294967281) : Con Tryz.prog ρ 67 #[.string (strOf l), .string ⟨#[c]⟩] []
    (fun v H => ∃ (b : Nat), v = .slice (some ⟨b, 0, none⟩) (pieces c l).length (pieces c l).length ∧ H = [Blk b (.cells ((pieces c l).map fun x => Value.string (strOf x)).toArray 9 (0, 0))]) :=
  (split_ok hk (strOf l) c hs).mono fun v H ⟨b, ws, h1, h2, h3⟩ => by
    have e1 : pieces c l = ws.map (·.data.toList) := h1.symm
    refine ⟨b, ?_, ?_⟩
    · rw [e1, List.length_map]; exact h2
    · rw [e1, List.map_map]; exact h3
/-- what the first line gives -/
def headR (s : List UInt8) : Value := match headV s with
  | .error e => .tuple #[.int .i64 0, .int .i64 0, .int .i64 e]
  | .ok (x, y) => .tuple #[.int .i64 x, .int .i64 y, .int .i64 0]
theorem headR_err {s : List UInt8} {e : Int} (h : headV s = .error e) : headR s = .tuple #[.int .i64 0, .int .i64 0, .int .i64 e] := by unfold headR; rw [h]
theorem headR_ok {s : List UInt8} {x y : Int} (h : headV s = .ok (x, y)) : headR s = .tuple #[.int .i64 x, .int .i64 y, .int .i64 0] := by unfold headR; rw [h]
theorem numR_yes {l : List UInt8} {n : Int} (h : numV l = some n) : numR l = .tuple #[.int .i64 n, .bool true] := by unfold numR; rw [h]
theorem number_no {ρ : Nat → Obj → Prop} (hk : LibC ρ) (l : List UInt8) (hs : l.length ≤ 281474976710656) (h : numV l = none) : Con Tryz.prog ρ 68 #[.string (strOf l)] [] (fun v H => v = .tuple #[.int .i64 0, .bool false] ∧ H = []) :=
  (number_ok hk l hs).mono fun v H h1 => by rw [numR_no h] at h1; exact h1
theorem number_yes {ρ : Nat → Obj → Prop} (hk : LibC ρ) (l : List UInt8) (hs : l.length ≤ 281474976710656) {n : Int} (h : numV l = some n) : Con Tryz.prog ρ 68 #[.string (strOf l)] [] (fun v H => v = .tuple #[.int .i64 n, .bool true] ∧ H = []) :=
  (number_ok hk l hs).mono fun v H h1 => by rw [numR_yes h] at h1; exact h1
theorem next_no {ρ : Nat → Obj → Prop} (hk : LibC ρ) (r : Nat) (l : List UInt8) (k : Int) (h0 : 0 ≤ k ∧ k ≤ 9000000000000000000) (hs : l.length < 4294967281) (hf : (10 : UInt8) ∉ l) :
    Con Tryz.prog ρ 66 #[.pointer (some ⟨r, 0, none⟩)] [Blk r (.cells [.string (strOf l), .int .i64 k].toArray 97 (0, 0))]
      (fun v H => v = .tuple #[.string (strOf []), .bool false] ∧ H = [Blk r (.cells [.string (strOf l), .int .i64 (k + 1)].toArray 97 (0, 0))]) :=
  (next_ok hk r l k h0 hs).mono fun v H h => by rw [cut_free hf] at h; exact h
theorem next_yes {ρ : Nat → Obj → Prop} (hk : LibC ρ) (r : Nat) (s t : List UInt8) (k : Int) (h0 : 0 ≤ k ∧ k ≤ 9000000000000000000) (hs : (s ++ 10 :: t).length < 4294967281) (hf : (10 : UInt8) ∉ s) :
    Con Tryz.prog ρ 66 #[.pointer (some ⟨r, 0, none⟩)] [Blk r (.cells [.string (strOf (s ++ 10 :: t)), .int .i64 k].toArray 97 (0, 0))]
      (fun v H => v = .tuple #[.string (strOf s), .bool true] ∧ H = [Blk r (.cells [.string (strOf t), .int .i64 (k + 1)].toArray 97 (0, 0))]) :=
  (next_ok hk r (s ++ 10 :: t) k h0 hs).mono fun v H h => by rw [cut_hit t hf] at h; exact h

theorem head_no {ρ : Nat → Obj → Prop} (hk : LibC ρ) (r : Nat) (l : List UInt8) (hs : l.length < 4294967281) (hf : (10 : UInt8) ∉ l) :
    Con Tryz.prog ρ 46 #[.pointer (some ⟨r, 0, none⟩)] [Blk r (.cells [.string (strOf l), .int .i64 0].toArray 97 (0, 0))]
      (fun v H => v = .tuple #[.int .i64 0, .int .i64 0, .int .i64 4] ∧ H = [Blk r (.cells [.string (strOf l), .int .i64 1].toArray 97 (0, 0))]) := by
  refine con_intro Tryz.func46 Tryz.call46 rfl Tryz.ntmps46 rfl (L := [(0, _)]) rfl fun w hh => ?_
  refine g_seq ?_
  refine g_region ?_
  refine g_pure (p_assign rfl) rfl ?_
  refine g_pure (p_assign rfl) rfl ?_
  refine g_pure (p_assign rfl) rfl ?_
  refine g_nil ?_
  refine g_qt ?_
  refine g_seq ?_
  refine g_region ?_
  refine g_pure (p_move rfl) rfl ?_
  refine g_call (Hin := ?hi1) (Hr := ?hr1) (R := ?rr1) rfl rfl rfl ?hin1 ?hc1 ?hk1
  case hc1 => intro ρ' hρ hR; exact next_no (hk.mono hρ) r l 0 (by decide) hs hf
  case hin1 => repeat' (first | exact Cover.nil | exact Take.here | apply Cover.cons | apply Take.there)
  rintro _ _ ⟨rfl, rfl⟩
  refine g_pure (p_move rfl) rfl ?_
  refine g_pure (p_extract rfl rfl) rfl ?_
  refine g_pure (p_extract rfl rfl) rfl ?_
  refine g_pure (p_assign rfl) rfl ?_
  refine g_pure (p_assign rfl) rfl ?_
  refine g_nil ?_
  refine g_qt ?_
  refine g_seq ?_
  refine g_seq ?_
  refine g_region ?_
  refine g_pure (p_move rfl) rfl ?_
  refine g_pure (p_not rfl) rfl ?_
  refine g_nil ?_
  refine g_qt ?_
  refine g_ift rfl ?_
  refine g_seq ?_
  refine g_region ?_
  refine g_pure (p_assign rfl) rfl ?_
  refine g_pure (p_assign rfl) rfl ?_
  refine g_pure (p_assign rfl) rfl ?_
  refine g_nil ?_
  refine g_qt ?_
  refine g_ret ?_
  refine g_qt_ret ?_
  exact g_post (rs := [.tmp 2, .tmp 3, .tmp 4]) rfl (.tmp rfl (.tmp rfl (.tmp rfl .nil))) ⟨rfl, rfl⟩ (by repeat' (first | exact Cover.nil | exact Take.here | apply Cover.cons | apply Take.there))
theorem head_yes {ρ : Nat → Obj → Prop} (hk : LibC ρ) (r : Nat) (s t : List UInt8) (hs : (s ++ 10 :: t).length < 4294967281) (hf : (10 : UInt8) ∉ s) :
    Con Tryz.prog ρ 46 #[.pointer (some ⟨r, 0, none⟩)] [Blk r (.cells [.string (strOf (s ++ 10 :: t)), .int .i64 0].toArray 97 (0, 0))]
      (fun v H => v = headR s ∧ H = [Blk r (.cells [.string (strOf t), .int .i64 1].toArray 97 (0, 0))]) := by
  have hsl : s.length < 4294967281 := by rw [List.length_append] at hs; omega
  have hmem : ∀ x ∈ pieces 32 s, x.length ≤ s.length := fun x hx => (pieces_mem hx).2
  have hH : headV s = match pieces 32 s with
    | [p, q, a, b] => if p = [112] ∧ q = [99, 110, 102] then (match numV a, numV b with
      | some x, some y => if x < 0 ∨ y < 0 then .error 5 else if 262144 < x then .error 3 else .ok (x, y)
      | _, _ => .error 5) else .error 5
    | _ => .error 5 := rfl
  have hpl : (pieces 32 s).length ≤ 9223372036854775807 := by
    have : ∀ l : List UInt8, (pieces 32 l).length ≤ l.length + 1 := by
      intro l
      induction l with
      | nil => simp [pieces]
      | cons b l ih =>
        rw [pieces]
        split
        · simp; omega
        · cases h : pieces 32 l with
          | nil => simp
          | cons y r => rw [h] at ih; simp at ih ⊢; omega
    have := this s; omega
  refine con_intro Tryz.func46 Tryz.call46 rfl Tryz.ntmps46 rfl (L := [(0, _)]) rfl fun w hh => ?_
  refine g_seq ?_
  refine g_region ?_
  refine g_pure (p_assign rfl) rfl ?_
  refine g_pure (p_assign rfl) rfl ?_
  refine g_pure (p_assign rfl) rfl ?_
  refine g_nil ?_
  refine g_qt ?_
  refine g_seq ?_
  refine g_region ?_
  refine g_pure (p_move rfl) rfl ?_
  refine g_call (Hin := ?hi2) (Hr := ?hr2) (R := ?rr2) rfl rfl rfl ?hin2 ?hc2 ?hk2
  case hc2 => intro ρ' hρ hR; exact next_yes (hk.mono hρ) r s t 0 (by decide) hs hf
  case hin2 => repeat' (first | exact Cover.nil | exact Take.here | apply Cover.cons | apply Take.there)
  rintro _ _ ⟨rfl, rfl⟩
  refine g_pure (p_move rfl) rfl ?_
  refine g_pure (p_extract rfl rfl) rfl ?_
  refine g_pure (p_extract rfl rfl) rfl ?_
  refine g_pure (p_assign rfl) rfl ?_
  refine g_pure (p_assign rfl) rfl ?_
  refine g_nil ?_
  refine g_qt ?_
  refine g_seq ?_
  refine g_seq ?_
  refine g_region ?_
  refine g_pure (p_move rfl) rfl ?_
  refine g_pure (p_not rfl) rfl ?_
  refine g_nil ?_
  refine g_qt ?_
  refine g_iff rfl ?_
  refine g_skip ?_
  refine g_qt ?_
  refine g_seq ?_
  refine g_region ?_
  refine g_pure (p_move rfl) rfl ?_
  refine g_call (Hin := []) (Hr := ?hr3) (R := ?rr3) rfl rfl rfl ?hin3 ?hc3 ?hk3
  case hin3 => repeat' (first | exact Cover.nil | exact Take.here | apply Cover.cons | apply Take.there)
  case hc3 => intro ρ' hρ hR; exact split_w (hk.mono hρ) s 32 hsl
  rintro _ _ ⟨b18, rfl, rfl⟩
  by_cases h4 : (pieces 32 s).length = 4
  · generalize pieces 32 s = L at h4 hH hmem hpl
    obtain ⟨p, q, a, b, rfl⟩ : ∃ p q a b, L = [p, q, a, b] := by
      match L, h4 with
      | [p, q, a, b], _ => exact ⟨p, q, a, b, rfl⟩
    dsimp only at hH
    have ha := hmem a (by simp)
    have hb := hmem b (by simp)
    by_cases hp : p = [112]
    · subst hp
      by_cases hq : q = [99, 110, 102]
      · subst hq
        rw [if_pos ⟨rfl, rfl⟩] at hH
        refine g_pure (p_assign rfl) rfl ?_
        refine g_nil ?_
        refine g_qt ?_
        refine g_seq ?_
        refine g_seq ?_
        refine g_region ?_
        refine g_pure (p_move rfl) rfl ?_
        refine g_pure (p_len (by rfl) rfl) rfl ?_
        refine g_pure (p_neqF rfl rfl (by rfl)) rfl ?_
        refine g_pure (p_move rfl) rfl ?_
        refine g_yes rfl rfl ?_
        refine g_pure (p_move rfl) rfl ?_
        refine g_yes rfl rfl ?_
        refine g_pure (p_indexAddr rfl rfl (by omega) (by first | exact fun _ => rfl | assumption)) rfl ?_
        refine g_yes rfl rfl ?_
        refine g_pure (p_load (by rfl) rfl (by first | (apply Has.own; (repeat' (first | exact Take.here | apply Take.there)); done) | exact Has.ro (by assumption)) (by first | rfl | assumption)) rfl ?_
        refine g_yes rfl rfl ?_
        refine g_pure (p_neqsF (by rfl) rfl rfl rfl) rfl ?_
        first | refine g_pure (p_pickt rfl rfl) rfl ?_ | refine g_pure (p_pickf rfl rfl) rfl ?_
        refine g_pure (p_move rfl) rfl ?_
        refine g_yes rfl rfl ?_
        refine g_pure (p_move rfl) rfl ?_
        refine g_yes rfl rfl ?_
        refine g_pure (p_indexAddr rfl rfl (by omega) (by first | exact fun _ => rfl | assumption)) rfl ?_
        refine g_yes rfl rfl ?_
        refine g_pure (p_load (by rfl) rfl (by first | (apply Has.own; (repeat' (first | exact Take.here | apply Take.there)); done) | exact Has.ro (by assumption)) (by first | rfl | assumption)) rfl ?_
        refine g_yes rfl rfl ?_
        refine g_pure (p_neqsF (by rfl) rfl rfl rfl) rfl ?_
        first | refine g_pure (p_pickt rfl rfl) rfl ?_ | refine g_pure (p_pickf rfl rfl) rfl ?_
        refine g_nil ?_
        refine g_qt ?_
        refine g_iff rfl ?_
        refine g_skip ?_
        refine g_qt ?_
        refine g_seq ?_
        refine g_region ?_
        refine g_pure (p_move rfl) rfl ?_
        refine g_pure (p_indexAddr rfl rfl (by omega) (by first | exact fun _ => rfl | assumption)) rfl ?_
        refine g_pure (p_load (by rfl) rfl (by first | (apply Has.own; (repeat' (first | exact Take.here | apply Take.there)); done) | exact Has.ro (by assumption)) (by first | rfl | assumption)) rfl ?_
        cases hA : numV a with
        | none =>
          refine g_call (Hin := []) (Hr := ?hr4) (R := ?rr4) rfl rfl rfl ?hin4 ?hc4 ?hk4
          case hin4 => repeat' (first | exact Cover.nil | exact Take.here | apply Cover.cons | apply Take.there)
          case hc4 => intro ρ' hρ hR; exact number_no (hk.mono hρ) a (by omega) hA
          rintro _ _ ⟨rfl, rfl⟩
          refine g_pure (p_move rfl) rfl ?_
          refine g_pure (p_extract rfl rfl) rfl ?_
          refine g_pure (p_extract rfl rfl) rfl ?_
          refine g_pure (p_assign rfl) rfl ?_
          refine g_pure (p_assign rfl) rfl ?_
          refine g_nil ?_
          refine g_qt ?_
          refine g_seq ?_
          refine g_region ?_
          refine g_pure (p_move rfl) rfl ?_
          refine g_pure (p_indexAddr rfl rfl (by omega) (by first | exact fun _ => rfl | assumption)) rfl ?_
          refine g_pure (p_load (by rfl) rfl (by first | (apply Has.own; (repeat' (first | exact Take.here | apply Take.there)); done) | exact Has.ro (by assumption)) (by first | rfl | assumption)) rfl ?_
          cases hB : numV b with
          | none =>
            rw [hA, hB] at hH
            dsimp only at hH
            refine g_call (Hin := []) (Hr := ?hr5) (R := ?rr5) rfl rfl rfl ?hin5 ?hc5 ?hk5
            case hin5 => repeat' (first | exact Cover.nil | exact Take.here | apply Cover.cons | apply Take.there)
            case hc5 => intro ρ' hρ hR; exact number_no (hk.mono hρ) b (by omega) hB
            rintro _ _ ⟨rfl, rfl⟩
            refine g_pure (p_move rfl) rfl ?_
            refine g_pure (p_extract rfl rfl) rfl ?_
            refine g_pure (p_extract rfl rfl) rfl ?_
            refine g_pure (p_assign rfl) rfl ?_
            refine g_pure (p_assign rfl) rfl ?_
            refine g_nil ?_
            refine g_qt ?_
            refine g_seq ?_
            refine g_seq ?_
            refine g_region ?_
            refine g_pure (p_move rfl) rfl ?_
            refine g_pure (p_not rfl) rfl ?_
            refine g_pure (p_move rfl) rfl ?_
            refine g_split rfl rfl (fun h1 => ?_) (fun h1 => ?_)
            · refine g_no rfl rfl rfl rfl ?_
              refine g_no rfl rfl rfl rfl ?_
              first | refine g_pure (p_pickt rfl rfl) rfl ?_ | refine g_pure (p_pickf rfl rfl) rfl ?_
              refine g_pure (p_move rfl) rfl ?_
              refine g_no rfl rfl rfl rfl ?_
              refine g_no rfl rfl rfl rfl ?_
              first | refine g_pure (p_pickt rfl rfl) rfl ?_ | refine g_pure (p_pickf rfl rfl) rfl ?_
              refine g_pure (p_move rfl) rfl ?_
              refine g_no rfl rfl rfl rfl ?_
              refine g_no rfl rfl rfl rfl ?_
              first | refine g_pure (p_pickt rfl rfl) rfl ?_ | refine g_pure (p_pickf rfl rfl) rfl ?_
              refine g_nil ?_
              refine g_qt ?_
              refine g_ift rfl ?_
              refine g_seq ?_
              refine g_region ?_
              refine g_pure (p_assign rfl) rfl ?_
              refine g_pure (p_assign rfl) rfl ?_
              refine g_pure (p_assign rfl) rfl ?_
              refine g_nil ?_
              refine g_qt ?_
              refine g_ret ?_
              refine g_qt_ret ?_
              exact g_post (rs := [.tmp 2, .tmp 3, .tmp 4]) rfl (.tmp rfl (.tmp rfl (.tmp rfl .nil))) ⟨by first | exact absurd (by assumption : (!false) = false) (by decide) | exact absurd (by assumption : (!true) = true) (by decide) | (rw [headR_err hH]; rfl), rfl⟩ (by repeat' (first | exact Cover.nil | exact Take.here | apply Cover.cons | apply Take.there))
            · refine g_yes rfl rfl ?_
              refine g_pure (p_move rfl) rfl ?_
              refine g_yes rfl rfl ?_
              refine g_pure (p_not rfl) rfl ?_
              first | refine g_pure (p_pickt rfl rfl) rfl ?_ | refine g_pure (p_pickf rfl rfl) rfl ?_
              refine g_pure (p_move rfl) rfl ?_
              refine g_split rfl rfl (fun h5 => ?_) (fun h5 => ?_)
              · refine g_no rfl rfl rfl rfl ?_
                refine g_no rfl rfl rfl rfl ?_
                first | refine g_pure (p_pickt rfl rfl) rfl ?_ | refine g_pure (p_pickf rfl rfl) rfl ?_
                refine g_pure (p_move rfl) rfl ?_
                refine g_no rfl rfl rfl rfl ?_
                refine g_no rfl rfl rfl rfl ?_
                first | refine g_pure (p_pickt rfl rfl) rfl ?_ | refine g_pure (p_pickf rfl rfl) rfl ?_
                refine g_nil ?_
                refine g_qt ?_
                refine g_ift rfl ?_
                refine g_seq ?_
                refine g_region ?_
                refine g_pure (p_assign rfl) rfl ?_
                refine g_pure (p_assign rfl) rfl ?_
                refine g_pure (p_assign rfl) rfl ?_
                refine g_nil ?_
                refine g_qt ?_
                refine g_ret ?_
                refine g_qt_ret ?_
                exact g_post (rs := [.tmp 2, .tmp 3, .tmp 4]) rfl (.tmp rfl (.tmp rfl (.tmp rfl .nil))) ⟨by first | exact absurd (by assumption : (!false) = false) (by decide) | exact absurd (by assumption : (!true) = true) (by decide) | (rw [headR_err hH]; rfl), rfl⟩ (by repeat' (first | exact Cover.nil | exact Take.here | apply Cover.cons | apply Take.there))
              · refine g_yes rfl rfl ?_
                refine g_pure (p_move rfl) rfl ?_
                refine g_yes rfl rfl ?_
                refine g_pure (p_lss rfl rfl) rfl ?_
                first | refine g_pure (p_pickt rfl rfl) rfl ?_ | refine g_pure (p_pickf rfl rfl) rfl ?_
                refine g_pure (p_move rfl) rfl ?_
                refine g_splitd rfl rfl (fun h8 => ?_) (fun h8 => ?_)
                · refine g_no rfl rfl rfl rfl ?_
                  refine g_no rfl rfl rfl rfl ?_
                  first | refine g_pure (p_pickt rfl rfl) rfl ?_ | refine g_pure (p_pickf rfl rfl) rfl ?_
                  refine g_nil ?_
                  refine g_qt ?_
                  refine g_ift rfl ?_
                  refine g_seq ?_
                  refine g_region ?_
                  refine g_pure (p_assign rfl) rfl ?_
                  refine g_pure (p_assign rfl) rfl ?_
                  refine g_pure (p_assign rfl) rfl ?_
                  refine g_nil ?_
                  refine g_qt ?_
                  refine g_ret ?_
                  refine g_qt_ret ?_
                  exact g_post (rs := [.tmp 2, .tmp 3, .tmp 4]) rfl (.tmp rfl (.tmp rfl (.tmp rfl .nil))) ⟨by first | exact absurd (by assumption : (!false) = false) (by decide) | exact absurd (by assumption : (!true) = true) (by decide) | (rw [headR_err hH]; rfl), rfl⟩ (by repeat' (first | exact Cover.nil | exact Take.here | apply Cover.cons | apply Take.there))
                · refine g_yes rfl rfl ?_
                  refine g_pure (p_move rfl) rfl ?_
                  refine g_yes rfl rfl ?_
                  refine g_pure (p_lss rfl rfl) rfl ?_
                  first | refine g_pure (p_pickt rfl rfl) rfl ?_ | refine g_pure (p_pickf rfl rfl) rfl ?_
                  refine g_nil ?_
                  refine g_qt ?_
                  refine g_ifdL rfl (fun h10 => ?_) (fun h10 => ?_)
                  · refine g_seq ?_
                    refine g_region ?_
                    refine g_pure (p_assign rfl) rfl ?_
                    refine g_pure (p_assign rfl) rfl ?_
                    refine g_pure (p_assign rfl) rfl ?_
                    refine g_nil ?_
                    refine g_qt ?_
                    refine g_ret ?_
                    refine g_qt_ret ?_
                    exact g_post (rs := [.tmp 2, .tmp 3, .tmp 4]) rfl (.tmp rfl (.tmp rfl (.tmp rfl .nil))) ⟨by first | exact absurd (by assumption : (!false) = false) (by decide) | exact absurd (by assumption : (!true) = true) (by decide) | (rw [headR_err hH]; rfl), rfl⟩ (by repeat' (first | exact Cover.nil | exact Take.here | apply Cover.cons | apply Take.there))
                  · refine g_skip ?_
                    refine g_qt ?_
                    refine g_seq ?_
                    refine g_seq ?_
                    refine g_region ?_
                    refine g_pure (p_move rfl) rfl ?_
                    refine g_pure (p_gtr rfl rfl) rfl ?_
                    refine g_nil ?_
                    refine g_qt ?_
                    refine g_ifdL rfl (fun h11 => ?_) (fun h11 => ?_)
                    · refine g_seq ?_
                      refine g_region ?_
                      refine g_pure (p_assign rfl) rfl ?_
                      refine g_pure (p_assign rfl) rfl ?_
                      refine g_pure (p_assign rfl) rfl ?_
                      refine g_nil ?_
                      refine g_qt ?_
                      refine g_ret ?_
                      refine g_qt_ret ?_
                      exact g_post (rs := [.tmp 2, .tmp 3, .tmp 4]) rfl (.tmp rfl (.tmp rfl (.tmp rfl .nil))) ⟨by first | exact absurd (by assumption : (!false) = false) (by decide) | exact absurd (by assumption : (!true) = true) (by decide) | (rw [headR_err hH]; rfl), rfl⟩ (by repeat' (first | exact Cover.nil | exact Take.here | apply Cover.cons | apply Take.there))
                    · refine g_skip ?_
                      refine g_qt ?_
                      refine g_seq ?_
                      refine g_region ?_
                      refine g_pure (p_move rfl) rfl ?_
                      refine g_pure (p_move rfl) rfl ?_
                      refine g_pure (p_assign rfl) rfl ?_
                      refine g_pure (p_assign rfl) rfl ?_
                      refine g_pure (p_assign rfl) rfl ?_
                      refine g_nil ?_
                      refine g_qt ?_
                      refine g_ret ?_
                      exact g_post (rs := [.tmp 2, .tmp 3, .tmp 4]) rfl (.tmp rfl (.tmp rfl (.tmp rfl .nil))) ⟨by first | exact absurd (by assumption : (!false) = false) (by decide) | exact absurd (by assumption : (!true) = true) (by decide) | (rw [headR_err hH]; rfl), rfl⟩ (by repeat' (first | exact Cover.nil | exact Take.here | apply Cover.cons | apply Take.there))
          | some y =>
            rw [hA, hB] at hH
            dsimp only at hH
            refine g_call (Hin := []) (Hr := ?hr6) (R := ?rr6) rfl rfl rfl ?hin6 ?hc6 ?hk6
            case hin6 => repeat' (first | exact Cover.nil | exact Take.here | apply Cover.cons | apply Take.there)
            case hc6 => intro ρ' hρ hR; exact number_yes (hk.mono hρ) b (by omega) hB
            rintro _ _ ⟨rfl, rfl⟩
            refine g_pure (p_move rfl) rfl ?_
            refine g_pure (p_extract rfl rfl) rfl ?_
            refine g_pure (p_extract rfl rfl) rfl ?_
            refine g_pure (p_assign rfl) rfl ?_
            refine g_pure (p_assign rfl) rfl ?_
            refine g_nil ?_
            refine g_qt ?_
            refine g_seq ?_
            refine g_seq ?_
            refine g_region ?_
            refine g_pure (p_move rfl) rfl ?_
            refine g_pure (p_not rfl) rfl ?_
            refine g_pure (p_move rfl) rfl ?_
            refine g_split rfl rfl (fun h1 => ?_) (fun h1 => ?_)
            · refine g_no rfl rfl rfl rfl ?_
              refine g_no rfl rfl rfl rfl ?_
              first | refine g_pure (p_pickt rfl rfl) rfl ?_ | refine g_pure (p_pickf rfl rfl) rfl ?_
              refine g_pure (p_move rfl) rfl ?_
              refine g_no rfl rfl rfl rfl ?_
              refine g_no rfl rfl rfl rfl ?_
              first | refine g_pure (p_pickt rfl rfl) rfl ?_ | refine g_pure (p_pickf rfl rfl) rfl ?_
              refine g_pure (p_move rfl) rfl ?_
              refine g_no rfl rfl rfl rfl ?_
              refine g_no rfl rfl rfl rfl ?_
              first | refine g_pure (p_pickt rfl rfl) rfl ?_ | refine g_pure (p_pickf rfl rfl) rfl ?_
              refine g_nil ?_
              refine g_qt ?_
              refine g_ift rfl ?_
              refine g_seq ?_
              refine g_region ?_
              refine g_pure (p_assign rfl) rfl ?_
              refine g_pure (p_assign rfl) rfl ?_
              refine g_pure (p_assign rfl) rfl ?_
              refine g_nil ?_
              refine g_qt ?_
              refine g_ret ?_
              refine g_qt_ret ?_
              exact g_post (rs := [.tmp 2, .tmp 3, .tmp 4]) rfl (.tmp rfl (.tmp rfl (.tmp rfl .nil))) ⟨by first | exact absurd (by assumption : (!false) = false) (by decide) | exact absurd (by assumption : (!true) = true) (by decide) | (rw [headR_err hH]; rfl), rfl⟩ (by repeat' (first | exact Cover.nil | exact Take.here | apply Cover.cons | apply Take.there))
            · refine g_yes rfl rfl ?_
              refine g_pure (p_move rfl) rfl ?_
              refine g_yes rfl rfl ?_
              refine g_pure (p_not rfl) rfl ?_
              first | refine g_pure (p_pickt rfl rfl) rfl ?_ | refine g_pure (p_pickf rfl rfl) rfl ?_
              refine g_pure (p_move rfl) rfl ?_
              refine g_split rfl rfl (fun h5 => ?_) (fun h5 => ?_)
              · refine g_no rfl rfl rfl rfl ?_
                refine g_no rfl rfl rfl rfl ?_
                first | refine g_pure (p_pickt rfl rfl) rfl ?_ | refine g_pure (p_pickf rfl rfl) rfl ?_
                refine g_pure (p_move rfl) rfl ?_
                refine g_no rfl rfl rfl rfl ?_
                refine g_no rfl rfl rfl rfl ?_
                first | refine g_pure (p_pickt rfl rfl) rfl ?_ | refine g_pure (p_pickf rfl rfl) rfl ?_
                refine g_nil ?_
                refine g_qt ?_
                refine g_ift rfl ?_
                refine g_seq ?_
                refine g_region ?_
                refine g_pure (p_assign rfl) rfl ?_
                refine g_pure (p_assign rfl) rfl ?_
                refine g_pure (p_assign rfl) rfl ?_
                refine g_nil ?_
                refine g_qt ?_
                refine g_ret ?_
                refine g_qt_ret ?_
                exact g_post (rs := [.tmp 2, .tmp 3, .tmp 4]) rfl (.tmp rfl (.tmp rfl (.tmp rfl .nil))) ⟨by first | exact absurd (by assumption : (!false) = false) (by decide) | exact absurd (by assumption : (!true) = true) (by decide) | (rw [headR_err hH]; rfl), rfl⟩ (by repeat' (first | exact Cover.nil | exact Take.here | apply Cover.cons | apply Take.there))
              · refine g_yes rfl rfl ?_
                refine g_pure (p_move rfl) rfl ?_
                refine g_yes rfl rfl ?_
                refine g_pure (p_lss rfl rfl) rfl ?_
                first | refine g_pure (p_pickt rfl rfl) rfl ?_ | refine g_pure (p_pickf rfl rfl) rfl ?_
                refine g_pure (p_move rfl) rfl ?_
                refine g_splitd rfl rfl (fun h8 => ?_) (fun h8 => ?_)
                · refine g_no rfl rfl rfl rfl ?_
                  refine g_no rfl rfl rfl rfl ?_
                  first | refine g_pure (p_pickt rfl rfl) rfl ?_ | refine g_pure (p_pickf rfl rfl) rfl ?_
                  refine g_nil ?_
                  refine g_qt ?_
                  refine g_ift rfl ?_
                  refine g_seq ?_
                  refine g_region ?_
                  refine g_pure (p_assign rfl) rfl ?_
                  refine g_pure (p_assign rfl) rfl ?_
                  refine g_pure (p_assign rfl) rfl ?_
                  refine g_nil ?_
                  refine g_qt ?_
                  refine g_ret ?_
                  refine g_qt_ret ?_
                  exact g_post (rs := [.tmp 2, .tmp 3, .tmp 4]) rfl (.tmp rfl (.tmp rfl (.tmp rfl .nil))) ⟨by first | exact absurd (by assumption : (!false) = false) (by decide) | exact absurd (by assumption : (!true) = true) (by decide) | (rw [headR_err hH]; rfl), rfl⟩ (by repeat' (first | exact Cover.nil | exact Take.here | apply Cover.cons | apply Take.there))
                · refine g_yes rfl rfl ?_
                  refine g_pure (p_move rfl) rfl ?_
                  refine g_yes rfl rfl ?_
                  refine g_pure (p_lss rfl rfl) rfl ?_
                  first | refine g_pure (p_pickt rfl rfl) rfl ?_ | refine g_pure (p_pickf rfl rfl) rfl ?_
                  refine g_nil ?_
                  refine g_qt ?_
                  refine g_ifdL rfl (fun h10 => ?_) (fun h10 => ?_)
                  · refine g_seq ?_
                    refine g_region ?_
                    refine g_pure (p_assign rfl) rfl ?_
                    refine g_pure (p_assign rfl) rfl ?_
                    refine g_pure (p_assign rfl) rfl ?_
                    refine g_nil ?_
                    refine g_qt ?_
                    refine g_ret ?_
                    refine g_qt_ret ?_
                    exact g_post (rs := [.tmp 2, .tmp 3, .tmp 4]) rfl (.tmp rfl (.tmp rfl (.tmp rfl .nil))) ⟨by first | exact absurd (by assumption : (!false) = false) (by decide) | exact absurd (by assumption : (!true) = true) (by decide) | (rw [headR_err hH]; rfl), rfl⟩ (by repeat' (first | exact Cover.nil | exact Take.here | apply Cover.cons | apply Take.there))
                  · refine g_skip ?_
                    refine g_qt ?_
                    refine g_seq ?_
                    refine g_seq ?_
                    refine g_region ?_
                    refine g_pure (p_move rfl) rfl ?_
                    refine g_pure (p_gtr rfl rfl) rfl ?_
                    refine g_nil ?_
                    refine g_qt ?_
                    refine g_ifdL rfl (fun h11 => ?_) (fun h11 => ?_)
                    · refine g_seq ?_
                      refine g_region ?_
                      refine g_pure (p_assign rfl) rfl ?_
                      refine g_pure (p_assign rfl) rfl ?_
                      refine g_pure (p_assign rfl) rfl ?_
                      refine g_nil ?_
                      refine g_qt ?_
                      refine g_ret ?_
                      refine g_qt_ret ?_
                      exact g_post (rs := [.tmp 2, .tmp 3, .tmp 4]) rfl (.tmp rfl (.tmp rfl (.tmp rfl .nil))) ⟨by first | exact absurd (by assumption : (!false) = false) (by decide) | exact absurd (by assumption : (!true) = true) (by decide) | (rw [headR_err hH]; rfl), rfl⟩ (by repeat' (first | exact Cover.nil | exact Take.here | apply Cover.cons | apply Take.there))
                    · refine g_skip ?_
                      refine g_qt ?_
                      refine g_seq ?_
                      refine g_region ?_
                      refine g_pure (p_move rfl) rfl ?_
                      refine g_pure (p_move rfl) rfl ?_
                      refine g_pure (p_assign rfl) rfl ?_
                      refine g_pure (p_assign rfl) rfl ?_
                      refine g_pure (p_assign rfl) rfl ?_
                      refine g_nil ?_
                      refine g_qt ?_
                      refine g_ret ?_
                      exact g_post (rs := [.tmp 2, .tmp 3, .tmp 4]) rfl (.tmp rfl (.tmp rfl (.tmp rfl .nil))) ⟨by first | exact absurd (by assumption : (!false) = false) (by decide) | exact absurd (by assumption : (!true) = true) (by decide) | (rw [headR_err hH]; rfl), rfl⟩ (by repeat' (first | exact Cover.nil | exact Take.here | apply Cover.cons | apply Take.there))
        | some x =>
          refine g_call (Hin := []) (Hr := ?hr7) (R := ?rr7) rfl rfl rfl ?hin7 ?hc7 ?hk7
          case hin7 => repeat' (first | exact Cover.nil | exact Take.here | apply Cover.cons | apply Take.there)
          case hc7 => intro ρ' hρ hR; exact number_yes (hk.mono hρ) a (by omega) hA
          rintro _ _ ⟨rfl, rfl⟩
          refine g_pure (p_move rfl) rfl ?_
          refine g_pure (p_extract rfl rfl) rfl ?_
          refine g_pure (p_extract rfl rfl) rfl ?_
          refine g_pure (p_assign rfl) rfl ?_
          refine g_pure (p_assign rfl) rfl ?_
          refine g_nil ?_
          refine g_qt ?_
          refine g_seq ?_
          refine g_region ?_
          refine g_pure (p_move rfl) rfl ?_
          refine g_pure (p_indexAddr rfl rfl (by omega) (by first | exact fun _ => rfl | assumption)) rfl ?_
          refine g_pure (p_load (by rfl) rfl (by first | (apply Has.own; (repeat' (first | exact Take.here | apply Take.there)); done) | exact Has.ro (by assumption)) (by first | rfl | assumption)) rfl ?_
          cases hB : numV b with
          | none =>
            rw [hA, hB] at hH
            dsimp only at hH
            refine g_call (Hin := []) (Hr := ?hr8) (R := ?rr8) rfl rfl rfl ?hin8 ?hc8 ?hk8
            case hin8 => repeat' (first | exact Cover.nil | exact Take.here | apply Cover.cons | apply Take.there)
            case hc8 => intro ρ' hρ hR; exact number_no (hk.mono hρ) b (by omega) hB
            rintro _ _ ⟨rfl, rfl⟩
            refine g_pure (p_move rfl) rfl ?_
            refine g_pure (p_extract rfl rfl) rfl ?_
            refine g_pure (p_extract rfl rfl) rfl ?_
            refine g_pure (p_assign rfl) rfl ?_
            refine g_pure (p_assign rfl) rfl ?_
            refine g_nil ?_
            refine g_qt ?_
            refine g_seq ?_
            refine g_seq ?_
            refine g_region ?_
            refine g_pure (p_move rfl) rfl ?_
            refine g_pure (p_not rfl) rfl ?_
            refine g_pure (p_move rfl) rfl ?_
            refine g_split rfl rfl (fun h1 => ?_) (fun h1 => ?_)
            · refine g_no rfl rfl rfl rfl ?_
              refine g_no rfl rfl rfl rfl ?_
              first | refine g_pure (p_pickt rfl rfl) rfl ?_ | refine g_pure (p_pickf rfl rfl) rfl ?_
              refine g_pure (p_move rfl) rfl ?_
              refine g_no rfl rfl rfl rfl ?_
              refine g_no rfl rfl rfl rfl ?_
              first | refine g_pure (p_pickt rfl rfl) rfl ?_ | refine g_pure (p_pickf rfl rfl) rfl ?_
              refine g_pure (p_move rfl) rfl ?_
              refine g_no rfl rfl rfl rfl ?_
              refine g_no rfl rfl rfl rfl ?_
              first | refine g_pure (p_pickt rfl rfl) rfl ?_ | refine g_pure (p_pickf rfl rfl) rfl ?_
              refine g_nil ?_
              refine g_qt ?_
              refine g_ift rfl ?_
              refine g_seq ?_
              refine g_region ?_
              refine g_pure (p_assign rfl) rfl ?_
              refine g_pure (p_assign rfl) rfl ?_
              refine g_pure (p_assign rfl) rfl ?_
              refine g_nil ?_
              refine g_qt ?_
              refine g_ret ?_
              refine g_qt_ret ?_
              exact g_post (rs := [.tmp 2, .tmp 3, .tmp 4]) rfl (.tmp rfl (.tmp rfl (.tmp rfl .nil))) ⟨by first | exact absurd (by assumption : (!false) = false) (by decide) | exact absurd (by assumption : (!true) = true) (by decide) | (rw [headR_err hH]; rfl), rfl⟩ (by repeat' (first | exact Cover.nil | exact Take.here | apply Cover.cons | apply Take.there))
            · refine g_yes rfl rfl ?_
              refine g_pure (p_move rfl) rfl ?_
              refine g_yes rfl rfl ?_
              refine g_pure (p_not rfl) rfl ?_
              first | refine g_pure (p_pickt rfl rfl) rfl ?_ | refine g_pure (p_pickf rfl rfl) rfl ?_
              refine g_pure (p_move rfl) rfl ?_
              refine g_split rfl rfl (fun h5 => ?_) (fun h5 => ?_)
              · refine g_no rfl rfl rfl rfl ?_
                refine g_no rfl rfl rfl rfl ?_
                first | refine g_pure (p_pickt rfl rfl) rfl ?_ | refine g_pure (p_pickf rfl rfl) rfl ?_
                refine g_pure (p_move rfl) rfl ?_
                refine g_no rfl rfl rfl rfl ?_
                refine g_no rfl rfl rfl rfl ?_
                first | refine g_pure (p_pickt rfl rfl) rfl ?_ | refine g_pure (p_pickf rfl rfl) rfl ?_
                refine g_nil ?_
                refine g_qt ?_
                refine g_ift rfl ?_
                refine g_seq ?_
                refine g_region ?_
                refine g_pure (p_assign rfl) rfl ?_
                refine g_pure (p_assign rfl) rfl ?_
                refine g_pure (p_assign rfl) rfl ?_
                refine g_nil ?_
                refine g_qt ?_
                refine g_ret ?_
                refine g_qt_ret ?_
                exact g_post (rs := [.tmp 2, .tmp 3, .tmp 4]) rfl (.tmp rfl (.tmp rfl (.tmp rfl .nil))) ⟨by first | exact absurd (by assumption : (!false) = false) (by decide) | exact absurd (by assumption : (!true) = true) (by decide) | (rw [headR_err hH]; rfl), rfl⟩ (by repeat' (first | exact Cover.nil | exact Take.here | apply Cover.cons | apply Take.there))
              · refine g_yes rfl rfl ?_
                refine g_pure (p_move rfl) rfl ?_
                refine g_yes rfl rfl ?_
                refine g_pure (p_lss rfl rfl) rfl ?_
                first | refine g_pure (p_pickt rfl rfl) rfl ?_ | refine g_pure (p_pickf rfl rfl) rfl ?_
                refine g_pure (p_move rfl) rfl ?_
                refine g_splitd rfl rfl (fun h8 => ?_) (fun h8 => ?_)
                · refine g_no rfl rfl rfl rfl ?_
                  refine g_no rfl rfl rfl rfl ?_
                  first | refine g_pure (p_pickt rfl rfl) rfl ?_ | refine g_pure (p_pickf rfl rfl) rfl ?_
                  refine g_nil ?_
                  refine g_qt ?_
                  refine g_ift rfl ?_
                  refine g_seq ?_
                  refine g_region ?_
                  refine g_pure (p_assign rfl) rfl ?_
                  refine g_pure (p_assign rfl) rfl ?_
                  refine g_pure (p_assign rfl) rfl ?_
                  refine g_nil ?_
                  refine g_qt ?_
                  refine g_ret ?_
                  refine g_qt_ret ?_
                  exact g_post (rs := [.tmp 2, .tmp 3, .tmp 4]) rfl (.tmp rfl (.tmp rfl (.tmp rfl .nil))) ⟨by first | exact absurd (by assumption : (!false) = false) (by decide) | exact absurd (by assumption : (!true) = true) (by decide) | (rw [headR_err hH]; rfl), rfl⟩ (by repeat' (first | exact Cover.nil | exact Take.here | apply Cover.cons | apply Take.there))
                · refine g_yes rfl rfl ?_
                  refine g_pure (p_move rfl) rfl ?_
                  refine g_yes rfl rfl ?_
                  refine g_pure (p_lss rfl rfl) rfl ?_
                  first | refine g_pure (p_pickt rfl rfl) rfl ?_ | refine g_pure (p_pickf rfl rfl) rfl ?_
                  refine g_nil ?_
                  refine g_qt ?_
                  refine g_ifdL rfl (fun h10 => ?_) (fun h10 => ?_)
                  · refine g_seq ?_
                    refine g_region ?_
                    refine g_pure (p_assign rfl) rfl ?_
                    refine g_pure (p_assign rfl) rfl ?_
                    refine g_pure (p_assign rfl) rfl ?_
                    refine g_nil ?_
                    refine g_qt ?_
                    refine g_ret ?_
                    refine g_qt_ret ?_
                    exact g_post (rs := [.tmp 2, .tmp 3, .tmp 4]) rfl (.tmp rfl (.tmp rfl (.tmp rfl .nil))) ⟨by first | exact absurd (by assumption : (!false) = false) (by decide) | exact absurd (by assumption : (!true) = true) (by decide) | (rw [headR_err hH]; rfl), rfl⟩ (by repeat' (first | exact Cover.nil | exact Take.here | apply Cover.cons | apply Take.there))
                  · refine g_skip ?_
                    refine g_qt ?_
                    refine g_seq ?_
                    refine g_seq ?_
                    refine g_region ?_
                    refine g_pure (p_move rfl) rfl ?_
                    refine g_pure (p_gtr rfl rfl) rfl ?_
                    refine g_nil ?_
                    refine g_qt ?_
                    refine g_ifdL rfl (fun h11 => ?_) (fun h11 => ?_)
                    · refine g_seq ?_
                      refine g_region ?_
                      refine g_pure (p_assign rfl) rfl ?_
                      refine g_pure (p_assign rfl) rfl ?_
                      refine g_pure (p_assign rfl) rfl ?_
                      refine g_nil ?_
                      refine g_qt ?_
                      refine g_ret ?_
                      refine g_qt_ret ?_
                      exact g_post (rs := [.tmp 2, .tmp 3, .tmp 4]) rfl (.tmp rfl (.tmp rfl (.tmp rfl .nil))) ⟨by first | exact absurd (by assumption : (!false) = false) (by decide) | exact absurd (by assumption : (!true) = true) (by decide) | (rw [headR_err hH]; rfl), rfl⟩ (by repeat' (first | exact Cover.nil | exact Take.here | apply Cover.cons | apply Take.there))
                    · refine g_skip ?_
                      refine g_qt ?_
                      refine g_seq ?_
                      refine g_region ?_
                      refine g_pure (p_move rfl) rfl ?_
                      refine g_pure (p_move rfl) rfl ?_
                      refine g_pure (p_assign rfl) rfl ?_
                      refine g_pure (p_assign rfl) rfl ?_
                      refine g_pure (p_assign rfl) rfl ?_
                      refine g_nil ?_
                      refine g_qt ?_
                      refine g_ret ?_
                      exact g_post (rs := [.tmp 2, .tmp 3, .tmp 4]) rfl (.tmp rfl (.tmp rfl (.tmp rfl .nil))) ⟨by first | exact absurd (by assumption : (!false) = false) (by decide) | exact absurd (by assumption : (!true) = true) (by decide) | (rw [headR_err hH]; rfl), rfl⟩ (by repeat' (first | exact Cover.nil | exact Take.here | apply Cover.cons | apply Take.there))
          | some y =>
            rw [hA, hB] at hH
            dsimp only at hH
            refine g_call (Hin := []) (Hr := ?hr9) (R := ?rr9) rfl rfl rfl ?hin9 ?hc9 ?hk9
            case hin9 => repeat' (first | exact Cover.nil | exact Take.here | apply Cover.cons | apply Take.there)
            case hc9 => intro ρ' hρ hR; exact number_yes (hk.mono hρ) b (by omega) hB
            rintro _ _ ⟨rfl, rfl⟩
            refine g_pure (p_move rfl) rfl ?_
            refine g_pure (p_extract rfl rfl) rfl ?_
            refine g_pure (p_extract rfl rfl) rfl ?_
            refine g_pure (p_assign rfl) rfl ?_
            refine g_pure (p_assign rfl) rfl ?_
            refine g_nil ?_
            refine g_qt ?_
            refine g_seq ?_
            refine g_seq ?_
            refine g_region ?_
            refine g_pure (p_move rfl) rfl ?_
            refine g_pure (p_not rfl) rfl ?_
            refine g_pure (p_move rfl) rfl ?_
            refine g_split rfl rfl (fun h1 => ?_) (fun h1 => ?_)
            · refine g_no rfl rfl rfl rfl ?_
              refine g_no rfl rfl rfl rfl ?_
              first | refine g_pure (p_pickt rfl rfl) rfl ?_ | refine g_pure (p_pickf rfl rfl) rfl ?_
              refine g_pure (p_move rfl) rfl ?_
              refine g_no rfl rfl rfl rfl ?_
              refine g_no rfl rfl rfl rfl ?_
              first | refine g_pure (p_pickt rfl rfl) rfl ?_ | refine g_pure (p_pickf rfl rfl) rfl ?_
              refine g_pure (p_move rfl) rfl ?_
              refine g_no rfl rfl rfl rfl ?_
              refine g_no rfl rfl rfl rfl ?_
              first | refine g_pure (p_pickt rfl rfl) rfl ?_ | refine g_pure (p_pickf rfl rfl) rfl ?_
              refine g_nil ?_
              refine g_qt ?_
              refine g_ift rfl ?_
              refine g_seq ?_
              refine g_region ?_
              refine g_pure (p_assign rfl) rfl ?_
              refine g_pure (p_assign rfl) rfl ?_
              refine g_pure (p_assign rfl) rfl ?_
              refine g_nil ?_
              refine g_qt ?_
              refine g_ret ?_
              refine g_qt_ret ?_
              exact g_post (rs := [.tmp 2, .tmp 3, .tmp 4]) rfl (.tmp rfl (.tmp rfl (.tmp rfl .nil))) ⟨by first | exact absurd (by assumption : (!false) = false) (by decide) | exact absurd (by assumption : (!true) = true) (by decide) | (rw [headR_err (hH.trans (if_pos (by omega)))]; rfl) | (rw [headR_err (hH.trans ((if_neg (by omega)).trans (if_pos (by omega))))]; rfl) | (rw [headR_ok (hH.trans ((if_neg (by omega)).trans (if_neg (by omega))))]; rfl), rfl⟩ (by repeat' (first | exact Cover.nil | exact Take.here | apply Cover.cons | apply Take.there))
            · refine g_yes rfl rfl ?_
              refine g_pure (p_move rfl) rfl ?_
              refine g_yes rfl rfl ?_
              refine g_pure (p_not rfl) rfl ?_
              first | refine g_pure (p_pickt rfl rfl) rfl ?_ | refine g_pure (p_pickf rfl rfl) rfl ?_
              refine g_pure (p_move rfl) rfl ?_
              refine g_split rfl rfl (fun h5 => ?_) (fun h5 => ?_)
              · refine g_no rfl rfl rfl rfl ?_
                refine g_no rfl rfl rfl rfl ?_
                first | refine g_pure (p_pickt rfl rfl) rfl ?_ | refine g_pure (p_pickf rfl rfl) rfl ?_
                refine g_pure (p_move rfl) rfl ?_
                refine g_no rfl rfl rfl rfl ?_
                refine g_no rfl rfl rfl rfl ?_
                first | refine g_pure (p_pickt rfl rfl) rfl ?_ | refine g_pure (p_pickf rfl rfl) rfl ?_
                refine g_nil ?_
                refine g_qt ?_
                refine g_ift rfl ?_
                refine g_seq ?_
                refine g_region ?_
                refine g_pure (p_assign rfl) rfl ?_
                refine g_pure (p_assign rfl) rfl ?_
                refine g_pure (p_assign rfl) rfl ?_
                refine g_nil ?_
                refine g_qt ?_
                refine g_ret ?_
                refine g_qt_ret ?_
                exact g_post (rs := [.tmp 2, .tmp 3, .tmp 4]) rfl (.tmp rfl (.tmp rfl (.tmp rfl .nil))) ⟨by first | exact absurd (by assumption : (!false) = false) (by decide) | exact absurd (by assumption : (!true) = true) (by decide) | (rw [headR_err (hH.trans (if_pos (by omega)))]; rfl) | (rw [headR_err (hH.trans ((if_neg (by omega)).trans (if_pos (by omega))))]; rfl) | (rw [headR_ok (hH.trans ((if_neg (by omega)).trans (if_neg (by omega))))]; rfl), rfl⟩ (by repeat' (first | exact Cover.nil | exact Take.here | apply Cover.cons | apply Take.there))
              · refine g_yes rfl rfl ?_
                refine g_pure (p_move rfl) rfl ?_
                refine g_yes rfl rfl ?_
                refine g_pure (p_lss rfl rfl) rfl ?_
                first | refine g_pure (p_pickt rfl rfl) rfl ?_ | refine g_pure (p_pickf rfl rfl) rfl ?_
                refine g_pure (p_move rfl) rfl ?_
                refine g_splitd rfl rfl (fun h8 => ?_) (fun h8 => ?_)
                · refine g_no rfl rfl rfl rfl ?_
                  refine g_no rfl rfl rfl rfl ?_
                  first | refine g_pure (p_pickt rfl rfl) rfl ?_ | refine g_pure (p_pickf rfl rfl) rfl ?_
                  refine g_nil ?_
                  refine g_qt ?_
                  refine g_ift rfl ?_
                  refine g_seq ?_
                  refine g_region ?_
                  refine g_pure (p_assign rfl) rfl ?_
                  refine g_pure (p_assign rfl) rfl ?_
                  refine g_pure (p_assign rfl) rfl ?_
                  refine g_nil ?_
                  refine g_qt ?_
                  refine g_ret ?_
                  refine g_qt_ret ?_
                  exact g_post (rs := [.tmp 2, .tmp 3, .tmp 4]) rfl (.tmp rfl (.tmp rfl (.tmp rfl .nil))) ⟨by first | exact absurd (by assumption : (!false) = false) (by decide) | exact absurd (by assumption : (!true) = true) (by decide) | (rw [headR_err (hH.trans (if_pos (by omega)))]; rfl) | (rw [headR_err (hH.trans ((if_neg (by omega)).trans (if_pos (by omega))))]; rfl) | (rw [headR_ok (hH.trans ((if_neg (by omega)).trans (if_neg (by omega))))]; rfl), rfl⟩ (by repeat' (first | exact Cover.nil | exact Take.here | apply Cover.cons | apply Take.there))
                · refine g_yes rfl rfl ?_
                  refine g_pure (p_move rfl) rfl ?_
                  refine g_yes rfl rfl ?_
                  refine g_pure (p_lss rfl rfl) rfl ?_
                  first | refine g_pure (p_pickt rfl rfl) rfl ?_ | refine g_pure (p_pickf rfl rfl) rfl ?_
                  refine g_nil ?_
                  refine g_qt ?_
                  refine g_ifdL rfl (fun h10 => ?_) (fun h10 => ?_)
                  · refine g_seq ?_
                    refine g_region ?_
                    refine g_pure (p_assign rfl) rfl ?_
                    refine g_pure (p_assign rfl) rfl ?_
                    refine g_pure (p_assign rfl) rfl ?_
                    refine g_nil ?_
                    refine g_qt ?_
                    refine g_ret ?_
                    refine g_qt_ret ?_
                    exact g_post (rs := [.tmp 2, .tmp 3, .tmp 4]) rfl (.tmp rfl (.tmp rfl (.tmp rfl .nil))) ⟨by first | exact absurd (by assumption : (!false) = false) (by decide) | exact absurd (by assumption : (!true) = true) (by decide) | (rw [headR_err (hH.trans (if_pos (by omega)))]; rfl) | (rw [headR_err (hH.trans ((if_neg (by omega)).trans (if_pos (by omega))))]; rfl) | (rw [headR_ok (hH.trans ((if_neg (by omega)).trans (if_neg (by omega))))]; rfl), rfl⟩ (by repeat' (first | exact Cover.nil | exact Take.here | apply Cover.cons | apply Take.there))
                  · refine g_skip ?_
                    refine g_qt ?_
                    refine g_seq ?_
                    refine g_seq ?_
                    refine g_region ?_
                    refine g_pure (p_move rfl) rfl ?_
                    refine g_pure (p_gtr rfl rfl) rfl ?_
                    refine g_nil ?_
                    refine g_qt ?_
                    refine g_ifdL rfl (fun h11 => ?_) (fun h11 => ?_)
                    · refine g_seq ?_
                      refine g_region ?_
                      refine g_pure (p_assign rfl) rfl ?_
                      refine g_pure (p_assign rfl) rfl ?_
                      refine g_pure (p_assign rfl) rfl ?_
                      refine g_nil ?_
                      refine g_qt ?_
                      refine g_ret ?_
                      refine g_qt_ret ?_
                      exact g_post (rs := [.tmp 2, .tmp 3, .tmp 4]) rfl (.tmp rfl (.tmp rfl (.tmp rfl .nil))) ⟨by first | exact absurd (by assumption : (!false) = false) (by decide) | exact absurd (by assumption : (!true) = true) (by decide) | (rw [headR_err (hH.trans (if_pos (by omega)))]; rfl) | (rw [headR_err (hH.trans ((if_neg (by omega)).trans (if_pos (by omega))))]; rfl) | (rw [headR_ok (hH.trans ((if_neg (by omega)).trans (if_neg (by omega))))]; rfl), rfl⟩ (by repeat' (first | exact Cover.nil | exact Take.here | apply Cover.cons | apply Take.there))
                    · refine g_skip ?_
                      refine g_qt ?_
                      refine g_seq ?_
                      refine g_region ?_
                      refine g_pure (p_move rfl) rfl ?_
                      refine g_pure (p_move rfl) rfl ?_
                      refine g_pure (p_assign rfl) rfl ?_
                      refine g_pure (p_assign rfl) rfl ?_
                      refine g_pure (p_assign rfl) rfl ?_
                      refine g_nil ?_
                      refine g_qt ?_
                      refine g_ret ?_
                      exact g_post (rs := [.tmp 2, .tmp 3, .tmp 4]) rfl (.tmp rfl (.tmp rfl (.tmp rfl .nil))) ⟨by first | exact absurd (by assumption : (!false) = false) (by decide) | exact absurd (by assumption : (!true) = true) (by decide) | (rw [headR_err (hH.trans (if_pos (by omega)))]; rfl) | (rw [headR_err (hH.trans ((if_neg (by omega)).trans (if_pos (by omega))))]; rfl) | (rw [headR_ok (hH.trans ((if_neg (by omega)).trans (if_neg (by omega))))]; rfl), rfl⟩ (by repeat' (first | exact Cover.nil | exact Take.here | apply Cover.cons | apply Take.there))
      · rw [if_neg (fun hh => hq hh.2)] at hH
        refine g_pure (p_assign rfl) rfl ?_
        refine g_nil ?_
        refine g_qt ?_
        refine g_seq ?_
        refine g_seq ?_
        refine g_region ?_
        refine g_pure (p_move rfl) rfl ?_
        refine g_pure (p_len (by rfl) rfl) rfl ?_
        refine g_pure (p_neqF rfl rfl (by rfl)) rfl ?_
        refine g_pure (p_move rfl) rfl ?_
        refine g_yes rfl rfl ?_
        refine g_pure (p_move rfl) rfl ?_
        refine g_yes rfl rfl ?_
        refine g_pure (p_indexAddr rfl rfl (by omega) (by first | exact fun _ => rfl | assumption)) rfl ?_
        refine g_yes rfl rfl ?_
        refine g_pure (p_load (by rfl) rfl (by first | (apply Has.own; (repeat' (first | exact Take.here | apply Take.there)); done) | exact Has.ro (by assumption)) (by first | rfl | assumption)) rfl ?_
        refine g_yes rfl rfl ?_
        refine g_pure (p_neqsF (by rfl) rfl rfl rfl) rfl ?_
        first | refine g_pure (p_pickt rfl rfl) rfl ?_ | refine g_pure (p_pickf rfl rfl) rfl ?_
        refine g_pure (p_move rfl) rfl ?_
        refine g_yes rfl rfl ?_
        refine g_pure (p_move rfl) rfl ?_
        refine g_yes rfl rfl ?_
        refine g_pure (p_indexAddr rfl rfl (by omega) (by first | exact fun _ => rfl | assumption)) rfl ?_
        refine g_yes rfl rfl ?_
        refine g_pure (p_load (by rfl) rfl (by first | (apply Has.own; (repeat' (first | exact Take.here | apply Take.there)); done) | exact Has.ro (by assumption)) (by first | rfl | assumption)) rfl ?_
        refine g_yes rfl rfl ?_
        refine g_pure (p_neqsT (by rfl) rfl rfl (fun e => hq (strOf_inj.1 e))) rfl ?_
        first | refine g_pure (p_pickt rfl rfl) rfl ?_ | refine g_pure (p_pickf rfl rfl) rfl ?_
        refine g_nil ?_
        refine g_qt ?_
        refine g_ift rfl ?_
        refine g_seq ?_
        refine g_region ?_
        refine g_pure (p_assign rfl) rfl ?_
        refine g_pure (p_assign rfl) rfl ?_
        refine g_pure (p_assign rfl) rfl ?_
        refine g_nil ?_
        refine g_qt ?_
        refine g_ret ?_
        refine g_qt_ret ?_
        exact g_post (rs := [.tmp 2, .tmp 3, .tmp 4]) rfl (.tmp rfl (.tmp rfl (.tmp rfl .nil))) ⟨by rw [headR_err hH]; rfl, rfl⟩ (by repeat' (first | exact Cover.nil | exact Take.here | apply Cover.cons | apply Take.there))
    · rw [if_neg (fun hh => hp hh.1)] at hH
      refine g_pure (p_assign rfl) rfl ?_
      refine g_nil ?_
      refine g_qt ?_
      refine g_seq ?_
      refine g_seq ?_
      refine g_region ?_
      refine g_pure (p_move rfl) rfl ?_
      refine g_pure (p_len (by rfl) rfl) rfl ?_
      refine g_pure (p_neqF rfl rfl (by rfl)) rfl ?_
      refine g_pure (p_move rfl) rfl ?_
      refine g_yes rfl rfl ?_
      refine g_pure (p_move rfl) rfl ?_
      refine g_yes rfl rfl ?_
      refine g_pure (p_indexAddr rfl rfl (by omega) (by first | exact fun _ => rfl | assumption)) rfl ?_
      refine g_yes rfl rfl ?_
      refine g_pure (p_load (by rfl) rfl (by first | (apply Has.own; (repeat' (first | exact Take.here | apply Take.there)); done) | exact Has.ro (by assumption)) (by first | rfl | assumption)) rfl ?_
      refine g_yes rfl rfl ?_
      refine g_pure (p_neqsT (by rfl) rfl rfl (fun e => hp (strOf_inj.1 e))) rfl ?_
      first | refine g_pure (p_pickt rfl rfl) rfl ?_ | refine g_pure (p_pickf rfl rfl) rfl ?_
      refine g_pure (p_move rfl) rfl ?_
      refine g_no rfl rfl rfl rfl ?_
      refine g_no rfl rfl rfl rfl ?_
      refine g_no rfl rfl rfl rfl ?_
      refine g_no rfl rfl rfl rfl ?_
      first | refine g_pure (p_pickt rfl rfl) rfl ?_ | refine g_pure (p_pickf rfl rfl) rfl ?_
      refine g_nil ?_
      refine g_qt ?_
      refine g_ift rfl ?_
      refine g_seq ?_
      refine g_region ?_
      refine g_pure (p_assign rfl) rfl ?_
      refine g_pure (p_assign rfl) rfl ?_
      refine g_pure (p_assign rfl) rfl ?_
      refine g_nil ?_
      refine g_qt ?_
      refine g_ret ?_
      refine g_qt_ret ?_
      exact g_post (rs := [.tmp 2, .tmp 3, .tmp 4]) rfl (.tmp rfl (.tmp rfl (.tmp rfl .nil))) ⟨by rw [headR_err hH]; rfl, rfl⟩ (by repeat' (first | exact Cover.nil | exact Take.here | apply Cover.cons | apply Take.there))
  · have hH : headV s = .error 5 := by
      rw [hH]
      split
      · rename_i e; rw [e] at h4; exact absurd rfl h4
      · rfl
    refine g_pure (p_assign rfl) rfl ?_
    refine g_nil ?_
    refine g_qt ?_
    refine g_seq ?_
    refine g_seq ?_
    refine g_region ?_
    refine g_pure (p_move rfl) rfl ?_
    refine g_pure (p_len (by rfl) rfl) rfl ?_
    refine g_pure (p_neqT rfl rfl (by omega)) rfl ?_
    refine g_pure (p_move rfl) rfl ?_
    refine g_no rfl rfl rfl rfl ?_
    refine g_no rfl rfl rfl rfl ?_
    refine g_no rfl rfl rfl rfl ?_
    refine g_no rfl rfl rfl rfl ?_
    first | refine g_pure (p_pickt rfl rfl) rfl ?_ | refine g_pure (p_pickf rfl rfl) rfl ?_
    refine g_pure (p_move rfl) rfl ?_
    refine g_no rfl rfl rfl rfl ?_
    refine g_no rfl rfl rfl rfl ?_
    refine g_no rfl rfl rfl rfl ?_
    refine g_no rfl rfl rfl rfl ?_
    first | refine g_pure (p_pickt rfl rfl) rfl ?_ | refine g_pure (p_pickf rfl rfl) rfl ?_
    refine g_nil ?_
    refine g_qt ?_
    refine g_ift rfl ?_
    refine g_seq ?_
    refine g_region ?_
    refine g_pure (p_assign rfl) rfl ?_
    refine g_pure (p_assign rfl) rfl ?_
    refine g_pure (p_assign rfl) rfl ?_
    refine g_nil ?_
    refine g_qt ?_
    refine g_ret ?_
    refine g_qt_ret ?_
    exact g_post (rs := [.tmp 2, .tmp 3, .tmp 4]) rfl (.tmp rfl (.tmp rfl (.tmp rfl .nil))) ⟨by rw [headR_err hH]; rfl, rfl⟩ (by repeat' (first | exact Cover.nil | exact Take.here | apply Cover.cons | apply Take.there))
end Go.Proofs.YtopgbgnmjogeeaaGreatDoor
/- Chapter 36: the reader's line of a clause. Conditions: none. -/
namespace Go.Z.Txt
set_option maxRecDepth 8000
set_option linter.unusedVariables false
set_option linter.unusedSimpArgs false
set_option linter.unusedSectionVars false
open Go Go.Lib
theorem words_bad {w : List UInt8} (h : numV w = none) : ∀ r : List (List UInt8), wordsV (w :: r) = none
  | [] => by simp [wordsV, h]
  | _ :: _ => by simp [wordsV, h]
/-- so far the numbers cs are read from the first i words -/
structure Prog (W : List (List UInt8)) (i : Nat) (cs : List Int) : Prop where
  len : cs.length = i
  le : i ≤ W.length
  mid : i < W.length → wordsV W = (wordsV (W.drop i)).map (cs ++ ·)
  fin : i = W.length → ∃ c, cs = c ++ [0] ∧ wordsV W = some c
theorem Prog.start {W : List (List UInt8)} (h : W ≠ []) : Prog W 0 [] := ⟨rfl, Nat.zero_le _, fun _ => by rw [List.drop_zero]; cases wordsV W <;> rfl, fun h0 => absurd (List.eq_nil_of_length_eq_zero h0.symm) h⟩
theorem Prog.bad {W : List (List UInt8)} {i : Nat} {cs : List Int} (h : Prog W i cs) (hi : i < W.length) (hn : numV W[i] = none) : wordsV W = none := by
  rw [h.mid hi, List.drop_eq_getElem_cons hi, words_bad hn]; rfl
theorem Prog.odd {W : List (List UInt8)} {i : Nat} {cs : List Int} (h : Prog W i cs) (hi : i < W.length) {n : Int} (hn : numV W[i] = some n) (hd : ¬ (n = 0 ↔ i + 1 = W.length)) : wordsV W = none := by
  rw [h.mid hi, List.drop_eq_getElem_cons hi]
  by_cases h1 : i + 1 = W.length
  · have h0 : n ≠ 0 := fun e => hd ⟨fun _ => h1, fun _ => e⟩
    rw [List.drop_of_length_le (by omega)]
    simp [wordsV, hn, h0]
  · have h0 : n = 0 := Classical.byContradiction fun e => hd ⟨fun e' => absurd e' e, fun e' => absurd e' h1⟩
    rw [List.drop_eq_getElem_cons (show i + 1 < W.length by omega)]
    simp [wordsV, hn, h0]
theorem Prog.step {W : List (List UInt8)} {i : Nat} {cs : List Int} (h : Prog W i cs) (hi : i < W.length) {n : Int} (hn : numV W[i] = some n) (hd : n = 0 ↔ i + 1 = W.length) : Prog W (i + 1) (cs ++ [n]) := by
  refine ⟨by rw [List.length_append, h.len]; rfl, by omega, fun h1 => ?_, fun h1 => ?_⟩
  · have h0 : n ≠ 0 := fun e => by have := hd.1 e; omega
    rw [h.mid hi, List.drop_eq_getElem_cons hi, List.drop_eq_getElem_cons h1]
    simp only [wordsV, hn, if_neg h0]
    rw [Option.map_map]
    congr 1
    funext c
    simp
  · have h0 : n = 0 := hd.2 h1
    subst h0
    refine ⟨cs, rfl, ?_⟩
    rw [h.mid hi, List.drop_eq_getElem_cons hi, List.drop_of_length_le (by omega)]
    simp [wordsV, hn]
end Go.Z.Txt
namespace Go.Proofs.YtopgbgnmjogeeaaGreatDoor
set_option maxRecDepth 8000
set_option linter.unusedVariables false
set_option linter.unusedSimpArgs false
set_option linter.unusedSectionVars false
open Go Go.Z Go.Z.Txt Go.Z.Sat Go.RowKit

theorem far_ok {ρ : Nat → Obj → Prop} {b : Nat} {n x : Int} {T : TypeId} (hb : ρ b (.cells [.int .i64 n].toArray T (0, 0))) (h0 : 0 ≤ n) (h1 : n ≤ 262144) :
    Con Tryz.prog ρ 69 #[.int .i64 x, .pointer (some ⟨b, 0, none⟩)] [] (fun v H => v = .bool (decide (n < x) || decide (x < -n)) ∧ H = []) := by
  refine con_intro Tryz.func69 Tryz.call69 rfl Tryz.ntmps69 rfl (L := [(0, _), (1, _)]) rfl fun w hh => ?_
  refine g_seq ?_
  refine g_region ?_
  refine g_pure (p_assign rfl) rfl ?_
  refine g_nil ?_
  refine g_qt ?_
  refine g_seq ?_
  refine g_region ?_
  refine g_pure (p_move rfl) rfl ?_
  refine g_pure (p_load (by rfl) rfl (by first | (apply Has.own; (repeat' (first | exact Take.here | apply Take.there)); done) | exact Has.ro (by assumption)) (by first | rfl | assumption)) rfl ?_
  refine g_pure (p_gtr rfl rfl) rfl ?_
  refine g_pure (p_move rfl) rfl ?_
  refine g_splitd rfl rfl (fun h => ?_) (fun h => ?_)
  · refine g_no rfl rfl rfl rfl ?_
    refine g_no rfl rfl rfl rfl ?_
    refine g_no rfl rfl rfl rfl ?_
    refine g_no rfl rfl rfl rfl ?_
    first | refine g_pure (p_pickt rfl rfl) rfl ?_ | refine g_pure (p_pickf rfl rfl) rfl ?_
    refine g_pure (p_assign rfl) rfl ?_
    refine g_nil ?_
    refine g_qt ?_
    refine g_ret ?_
    exact g_post (rs := [.tmp 3]) rfl (.tmp rfl .nil) ⟨by first | (rw [decide_eq_true h]; rfl) | (rw [decide_eq_false h]; rfl), rfl⟩ .nil
  · refine g_yes rfl rfl ?_
    refine g_pure (p_move rfl) rfl ?_
    refine g_yes rfl rfl ?_
    refine g_pure (p_load (by rfl) rfl (by first | (apply Has.own; (repeat' (first | exact Take.here | apply Take.there)); done) | exact Has.ro (by assumption)) (by first | rfl | assumption)) rfl ?_
    refine g_yes rfl rfl ?_
    first | refine g_pure (p_negi rfl (by omega)) rfl ?_ | refine g_pure (p_neg rfl) rfl ?_
    refine g_yes rfl rfl ?_
    refine g_pure (p_lss rfl rfl) rfl ?_
    first | refine g_pure (p_pickt rfl rfl) rfl ?_ | refine g_pure (p_pickf rfl rfl) rfl ?_
    refine g_pure (p_assign rfl) rfl ?_
    refine g_nil ?_
    refine g_qt ?_
    refine g_ret ?_
    exact g_post (rs := [.tmp 3]) rfl (.tmp rfl .nil) ⟨by first | (rw [decide_eq_false h]; rfl) | (rw [decide_eq_true h]; rfl), rfl⟩ .nil
theorem clause_no {ρ : Nat → Obj → Prop} (hk : LibC ρ) (r : Nat) (l : List UInt8) (k n : Int) (h0 : 0 ≤ k ∧ k ≤ 9000000000000000000) (hs : l.length < 4294967281) (hf : (10 : UInt8) ∉ l) :
    Con Tryz.prog ρ 47 #[.pointer (some ⟨r, 0, none⟩), .int .i64 n] [Blk r (.cells [.string (strOf l), .int .i64 k].toArray 97 (0, 0))]
      (fun v H => v = .tuple #[.slice none 0 0, .int .i64 4] ∧ H = [Blk r (.cells [.string (strOf l), .int .i64 (k + 1)].toArray 97 (0, 0))]) := by
  refine con_intro Tryz.func47 Tryz.call47 rfl Tryz.ntmps47 rfl (L := [(0, _), (1, _)]) rfl fun w hh => ?_
  refine g_seq ?_
  refine g_region ?_
  refine g_eff (e_box rfl (by rfl)) rfl (fun _ _ => ?_)
  rintro ⟨b3, rfl, rfl⟩
  refine g_pure (p_assign rfl) rfl ?_
  refine g_pure (p_assign rfl) rfl ?_
  refine g_nil ?_
  refine g_qt ?_
  refine g_seq ?_
  refine g_region ?_
  refine g_pure (p_move rfl) rfl ?_
  refine g_call (Hin := ?hi1) (Hr := ?hr1) (R := ?rr1) rfl rfl rfl ?hin1 ?hc1 ?hk1
  case hc1 => intro ρ' hρ hR; exact next_no (hk.mono hρ) r l k h0 hs hf
  case hin1 => repeat' (first | exact Cover.nil | exact Take.here | apply Cover.cons | apply Take.there)
  rintro _ _ ⟨rfl, rfl⟩
  refine g_pure (p_move rfl) rfl ?_
  refine g_pure (p_extract rfl rfl) rfl ?_
  refine g_pure (p_extract rfl rfl) rfl ?_
  refine g_pure (p_assign rfl) rfl ?_
  refine g_pure (p_assign rfl) rfl ?_
  refine g_nil ?_
  refine g_qt ?_
  refine g_seq ?_
  refine g_seq ?_
  refine g_region ?_
  refine g_pure (p_move rfl) rfl ?_
  refine g_pure (p_not rfl) rfl ?_
  refine g_nil ?_
  refine g_qt ?_
  refine g_ift rfl ?_
  refine g_seq ?_
  refine g_region ?_
  refine g_pure (p_assign rfl) rfl ?_
  refine g_pure (p_assign rfl) rfl ?_
  refine g_nil ?_
  refine g_qt ?_
  refine g_ret ?_
  refine g_qt_ret ?_
  exact g_post (rs := [.tmp 4, .tmp 5]) rfl (.tmp rfl (.tmp rfl .nil)) ⟨rfl, rfl⟩ (by repeat' (first | exact Cover.nil | exact Take.here | apply Cover.cons | apply Take.there))
theorem clause_yes {ρ : Nat → Obj → Prop} (hk : LibC ρ) (r : Nat) (s t : List UInt8) (k n : Int) (h0 : 0 ≤ k ∧ k ≤ 9000000000000000000) (hn0 : 0 ≤ n) (hn1 : n ≤ 262144) (hs : (s ++ 10 :: t).length < 4294967281) (hf : (10 : UInt8) ∉ s) :
    Con Tryz.prog ρ 47 #[.pointer (some ⟨r, 0, none⟩), .int .i64 n] [Blk r (.cells [.string (strOf (s ++ 10 :: t)), .int .i64 k].toArray 97 (0, 0))]
      (fun v H => match wordsV (pieces 32 s) with
        | none => v = .tuple #[.slice none 0 0, .int .i64 5] ∧ H = [Blk r (.cells [.string (strOf t), .int .i64 (k + 1)].toArray 97 (0, 0))]
        | some c => if farV n c then v = .tuple #[.slice none 0 0, .int .i64 14] ∧ H = [Blk r (.cells [.string (strOf t), .int .i64 (k + 1)].toArray 97 (0, 0))]
          else ∃ a cap, v = .tuple #[.slice a c.length cap, .int .i64 0] ∧ H = [Blk r (.cells [.string (strOf t), .int .i64 (k + 1)].toArray 97 (0, 0)), OwnSl 3 1 a c.length cap (c.map encI)]) := by
  have hsl : s.length < 4294967281 := by rw [List.length_append] at hs; omega
  have hmem : ∀ x ∈ pieces 32 s, x.length ≤ s.length := fun x hx => (pieces_mem hx).2
  have hne := pieces_ne 32 s
  have hpl : (pieces 32 s).length ≤ 4294967282 := by
    have : ∀ l : List UInt8, (pieces 32 l).length ≤ l.length + 1 := by
      intro l
      induction l with
      | nil => simp [pieces]
      | cons b l ih =>
        rw [pieces]
        split
        · simp; omega
        · cases h : pieces 32 l with
          | nil => simp
          | cons y r => rw [h] at ih; simp at ih ⊢; omega
    have := this s; omega
  refine con_intro Tryz.func47 Tryz.call47 rfl Tryz.ntmps47 rfl (L := [(0, _), (1, _)]) rfl fun w hh => ?_
  refine g_seq ?_
  refine g_region ?_
  refine g_eff (e_box rfl (by rfl)) rfl (fun _ _ => ?_)
  rintro ⟨b3, rfl, rfl⟩
  refine g_pure (p_assign rfl) rfl ?_
  refine g_pure (p_assign rfl) rfl ?_
  refine g_nil ?_
  refine g_qt ?_
  refine g_seq ?_
  refine g_region ?_
  refine g_pure (p_move rfl) rfl ?_
  refine g_call (Hin := ?hi2) (Hr := ?hr2) (R := ?rr2) rfl rfl rfl ?hin2 ?hc2 ?hk2
  case hc2 => intro ρ' hρ hR; exact next_yes (hk.mono hρ) r s t k h0 hs hf
  case hin2 => repeat' (first | exact Cover.nil | exact Take.here | apply Cover.cons | apply Take.there)
  rintro _ _ ⟨rfl, rfl⟩
  refine g_pure (p_move rfl) rfl ?_
  refine g_pure (p_extract rfl rfl) rfl ?_
  refine g_pure (p_extract rfl rfl) rfl ?_
  refine g_pure (p_assign rfl) rfl ?_
  refine g_pure (p_assign rfl) rfl ?_
  refine g_nil ?_
  refine g_qt ?_
  refine g_seq ?_
  refine g_seq ?_
  refine g_region ?_
  refine g_pure (p_move rfl) rfl ?_
  refine g_pure (p_not rfl) rfl ?_
  refine g_nil ?_
  refine g_qt ?_
  refine g_iff rfl ?_
  refine g_skip ?_
  refine g_qt ?_
  refine g_seq ?_
  refine g_region ?_
  refine g_pure (p_move rfl) rfl ?_
  refine g_call (Hin := []) (Hr := ?hr3) (R := ?rr3) rfl rfl rfl ?hin3 ?hc3 ?hk3
  case hin3 => repeat' (first | exact Cover.nil | exact Take.here | apply Cover.cons | apply Take.there)
  case hc3 => intro ρ' hρ hR; exact split_w (hk.mono hρ) s 32 hsl
  rintro _ _ ⟨b18, rfl, rfl⟩
  refine g_pure (p_assign rfl) rfl ?_
  refine g_nil ?_
  refine g_qt ?_
  refine g_seq ?_
  refine g_region ?_
  refine g_pure (p_assign rfl) rfl ?_
  refine g_nil ?_
  refine g_qt ?_
  refine g_seq ?_
  refine g_seq ?_
  refine g_region ?_
  refine g_pure (p_move rfl) rfl ?_
  refine g_pure (p_len (by rfl) rfl) rfl ?_
  refine g_pure (p_move rfl) rfl ?_
  refine g_nil ?_
  refine g_qt ?_
  refine g_block ?_
  generalize pieces 32 s = W at hmem hne hpl
  refine g_ownnil (e := 3) (size := 1) ?_
  refine g_loop (fun x : Nat × List Int × Option Addr × Nat => [(0, .pointer (some ⟨r, 0, none⟩)), (3, .pointer (some ⟨b3, 0, none⟩)), (8, .slice (some ⟨b18, 0, none⟩) W.length W.length), (9, .slice x.2.2.1 x.2.1.length x.2.2.2), (23, .slice (some ⟨b18, 0, none⟩) W.length W.length), (24, .int .i64 W.length), (25, .int .i64 x.1)])
    (fun x => [Blk r (.cells [.string (strOf t), .int .i64 (k + 1)].toArray 97 (0, 0)), Blk b3 (.cells [.int .i64 n].toArray 3 (0, 0)), Blk b18 (.cells (W.map fun x => Value.string (strOf x)).toArray 9 (0, 0)), OwnSl 3 1 x.2.2.1 x.2.1.length x.2.2.2 (x.2.1.map encI)])
    (fun x => Prog W x.1 x.2.1) (fun x => W.length - x.1) (0, [], none, 0) (Prog.start hne) (by (repeat (first | exact trivial | refine ⟨by rfl, ?_⟩)); done) (by repeat' (first | exact Cover.nil | exact Take.here | apply Cover.cons | apply Take.there)) ?_
  rintro ⟨i, cs, a, cap⟩ hP
  dsimp only at hP ⊢
  have hcl := hP.len
  have hil := hP.le
  refine g_seq ?_
  refine g_region ?_
  refine g_pure (p_lss rfl rfl) rfl ?_
  refine g_nil ?_
  refine g_qt ?_
  refine g_seq ?_
  refine g_ifd rfl (fun q => ?_) (fun q => ?_)
  · have hi : i < W.length := by omega
    have hw := hmem W[i] (List.getElem_mem hi)
    refine g_skip ?_
    refine g_qt ?_
    refine g_seq ?_
    refine g_block ?_
    refine g_seq ?_
    refine g_region ?_
    refine g_pure (p_move rfl) rfl ?_
    refine g_pure (p_indexAddr rfl rfl (by omega) (by first | exact fun _ => rfl | assumption)) rfl ?_
    refine g_pure (p_load (by rfl) rfl (Has.own (by repeat' (first | exact Take.here | apply Take.there))) (show (W.map fun x => Value.string (strOf x))[0 + (i : Int).toNat * 1]? = some (.string (strOf W[i])) by simp [List.getElem?_eq_getElem hi])) rfl ?_
    refine g_pure (p_assign rfl) rfl ?_
    refine g_pure (p_assign rfl) rfl ?_
    refine g_nil ?_
    refine g_qt ?_
    refine g_seq ?_
    refine g_region ?_
    refine g_pure (p_move rfl) rfl ?_
    cases hA : numV W[i] with
    | none =>
      refine g_call (Hin := []) (Hr := ?hr4) (R := ?rr4) rfl rfl rfl ?hin4 ?hc4 ?hk4
      case hin4 => repeat' (first | exact Cover.nil | exact Take.here | apply Cover.cons | apply Take.there)
      case hc4 => intro ρ' hρ hR; exact number_no (hk.mono hρ) W[i] (by omega) hA
      rintro _ _ ⟨rfl, rfl⟩
      refine g_pure (p_move rfl) rfl ?_
      refine g_pure (p_extract rfl rfl) rfl ?_
      refine g_pure (p_extract rfl rfl) rfl ?_
      refine g_pure (p_assign rfl) rfl ?_
      refine g_pure (p_assign rfl) rfl ?_
      refine g_nil ?_
      refine g_qt ?_
      refine g_seq ?_
      refine g_seq ?_
      refine g_region ?_
      refine g_pure (p_move rfl) rfl ?_
      refine g_pure (p_not rfl) rfl ?_
      refine g_pure (p_move rfl) rfl ?_
      refine g_no rfl rfl rfl rfl ?_
      refine g_no rfl rfl rfl rfl ?_
      refine g_no rfl rfl rfl rfl ?_
      refine g_no rfl rfl rfl rfl ?_
      refine g_no rfl rfl rfl rfl ?_
      refine g_no rfl rfl rfl rfl ?_
      refine g_no rfl rfl rfl rfl ?_
      refine g_no rfl rfl rfl rfl ?_
      first | refine g_pure (p_pickt rfl rfl) rfl ?_ | refine g_pure (p_pickf rfl rfl) rfl ?_
      refine g_nil ?_
      refine g_qt ?_
      refine g_ift rfl ?_
      refine g_seq ?_
      refine g_region ?_
      refine g_pure (p_assign rfl) rfl ?_
      refine g_pure (p_assign rfl) rfl ?_
      refine g_nil ?_
      refine g_qt ?_
      refine g_ret ?_
      refine g_qt_ret ?_
      refine g_qb_ret ?_
      refine g_qt_ret ?_
      refine g_qn_ret ?_
      refine g_qb_ret ?_
      refine g_qt_ret ?_
      exact g_post (Ho := [Blk r (.cells [.string (strOf t), .int .i64 (k + 1)].toArray 97 (0, 0))]) (rs := [.tmp 4, .tmp 5]) rfl (.tmp rfl (.tmp rfl .nil)) (by rw [hP.bad hi hA]; exact ⟨rfl, rfl⟩) (by repeat' (first | exact Cover.nil | exact Take.here | apply Cover.cons | apply Take.there))
    | some x =>
      refine g_call (Hin := []) (Hr := ?hr5) (R := ?rr5) rfl rfl rfl ?hin5 ?hc5 ?hk5
      case hin5 => repeat' (first | exact Cover.nil | exact Take.here | apply Cover.cons | apply Take.there)
      case hc5 => intro ρ' hρ hR; exact number_yes (hk.mono hρ) W[i] (by omega) hA
      rintro _ _ ⟨rfl, rfl⟩
      refine g_pure (p_move rfl) rfl ?_
      refine g_pure (p_extract rfl rfl) rfl ?_
      refine g_pure (p_extract rfl rfl) rfl ?_
      refine g_pure (p_assign rfl) rfl ?_
      refine g_pure (p_assign rfl) rfl ?_
      refine g_nil ?_
      refine g_qt ?_
      refine g_seq ?_
      refine g_seq ?_
      refine g_region ?_
      refine g_pure (p_move rfl) rfl ?_
      refine g_pure (p_not rfl) rfl ?_
      refine g_pure (p_move rfl) rfl ?_
      refine g_yes rfl rfl ?_
      refine g_pure (p_move rfl) rfl ?_
      refine g_yes rfl rfl ?_
      refine g_pure (p_eql rfl rfl) rfl ?_
      refine g_yes rfl rfl ?_
      refine g_pure (p_move rfl) rfl ?_
      refine g_yes rfl rfl ?_
      refine g_pure (p_move rfl) rfl ?_
      refine g_yes rfl rfl ?_
      refine g_pure (p_len (by rfl) rfl) rfl ?_
      refine g_yes rfl rfl ?_
      first | refine g_pure (p_subi rfl rfl (by omega)) rfl ?_ | refine g_pure (p_sub rfl rfl) rfl ?_
      refine g_yes rfl rfl ?_
      refine g_pure (p_eql rfl rfl) rfl ?_
      refine g_yes rfl rfl ?_
      refine g_pure (p_neqb (by rfl) rfl rfl) rfl ?_
      first | refine g_pure (p_pickt rfl rfl) rfl ?_ | refine g_pure (p_pickf rfl rfl) rfl ?_
      refine g_nil ?_
      refine g_qt ?_
      refine g_if rfl (fun c => ?_) (fun c => ?_)
      · refine g_seq ?_
        refine g_region ?_
        refine g_pure (p_assign rfl) rfl ?_
        refine g_pure (p_assign rfl) rfl ?_
        refine g_nil ?_
        refine g_qt ?_
        refine g_ret ?_
        refine g_qt_ret ?_
        refine g_qb_ret ?_
        refine g_qt_ret ?_
        refine g_qn_ret ?_
        refine g_qb_ret ?_
        refine g_qt_ret ?_
        have hd : ¬ (x = 0 ↔ i + 1 = W.length) := fun hh => by
          have e : decide (x = 0) = decide ((i : Int) = (W.length : Int) - 1) := by
            rw [decide_eq_decide]; omega
          simp_all
        exact g_post (Ho := [Blk r (.cells [.string (strOf t), .int .i64 (k + 1)].toArray 97 (0, 0))]) (rs := [.tmp 4, .tmp 5]) rfl (.tmp rfl (.tmp rfl .nil)) (by rw [hP.odd hi hA hd]; exact ⟨rfl, rfl⟩) (by repeat' (first | exact Cover.nil | exact Take.here | apply Cover.cons | apply Take.there))
      · have hd : x = 0 ↔ i + 1 = W.length := by
          have e : decide (x = 0) = decide ((i : Int) = (W.length : Int) - 1) := by simpa using c
          rw [decide_eq_decide] at e; omega
        refine g_skip ?_
        refine g_qt ?_
        refine g_region ?_
        refine g_pure (p_move rfl) rfl ?_
        refine g_pure (p_move rfl) rfl ?_
        refine g_eff (e_bs (xs := [.tmp 48]) rfl rfl rfl (by rfl) (by rfl) rfl (by rfl)) rfl (fun _ _ => ?_)
        rintro ⟨b49, rfl, rfl⟩
        refine g_eff (e_appendO (by rfl) (by rfl) rfl rfl (by first | (apply Has.own; (repeat' (first | exact Take.here | apply Take.there)); done) | exact Has.ro (by assumption)) (by rfl) (by rfl) (by repeat' (first | exact Take.here | apply Take.there)) (by omega) (by first | omega | (dsimp only; omega) | (simp <;> omega)) (by omega)) rfl (fun _ _ => ?_)
        rintro ⟨a50, c50, rfl, rfl⟩
        refine g_pure (p_assign rfl) rfl ?_
        refine g_nil ?_
        refine g_qb ?_
        refine g_qt ?_
        refine g_region ?_
        first | refine g_pure (p_addi rfl rfl (by omega)) rfl ?_ | refine g_pure (p_add rfl rfl) rfl ?_
        refine g_pure (p_move rfl) rfl ?_
        refine g_nil ?_
        refine g_qn ?_
        rw [show cs.length + 1 = (cs ++ [x]).length by simp]
        refine g_weak (A := OwnSl 3 1 a50 (cs ++ [x]).length c50 (List.map encI cs ++ [.int .i64 x])) (B := OwnSl 3 1 a50 (cs ++ [x]).length c50 ((cs ++ [x]).map encI)) (by repeat' (first | exact Take.here | apply Take.there)) (fun h hh => by rw [List.map_append]; exact hh) ?_
        exact g_next (i + 1, cs ++ [x], a50, c50) (by (repeat (first | exact trivial | refine ⟨by rfl, ?_⟩)); done) (by repeat' (first | exact Cover.nil | exact Take.here | apply Cover.cons | apply Take.there)) (hP.step hi hA hd) (by dsimp only; omega)
  · have hie : i = W.length := by omega
    subst hie
    obtain ⟨c, rfl, hW⟩ := hP.fin rfl
    have hcl2 : c.length + 1 = W.length := by rw [← hcl]; simp
    rw [hW]
    dsimp only
    rw [show (c ++ [(0 : Int)]).length = c.length + 1 by simp]
    refine g_own (by repeat' (first | exact Take.here | apply Take.there)) (fun _ h _ _ => absurd h (by omega)) (fun g cur r1 r2 r3 r4 r5 r6 => ?_)
    subst r1
    refine g_fold (k := c.length + 1) (cap := cap) (size := 1) (g := g) (xs := (c ++ [(0 : Int)]).map encI) (by repeat' (first | exact Take.here | apply Take.there)) r2 r3 r4 r5 ?_
    refine g_weak .here (own_shrink (m := c.length) (by omega)) ?_
    rw [show ((c ++ [(0 : Int)]).map encI).take (c.length * 1) = c.map encI by simp]
    refine g_exit ?_
    refine g_qt_exit ?_
    refine g_qn_exit ?_
    refine g_qb_exit ?_
    refine g_qt ?_
    refine g_seq ?_
    refine g_region ?_
    refine g_pure (p_move rfl) rfl ?_
    refine g_pure (p_move rfl) rfl ?_
    refine g_pure (p_len (by rfl) rfl) rfl ?_
    first | refine g_pure (p_subi rfl rfl (by omega)) rfl ?_ | refine g_pure (p_sub rfl rfl) rfl ?_
    refine g_pure (p_sliceh rfl rfl (by omega)) rfl ?_
    refine g_pure (p_assign rfl) rfl ?_
    refine g_nil ?_
    refine g_qt ?_
    refine g_seq ?_
    refine g_seq ?_
    refine g_region ?_
    refine g_pure (p_move rfl) rfl ?_
    refine g_pure (p_makeFunc rfl rfl) rfl ?_
    rw [show (((c.length + 1 : Nat) : Int) - 1).toNat = c.length by omega]
    refine g_call (Hin := []) (Hr := ?hr6) (R := ?rr6) rfl rfl rfl ?hin6 ?hc6 ?hk6
    case hin6 => repeat' (first | exact Cover.nil | exact Take.here | apply Cover.cons | apply Take.there)
    case hc6 => intro ρ' hρ hR; exact anyI_ok _ cap c (RSl.of_own hR.1) (by omega) 69 #[.pointer (some ⟨b3, 0, none⟩)] (fun x => decide (n < x) || decide (x < -n)) (fun l hl ρ2 h2 => far_ok (h2 _ _ (Take.ro (A := Blk b3 _) (by repeat' (first | exact Take.here | apply Take.there)) hR).blk) hn0 hn1)
    rintro _ _ ⟨rfl, rfl⟩
    refine g_nil ?_
    refine g_qt ?_
    rw [show c.any (fun x => decide (n < x) || decide (x < -n)) = farV n c from rfl]
    cases hfar : farV n c
    · refine g_iff rfl ?_
      refine g_skip ?_
      refine g_qt ?_
      refine g_seq ?_
      refine g_region ?_
      refine g_pure (p_move rfl) rfl ?_
      refine g_pure (p_assign rfl) rfl ?_
      refine g_pure (p_assign rfl) rfl ?_
      refine g_nil ?_
      refine g_qt ?_
      refine g_ret ?_
      exact g_post (Ho := [Blk r (.cells [.string (strOf t), .int .i64 (k + 1)].toArray 97 (0, 0)), OwnSl 3 1 (some ⟨g, 0, none⟩) c.length cap (c.map encI)]) (rs := [.tmp 4, .tmp 5]) rfl (.tmp rfl (.tmp rfl .nil)) (by rw [if_neg (by decide)]; exact ⟨_, _, rfl, rfl⟩) (by repeat' (first | exact Cover.nil | exact Take.here | apply Cover.cons | apply Take.there))
    · refine g_ift rfl ?_
      refine g_seq ?_
      refine g_region ?_
      refine g_pure (p_assign rfl) rfl ?_
      refine g_pure (p_assign rfl) rfl ?_
      refine g_nil ?_
      refine g_qt ?_
      refine g_ret ?_
      refine g_qt_ret ?_
      exact g_post (Ho := [Blk r (.cells [.string (strOf t), .int .i64 (k + 1)].toArray 97 (0, 0))]) (rs := [.tmp 4, .tmp 5]) rfl (.tmp rfl (.tmp rfl .nil)) (by rw [if_pos rfl]; exact ⟨rfl, rfl⟩) (by repeat' (first | exact Cover.nil | exact Take.here | apply Cover.cons | apply Take.there))
end Go.Proofs.YtopgbgnmjogeeaaGreatDoor
/- Chapter 36: a formula read from its text. Conditions: none. -/
namespace Go.Z.Txt
set_option maxRecDepth 8000
set_option linter.unusedVariables false
set_option linter.unusedSimpArgs false
set_option linter.unusedSectionVars false
open Go Go.Lib
theorem headV_err {s : List UInt8} {e : Int} (h : headV s = .error e) : e ≠ 0 := by
  unfold headV at h
  split at h
  · split at h
    · split at h
      · split at h
        · injection h with h; omega
        · split at h
          · injection h with h; omega
          · cases h
      · injection h with h; omega
    · injection h with h; omega
  · injection h with h; omega
theorem headV_ok {s : List UInt8} {x y : Int} (h : headV s = .ok (x, y)) : 0 ≤ x ∧ x ≤ 262144 ∧ 0 ≤ y ∧ y ≤ 2147483648 := by
  unfold headV at h
  split at h
  · split at h
    · split at h
      · rename_i x' y' hx hy
        have h1 := (numV_some hy).2
        split at h
        · cases h
        · split at h
          · cases h
          · injection h with h; injection h with h2 h3; subst h2; subst h3; omega
      · cases h
    · cases h
  · cases h
theorem map_nila {ε α : Type} (e : Except ε (List α)) : e.map ([] ++ ·) = e := by cases e <;> rfl
theorem map_app {ε α : Type} (e : Except ε (List α)) (F : List α) (c : α) : (e.map (c :: ·)).map (F ++ ·) = e.map ((F ++ [c]) ++ ·) := by
  cases e with
  | error _ => rfl
  | ok l => simp [Except.map]
end Go.Z.Txt
namespace Go.Proofs.YtopgbgnmjogeeaaGreatDoor
set_option maxRecDepth 8000
set_option linter.unusedVariables false
set_option linter.unusedSimpArgs false
set_option linter.unusedSectionVars false
open Go Go.Z Go.Z.Txt Go.Z.Sat Go.Z.Aig Go.Z.Tse Go.RowKit

theorem head_err {ρ : Nat → Obj → Prop} (hk : LibC ρ) (r : Nat) (s t : List UInt8) (hs : (s ++ 10 :: t).length < 4294967281) (hf : (10 : UInt8) ∉ s) {e : Int} (h : headV s = .error e) :
    Con Tryz.prog ρ 46 #[.pointer (some ⟨r, 0, none⟩)] [Blk r (.cells [.string (strOf (s ++ 10 :: t)), .int .i64 0].toArray 97 (0, 0))]
      (fun v H => v = .tuple #[.int .i64 0, .int .i64 0, .int .i64 e] ∧ H = [Blk r (.cells [.string (strOf t), .int .i64 1].toArray 97 (0, 0))]) :=
  (head_yes hk r s t hs hf).mono fun v H h1 => by rw [headR_err h] at h1; exact h1
theorem head_good {ρ : Nat → Obj → Prop} (hk : LibC ρ) (r : Nat) (s t : List UInt8) (hs : (s ++ 10 :: t).length < 4294967281) (hf : (10 : UInt8) ∉ s) {x y : Int} (h : headV s = .ok (x, y)) :
    Con Tryz.prog ρ 46 #[.pointer (some ⟨r, 0, none⟩)] [Blk r (.cells [.string (strOf (s ++ 10 :: t)), .int .i64 0].toArray 97 (0, 0))]
      (fun v H => v = .tuple #[.int .i64 x, .int .i64 y, .int .i64 0] ∧ H = [Blk r (.cells [.string (strOf t), .int .i64 1].toArray 97 (0, 0))]) :=
  (head_yes hk r s t hs hf).mono fun v H h1 => by rw [headR_ok h] at h1; exact h1

/-- what Parse answers -/
def ParR (t : List UInt8) (v : Value) (H : List Assn) : Prop := match parseV t with
  | .ok (n, F) => ∃ ca cc, v = .tuple #[.agg #[.int .i64 n, .slice ca F.length cc], .int .i64 0, .int .i64 0] ∧ H = [Own2 79 3 ca cc (F.map encCl)]
  | .error (k, e) => v = .tuple #[.agg #[.int .i64 0, .slice none 0 0], .int .i64 k, .int .i64 e] ∧ H = []
theorem ParR.err {t : List UInt8} {k e : Int} (h : parseV t = .error (k, e)) : ParR t (.tuple #[.agg #[.int .i64 0, .slice none 0 0], .int .i64 k, .int .i64 e]) [] := by
  unfold ParR; rw [h]; exact ⟨rfl, rfl⟩
theorem parse_ok {ρ : Nat → Obj → Prop} (hk : LibC ρ) (t : List UInt8) (hs : t.length < 4294967281) : Con Tryz.prog ρ 21 #[.string (strOf t)] [] (ParR t) := by
  refine con_intro Tryz.func21 Tryz.call21 rfl Tryz.ntmps21 rfl (L := [(0, _)]) rfl fun w hh => ?_
  refine g_seq ?_
  refine g_region ?_
  refine g_eff (e_alloc (by rfl)) rfl (fun _ _ => ?_)
  rintro ⟨b2, rfl, rfl⟩
  refine g_pure (p_assign rfl) rfl ?_
  refine g_pure (p_assign rfl) rfl ?_
  refine g_nil ?_
  refine g_qt ?_
  refine g_seq ?_
  refine g_region ?_
  refine g_pure (p_move rfl) rfl ?_
  refine g_pure (p_build (by rfl) rfl (by rfl)) rfl ?_
  refine g_eff (e_box rfl (by rfl)) rfl (fun _ _ => ?_)
  rintro ⟨b14, rfl, rfl⟩
  refine g_pure (p_assign rfl) rfl ?_
  refine g_nil ?_
  refine g_qt ?_
  refine g_seq ?_
  refine g_region ?_
  refine g_pure (p_move rfl) rfl ?_
  rcases cut_or 10 t with hf | ⟨s, rest, rfl, hf⟩
  · refine g_call (Hin := ?hi1) (Hr := ?hr1) (R := ?rr1) rfl rfl rfl ?hin1 ?hc1 ?hk1
    case hc1 => intro ρ' hρ hR; exact head_no (hk.mono hρ) b14 t hs hf
    case hin1 => repeat' (first | exact Cover.nil | exact Take.here | apply Cover.cons | apply Take.there)
    rintro _ _ ⟨rfl, rfl⟩
    refine g_pure (p_move rfl) rfl ?_
    refine g_pure (p_extract rfl rfl) rfl ?_
    refine g_pure (p_extract rfl rfl) rfl ?_
    refine g_pure (p_extract rfl rfl) rfl ?_
    refine g_pure (p_assign rfl) rfl ?_
    refine g_pure (p_assign rfl) rfl ?_
    refine g_pure (p_assign rfl) rfl ?_
    refine g_nil ?_
    refine g_qt ?_
    refine g_seq ?_
    refine g_seq ?_
    refine g_region ?_
    refine g_pure (p_move rfl) rfl ?_
    refine g_pure (p_neqT rfl rfl (by first | assumption | decide)) rfl ?_
    refine g_nil ?_
    refine g_qt ?_
    refine g_ift rfl ?_
    refine g_seq ?_
    refine m_begin (.fl 0 0 (.fl 1 0 (.fl 2 0 (.fl 3 0 (.fl 4 1 (.fl 5 0 (.ef 6 (.fl 7 0 (.fl 8 0 .done))))))))) [Blk b14 (.cells [.string (strOf t), .int .i64 1].toArray 97 (0, 0))] (by kernel_rfl) (by kernel_rfl) (by repeat' (first | exact Cover.nil | exact Take.here | apply Cover.cons | apply Take.there)) ?_
    refine m_float0 rfl (fun _ _ => p_build (by rfl) rfl (by rfl)) rfl ?_
    refine m_float0 rfl (fun _ _ => p_move rfl) rfl ?_
    refine m_float0 rfl (fun _ _ => p_nilCheck rfl) rfl ?_
    refine m_float0 rfl (fun _ _ => p_fieldAddr rfl) rfl ?_
    refine m_float rfl (p_load (by rfl) rfl (by first | (apply Has.own; (repeat' (first | exact Take.here | apply Take.there)); done) | exact Has.ro (by assumption)) (by first | rfl | assumption)) rfl ?_
    refine m_float0 rfl (fun _ _ => p_move rfl) rfl ?_
    first | refine m_eff0 rfl (e_storeO rfl rfl (by rfl) (by rfl) (by rfl) (by repeat' (first | exact Take.here | apply Take.there)) (by rfl)) (fun _ _ => ?_) | refine m_eff0 rfl (e_storeN rfl rfl (by rfl) (by rfl) (by rfl) (by repeat' (first | exact Take.here | apply Take.there)) (by simp)) (fun _ _ => ?_)
    rintro rfl
    refine ⟨.some (by repeat' (first | exact Cover.nil | exact Take.here | apply Cover.cons | apply Take.there)), ?_⟩
    refine m_float0 rfl (fun _ _ => p_assign rfl) rfl ?_
    refine m_float0 rfl (fun _ _ => p_assign rfl) rfl ?_
    refine m_nil ?_
    refine g_qt ?_
    refine g_ret ?_
    refine g_qt_ret ?_
    exact g_post (Ho := []) (rs := [.cell 2 30, .tmp 3, .tmp 4]) rfl (Res.cellN (by rfl) rfl (Has.own (by repeat' (first | exact Take.here | apply Take.there))) (by rfl) (.tmp rfl (.tmp rfl .nil))) (ParR.err (by unfold parseV; rw [cut_free hf])) (by repeat' (first | exact Cover.nil | exact Take.here | apply Cover.cons | apply Take.there))
  · cases hH : headV s with
    | error e =>
      have he := headV_err hH
      refine g_call (Hin := ?hi2) (Hr := ?hr2) (R := ?rr2) rfl rfl rfl ?hin2 ?hc2 ?hk2
      case hc2 => intro ρ' hρ hR; exact head_err (hk.mono hρ) b14 s rest hs hf hH
      case hin2 => repeat' (first | exact Cover.nil | exact Take.here | apply Cover.cons | apply Take.there)
      rintro _ _ ⟨rfl, rfl⟩
      refine g_pure (p_move rfl) rfl ?_
      refine g_pure (p_extract rfl rfl) rfl ?_
      refine g_pure (p_extract rfl rfl) rfl ?_
      refine g_pure (p_extract rfl rfl) rfl ?_
      refine g_pure (p_assign rfl) rfl ?_
      refine g_pure (p_assign rfl) rfl ?_
      refine g_pure (p_assign rfl) rfl ?_
      refine g_nil ?_
      refine g_qt ?_
      refine g_seq ?_
      refine g_seq ?_
      refine g_region ?_
      refine g_pure (p_move rfl) rfl ?_
      refine g_pure (p_neqT rfl rfl (by first | assumption | decide)) rfl ?_
      refine g_nil ?_
      refine g_qt ?_
      refine g_ift rfl ?_
      refine g_seq ?_
      refine m_begin (.fl 0 0 (.fl 1 0 (.fl 2 0 (.fl 3 0 (.fl 4 1 (.fl 5 0 (.ef 6 (.fl 7 0 (.fl 8 0 .done))))))))) [Blk b14 (.cells [.string (strOf rest), .int .i64 1].toArray 97 (0, 0))] (by kernel_rfl) (by kernel_rfl) (by repeat' (first | exact Cover.nil | exact Take.here | apply Cover.cons | apply Take.there)) ?_
      refine m_float0 rfl (fun _ _ => p_build (by rfl) rfl (by rfl)) rfl ?_
      refine m_float0 rfl (fun _ _ => p_move rfl) rfl ?_
      refine m_float0 rfl (fun _ _ => p_nilCheck rfl) rfl ?_
      refine m_float0 rfl (fun _ _ => p_fieldAddr rfl) rfl ?_
      refine m_float rfl (p_load (by rfl) rfl (by first | (apply Has.own; (repeat' (first | exact Take.here | apply Take.there)); done) | exact Has.ro (by assumption)) (by first | rfl | assumption)) rfl ?_
      refine m_float0 rfl (fun _ _ => p_move rfl) rfl ?_
      first | refine m_eff0 rfl (e_storeO rfl rfl (by rfl) (by rfl) (by rfl) (by repeat' (first | exact Take.here | apply Take.there)) (by rfl)) (fun _ _ => ?_) | refine m_eff0 rfl (e_storeN rfl rfl (by rfl) (by rfl) (by rfl) (by repeat' (first | exact Take.here | apply Take.there)) (by simp)) (fun _ _ => ?_)
      rintro rfl
      refine ⟨.some (by repeat' (first | exact Cover.nil | exact Take.here | apply Cover.cons | apply Take.there)), ?_⟩
      refine m_float0 rfl (fun _ _ => p_assign rfl) rfl ?_
      refine m_float0 rfl (fun _ _ => p_assign rfl) rfl ?_
      refine m_nil ?_
      refine g_qt ?_
      refine g_ret ?_
      refine g_qt_ret ?_
      exact g_post (Ho := []) (rs := [.cell 2 30, .tmp 3, .tmp 4]) rfl (Res.cellN (by rfl) rfl (Has.own (by repeat' (first | exact Take.here | apply Take.there))) (by rfl) (.tmp rfl (.tmp rfl .nil))) (ParR.err (by unfold parseV; rw [cut_hit rest hf]; dsimp only; rw [hH])) (by repeat' (first | exact Cover.nil | exact Take.here | apply Cover.cons | apply Take.there))
    | ok p =>
      obtain ⟨x, y⟩ := p
      obtain ⟨hx0, hx1, hy0, hy1⟩ := headV_ok hH
      refine g_call (Hin := ?hi3) (Hr := ?hr3) (R := ?rr3) rfl rfl rfl ?hin3 ?hc3 ?hk3
      case hc3 => intro ρ' hρ hR; exact head_good (hk.mono hρ) b14 s rest hs hf hH
      case hin3 => repeat' (first | exact Cover.nil | exact Take.here | apply Cover.cons | apply Take.there)
      rintro _ _ ⟨rfl, rfl⟩
      refine g_pure (p_move rfl) rfl ?_
      refine g_pure (p_extract rfl rfl) rfl ?_
      refine g_pure (p_extract rfl rfl) rfl ?_
      refine g_pure (p_extract rfl rfl) rfl ?_
      refine g_pure (p_assign rfl) rfl ?_
      refine g_pure (p_assign rfl) rfl ?_
      refine g_pure (p_assign rfl) rfl ?_
      refine g_nil ?_
      refine g_qt ?_
      refine g_seq ?_
      refine g_seq ?_
      refine g_region ?_
      refine g_pure (p_move rfl) rfl ?_
      refine g_pure (p_neqF rfl rfl rfl) rfl ?_
      refine g_nil ?_
      refine g_qt ?_
      refine g_iff rfl ?_
      refine g_skip ?_
      refine g_qt ?_
      refine g_seq ?_
      refine g_region ?_
      refine g_pure (p_move rfl) rfl ?_
      refine g_pure (p_build (by rfl) rfl (by rfl)) rfl ?_
      refine g_eff (e_alloc (by rfl)) rfl (fun _ _ => ?_)
      rintro ⟨b9, rfl, rfl⟩
      first | refine g_eff0 (e_storeO rfl rfl (by rfl) (by rfl) (by rfl) (by repeat' (first | exact Take.here | apply Take.there)) (by rfl)) (fun _ _ => ?_) | refine g_eff0 (e_storeN rfl rfl (by rfl) (by rfl) (by rfl) (by repeat' (first | exact Take.here | apply Take.there)) (by simp)) (fun _ _ => ?_)
      rintro rfl
      refine g_nil ?_
      refine g_qt ?_
      refine g_seq ?_
      refine g_seq ?_
      refine g_region ?_
      refine g_pure (p_move rfl) rfl ?_
      refine g_pure (p_move rfl) rfl ?_
      refine g_nil ?_
      refine g_qt ?_
      refine g_block ?_
      have hP : parseV (s ++ 10 :: rest) = (bodyV x y.toNat rest 1).map (x, ·) := by unfold parseV; rw [cut_hit rest hf]; dsimp only; rw [hH]
      refine g_ownnil (e := 79) (size := 1) ?_
      refine g_nils (eo := 79) (ei := 3) (a := none) (k := 0) (cap := 0) .here ?_
      refine g_loop (fun q : Nat × List (List Int) × List UInt8 × Option Addr × Nat => [(2, .pointer (some ⟨b2, 0, none⟩)), (5, .pointer (some ⟨b14, 0, none⟩)), (6, .int .i64 x), (9, .pointer (some ⟨b9, 0, none⟩)), (31, .int .i64 y), (32, .int .i64 q.1)])
        (fun q => [Blk b2 (.cells [.int .i64 0, .slice none 0 0].toArray 30 (0, 0)), Blk b14 (.cells [.string (strOf q.2.2.1), .int .i64 ((q.1 : Int) + 1)].toArray 97 (0, 0)), Blk b9 (.cells [.int .i64 x, .slice q.2.2.2.1 q.2.1.length q.2.2.2.2].toArray 30 (0, 0)), Own2 79 3 q.2.2.2.1 q.2.2.2.2 (q.2.1.map encCl)])
        (fun q => q.1 ≤ y.toNat ∧ q.2.1.length = q.1 ∧ q.2.2.1.length ≤ rest.length ∧ parseV (s ++ 10 :: rest) = ((bodyV x (y.toNat - q.1) q.2.2.1 ((q.1 : Int) + 1)).map (q.2.1 ++ ·)).map (x, ·))
        (fun q => y.toNat - q.1) (0, [], rest, none, 0) ⟨Nat.zero_le _, rfl, Nat.le_refl _, by rw [hP]; exact congrArg _ (map_nila _).symm⟩ (by (repeat (first | exact trivial | refine ⟨by rfl, ?_⟩)); done) (by repeat' (first | exact Cover.nil | exact Take.here | apply Cover.cons | apply Take.there)) ?_
      rintro ⟨i, F, l, ca, cc⟩ ⟨hi, hFi, hl, hI⟩
      dsimp only at hi hFi hl hI ⊢
      have hll : l.length < 4294967281 := by rw [List.length_append, List.length_cons] at hs; omega
      refine g_seq ?_
      refine g_region ?_
      refine g_pure (p_lss rfl rfl) rfl ?_
      refine g_nil ?_
      refine g_qt ?_
      refine g_seq ?_
      refine g_ifd rfl (fun q => ?_) (fun q => ?_)
      · obtain ⟨k, hk1⟩ : ∃ k, y.toNat - i = k + 1 := ⟨y.toNat - i - 1, by omega⟩
        rw [hk1, bodyV] at hI
        refine g_skip ?_
        refine g_qt ?_
        refine g_seq ?_
        refine g_block ?_
        refine g_seq ?_
        refine g_region ?_
        refine g_pure (p_move rfl) rfl ?_
        refine g_pure (p_move rfl) rfl ?_
        rcases cut_or 10 l with hf2 | ⟨s2, l2, rfl, hf2⟩
        · rw [cut_free hf2] at hI
          refine g_call (Hin := ?hi4) (Hr := ?hr4) (R := ?rr4) rfl rfl rfl ?hin4 ?hc4 ?hk4
          case hc4 => intro ρ' hρ hR; exact clause_no (hk.mono hρ) b14 l ((i : Int) + 1) x (by omega) hll hf2
          case hin4 => repeat' (first | exact Cover.nil | exact Take.here | apply Cover.cons | apply Take.there)
          rintro _ _ ⟨rfl, rfl⟩
          refine g_pure (p_move rfl) rfl ?_
          refine g_pure (p_extract rfl rfl) rfl ?_
          refine g_pure (p_extract rfl rfl) rfl ?_
          refine g_pure (p_assign rfl) rfl ?_
          refine g_pure (p_assign rfl) rfl ?_
          refine g_nil ?_
          refine g_qt ?_
          refine g_seq ?_
          refine g_seq ?_
          refine g_region ?_
          refine g_pure (p_move rfl) rfl ?_
          refine g_pure (p_neqT rfl rfl (by decide)) rfl ?_
          refine g_nil ?_
          refine g_qt ?_
          refine g_ift rfl ?_
          refine g_seq ?_
          refine m_begin (.fl 0 0 (.fl 1 0 (.fl 2 0 (.fl 3 0 (.fl 4 1 (.fl 5 0 (.ef 6 (.fl 7 0 (.fl 8 0 .done))))))))) [Blk b14 (.cells [.string (strOf l), .int .i64 ((i : Int) + 1 + 1)].toArray 97 (0, 0))] (by kernel_rfl) (by kernel_rfl) (by repeat' (first | exact Cover.nil | exact Take.here | apply Cover.cons | apply Take.there)) ?_
          refine m_float0 rfl (fun _ _ => p_build (by rfl) rfl (by rfl)) rfl ?_
          refine m_float0 rfl (fun _ _ => p_move rfl) rfl ?_
          refine m_float0 rfl (fun _ _ => p_nilCheck rfl) rfl ?_
          refine m_float0 rfl (fun _ _ => p_fieldAddr rfl) rfl ?_
          refine m_float rfl (p_load (by rfl) rfl (by first | (apply Has.own; (repeat' (first | exact Take.here | apply Take.there)); done) | exact Has.ro (by assumption)) (by first | rfl | assumption)) rfl ?_
          refine m_float0 rfl (fun _ _ => p_move rfl) rfl ?_
          first | refine m_eff0 rfl (e_storeO rfl rfl (by rfl) (by rfl) (by rfl) (by repeat' (first | exact Take.here | apply Take.there)) (by rfl)) (fun _ _ => ?_) | refine m_eff0 rfl (e_storeN rfl rfl (by rfl) (by rfl) (by rfl) (by repeat' (first | exact Take.here | apply Take.there)) (by simp)) (fun _ _ => ?_)
          rintro rfl
          refine ⟨.some (by repeat' (first | exact Cover.nil | exact Take.here | apply Cover.cons | apply Take.there)), ?_⟩
          refine m_float0 rfl (fun _ _ => p_assign rfl) rfl ?_
          refine m_float0 rfl (fun _ _ => p_assign rfl) rfl ?_
          refine m_nil ?_
          refine g_qt ?_
          refine g_ret ?_
          refine g_qt_ret ?_
          refine g_qb_ret ?_
          refine g_qt_ret ?_
          refine g_qn_ret ?_
          refine g_qb_ret ?_
          refine g_qt_ret ?_
          exact g_post (Ho := []) (rs := [.cell 2 30, .tmp 3, .tmp 4]) rfl (Res.cellN (by rfl) rfl (Has.own (by repeat' (first | exact Take.here | apply Take.there))) (by rfl) (.tmp rfl (.tmp rfl .nil))) (ParR.err (by rw [hI]; rfl)) (by repeat' (first | exact Cover.nil | exact Take.here | apply Cover.cons | apply Take.there))
        · rw [cut_hit l2 hf2] at hI
          dsimp only at hI
          cases hW : wordsV (pieces 32 s2) with
          | none =>
            rw [hW] at hI
            dsimp only at hI
            refine g_call (Hin := ?hi5) (Hr := ?hr5) (R := ?rr5) rfl rfl rfl ?hin5 ?hc5 ?hk5
            case hc5 => intro ρ' hρ hR; exact (clause_yes (hk.mono hρ) b14 s2 l2 ((i : Int) + 1) x (by omega) hx0 hx1 hll hf2).mono (R' := fun v H => v = .tuple #[.slice none 0 0, .int .i64 5] ∧ H = [Blk b14 (.cells [.string (strOf l2), .int .i64 ((i : Int) + 1 + 1)].toArray 97 (0, 0))]) (fun v H h => by rw [hW] at h; exact h)
            case hin5 => repeat' (first | exact Cover.nil | exact Take.here | apply Cover.cons | apply Take.there)
            rintro _ _ ⟨rfl, rfl⟩
            refine g_pure (p_move rfl) rfl ?_
            refine g_pure (p_extract rfl rfl) rfl ?_
            refine g_pure (p_extract rfl rfl) rfl ?_
            refine g_pure (p_assign rfl) rfl ?_
            refine g_pure (p_assign rfl) rfl ?_
            refine g_nil ?_
            refine g_qt ?_
            refine g_seq ?_
            refine g_seq ?_
            refine g_region ?_
            refine g_pure (p_move rfl) rfl ?_
            refine g_pure (p_neqT rfl rfl (by decide)) rfl ?_
            refine g_nil ?_
            refine g_qt ?_
            refine g_ift rfl ?_
            refine g_seq ?_
            refine m_begin (.fl 0 0 (.fl 1 0 (.fl 2 0 (.fl 3 0 (.fl 4 1 (.fl 5 0 (.ef 6 (.fl 7 0 (.fl 8 0 .done))))))))) [Blk b14 (.cells [.string (strOf l2), .int .i64 ((i : Int) + 1 + 1)].toArray 97 (0, 0))] (by kernel_rfl) (by kernel_rfl) (by repeat' (first | exact Cover.nil | exact Take.here | apply Cover.cons | apply Take.there)) ?_
            refine m_float0 rfl (fun _ _ => p_build (by rfl) rfl (by rfl)) rfl ?_
            refine m_float0 rfl (fun _ _ => p_move rfl) rfl ?_
            refine m_float0 rfl (fun _ _ => p_nilCheck rfl) rfl ?_
            refine m_float0 rfl (fun _ _ => p_fieldAddr rfl) rfl ?_
            refine m_float rfl (p_load (by rfl) rfl (by first | (apply Has.own; (repeat' (first | exact Take.here | apply Take.there)); done) | exact Has.ro (by assumption)) (by first | rfl | assumption)) rfl ?_
            refine m_float0 rfl (fun _ _ => p_move rfl) rfl ?_
            first | refine m_eff0 rfl (e_storeO rfl rfl (by rfl) (by rfl) (by rfl) (by repeat' (first | exact Take.here | apply Take.there)) (by rfl)) (fun _ _ => ?_) | refine m_eff0 rfl (e_storeN rfl rfl (by rfl) (by rfl) (by rfl) (by repeat' (first | exact Take.here | apply Take.there)) (by simp)) (fun _ _ => ?_)
            rintro rfl
            refine ⟨.some (by repeat' (first | exact Cover.nil | exact Take.here | apply Cover.cons | apply Take.there)), ?_⟩
            refine m_float0 rfl (fun _ _ => p_assign rfl) rfl ?_
            refine m_float0 rfl (fun _ _ => p_assign rfl) rfl ?_
            refine m_nil ?_
            refine g_qt ?_
            refine g_ret ?_
            refine g_qt_ret ?_
            refine g_qb_ret ?_
            refine g_qt_ret ?_
            refine g_qn_ret ?_
            refine g_qb_ret ?_
            refine g_qt_ret ?_
            exact g_post (Ho := []) (rs := [.cell 2 30, .tmp 3, .tmp 4]) rfl (Res.cellN (by rfl) rfl (Has.own (by repeat' (first | exact Take.here | apply Take.there))) (by rfl) (.tmp rfl (.tmp rfl .nil))) (ParR.err (by rw [hI]; rfl)) (by repeat' (first | exact Cover.nil | exact Take.here | apply Cover.cons | apply Take.there))
          | some c =>
            rw [hW] at hI
            dsimp only at hI
            cases hfar : farV x c with
            | true =>
              rw [if_pos hfar] at hI
              refine g_call (Hin := ?hi6) (Hr := ?hr6) (R := ?rr6) rfl rfl rfl ?hin6 ?hc6 ?hk6
              case hc6 => intro ρ' hρ hR; exact (clause_yes (hk.mono hρ) b14 s2 l2 ((i : Int) + 1) x (by omega) hx0 hx1 hll hf2).mono (R' := fun v H => v = .tuple #[.slice none 0 0, .int .i64 14] ∧ H = [Blk b14 (.cells [.string (strOf l2), .int .i64 ((i : Int) + 1 + 1)].toArray 97 (0, 0))]) (fun v H h => by rw [hW] at h; dsimp only at h; rw [if_pos hfar] at h; exact h)
              case hin6 => repeat' (first | exact Cover.nil | exact Take.here | apply Cover.cons | apply Take.there)
              rintro _ _ ⟨rfl, rfl⟩
              refine g_pure (p_move rfl) rfl ?_
              refine g_pure (p_extract rfl rfl) rfl ?_
              refine g_pure (p_extract rfl rfl) rfl ?_
              refine g_pure (p_assign rfl) rfl ?_
              refine g_pure (p_assign rfl) rfl ?_
              refine g_nil ?_
              refine g_qt ?_
              refine g_seq ?_
              refine g_seq ?_
              refine g_region ?_
              refine g_pure (p_move rfl) rfl ?_
              refine g_pure (p_neqT rfl rfl (by decide)) rfl ?_
              refine g_nil ?_
              refine g_qt ?_
              refine g_ift rfl ?_
              refine g_seq ?_
              refine m_begin (.fl 0 0 (.fl 1 0 (.fl 2 0 (.fl 3 0 (.fl 4 1 (.fl 5 0 (.ef 6 (.fl 7 0 (.fl 8 0 .done))))))))) [Blk b14 (.cells [.string (strOf l2), .int .i64 ((i : Int) + 1 + 1)].toArray 97 (0, 0))] (by kernel_rfl) (by kernel_rfl) (by repeat' (first | exact Cover.nil | exact Take.here | apply Cover.cons | apply Take.there)) ?_
              refine m_float0 rfl (fun _ _ => p_build (by rfl) rfl (by rfl)) rfl ?_
              refine m_float0 rfl (fun _ _ => p_move rfl) rfl ?_
              refine m_float0 rfl (fun _ _ => p_nilCheck rfl) rfl ?_
              refine m_float0 rfl (fun _ _ => p_fieldAddr rfl) rfl ?_
              refine m_float rfl (p_load (by rfl) rfl (by first | (apply Has.own; (repeat' (first | exact Take.here | apply Take.there)); done) | exact Has.ro (by assumption)) (by first | rfl | assumption)) rfl ?_
              refine m_float0 rfl (fun _ _ => p_move rfl) rfl ?_
              first | refine m_eff0 rfl (e_storeO rfl rfl (by rfl) (by rfl) (by rfl) (by repeat' (first | exact Take.here | apply Take.there)) (by rfl)) (fun _ _ => ?_) | refine m_eff0 rfl (e_storeN rfl rfl (by rfl) (by rfl) (by rfl) (by repeat' (first | exact Take.here | apply Take.there)) (by simp)) (fun _ _ => ?_)
              rintro rfl
              refine ⟨.some (by repeat' (first | exact Cover.nil | exact Take.here | apply Cover.cons | apply Take.there)), ?_⟩
              refine m_float0 rfl (fun _ _ => p_assign rfl) rfl ?_
              refine m_float0 rfl (fun _ _ => p_assign rfl) rfl ?_
              refine m_nil ?_
              refine g_qt ?_
              refine g_ret ?_
              refine g_qt_ret ?_
              refine g_qb_ret ?_
              refine g_qt_ret ?_
              refine g_qn_ret ?_
              refine g_qb_ret ?_
              refine g_qt_ret ?_
              exact g_post (Ho := []) (rs := [.cell 2 30, .tmp 3, .tmp 4]) rfl (Res.cellN (by rfl) rfl (Has.own (by repeat' (first | exact Take.here | apply Take.there))) (by rfl) (.tmp rfl (.tmp rfl .nil))) (ParR.err (by rw [hI]; rfl)) (by repeat' (first | exact Cover.nil | exact Take.here | apply Cover.cons | apply Take.there))
            | false =>
              rw [if_neg (by rw [hfar]; decide), map_app] at hI
              refine g_call (Hin := ?hi7) (Hr := ?hr7) (R := ?rr7) rfl rfl rfl ?hin7 ?hc7 ?hk7
              case hc7 => intro ρ' hρ hR; exact (clause_yes (hk.mono hρ) b14 s2 l2 ((i : Int) + 1) x (by omega) hx0 hx1 hll hf2).mono (R' := fun v H => ∃ a cap, v = .tuple #[.slice a c.length cap, .int .i64 0] ∧ H = [Blk b14 (.cells [.string (strOf l2), .int .i64 ((i : Int) + 1 + 1)].toArray 97 (0, 0)), OwnSl 3 1 a c.length cap (c.map encI)]) (fun v H h => by rw [hW] at h; dsimp only at h; rw [if_neg (by rw [hfar]; decide)] at h; exact h)
              case hin7 => repeat' (first | exact Cover.nil | exact Take.here | apply Cover.cons | apply Take.there)
              rintro _ _ ⟨ra, rc, rfl, rfl⟩
              refine g_pure (p_move rfl) rfl ?_
              refine g_pure (p_extract rfl rfl) rfl ?_
              refine g_pure (p_extract rfl rfl) rfl ?_
              refine g_pure (p_assign rfl) rfl ?_
              refine g_pure (p_assign rfl) rfl ?_
              refine g_nil ?_
              refine g_qt ?_
              refine g_seq ?_
              refine g_seq ?_
              refine g_region ?_
              refine g_pure (p_move rfl) rfl ?_
              refine g_pure (p_neqF rfl rfl rfl) rfl ?_
              refine g_nil ?_
              refine g_qt ?_
              rw [show c.length = (encCl c).length by simp [encCl]]
              refine g_open2 (H' := _) (eo := 79) (ei := 3) (a := ca) (cap := cc) (rows := F.map encCl) (by repeat' (first | exact Take.here | apply Take.there)) ?_
              rintro hs2 hhs
              rw [List.length_map] at hhs ⊢
              refine g_iff rfl ?_
              refine g_skip ?_
              refine g_qt ?_
              refine g_region ?_
              refine g_pure (p_fieldAddr rfl) rfl ?_
              refine g_pure (p_load (by rfl) rfl (by first | (apply Has.own; (repeat' (first | exact Take.here | apply Take.there)); done) | exact Has.ro (by assumption)) (by first | rfl | assumption)) rfl ?_
              refine g_pure (p_move rfl) rfl ?_
              refine g_eff (e_bs (xs := [.tmp 50]) rfl rfl rfl (by rfl) (by rfl) rfl (by rfl)) rfl (fun _ _ => ?_)
              rintro ⟨b51, rfl, rfl⟩
              refine g_eff (e_appendO (by rfl) (by rfl) rfl rfl (by first | (apply Has.own; (repeat' (first | exact Take.here | apply Take.there)); done) | exact Has.ro (by assumption)) (by rfl) (by rfl) (by repeat' (first | exact Take.here | apply Take.there)) (by omega) (by first | omega | (dsimp only; omega) | (simp <;> omega)) (by omega)) rfl (fun _ _ => ?_)
              rintro ⟨a52, c52, rfl, rfl⟩
              refine g_pure (p_fieldAddr rfl) rfl ?_
              first | refine g_eff0 (e_storeO rfl rfl (by rfl) (by rfl) (by rfl) (by repeat' (first | exact Take.here | apply Take.there)) (by rfl)) (fun _ _ => ?_) | refine g_eff0 (e_store1 (by rfl) rfl rfl rfl (by repeat' (first | exact Take.here | apply Take.there)) (by first | decide | (simp <;> omega) | omega)) (fun _ _ => ?_)
              rintro rfl
              refine g_nil ?_
              refine g_qb ?_
              refine g_qt ?_
              refine g_region ?_
              first | refine g_pure (p_addi rfl rfl (by omega)) rfl ?_ | refine g_pure (p_add rfl rfl) rfl ?_
              refine g_pure (p_move rfl) rfl ?_
              refine g_nil ?_
              refine g_qn ?_
              refine g_push1 (rows := F.map encCl) (hs := hs2) (ei := 3) (by rw [List.length_map]; exact hhs) (g := (ra, rc)) (r := encCl c) (by rw [List.length_map]) rfl (by repeat' (first | exact Take.here | apply Take.there)) (by repeat' (first | exact Take.here | apply Take.there)) (by repeat' (first | exact Take.here | apply Take.there)) ?_
              rw [show F.map encCl ++ [encCl c] = (F ++ [c]).map encCl by simp, show F.length + 1 = (F ++ [c]).length by simp]
              exact g_next (i + 1, F ++ [c], l2, a52, c52) (by (repeat (first | exact trivial | refine ⟨by rfl, ?_⟩)); done) (by repeat' (first | exact Cover.nil | exact Take.here | apply Cover.cons | apply Take.there)) ⟨by dsimp only; omega, by dsimp only; rw [List.length_append, hFi]; rfl, by dsimp only; rw [List.length_append, List.length_cons] at hl; omega, by dsimp only; rw [hI, show y.toNat - (i + 1) = k by omega]; rfl⟩ (by dsimp only; omega)
      · rw [show y.toNat - i = 0 by omega, bodyV] at hI
        by_cases hle : l = []
        · subst hle
          rw [if_pos rfl] at hI
          have hI2 : parseV (s ++ 10 :: rest) = .ok (x, F) := by rw [hI]; simp [Except.map]
          refine g_exit ?_
          refine g_qt_exit ?_
          refine g_qn_exit ?_
          refine g_qb_exit ?_
          refine g_qt ?_
          refine g_seq ?_
          refine g_seq ?_
          refine g_region ?_
          refine g_pure (p_move rfl) rfl ?_
          refine g_pure (p_nilCheck rfl) rfl ?_
          refine g_pure (p_fieldAddr rfl) rfl ?_
          refine g_pure (p_load (by rfl) rfl (by first | (apply Has.own; (repeat' (first | exact Take.here | apply Take.there)); done) | exact Has.ro (by assumption)) (by first | rfl | assumption)) rfl ?_
          refine g_pure (p_neqsF (by rfl) rfl rfl rfl) rfl ?_
          refine g_nil ?_
          refine g_qt ?_
          refine g_iff rfl ?_
          refine g_skip ?_
          refine g_qt ?_
          refine g_seq ?_
          refine g_region ?_
          first | refine g_pure (p_loadO (by rfl) rfl (by first | (apply Has.own; (repeat' (first | exact Take.here | apply Take.there)); done) | exact Has.ro (by assumption)) (by rfl)) rfl ?_ | refine g_pure (p_loadN (by rfl) rfl (by first | (apply Has.own; (repeat' (first | exact Take.here | apply Take.there)); done) | exact Has.ro (by assumption)) (by first | rfl | assumption)) rfl ?_
          first | refine g_eff0 (e_storeO rfl rfl (by rfl) (by rfl) (by rfl) (by repeat' (first | exact Take.here | apply Take.there)) (by rfl)) (fun _ _ => ?_) | refine g_eff0 (e_storeN rfl rfl (by rfl) (by rfl) (by rfl) (by repeat' (first | exact Take.here | apply Take.there)) (by simp)) (fun _ _ => ?_)
          rintro rfl
          refine g_pure (p_assign rfl) rfl ?_
          refine g_pure (p_assign rfl) rfl ?_
          refine g_nil ?_
          refine g_qt ?_
          refine g_ret ?_
          exact g_post (Ho := [Own2 79 3 ca cc (F.map encCl)]) (rs := [.cell 2 30, .tmp 3, .tmp 4]) rfl (Res.cellN (by rfl) rfl (Has.own (by repeat' (first | exact Take.here | apply Take.there))) (by rfl) (.tmp rfl (.tmp rfl .nil))) (by unfold ParR; rw [hI2]; exact ⟨ca, cc, rfl, rfl⟩) (by repeat' (first | exact Cover.nil | exact Take.here | apply Cover.cons | apply Take.there))
        · rw [if_neg hle] at hI
          refine g_exit ?_
          refine g_qt_exit ?_
          refine g_qn_exit ?_
          refine g_qb_exit ?_
          refine g_qt ?_
          refine g_seq ?_
          refine g_seq ?_
          refine g_region ?_
          refine g_pure (p_move rfl) rfl ?_
          refine g_pure (p_nilCheck rfl) rfl ?_
          refine g_pure (p_fieldAddr rfl) rfl ?_
          refine g_pure (p_load (by rfl) rfl (by first | (apply Has.own; (repeat' (first | exact Take.here | apply Take.there)); done) | exact Has.ro (by assumption)) (by first | rfl | assumption)) rfl ?_
          refine g_pure (p_neqsT (by rfl) rfl rfl (fun e => hle (strOf_inj.1 e))) rfl ?_
          refine g_nil ?_
          refine g_qt ?_
          refine g_ift rfl ?_
          refine g_seq ?_
          refine m_begin (.fl 0 0 (.fl 1 0 (.fl 2 0 (.fl 3 0 (.fl 4 1 (.fl 5 0 (.ef 6 (.fl 7 0 (.fl 8 0 .done))))))))) [Blk b14 (.cells [.string (strOf l), .int .i64 ((i : Int) + 1)].toArray 97 (0, 0))] (by kernel_rfl) (by kernel_rfl) (by repeat' (first | exact Cover.nil | exact Take.here | apply Cover.cons | apply Take.there)) ?_
          refine m_float0 rfl (fun _ _ => p_build (by rfl) rfl (by rfl)) rfl ?_
          refine m_float0 rfl (fun _ _ => p_move rfl) rfl ?_
          refine m_float0 rfl (fun _ _ => p_nilCheck rfl) rfl ?_
          refine m_float0 rfl (fun _ _ => p_fieldAddr rfl) rfl ?_
          refine m_float rfl (p_load (by rfl) rfl (by first | (apply Has.own; (repeat' (first | exact Take.here | apply Take.there)); done) | exact Has.ro (by assumption)) (by first | rfl | assumption)) rfl ?_
          first | refine m_float0 rfl (fun _ _ => p_addi rfl rfl (by omega)) rfl ?_ | refine m_float0 rfl (fun _ _ => p_add rfl rfl) rfl ?_
          first | refine m_eff0 rfl (e_storeO rfl rfl (by rfl) (by rfl) (by rfl) (by repeat' (first | exact Take.here | apply Take.there)) (by rfl)) (fun _ _ => ?_) | refine m_eff0 rfl (e_storeN rfl rfl (by rfl) (by rfl) (by rfl) (by repeat' (first | exact Take.here | apply Take.there)) (by simp)) (fun _ _ => ?_)
          rintro rfl
          refine ⟨.some (by repeat' (first | exact Cover.nil | exact Take.here | apply Cover.cons | apply Take.there)), ?_⟩
          refine m_float0 rfl (fun _ _ => p_assign rfl) rfl ?_
          refine m_float0 rfl (fun _ _ => p_assign rfl) rfl ?_
          refine m_nil ?_
          refine g_qt ?_
          refine g_ret ?_
          refine g_qt_ret ?_
          exact g_post (Ho := []) (rs := [.cell 2 30, .tmp 3, .tmp 4]) rfl (Res.cellN (by rfl) rfl (Has.own (by repeat' (first | exact Take.here | apply Take.there))) (by rfl) (.tmp rfl (.tmp rfl .nil))) (ParR.err (by rw [hI]; rfl)) (by repeat' (first | exact Cover.nil | exact Take.here | apply Cover.cons | apply Take.there))
end Go.Proofs.YtopgbgnmjogeeaaGreatDoor
/- Own layer: pieces of strings, bytes of a string as a row of one's own (which bears a mark behind its end), and back. Conditions: none; generic in the program. -/
namespace Go.Z
set_option maxRecDepth 8000
set_option linter.unusedVariables false
set_option linter.unusedSimpArgs false
set_option linter.unusedSectionVars false
open Go Go.Lib

variable {P : Program} {n : Nat} {L L' : Fr} {H H' Hi Hr : List Assn} {M : Mx} {Q : Exit → Act → World → Prop} {ops : Array Oper} {rest : List Oper}
variable {dd : Option Tmp} {ty t tu : TypeId} {ps : String} {af : Array Edge} {gd : Option (Nat × Bool)} {x y z : Operand} {v u : Value} {w w' : World} {tz : TypeId}

theorem p_slices {yt : Ty} {l : List UInt8} {k k' : IntKind} {i j : Int} [ht : TyC P t yt] (hd : yt.d = .string) (h1 : ev L x = some (.string ⟨l.toArray⟩)) (h2 : ev L y = some (.int k i)) (h3 : ev L z = some (.int k' j)) (h0 : 0 ≤ i ∧ i ≤ j) (hj : j ≤ l.length) :
    Pur P M n L H ⟨dd, .slice t x (some y) (some z) none, ty, ps, af, gd⟩ (.string ⟨((l.drop i.toNat).take (j.toNat - i.toNat)).toArray⟩) := fun a w ha _ => by
  have hu : P.underlying t = some .string := by rw [ht.u, hd]
  have hs : (⟨l.toArray⟩ : ByteArray).size = l.length := rfl
  have hr := run_slice_string (P := P) w t ⟨l.toArray⟩ k k' i j hu h0.1 h0.2 (by rw [hs]; exact hj)
  have hat := run_sliceAt_string (P := P) (w := w) t (.string ⟨l.toArray⟩) (some (.int k i)) (some (.int k' j)) none hu
  rw [ByteArray.extract_mk] at hr
  rw [hr] at hat
  simp only [execOp, ha.ev h1, Option.map_some, ha.ev h2, ha.ev h3, Option.map_none, Sem.run_bind, hat, Result.andThen_ok, Sem.run_pure]
theorem p_slicesl {yt : Ty} {l : List UInt8} {k : IntKind} {i : Int} [ht : TyC P t yt] (hd : yt.d = .string) (h1 : ev L x = some (.string ⟨l.toArray⟩)) (h2 : ev L y = some (.int k i)) (h0 : 0 ≤ i ∧ i ≤ l.length) :
    Pur P M n L H ⟨dd, .slice t x (some y) none none, ty, ps, af, gd⟩ (.string ⟨(l.drop i.toNat).toArray⟩) := fun a w ha _ => by
  have hu : P.underlying t = some .string := by rw [ht.u, hd]
  have hs : (⟨l.toArray⟩ : ByteArray).size = l.length := rfl
  have hr := run_slice_string_from_if (P := P) w t ⟨l.toArray⟩ k i hu
  have hat := run_sliceAt_string (P := P) (w := w) t (.string ⟨l.toArray⟩) (some (.int k i)) none none hu
  rw [if_pos ⟨h0.1, by rw [hs]; exact h0.2⟩, hs, ByteArray.extract_mk, List.take_of_length_le (by rw [List.length_drop]; omega)] at hr
  rw [hr] at hat
  simp only [execOp, ha.ev h1, Option.map_some, ha.ev h2, Option.map_none, Sem.run_bind, hat, Result.andThen_ok, Sem.run_pure]

/-- a row of bytes of one's own; a mark may lie behind its end -/
def OwnB (e : TypeId) (a : Option Addr) (k cap : Nat) (xs : List Value) : Assn := fun h => xs.length = k ∧ ∃ (g : Nat) (cur : List Value) (fz : Nat × Nat), a = some ⟨g, 0, none⟩ ∧ k ≤ cap ∧ cap ≤ maxLen ∧ cur.length = cap ∧ cur.take k = xs ∧ (fz = (0, 0) ∨ cap ≤ fz.1) ∧ h = one g (.cells cur.toArray e fz)
theorem OwnB.cases {e : TypeId} {a : Option Addr} {k cap : Nat} {xs : List Value} (t : Take H (OwnB e a k cap xs) H') (hm : Ms M H w) :
    xs.length = k ∧ ∃ (g : Nat) (cur : List Value) (fz : Nat × Nat), a = some ⟨g, 0, none⟩ ∧ k ≤ cap ∧ cap ≤ maxLen ∧ cur.length = cap ∧ cur.take k = xs ∧ (fz = (0, 0) ∨ cap ≤ fz.1) ∧ Ms M (Blk g (.cells cur.toArray e fz) :: H') w := by
  obtain ⟨hh, s, su, d, r⟩ := hm.own
  obtain ⟨h1, h2, ⟨e1, g, cur, fz, a1, a2, a3, a4, a5, a6, a7⟩, s2, dd, rfl⟩ := t.sat s
  exact ⟨e1, g, cur, fz, a1, a2, a3, a4, a5, a6, hm.os, hm.tape, hm.output, hm.size, hm.keep, hm.ro, _, ⟨h1, h2, a7, s2, dd, rfl⟩, su, d, r⟩
theorem storeCells_mark (P : Program) (g o : Nat) (t : TypeId) (fz : Nat × Nat) : ∀ (vs : List Value) (i : Nat) (cur : Array Value) (w : World), w.heap[g]? = some (.cells cur t fz) → (fz = (0, 0) ∨ cur.size ≤ fz.1) → o + i + vs.length ≤ cur.size → (∀ v ∈ vs, v.oneCell' = true) →
    (storeCells ⟨g, o, none⟩ vs i).run P w = .ok () (w.setRow g (cur.toList.take (o + i) ++ vs ++ cur.toList.drop (o + i + vs.length)).toArray)
  | [], i, cur, w, hg, _, _, _ => by
    simp only [storeCells, List.append_nil, List.length_nil, Nat.add_zero, List.take_append_drop, Array.toArray_toList]
    rw [setRow_self w g cur t fz hg]
    rfl
  | v :: rest, i, cur, w, hg, hfz, hl, h1 => by
    have hi : o + i < cur.size := by simp at hl; omega
    have hadd : (⟨g, o, none⟩ : Addr).add i = ⟨g, o + i, none⟩ := by unfold Addr.add; split <;> simp_all
    have hcell : w.cell? ⟨g, o + i, none⟩ = some cur[o + i] := by simp [World.cell?, hg, hi]
    have hfro : w.frozen? ⟨g, o + i, none⟩ = false := by
      obtain ⟨lo, hi'⟩ := fz
      simp only [World.frozen?, hg, Bool.and_eq_false_iff, decide_eq_false_iff_not]
      rcases hfz with e | e
      · injection e with e1 e2; subst e1; subst e2; right; omega
      · left; simp only at e; omega
    have hst : (store ((⟨g, o, none⟩ : Addr).add i) v).run P w = .ok () (w.setRow g (cur.setIfInBounds (o + i) v)) := by
      rw [hadd, run_store P w _ v _ (h1 v (by simp)), hcell]
      simp [hfro, setCell_eq_setRow w g (o + i) cur t fz v hg]
    have ih := storeCells_mark P g o t fz rest (i + 1) (cur.setIfInBounds (o + i) v) (w.setRow g (cur.setIfInBounds (o + i) v)) (setRow_heap w g cur _ t _ hg) (by simpa using hfz) (by simp at hl ⊢; omega) (fun x hx => h1 x (by simp [hx]))
    simp only [storeCells, Sem.run_bind, hst, Result.andThen_ok, ih, setRow_setRow]
    congr 3
    have e := list_seg_step cur.toList (o + i) v rest (by simp at hl ⊢; omega)
    simpa [Array.toList_setIfInBounds, Nat.add_assoc] using e
theorem append_mark (w : World) (t u ty e : TypeId) (i : TypeInfo) (ht : P.underlying t = some (.slice e)) (hu : P.underlying u = some .string) (hi : P.info? e = some i) (hs1 : i.size = 1)
    (g sLen sCap : Nat) (cur : Array Value) (fz : Nat × Nat) (hg : w.heap[g]? = some (.cells cur e fz)) (hfz : fz = (0, 0) ∨ cur.size ≤ fz.1) (s : ByteArray)
    (hroom : sLen + s.size ≤ sCap) (hfit : sLen + s.size ≤ cur.size) :
    (Builtin.append_ #[t, u] ty #[.slice (some ⟨g, 0, none⟩) sLen sCap, .string s]).run P w =
      .ok (.slice (some ⟨g, 0, none⟩) (sLen + s.size) sCap) (w.setRow g (cur.toList.take sLen ++ strCells s ++ cur.toList.drop (sLen + s.size)).toArray) := by
  have hf := run_firstCells_string (P := P) w 1 s
  have hst := storeCells_mark P g sLen e fz (strCells s) 0 cur w hg hfz (by simpa [strCells_length] using hfit) (strCells_oneCell s)
  simp only [Nat.add_zero, strCells_length] at hst
  simp [Builtin.append_, run_underlying ht, run_underlying hu, sizeOf, typeInfo, hi, hs1, Builtin.lenOf, hroom, hf, Addr.add_lit, hst]
/-- bytes of a string appended -/
theorem e_appStrB {e : TypeId} {ye yu : Ty} {a1 : Option Addr} {k cap : Nat} {xs : List Value} {s : ByteArray} [hsl : SlC P t e ye] [hu : TyC P tu yu] (hud : yu.d = .string) (hz : ye.zero = .int .u8 0) (hs1 : ye.size = 1) (hb : ye.bytes = 1)
    (h1 : ev L x = some (.slice a1 k cap)) (h2 : ev L y = some (.string s)) (tk : Take H (OwnB e a1 k cap xs) H') (hbd : k + s.size ≤ 140737488355328) :
    Eff P M n L H ⟨dd, .call ⟨.builtin .append, #[x, y], #[t, tu]⟩, ty, ps, af, gd⟩ (fun v H2 => ∃ a2 c2, v = .slice a2 (k + s.size) c2 ∧ H2 = OwnB e a2 (k + s.size) c2 (xs ++ strCells s) :: H') :=
  Eff.of_run fun a w ha hm => by
    obtain ⟨yt, ht, hd⟩ := hsl.t
    have he := hsl.e
    obtain ⟨i, hri, hib, his, hi, hiz⟩ := he.run_info
    have ht' : P.underlying t = some (.slice e) := by rw [ht.u, hd]
    have hu' : P.underlying tu = some .string := by rw [hu.u, hud]
    rw [hs1] at his; rw [hb] at hib; rw [hz] at hiz
    obtain ⟨hxl, g, cur, fz, rfl, hnc, hcm, hcl, htk, hfz, hm'⟩ := OwnB.cases tk hm
    have hexec : ∀ (r : Result Value), (Builtin.append_ #[t, tu] ty #[.slice (some ⟨g, 0, none⟩) k cap, .string s]).run P w = r →
        (execOp a.eval ⟨dd, .call ⟨.builtin .append, #[x, y], #[t, tu]⟩, ty, ps, af, gd⟩).run P w = r.andThen fun v w => .ok (.value v) w := fun r hr => by
      simp [execOp, resolve, invoke, builtin, ha.ev h1, ha.ev h2, hr]
    have hlen : (xs ++ strCells s).length = k + s.size := by rw [List.length_append, hxl, strCells_length]
    by_cases hroom : k + s.size ≤ cap
    · have hb := hm'.blk .here
      have hr := append_mark (P := P) w t tu ty e i ht' hu' hi his g k cap cur.toArray fz hb (by simpa [hcl] using hfz) s hroom (by simp; omega)
      refine ⟨_, _, _, hexec _ hr, ⟨_, _, rfl, rfl⟩, ?_⟩
      have hs := hm'.set' .here (.cells (cur.take k ++ strCells s ++ cur.drop (k + s.size)).toArray e fz) (w' := w.setRow g (cur.toArray.toList.take k ++ strCells s ++ cur.toArray.toList.drop (k + s.size)).toArray)
        rfl rfl rfl (by simp) (setRow_heap w g _ _ e _ hb) (fun c hc => setRow_other w g c _ hc)
      refine hs.weaken fun kk hk => ?_
      have e1 : kk = one g _ := hk
      rw [e1]
      refine ⟨hlen, g, _, fz, rfl, hroom, hcm, ?_, ?_, hfz, rfl⟩
      · simp only [List.length_append, List.length_take, List.length_drop, strCells_length]; omega
      · rw [htk, ← hlen]; exact List.take_left
    · have holds : ∀ j u, xs[j]? = some u → w.cell? ((⟨g, 0, none⟩ : Addr).add j) = some u := fun j u hj => by
        rw [cells_add w g j cur e _ (hm'.blk .here) 0, Nat.zero_add]
        rw [← htk, List.getElem?_take] at hj
        split at hj
        · exact hj
        · cases hj
      have hr := run_append_grow_string (P := P) w t tu ty e i (.int .u8 0) ht' hu' hi hiz ⟨g, 0, none⟩ k cap xs (by rw [his, Nat.mul_one]; exact hxl) holds s (by omega) (by omega) (by rw [hib]; exact growslice_fits (by omega) (by omega))
      refine ⟨_, _, _, hexec _ hr, ⟨_, _, rfl, rfl⟩, ?_⟩
      have := (hm'.tail.drawn (w.drawn + 1)).alloc (.cells (xs ++ strCells s ++ (Builtin.zeroCells (Value.int .u8 0).cells (grownCap w (k + s.size) cap e - (k + s.size))).toList).toArray e (0, 0))
      have hw := this.weaken (B := OwnB e (some ⟨w.heap.size, 0, none⟩) (k + s.size) (grownCap w (k + s.size) cap e) (xs ++ strCells s)) (fun kk hk => by
        have e1 : kk = one w.heap.size _ := hk
        rw [e1]
        have hge := grownCap_ge w (k + s.size) cap e
        have hcm : grownCap w (k + s.size) cap e ≤ maxLen := grownCap_le_maxLen w (k + s.size) cap e (by simp only [maxLen]; omega)
        have hz1 : (Value.int IntKind.u8 0).cells.size = 1 := rfl
        refine ⟨hlen, _, _, (0, 0), rfl, hge, hcm, ?_, ?_, .inl rfl, rfl⟩
        · rw [List.length_append, hlen, Array.length_toList, size_zeroCells, hz1]; omega
        · rw [← hlen]; exact List.take_left)
      have e9 : (xs ++ strCells s ++ (Builtin.zeroCells (Value.int .u8 0).cells (grownCap w (k + s.size) cap e - (k + s.size))).toList).toArray = xs.toArray ++ (strCells s).toArray ++ Builtin.zeroCells (Value.int .u8 0).cells (grownCap w (k + s.size) cap e - (k + s.size)) := by
        apply Array.ext'; simp
      rw [e9] at hw
      exact hw
/-- the bytes of a string as a row of one's own -/
theorem e_stb {src dst e : TypeId} {ys ye : Ty} {s : ByteArray} [hs : TyC P src ys] [hsl : SlC P dst e ye] (hd : ys.d = .string) (hde : ye.d = .int .u8) (h1 : ev L x = some (.string s)) (hbd : s.size ≤ 140737488355328) :
    Eff P M n L H ⟨dd, .convert src dst x, ty, ps, af, gd⟩ (fun v H2 => ∃ a2 c2, v = .slice a2 s.size c2 ∧ H2 = OwnB e a2 s.size c2 (strCells s) :: H) :=
  Eff.of_run fun a w ha hm => by
    obtain ⟨yt, ht, hdt⟩ := hsl.t
    have he := hsl.e
    have hr := Lib.run_convert_string_bytes (P := P) w src dst e s (u := .string) (by rw [hs.u, hd]) (by rw [ht.u, hdt]) (by rw [he.u, hde])
    have hge := grownCap_ge w s.size 0 e
    have hcm : grownCap w s.size 0 e ≤ maxLen := grownCap_le_maxLen w s.size 0 e (by simp only [maxLen]; omega)
    have hbc : (bytesCells w e s).toList = strCells s ++ List.replicate (grownCap w s.size 0 e - s.size) (.int .u8 0) := by
      simp [bytesCells, strCells]
    have hsz : (bytesCells w e s).size = grownCap w s.size 0 e := by
      have := congrArg List.length hbc
      rw [Array.length_toList, List.length_append, strCells_length, List.length_replicate] at this; omega
    refine ⟨.slice (some ⟨w.heap.size, 0, none⟩) s.size (grownCap w s.size 0 e), OwnB e (some ⟨w.heap.size, 0, none⟩) s.size (grownCap w s.size 0 e) (strCells s) :: H, bytesWorld w e s, ?_, ⟨_, _, rfl, rfl⟩, ?_⟩
    · simp only [execOp, ha.ev h1, Sem.run_bind, hr, Result.andThen_ok, Sem.run_pure]
    · have h2 := (hm.drawn (w.drawn + 1)).alloc (.cells (bytesCells w e s) e (0, 0))
      have h3 := h2.set' .here (.cells (bytesCells w e s) e ((bytesCells w e s).size, (bytesCells w e s).size + 1)) (w' := bytesWorld w e s) (by simp [bytesWorld, World.freeze]) (by simp [bytesWorld, World.freeze]) (by simp [bytesWorld, World.freeze]) (by rw [bytesWorld_size]; simp) (bytesWorld_at_new w e s) (fun c hc => by
        simp [bytesWorld, World.freeze, Array.getElem?_modify, Ne.symm hc])
      refine h3.weaken fun kk hk => ?_
      have e1 : kk = one w.heap.size _ := hk
      rw [e1]
      refine ⟨strCells_length s, w.heap.size, (bytesCells w e s).toList, ((bytesCells w e s).size, (bytesCells w e s).size + 1), rfl, hge, hcm, by rw [Array.length_toList, hsz], ?_, .inr (by show grownCap w s.size 0 e ≤ (bytesCells w e s).size; omega), ?_⟩
      · rw [hbc, ← strCells_length s]; exact List.take_left
      · rw [Array.toArray_toList]
/-- a string of the row's bytes -/
theorem p_btsB {src dst e : TypeId} {yd ye : Ty} [hs : SlC P src e ye] [hd : TyC P dst yd] (hde : ye.d = .int .u8) (hdd : yd.d = .string) {a1 : Option Addr} {k cap : Nat} {l : List UInt8} (h1 : ev L x = some (.slice a1 k cap)) (tk : Take H (OwnB e a1 k cap (byteCells l)) H') :
    Pur P M n L H ⟨dd, .convert src dst x, ty, ps, af, gd⟩ (.string ⟨l.toArray⟩) := fun a w ha hm => by
  obtain ⟨yt, ht, hdt⟩ := hs.t
  have he := hs.e
  obtain ⟨hxl, g, cur, fz, rfl, hnc, hcm, hcl, htk, hfz, hm'⟩ := OwnB.cases tk hm
  rw [byteCells_length] at hxl
  subst hxl
  have hu : P.underlying src = some (.slice e) := by rw [ht.u, hdt]
  have hue : P.underlying e = some (.int .u8) := by rw [he.u, hde]
  have hud : P.underlying dst = some .string := by rw [hd.u, hdd]
  have hr := run_convert_bytes_back (P := P) w src dst e ⟨g, 0, none⟩ cap l hu hue hud (fun j hj => by
    rw [cells_add w g j cur e _ (hm'.blk .here) 0, Nat.zero_add]
    have : (byteCells l)[j]? = some (.int .u8 l[j].toNat) := by simp [byteCells, hj]
    rw [← htk, List.getElem?_take, if_pos hj] at this
    exact this)
  simp only [execOp, ha.ev h1, Sem.run_bind, hr, Result.andThen_ok, Sem.run_pure]
end Go.Z
/- SatTexts: a formula that was written and read again has the same result. Conditions: none. -/
namespace Go.Proofs.YtopgbgnmjogeeaaGreatDoor
set_option maxRecDepth 8000
set_option linter.unusedVariables false
set_option linter.unusedSimpArgs false
set_option linter.unusedSectionVars false
open Go Go.Z Go.Z.Txt Go.Z.Sat Go.Z.Aig Go.Z.Tse Go.RowKit

theorem line_len : ∀ c : List Int, (∀ x ∈ c, I64 x) → (lineT c).length ≤ 21 * c.length + 1
  | [], _ => by simp [lineT]
  | x :: c, h => by
    have ih := line_len c fun y hy => h y (by simp [hy])
    have hx := itoa_len64 (h x (by simp))
    simp only [lineT, List.map_cons, List.flatten_cons, List.length_append, List.length_cons, List.length_nil] at ih ⊢
    omega
theorem body_len : ∀ F : List (List Int), (∀ c ∈ F, ∀ x ∈ c, I64 x) → ((F.map fun c => lineT c ++ [10]).flatten).length ≤ 21 * total F + 2 * F.length
  | [], _ => by simp
  | c :: F, h => by
    have ih := body_len F fun d hd => h d (by simp [hd])
    have hc := line_len c (h c (by simp))
    have ht : total (c :: F) = c.length + total F := by simp [total]
    rw [ht]
    simp only [List.map_cons, List.flatten_cons, List.length_append, List.length_cons, List.length_nil] at ih ⊢
    omega
theorem text_len {n : Int} {F : List (List Int)} (hn : I64 n) (hF : F.length ≤ 9223372036854775807) (h : ∀ c ∈ F, ∀ x ∈ c, I64 x) : (textV n F).length ≤ 50 + 21 * total F + 2 * F.length := by
  have h1 := body_len F h
  have h2 := itoa_len64 hn
  have h3 := itoa_len64 (n := (F.length : Int)) (by unfold I64; omega)
  simp only [textV, headT, List.length_append, List.length_cons, List.length_nil] at h1 ⊢
  omega
end Go.Proofs.YtopgbgnmjogeeaaGreatDoor
