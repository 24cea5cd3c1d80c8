/- Own texts, put together: Qa Qb Qc Qd Qe Qf Qg Qh Qi Qj Qk Ql Qm. Conditions: as told at each. -/
import Derived.Test.YtcnfcoojmbjdlaaGreatDoorZi
import Derived.Test.YtcnfcoojmbjdlaaGreatDoorHp
import Derived.Test.YtcnfcoojmbjdlaaGreatDoorTy
import Derived.Test.YtcnfcoojmbjdlaaGreatDoorZh
import Derived.Test.YtcnfcoojmbjdlaaGreatDoorZj
import Derived.Test.YtcnfcoojmbjdlaaGreatDoorZk
import Derived.Test.YtcnfcoojmbjdlaaGreatDoorSh
import Derived.Lib.AppendIntMem
import Derived.Test.YtcnfcoojmbjdlaaGreatDoorZl
import Derived.Test.YtcnfcoojmbjdlaaGreatDoorYm
import Derived.Lib.ItoaLen
import Derived.Test.YtcnfcoojmbjdlaaGreatDoorHq
import Derived.Test.YtcnfcoojmbjdlaaGreatDoorZm
/- Chapter 26, plain: images, their check, their text, the longest way. No program in sight. Conditions: none. -/
namespace Go.Z.Asm
set_option maxRecDepth 8000
set_option linter.unusedVariables false
set_option linter.unusedSimpArgs false
set_option linter.unusedSectionVars false
open Go Go.Z Go.Lib
abbrev Ins := Int × Int × Int × Int × Int
abbrev Rt := List UInt8 × List Int × List Int × Int × List Int × List Ins
abbrev Im := List Int × List Rt
def encIns (i : Ins) : List Value := [.int .i64 i.1, .int .i64 i.2.1, .int .i64 i.2.2.1, .int .i64 i.2.2.2.1, .int .i64 i.2.2.2.2]
theorem encIns_len (i : Ins) : (encIns i).length = 5 := rfl
def fieldsV (i : Ins) : List Int := [i.2.1, i.2.2.1, i.2.2.2.1, i.2.2.2.2]
/-- the kinds of the fields: 0 unused, 1 register, 2 memory, 3 number, 4 target, 5 operator, 6 routine, 7 base, 8 inputs, 9 outputs; how many operands -/
def opT : List (List UInt8 × List Nat × Nat) := [
 ([], [0, 0, 0, 0], 0),
 ([108, 111, 97, 100], [1, 3, 0, 0], 0),
 ([109, 111, 118, 101], [1, 1, 0, 0], 0),
 ([114, 101, 97, 100], [1, 2, 0, 0], 0),
 ([119, 114, 105, 116, 101], [2, 1, 0, 0], 0),
 ([117, 110, 97, 114, 121], [1, 1, 5, 0], 1),
 ([97, 112, 112, 108, 121], [1, 1, 1, 5], 2),
 ([106, 117, 109, 112], [0, 4, 0, 0], 0),
 ([122, 101, 114, 111], [1, 4, 0, 0], 0),
 ([99, 97, 108, 108], [6, 7, 8, 9], 0),
 ([114, 101, 115, 101, 116], [6, 7, 0, 0], 0)]
def knownP (op : Int) : Prop := 1 ≤ op ∧ op ≤ 10
instance (op : Int) : Decidable (knownP op) := inferInstanceAs (Decidable (_ ∧ _))
def opRow (op : Int) : List UInt8 × List Nat × Nat := if knownP op then opT.getD op.toNat ([], [0, 0, 0, 0], 0) else ([], [0, 0, 0, 0], 0)
def operandsP (op : Int) : Int := if op = 1 ∨ op = 2 then 1 else if 3 ≤ op ∧ op ≤ 16 then 2 else 0
def withinP (x n most : Int) : Prop := 0 ≤ x ∧ x ≤ most ∧ n ≤ most - x
instance (x n most : Int) : Decidable (withinP x n most) := inferInstanceAs (Decidable (_ ∧ _ ∧ _))
def emptyRt : Rt := ([], [], [], 0, [], [])
def calledP (rts : List Rt) (k : Int) : Rt := if k < 0 then emptyRt else rts.getD k.toNat emptyRt
def formT (len at' : Int) (nops : Nat) (kd : Nat) (x : Int) : Bool :=
 if kd = 0 then decide (x = 0) else if kd = 5 then decide (operandsP x = nops) else if kd = 4 then decide (at' < x) && decide (x ≤ len) else true
def formP (len at' : Int) (i : Ins) : Bool := decide (knownP i.1) && (List.zip (opRow i.1).2.1 (fieldsV i)).all fun p => formT len at' (opRow i.1).2.2 p.1 p.2
def rangeT (r : Rt) (k : Int) (y : Rt) (kd : Nat) (x : Int) : Bool :=
 if kd = 1 then decide (withinP x 1 r.2.2.2.1) else if kd = 2 then decide (withinP x 1 r.2.2.2.2.1.length) else if kd = 3 then decide (-32768 ≤ x ∧ x ≤ 32767) else if kd = 6 then decide (0 ≤ x ∧ x < k)
 else if kd = 7 then decide (withinP x y.2.2.2.2.1.length r.2.2.2.2.1.length) else if kd = 8 then decide (withinP x y.2.1.length r.2.2.2.1) else if kd = 9 then decide (withinP x y.2.2.1.length r.2.2.2.1) else true
def rangesP (rts : List Rt) (k : Nat) (i : Ins) : Bool := (List.zip (opRow i.1).2.1 (fieldsV i)).all fun p => rangeT (rts.getD k emptyRt) k (calledP rts i.2.1) p.1 p.2
def validP (enums : List Int) (t : Int) : Prop := t = 1 ∨ t = 2 ∨ (3 ≤ t ∧ t - 3 < enums.length)
instance (enums : List Int) (t : Int) : Decidable (validP enums t) := inferInstanceAs (Decidable (_ ∨ _ ∨ _ ∧ _))
def charP (c : UInt8) : Bool := decide (c.toNat = 95) || (decide (48 ≤ c.toNat ∧ c.toNat ≤ 57) || (decide (65 ≤ c.toNat ∧ c.toNat ≤ 90) || decide (97 ≤ c.toNat ∧ c.toNat ≤ 122)))
def titleP (s : List UInt8) : Bool := decide (s ≠ []) && (decide (s.length ≤ 40) && s.all charP)
def codeE (rts : List Rt) (k : Nat) (len : Int) : Nat → List Ins → Int
 | _, [] => 0
 | j, i :: l => if formP len j i then if rangesP rts k i then codeE rts k len (j + 1) l else 14 else 5
def outB (v : Int) : Bool := decide (v < -32768) || decide (32767 < v)
def oneP (im : Im) (k : Nat) : Int :=
 let r := im.2.getD k emptyRt
 if ¬ titleP r.1 = true then 6
 else if (64 < max r.2.1.length r.2.2.1.length ∨ 16384 < r.2.2.2.2.1.length) ∨ 32768 < max (r.2.2.2.2.2.length : Int) r.2.2.2.1 then 3
 else if (r.2.1 ++ r.2.2.1).any (fun t => !decide (validP im.1 t)) = true then 10
 else if r.2.2.2.1 < (r.2.1.length : Int) + r.2.2.1.length then 9
 else if r.2.2.2.2.1.any outB = true then 14
 else codeE im.2 k r.2.2.2.2.2.length 0 r.2.2.2.2.2
def rtsE (im : Im) : Nat → Nat → Int
 | _, 0 => 0
 | k, m + 1 => if oneP im k = 0 then rtsE im (k + 1) m else oneP im k
def checkP (im : Im) : Int :=
 if 24 < im.1.length ∨ 96 < im.2.length then 3
 else if im.1.any (fun n => decide (n < 1) || decide (16 < n)) = true then 14
 else if im.2.length = 0 then 5
 else rtsE im 0 im.2.length
def lineP (word : List UInt8) (l : List Int) : List UInt8 := word ++ (l.map fun n => 32 :: itoa n).flatten ++ [10]
def usedP (i : Ins) : List Int := ((List.zip (opRow i.1).2.1 (fieldsV i)).filter fun p => decide (p.1 ≠ 0)).map (·.2)
def insT (i : Ins) : List UInt8 := lineP (opRow i.1).1 (usedP i)
def rtT (r : Rt) : List UInt8 :=
 lineP ([114, 111, 117, 116, 105, 110, 101, 32] ++ r.1) [] ++ lineP [105, 110] r.2.1 ++ lineP [111, 117, 116] r.2.2.1 ++ lineP [114, 101, 103, 115] [r.2.2.2.1] ++ lineP [105, 110, 105, 116] r.2.2.2.2.1 ++ (r.2.2.2.2.2.map insT).flatten ++ lineP [101, 110, 100] []
def textP (im : Im) : List UInt8 := lineP [101, 110, 117, 109, 115] im.1 ++ (im.2.map rtT).flatten
def farN : Int := 1099511627776
def longL (before : List Int) : Nat → List Ins → List Int
 | _, [] => [0]
 | j, i :: l =>
  let L := longL before (j + 1) l
  let nx := L.headD 0
  let next := if i.1 = 7 then L.getD (i.2.2.1 - j - 1).toNat 0 else if i.1 = 8 then max nx (L.getD (i.2.2.1 - j - 1).toNat 0) else if i.1 = 9 then nx + before.getD i.2.1.toNat 0 else nx
  min (next + 1) (farN + 1) :: L
def worstL (rts : List Rt) : List Int := rts.foldl (fun all r => all ++ [(longL all 0 r.2.2.2.2.2).headD 0]) []
def worstP (im : Im) : Int × Int :=
 if checkP im = 0 then
  let n := (worstL im.2).getLastD 0
  if farN < n then (0, 3) else (n, 0)
 else (0, checkP im)
def runP (a : Int) (n : Nat) : List Int := (List.range n).map fun k : Nat => a + k
def usesP (rts : List Rt) (i : Ins) : List Int :=
 if i.1 = 2 ∨ i.1 = 4 ∨ i.1 = 5 then [i.2.2.1] else if i.1 = 6 then (if i.2.2.1 = i.2.2.2.1 then [i.2.2.1] else [min i.2.2.1 i.2.2.2.1, max i.2.2.1 i.2.2.2.1]) else if i.1 = 8 then [i.2.1] else if i.1 = 9 then runP i.2.2.2.1 (calledP rts i.2.1).2.1.length else []
def setsP (rts : List Rt) (i : Ins) : List Int :=
 if i.1 = 1 ∨ i.1 = 2 ∨ i.1 = 3 ∨ i.1 = 5 ∨ i.1 = 6 then [i.2.1] else if i.1 = 9 then runP i.2.2.2.2 (calledP rts i.2.1).2.2.1.length else []
/-- the chapter's small image -/
def smallI : Im := ([], [([102], [2, 2], [2], 3, [], [(8, 0, 2, 0, 0), (6, 2, 0, 1, 6), (2, 2, 2, 0, 0)])])
theorem small_check : checkP smallI = 0 := by decide
theorem small_worst : worstP smallI = (3, 0) := by decide
theorem small_uses : usesP smallI.2 (6, 2, 0, 1, 6) = [0, 1] := by decide
end Go.Z.Asm
/- Chapter 26: images in memory that nobody writes. Conditions: none. -/
namespace Go.Z.Asm
set_option maxRecDepth 8000
set_option linter.unusedVariables false
set_option linter.unusedSimpArgs false
set_option linter.unusedSectionVars false
open Go Go.Z Go.Lib

theorem own_at {cur xs : List Value} {N k i : Nat} {v : Value} (h : cur.take (N * 1) = xs) (hi : i = 0 + k * 1) (hv : xs[k]? = some v) : cur[i]? = some v := by
 subst hi
 rw [← h, List.getElem?_take] at hv
 split at hv
 ·simpa using hv
 ·cases hv
/-- a number of a row that nobody writes -/
theorem ints_at {ρ : Nat → Obj → Prop} {a : Option Addr} {l : List Int} (h : RSl ρ 1 a l.length (l.map encI)) (h0 : 0 < l.length) : ∃ b off cs T fz, a = some ⟨b, off, none⟩ ∧ ρ b (.cells (cs : List Value).toArray T fz) ∧ ∀ (i : Nat) (hi : i < l.length), cs[off + (i : Int).toNat * 1]? = some (.int .i64 l[i]) := by
 obtain ⟨_, b, off, cs, T, fz, hr⟩ := h
 obtain ⟨r1, r2, r3⟩ := hr (by omega)
 exact ⟨b, off, cs, T, fz, r1, r2, fun i hi => by rw [Int.toNat_natCast, Nat.mul_one]; exact r3 i _ (by simp [List.getElem?_eq_getElem hi, encI])⟩
def strB (l : List UInt8) : ByteArray := ⟨l.toArray⟩
theorem strB_inj {a b : List UInt8} : strB a = strB b ↔ a = b := ⟨fun h => by have := congrArg (fun s : ByteArray => s.data.toList) h; exact this, fun h => by rw [h]⟩
theorem strB_size (l : List UInt8) : (strB l).size = l.length := rfl
/-- a routine as six cells -/
def RtR (ρ : Nat → Obj → Prop) (row : List Value) (x : Rt) : Prop := ∃ ia ic oa oc na nc ca cc,
 row = [.string (strB x.1), .slice ia x.2.1.length ic, .slice oa x.2.2.1.length oc, .int .i64 x.2.2.2.1, .slice na x.2.2.2.2.1.length nc, .slice ca x.2.2.2.2.2.length cc] ∧
 RSl ρ 1 ia x.2.1.length (x.2.1.map encI) ∧ RSl ρ 1 oa x.2.2.1.length (x.2.2.1.map encI) ∧ RSl ρ 1 na x.2.2.2.2.1.length (x.2.2.2.2.1.map encI) ∧ RSl ρ 5 ca x.2.2.2.2.2.length (x.2.2.2.2.2.flatMap encIns)
theorem RtR.mono {ρ ρ' : Nat → Obj → Prop} {row : List Value} {x : Rt} (h : RtR ρ row x) (s : ∀ b o, ρ b o → ρ' b o) : RtR ρ' row x := by
 obtain ⟨ia, ic, oa, oc, na, nc, ca, cc, h0, h1, h2, h3, h4⟩ := h
 exact ⟨ia, ic, oa, oc, na, nc, ca, cc, h0, h1.mono s, h2.mono s, h3.mono s, h4.mono s⟩
theorem RtR.len {ρ : Nat → Obj → Prop} {row : List Value} {x : Rt} (h : RtR ρ row x) : row.length = 6 := by
 obtain ⟨ia, ic, oa, oc, na, nc, ca, cc, h0, h1, h2, h3, h4⟩ := h
 rw [h0]; rfl
def RtsR (ρ : Nat → Obj → Prop) (ra : Option Addr) (rts : List Rt) : Prop := 0 < rts.length → ∃ b off cs T fz, ra = some ⟨b, off, none⟩ ∧ ρ b (.cells (cs : List Value).toArray T fz) ∧
 ∀ k (hk : k < rts.length), ∃ row, RtR ρ row rts[k] ∧ sub cs (off + k * 6) 6 = some row ∧ ∀ j v, row[j]? = some v → cs[off + k * 6 + j]? = some v
theorem RtsR.mono {ρ ρ' : Nat → Obj → Prop} {ra : Option Addr} {rts : List Rt} (h : RtsR ρ ra rts) (s : ∀ b o, ρ b o → ρ' b o) : RtsR ρ' ra rts := fun h0 => by
 obtain ⟨b, off, cs, T, fz, h1, h2, h3⟩ := h h0
 refine ⟨b, off, cs, T, fz, h1, s _ _ h2, fun k hk => ?_⟩
 obtain ⟨row, r1, r2, r3⟩ := h3 k hk
 exact ⟨row, r1.mono s, r2, r3⟩
structure RtOk (x : Rt) : Prop where
 nl : x.1.length ≤ 9223372036854775807
 il : x.2.1.length ≤ 17592186044416
 ol : x.2.2.1.length ≤ 17592186044416
 zl : x.2.2.2.2.1.length ≤ 17592186044416
 cl : x.2.2.2.2.2.length ≤ 17592186044416
 ii : ∀ v ∈ x.2.1, I64 v
 oi : ∀ v ∈ x.2.2.1, I64 v
 ri : I64 x.2.2.2.1
 zi : ∀ v ∈ x.2.2.2.2.1, I64 v
 ci : ∀ i ∈ x.2.2.2.2.2, I64 i.1 ∧ I64 i.2.1 ∧ I64 i.2.2.1 ∧ I64 i.2.2.2.1 ∧ I64 i.2.2.2.2
/-- an image as it came in -/
structure ImI (ρ : Nat → Obj → Prop) (ea ra : Option Addr) (im : Im) : Prop where
 es : RSl ρ 1 ea im.1.length (im.1.map encI)
 rs : RtsR ρ ra im.2
 el : im.1.length ≤ 17592186044416
 rl : im.2.length ≤ 17592186044416
 ei : ∀ v ∈ im.1, I64 v
 ok : ∀ x ∈ im.2, RtOk x
theorem ImI.mono {ρ ρ' : Nat → Obj → Prop} {ea ra : Option Addr} {im : Im} (h : ImI ρ ea ra im) (s : ∀ b o, ρ b o → ρ' b o) : ImI ρ' ea ra im := ⟨h.es.mono s, h.rs.mono s, h.el, h.rl, h.ei, h.ok⟩
theorem RtOk.empty : RtOk emptyRt := ⟨by decide, by decide, by decide, by decide, by decide, fun v h => absurd h List.not_mem_nil, fun v h => absurd h List.not_mem_nil, ⟨by decide, by decide⟩, fun v h => absurd h List.not_mem_nil, fun v h => absurd h List.not_mem_nil⟩
/-- an own row of one routine -/
theorem rts_one {ρ : Nat → Obj → Prop} {b : Nat} {row : List Value} {T : TypeId} {fz : Nat × Nat} {x : Rt} (h : ρ b (.cells row.toArray T fz)) (hr : RtR ρ row x) : RtsR ρ (some ⟨b, 0, none⟩) [x] := fun _ => by
 refine ⟨b, 0, row, T, fz, rfl, h, fun k hk => ?_⟩
 have h0 : k = 0 := by simp at hk; omega
 subst h0
 refine ⟨row, hr, ?_, fun j v hv => by simpa using hv⟩
 have hl := hr.len
 match row, hl with
 | [a, b, c, d, e, f], _ => rfl
end Go.Z.Asm
/- Chapter 26: operations, operands, bounds, types, routines by number. Conditions: what the table of operations holds (OpsK). -/
namespace Go.Z
set_option maxRecDepth 8000
set_option linter.unusedVariables false
set_option linter.unusedSimpArgs false
set_option linter.unusedSectionVars false
open Go
section
variable {P : Program} {M : Mx} {n : Nat} {L : Fr} {H : List Assn} {x y : Operand} {t ty tz : TypeId} {ps : String} {af : Array Edge} {gd : Option (Nat × Bool)} {dd : Option Tmp}
theorem p_indexAddrA {k : IntKind} {i : Int} {b o m e : Nat} {yt ye : Ty} [ht : TyC P t yt] (hd : yt.d = .array m e) [he : TyC P e ye] (h1 : ev L x = some (.pointer (some ⟨b, o, none⟩))) (h2 : ev L y = some (.int k i)) (hi : 0 ≤ i ∧ i < m) :
  Pur P M n L H ⟨dd, .indexAddr t x y, ty, ps, af, gd⟩ (.pointer (some ⟨b, o + i.toNat * ye.size, none⟩)) := fun a w ha _ => by
 have e6 : (Addr.mk b o none).add (i.toNat * ye.size) = ⟨b, o + i.toNat * ye.size, none⟩ := by
  unfold Addr.add; split <;> simp_all
 simp [execOp, ha.ev h1, ha.ev h2, Instr.indexAt, asIntOf, ht.run_u, hd, hi, he.run_size, Instr.sureAddr, e6]
theorem p_indexA {k : IntKind} {i : Int} {m e : Nat} {yt ye : Ty} {l : List Value} {v : Value} [ht : TyC P t yt] (hd : yt.d = .array m e) [he : TyC P e ye] (hag : aggD ye.d = false) (hs : ye.size = 1) (h1 : ev L x = some (.agg l.toArray)) (h2 : ev L y = some (.int k i)) (hi : 0 ≤ i ∧ i < m) (hc : l[i.toNat]? = some v) :
  Pur P M n L H ⟨dd, .index t x y, ty, ps, af, gd⟩ v := fun a w ha _ => by
 simp [execOp, ha.ev h1, ha.ev h2, Instr.index, asIntOf, ht.run_u, hd, hi, he.run_size, hs, part, he.run_agg, hag, hc]
theorem p_fieldV {s i : Nat} {fs : Array Field} {fd : Field} {ye : Ty} {l : List Value} {v : Value} (hu : P.underlying s = some (.struct fs)) (hi : fs[i]? = some fd) (he : TyC P fd.type ye) (hag : aggD ye.d = false) (h1 : ev L x = some (.agg l.toArray)) (hc : l[fd.offset]? = some v) :
  Pur P M n L H ⟨dd, .field s x i, ty, ps, af, gd⟩ v := fun a w ha _ => by
 simp [execOp, ha.ev h1, Instr.field, underlying, hu, hi, asAgg, part, he.run_agg, hag, hc]
theorem p_buildA {yt ye : Ty} {e k : Nat} {parts : Array (Nat × Operand)} {pv : List (Nat × Value)} {z l : List Value} [ht : TyC P t yt] (hd : yt.d = .array k e) [he : TyC P e ye] (hz : yt.zero.cells = z.toArray) (hp : evP L parts.toList = some pv) (hf : fillL (fun i => some (i * ye.size, ye.size)) z pv = some l) :
  Pur P M n L H ⟨dd, .build t parts, ty, ps, af, gd⟩ (.agg l.toArray) := fun a w ha _ => by
 have e1 : (parts.map fun (i, x) => (i, a.eval x)).toList = pv := by
  have key : ∀ (l : List (Nat × Operand)) (pv : List (Nat × Value)), evP L l = some pv → l.map (fun (i, x) => (i, a.eval x)) = pv := by
   intro l
   induction l with
   | nil => intro pv h; simp [evP] at h; subst h; rfl
   | cons p l ih =>
    intro pv h
    obtain ⟨i, x⟩ := p
    unfold evP at h
    cases e1 : ev L x with
    | none => rw [e1] at h; cases h
    | some v =>
     cases e2 : evP L l with
     | none => rw [e1, e2] at h; cases h
     | some vs => rw [e1, e2] at h; simp at h; subst h; simp [ha.ev e1, ih _ e2]
  rw [Array.toList_map]; exact key _ _ hp
 have e2 := fillL_eq _ _ _ _ hf
 have hrun : ∀ PA : Array (Nat × Value), PA.toList = pv → (Instr.build t PA).run P w = .ok (.agg l.toArray) w := by
  intro PA hPA
  unfold Instr.build
  simp only [Sem.run_bind, ht.run_zero, ht.run_u, hd, he.run_size, Result.andThen_ok, hz, hPA]
  simp only [e2, Sem.run_pure]
 simp only [execOp, Sem.run_bind, hrun _ e1, Result.andThen_ok, Sem.run_pure]
end
end Go.Z
namespace Go.Z.Asm
set_option maxRecDepth 8000
set_option linter.unusedVariables false
set_option linter.unusedSimpArgs false
set_option linter.unusedSectionVars false
open Go Go.Z Go.Lib
def rowC (op : Int) : List Value := .string (strB (opRow op).1) :: ((opRow op).2.1.map fun k : Nat => Value.int .i64 k) ++ [.int .i64 (opRow op).2.2]
def opsC : List Value := opT.flatMap fun r => .string (strB r.1) :: (r.2.1.map fun k : Nat => Value.int .i64 k) ++ [.int .i64 r.2.2]
def OpsK (ρ : Nat → Obj → Prop) : Prop := ∃ T fz, ρ 0 (.cells opsC.toArray T fz)
theorem OpsK.mono {ρ ρ' : Nat → Obj → Prop} (h : OpsK ρ) (s : ∀ b o, ρ b o → ρ' b o) : OpsK ρ' := let ⟨T, fz, h⟩ := h; ⟨T, fz, s _ _ h⟩
theorem op_cases {op : Int} (h : knownP op) : op = 1 ∨ op = 2 ∨ op = 3 ∨ op = 4 ∨ op = 5 ∨ op = 6 ∨ op = 7 ∨ op = 8 ∨ op = 9 ∨ op = 10 := by unfold knownP at h; omega
theorem ops_at {op : Int} (h : knownP op) : sub opsC (0 + op.toNat * 6) 6 = some (rowC op) := by
 rcases op_cases h with rfl | rfl | rfl | rfl | rfl | rfl | rfl | rfl | rfl | rfl <;> rfl
theorem opRow_len (op : Int) : (opRow op).2.1.length = 4 := by
 by_cases h : knownP op
 ·rcases op_cases h with rfl | rfl | rfl | rfl | rfl | rfl | rfl | rfl | rfl | rfl <;> rfl
 ·unfold opRow; rw [if_neg h]; rfl
theorem opRow_le (op : Int) : (∀ k ∈ (opRow op).2.1, k ≤ 9) ∧ (opRow op).2.2 ≤ 2 := by
 by_cases h : knownP op
 ·rcases op_cases h with rfl | rfl | rfl | rfl | rfl | rfl | rfl | rfl | rfl | rfl <;> decide
 ·unfold opRow; rw [if_neg h]; decide
theorem rowC_ex (op : Int) : ∃ k0 k1 k2 k3 : Nat, (opRow op).2.1 = [k0, k1, k2, k3] ∧ rowC op = [.string (strB (opRow op).1), .int .i64 k0, .int .i64 k1, .int .i64 k2, .int .i64 k3, .int .i64 (opRow op).2.2] := by
 have h := opRow_len op
 match hk : (opRow op).2.1, h with
 | [a, b, c, d], _ => exact ⟨a, b, c, d, rfl, by unfold rowC; rw [hk]; rfl⟩
theorem rowC_no {op : Int} (h : ¬ knownP op) : rowC op = [.string ⟨#[]⟩, .int .i64 0, .int .i64 0, .int .i64 0, .int .i64 0, .int .i64 0] := by
 unfold rowC opRow; rw [if_neg h]; rfl
theorem RtR.empty {ρ : Nat → Obj → Prop} : RtR ρ [.string ⟨#[]⟩, .slice none 0 0, .slice none 0 0, .int .i64 0, .slice none 0 0, .slice none 0 0] emptyRt := by
 have h : ∀ size, RSl ρ size none 0 [] := fun size => ⟨by simp, 0, 0, [], 0, (0, 0), fun h => absurd h (Nat.lt_irrefl 0)⟩
 exact ⟨none, 0, none, 0, none, 0, none, 0, rfl, h 1, h 1, h 1, h 5⟩
end Go.Z.Asm
namespace Go.Proofs.YtcnfcoojmbjdlaaGreatDoor
set_option maxRecDepth 8000
set_option linter.unusedVariables false
set_option linter.unusedSimpArgs false
set_option linter.unusedSectionVars false
open Go Go.Z Go.Z.Asm

theorem known_ok {ρ : Nat → Obj → Prop} (hO : OpsK ρ) (op : Int) : Con Tryz.prog ρ 43 #[.int .i64 op] [] (fun v H => v = .tuple #[.agg (rowC op).toArray, .bool (decide (knownP op))] ∧ H = []) := by
 obtain ⟨T, fz, hg⟩ := hO
 have hno : ¬ knownP op → rowC op = [.string ⟨#[]⟩, .int .i64 0, .int .i64 0, .int .i64 0, .int .i64 0, .int .i64 0] := rowC_no
 obtain ⟨k0, k1, k2, k3, _, hrow⟩ := rowC_ex op
 refine con_intro Tryz.func43 Tryz.call43 rfl Tryz.ntmps43 rfl (L := [(0, _)]) rfl fun w hh => ?_
 refine g_seq <| g_region ?_
 refine g_eff (e_alloc (by rfl)) rfl (fun _ _ => ?_)
 rintro ⟨b2, rfl, rfl⟩
 refine g_as ?_
 refine g_nil <| g_qt <| g_seq <| g_seq <| g_region ?_
 refine g_mv ?_
 refine g_pure (p_lss rfl rfl) rfl ?_
 refine g_mv ?_
 refine g_splitd rfl rfl (fun h1 => ?_) (fun h1 => ?_)
 ·have hk : ¬ knownP op := fun h => by unfold knownP at h; omega
  refine g_noA ?_
  refine g_noA ?_
  first | refine g_pkt ?_ | refine g_pkf ?_
  refine g_nil <| g_qt ?_
  refine g_ift rfl ?_
  refine g_seq <| g_region ?_
  refine g_pure (p_build (by rfl) rfl (by rfl)) rfl ?_
  first | refine g_eff0 (e_storeO rfl rfl (by rfl) (by rfl) (by rfl) (by repeat' (first | exact Take.here | apply Take.there)) (by rfl)) (fun _ _ => ?_) | refine g_eff0 (e_storeN rfl rfl (by rfl) (by rfl) (by rfl) (by repeat' (first | exact Take.here | apply Take.there)) (by simp)) (fun _ _ => ?_)
  rintro rfl
  refine g_as ?_
  refine g_nil <| g_qt <| g_ret <| g_qt_ret ?_
  exact g_postA (Ho := []) (rs := [.cell 2 62, .tmp 3]) rfl (Res.cellN (by rfl) rfl (Has.own (by repeat' (first | exact Take.here | apply Take.there))) (by rfl) (.tmp rfl .nil)) ⟨by rw [hno hk, decide_eq_false hk]; rfl, rfl⟩
 ·refine g_yesA ?_
  refine g_mv ?_
  refine g_yesA ?_
  refine g_pure (p_gtr rfl rfl) rfl ?_
  first | refine g_pkt ?_ | refine g_pkf ?_
  refine g_nil <| g_qt ?_
  refine g_ifd rfl (fun h2 => ?_) (fun h2 => ?_)
  ·have hk : ¬ knownP op := fun h => by unfold knownP at h; omega
   refine g_seq <| g_region ?_
   refine g_pure (p_build (by rfl) rfl (by rfl)) rfl ?_
   first | refine g_eff0 (e_storeO rfl rfl (by rfl) (by rfl) (by rfl) (by repeat' (first | exact Take.here | apply Take.there)) (by rfl)) (fun _ _ => ?_) | refine g_eff0 (e_storeN rfl rfl (by rfl) (by rfl) (by rfl) (by repeat' (first | exact Take.here | apply Take.there)) (by simp)) (fun _ _ => ?_)
   rintro rfl
   refine g_as ?_
   refine g_nil <| g_qt <| g_ret <| g_qt_ret ?_
   exact g_postA (Ho := []) (rs := [.cell 2 62, .tmp 3]) rfl (Res.cellN (by rfl) rfl (Has.own (by repeat' (first | exact Take.here | apply Take.there))) (by rfl) (.tmp rfl .nil)) ⟨by rw [hno hk, decide_eq_false hk]; rfl, rfl⟩
  ·have hk : knownP op := ⟨by omega, by omega⟩
   have hat := ops_at hk
   rw [hrow] at hat ⊢
   refine g_skip <| g_qt <| g_seq <| g_region ?_
   refine g_mv ?_
   refine g_pure (p_indexAddrA (by rfl) rfl rfl (by omega)) rfl ?_
   refine g_pure (p_loadN (by rfl) rfl (Has.ro hg) hat) rfl ?_
   first | refine g_eff0 (e_storeO rfl rfl (by rfl) (by rfl) (by rfl) (by repeat' (first | exact Take.here | apply Take.there)) (by rfl)) (fun _ _ => ?_) | refine g_eff0 (e_storeN rfl rfl (by rfl) (by rfl) (by rfl) (by repeat' (first | exact Take.here | apply Take.there)) (by simp)) (fun _ _ => ?_)
   rintro rfl
   refine g_as ?_
   refine g_nil <| g_qt <| g_ret ?_
   exact g_postA (Ho := []) (rs := [.cell 2 62, .tmp 3]) rfl (Res.cellN (by rfl) rfl (Has.own (by repeat' (first | exact Take.here | apply Take.there))) (by rfl) (.tmp rfl .nil)) ⟨by rw [decide_eq_true hk]; rfl, rfl⟩
theorem operands_ok {ρ : Nat → Obj → Prop} (op : Int) : Con Tryz.prog ρ 83 #[.int .i64 op] [] (fun v H => v = .int .i64 (operandsP op) ∧ H = []) := by
 refine con_intro Tryz.func83 Tryz.call83 rfl Tryz.ntmps83 rfl (L := [(0, _)]) rfl fun w hh => ?_
 refine g_seq <| g_region ?_
 refine g_as ?_
 refine g_nil <| g_qt <| g_seq <| g_block <| g_seq <| g_region ?_
 refine g_mv ?_
 refine g_pure (p_eql rfl rfl) rfl ?_
 refine g_mv ?_
 refine g_splitd rfl rfl (fun h1 => ?_) (fun h1 => ?_)
 ·refine g_noA ?_
  refine g_noA ?_
  first | refine g_pkt ?_ | refine g_pkf ?_
  refine g_as ?_
  refine g_nil <| g_qt ?_
  refine g_ift rfl ?_
  refine g_seq <| g_region ?_
  refine g_as ?_
  refine g_nil <| g_qt <| g_ret <| g_qb_ret <| g_qt_ret ?_
  first | exact g_postA (Ho := []) (rs := [.tmp 2]) rfl (.tmp rfl .nil) ⟨show Value.int .i64 1 = _ by (unfold operandsP; rw [if_pos (by omega)]; done), rfl⟩ | exact g_postA (Ho := []) (rs := [.tmp 2]) rfl (.tmp rfl .nil) ⟨show Value.int .i64 2 = _ by (unfold operandsP; rw [if_neg (by omega), if_pos (by omega)]; done), rfl⟩ | exact g_postA (Ho := []) (rs := [.tmp 2]) rfl (.tmp rfl .nil) ⟨show Value.int .i64 0 = _ by (unfold operandsP; rw [if_neg (by omega), if_neg (by omega)]; done), rfl⟩
 ·refine g_yesA ?_
  refine g_mv ?_
  refine g_yesA ?_
  refine g_pure (p_eql rfl rfl) rfl ?_
  first | refine g_pkt ?_ | refine g_pkf ?_
  refine g_as ?_
  refine g_nil <| g_qt ?_
  refine g_ifdL rfl (fun h3 => ?_) (fun h3 => ?_)
  ·refine g_seq <| g_region ?_
   refine g_as ?_
   refine g_nil <| g_qt <| g_ret <| g_qb_ret <| g_qt_ret ?_
   first | exact g_postA (Ho := []) (rs := [.tmp 2]) rfl (.tmp rfl .nil) ⟨show Value.int .i64 1 = _ by (unfold operandsP; rw [if_pos (by omega)]; done), rfl⟩ | exact g_postA (Ho := []) (rs := [.tmp 2]) rfl (.tmp rfl .nil) ⟨show Value.int .i64 2 = _ by (unfold operandsP; rw [if_neg (by omega), if_pos (by omega)]; done), rfl⟩ | exact g_postA (Ho := []) (rs := [.tmp 2]) rfl (.tmp rfl .nil) ⟨show Value.int .i64 0 = _ by (unfold operandsP; rw [if_neg (by omega), if_neg (by omega)]; done), rfl⟩
  ·refine g_seq <| g_region ?_
   refine g_mv ?_
   refine g_pure (p_geq rfl rfl) rfl ?_
   refine g_mv ?_
   refine g_splitd rfl rfl (fun h4 => ?_) (fun h4 => ?_)
   ·refine g_yesA ?_
    refine g_mv ?_
    refine g_yesA ?_
    refine g_pure (p_leq rfl rfl) rfl ?_
    first | refine g_pkt ?_ | refine g_pkf ?_
    refine g_as ?_
    refine g_nil <| g_qt ?_
    refine g_ifdL rfl (fun h5 => ?_) (fun h5 => ?_)
    ·refine g_seq <| g_region ?_
     refine g_as ?_
     refine g_nil <| g_qt <| g_ret <| g_qb_ret <| g_qt_ret ?_
     first | exact g_postA (Ho := []) (rs := [.tmp 2]) rfl (.tmp rfl .nil) ⟨show Value.int .i64 1 = _ by (unfold operandsP; rw [if_pos (by omega)]; done), rfl⟩ | exact g_postA (Ho := []) (rs := [.tmp 2]) rfl (.tmp rfl .nil) ⟨show Value.int .i64 2 = _ by (unfold operandsP; rw [if_neg (by omega), if_pos (by omega)]; done), rfl⟩ | exact g_postA (Ho := []) (rs := [.tmp 2]) rfl (.tmp rfl .nil) ⟨show Value.int .i64 0 = _ by (unfold operandsP; rw [if_neg (by omega), if_neg (by omega)]; done), rfl⟩
    ·refine g_skip <| g_qb <| g_qt <| g_seq <| g_region ?_
     refine g_as ?_
     refine g_nil <| g_qt <| g_ret ?_
     first | exact g_postA (Ho := []) (rs := [.tmp 2]) rfl (.tmp rfl .nil) ⟨show Value.int .i64 1 = _ by (unfold operandsP; rw [if_pos (by omega)]; done), rfl⟩ | exact g_postA (Ho := []) (rs := [.tmp 2]) rfl (.tmp rfl .nil) ⟨show Value.int .i64 2 = _ by (unfold operandsP; rw [if_neg (by omega), if_pos (by omega)]; done), rfl⟩ | exact g_postA (Ho := []) (rs := [.tmp 2]) rfl (.tmp rfl .nil) ⟨show Value.int .i64 0 = _ by (unfold operandsP; rw [if_neg (by omega), if_neg (by omega)]; done), rfl⟩
   ·refine g_noA ?_
    refine g_noA ?_
    first | refine g_pkt ?_ | refine g_pkf ?_
    refine g_as ?_
    refine g_nil <| g_qt ?_
    refine g_iff rfl ?_
    refine g_skip <| g_qb <| g_qt <| g_seq <| g_region ?_
    refine g_as ?_
    refine g_nil <| g_qt <| g_ret ?_
    first | exact g_postA (Ho := []) (rs := [.tmp 2]) rfl (.tmp rfl .nil) ⟨show Value.int .i64 1 = _ by (unfold operandsP; rw [if_pos (by omega)]; done), rfl⟩ | exact g_postA (Ho := []) (rs := [.tmp 2]) rfl (.tmp rfl .nil) ⟨show Value.int .i64 2 = _ by (unfold operandsP; rw [if_neg (by omega), if_pos (by omega)]; done), rfl⟩ | exact g_postA (Ho := []) (rs := [.tmp 2]) rfl (.tmp rfl .nil) ⟨show Value.int .i64 0 = _ by (unfold operandsP; rw [if_neg (by omega), if_neg (by omega)]; done), rfl⟩
theorem within_ok {ρ : Nat → Obj → Prop} (x m most : Int) (hm : I64 most) : Con Tryz.prog ρ 84 #[.int .i64 x, .int .i64 m, .int .i64 most] [] (fun v H => v = .bool (decide (withinP x m most)) ∧ H = []) := by
 obtain ⟨hm1, hm2⟩ := hm
 refine con_intro Tryz.func84 Tryz.call84 rfl Tryz.ntmps84 rfl (L := [(0, _), (1, _), (2, _)]) rfl fun w hh => ?_
 refine g_seq <| g_region ?_
 refine g_as ?_
 refine g_nil <| g_qt <| g_seq <| g_region ?_
 refine g_mv ?_
 refine g_pure (p_geq rfl rfl) rfl ?_
 refine g_mv ?_
 refine g_splitd rfl rfl (fun h1 => ?_) (fun h1 => ?_)
 ·refine g_yesA ?_
  refine g_mv ?_
  refine g_yesA ?_
  refine g_mv ?_
  refine g_yesA ?_
  refine g_pure (p_leq rfl rfl) rfl ?_
  first | refine g_pkt ?_ | refine g_pkf ?_
  refine g_mv ?_
  refine g_splitd rfl rfl (fun h2 => ?_) (fun h2 => ?_)
  ·refine g_yesA ?_
   refine g_mv ?_
   refine g_yesA ?_
   refine g_mv ?_
   refine g_yesA ?_
   refine g_mv ?_
   refine g_yesA ?_
   first | refine g_pure (p_subi rfl rfl (by omega)) rfl ?_ | refine g_pure (p_sub rfl rfl) rfl ?_
   refine g_yesA ?_
   refine g_pure (p_leq rfl rfl) rfl ?_
   first | refine g_pkt ?_ | refine g_pkf ?_
   refine g_as ?_
   refine g_nil <| g_qt <| g_ret ?_
   exact g_post (Ho := []) (rs := [.tmp 6]) rfl (.tmp rfl .nil) ⟨by show Value.bool _ = Value.bool _; congr 1; rw [decide_eq_decide]; unfold withinP; omega, rfl⟩ .nil
  ·refine g_noA ?_
   refine g_noA ?_
   refine g_noA ?_
   refine g_noA ?_
   refine g_noA ?_
   first | refine g_pkt ?_ | refine g_pkf ?_
   refine g_as ?_
   refine g_nil <| g_qt <| g_ret ?_
   exact g_post (Ho := []) (rs := [.tmp 6]) rfl (.tmp rfl .nil) ⟨by rw [decide_eq_false (p := withinP x m most) (fun h => by unfold withinP at h; omega)]; rfl, rfl⟩ .nil
 ·refine g_noA ?_
  refine g_noA ?_
  refine g_noA ?_
  first | refine g_pkt ?_ | refine g_pkf ?_
  refine g_mv ?_
  refine g_noA ?_
  refine g_noA ?_
  refine g_noA ?_
  refine g_noA ?_
  refine g_noA ?_
  first | refine g_pkt ?_ | refine g_pkf ?_
  refine g_as ?_
  refine g_nil <| g_qt <| g_ret ?_
  exact g_post (Ho := []) (rs := [.tmp 6]) rfl (.tmp rfl .nil) ⟨by rw [decide_eq_false (p := withinP x m most) (fun h => by unfold withinP at h; omega)]; rfl, rfl⟩ .nil
theorem called_ok {ρ : Nat → Obj → Prop} {ea ra : Option Addr} {ec rc : Nat} {im : Im} (h : ImI ρ ea ra im) (k : Int) :
  Con Tryz.prog ρ 37 #[.agg #[.slice ea im.1.length ec, .slice ra im.2.length rc], .int .i64 k] [] (fun v H => ∃ row, v = .agg row.toArray ∧ RtR ρ row (calledP im.2 k) ∧ H = []) := by
 have hrl := h.rl
 refine con_intro Tryz.func37 Tryz.call37 rfl Tryz.ntmps37 rfl (L := [(0, _), (1, _)]) rfl fun w hh => ?_
 refine g_seq <| g_region ?_
 refine g_eff (e_box rfl (by rfl)) rfl (fun _ _ => ?_)
 rintro ⟨b2, rfl, rfl⟩
 refine g_eff (e_alloc (by rfl)) rfl (fun _ _ => ?_)
 rintro ⟨b4, rfl, rfl⟩
 refine g_nil <| g_qt <| g_seq <| g_seq <| g_region ?_
 refine g_mv ?_
 refine g_pure (p_lss rfl rfl) rfl ?_
 refine g_mv ?_
 refine g_splitd rfl rfl (fun h1 => ?_) (fun h1 => ?_)
 ·refine g_noA ?_
  refine g_noA ?_
  refine g_noA ?_
  refine g_noA ?_
  refine g_noA ?_
  first | refine g_pkt ?_ | refine g_pkf ?_
  refine g_nil <| g_qt ?_
  refine g_ift rfl ?_
  refine g_seq <| g_region ?_
  refine g_pure (p_build (by rfl) rfl (by rfl)) rfl ?_
  first | refine g_eff0 (e_storeO rfl rfl (by rfl) (by rfl) (by rfl) (by repeat' (first | exact Take.here | apply Take.there)) (by rfl)) (fun _ _ => ?_) | refine g_eff0 (e_storeN rfl rfl (by rfl) (by rfl) (by rfl) (by repeat' (first | exact Take.here | apply Take.there)) (by simp)) (fun _ _ => ?_)
  rintro rfl
  refine g_nil <| g_qt <| g_ret <| g_qt_ret ?_
  exact g_postA (Ho := []) (rs := [.cell 4 45]) rfl (Res.cellN (by rfl) rfl (Has.own (by repeat' (first | exact Take.here | apply Take.there))) (by rfl) .nil) ⟨_, rfl, by unfold calledP; rw [if_pos h1]; exact RtR.empty, rfl⟩
 ·refine g_yesA ?_
  refine g_mv ?_
  refine g_yesA ?_
  refine g_fa ?_
  refine g_yesA ?_
  refine g_ld ?_
  refine g_yesA ?_
  refine g_pure (p_len (by rfl) rfl) rfl ?_
  refine g_yesA ?_
  refine g_pure (p_geq rfl rfl) rfl ?_
  first | refine g_pkt ?_ | refine g_pkf ?_
  refine g_nil <| g_qt ?_
  refine g_ifd rfl (fun h2 => ?_) (fun h2 => ?_)
  ·refine g_seq <| g_region ?_
   refine g_pure (p_build (by rfl) rfl (by rfl)) rfl ?_
   first | refine g_eff0 (e_storeO rfl rfl (by rfl) (by rfl) (by rfl) (by repeat' (first | exact Take.here | apply Take.there)) (by rfl)) (fun _ _ => ?_) | refine g_eff0 (e_storeN rfl rfl (by rfl) (by rfl) (by rfl) (by repeat' (first | exact Take.here | apply Take.there)) (by simp)) (fun _ _ => ?_)
   rintro rfl
   refine g_nil <| g_qt <| g_ret <| g_qt_ret ?_
   exact g_postA (Ho := []) (rs := [.cell 4 45]) rfl (Res.cellN (by rfl) rfl (Has.own (by repeat' (first | exact Take.here | apply Take.there))) (by rfl) .nil) ⟨_, rfl, by unfold calledP; rw [if_neg h1, List.getD_eq_getElem?_getD, List.getElem?_eq_none (by omega)]; exact RtR.empty, rfl⟩
  ·have hkl : k.toNat < im.2.length := by omega
   obtain ⟨b, off, cs, T, fz, r1, r2, r3⟩ := h.rs (by omega)
   obtain ⟨row, q1, q2, q3⟩ := r3 k.toNat hkl
   have hrow := q1
   obtain ⟨ia, ic, oa, oc, na, nc, ca, cc, e0, _⟩ := q1
   have hcal : calledP im.2 k = im.2[k.toNat] := by unfold calledP; rw [if_neg h1, List.getD_eq_getElem?_getD, List.getElem?_eq_getElem hkl]; rfl
   subst e0
   refine g_skip <| g_qt <| g_seq <| g_region ?_
   refine g_fa ?_
   refine g_ld ?_
   refine g_mv ?_
   refine g_pure (p_indexAddr rfl rfl (by omega) (fun _ => r1)) rfl ?_
   refine g_pure (p_loadN (by rfl) rfl (Has.ro r2) q2) rfl ?_
   first | refine g_eff0 (e_storeO rfl rfl (by rfl) (by rfl) (by rfl) (by repeat' (first | exact Take.here | apply Take.there)) (by rfl)) (fun _ _ => ?_) | refine g_eff0 (e_storeN rfl rfl (by rfl) (by rfl) (by rfl) (by repeat' (first | exact Take.here | apply Take.there)) (by simp)) (fun _ _ => ?_)
   rintro rfl
   refine g_nil <| g_qt <| g_ret ?_
   exact g_postA (Ho := []) (rs := [.cell 4 45]) rfl (Res.cellN (by rfl) rfl (Has.own (by repeat' (first | exact Take.here | apply Take.there))) (by rfl) .nil) ⟨_, rfl, by rw [hcal]; exact hrow, rfl⟩
theorem valid_ok {ρ : Nat → Obj → Prop} {ea ra : Option Addr} {ec rc : Nat} {im : Im} (hel : im.1.length ≤ 17592186044416) (t : Int) (ht : I64 t) :
  Con Tryz.prog ρ 60 #[.agg #[.slice ea im.1.length ec, .slice ra im.2.length rc], .int .i64 t] [] (fun v H => v = .bool (decide (validP im.1 t)) ∧ H = []) := by
 obtain ⟨ht1, ht2⟩ := ht
 refine con_intro Tryz.func60 Tryz.call60 rfl Tryz.ntmps60 rfl (L := [(0, _), (1, _)]) rfl fun w hh => ?_
 refine g_seq <| g_region ?_
 refine g_eff (e_box rfl (by rfl)) rfl (fun _ _ => ?_)
 rintro ⟨b2, rfl, rfl⟩
 refine g_as ?_
 refine g_nil <| g_qt <| g_seq <| g_region ?_
 refine g_mv ?_
 refine g_pure (p_eql rfl rfl) rfl ?_
 refine g_mv ?_
 refine g_splitd rfl rfl (fun h1 => ?_) (fun h1 => ?_)
 ·refine g_noA ?_
  refine g_noA ?_
  first | refine g_pkt ?_ | refine g_pkf ?_
  refine g_mv ?_
  refine g_noA ?_
  refine g_noA ?_
  refine g_noA ?_
  refine g_nou rfl rfl rfl ?_
  refine g_nou rfl rfl rfl ?_
  refine g_nou rfl rfl rfl ?_
  refine g_nou rfl rfl rfl ?_
  refine g_nou rfl rfl rfl ?_
  refine g_nou rfl rfl rfl ?_
  refine g_noA ?_
  first | refine g_pkt ?_ | refine g_pkf ?_
  refine g_as ?_
  refine g_nil <| g_qt <| g_ret ?_
  first | exact g_postA (Ho := []) (rs := [.tmp 4]) rfl (.tmp rfl .nil) ⟨show Value.bool true = _ by (rw [decide_eq_true (p := validP im.1 t) (by unfold validP; omega)]; done), rfl⟩ | exact g_postA (Ho := []) (rs := [.tmp 4]) rfl (.tmp rfl .nil) ⟨show Value.bool false = _ by (rw [decide_eq_false (p := validP im.1 t) (fun h => by unfold validP at h; omega)]; done), rfl⟩ | exact g_postA (Ho := []) (rs := [.tmp 4]) rfl (.tmp rfl .nil) ⟨show Value.bool (decide (t - 3 < (im.1.length : Int))) = _ by (congr 1; rw [decide_eq_decide]; unfold validP; omega), rfl⟩
 ·refine g_yesA ?_
  refine g_mv ?_
  refine g_yesA ?_
  refine g_pure (p_eql rfl rfl) rfl ?_
  first | refine g_pkt ?_ | refine g_pkf ?_
  refine g_mv ?_
  refine g_splitd rfl rfl (fun h4 => ?_) (fun h4 => ?_)
  ·refine g_noA ?_
   refine g_noA ?_
   refine g_noA ?_
   refine g_nou rfl rfl rfl ?_
   refine g_nou rfl rfl rfl ?_
   refine g_nou rfl rfl rfl ?_
   refine g_nou rfl rfl rfl ?_
   refine g_nou rfl rfl rfl ?_
   refine g_nou rfl rfl rfl ?_
   refine g_noA ?_
   first | refine g_pkt ?_ | refine g_pkf ?_
   refine g_as ?_
   refine g_nil <| g_qt <| g_ret ?_
   first | exact g_postA (Ho := []) (rs := [.tmp 4]) rfl (.tmp rfl .nil) ⟨show Value.bool true = _ by (rw [decide_eq_true (p := validP im.1 t) (by unfold validP; omega)]; done), rfl⟩ | exact g_postA (Ho := []) (rs := [.tmp 4]) rfl (.tmp rfl .nil) ⟨show Value.bool false = _ by (rw [decide_eq_false (p := validP im.1 t) (fun h => by unfold validP at h; omega)]; done), rfl⟩ | exact g_postA (Ho := []) (rs := [.tmp 4]) rfl (.tmp rfl .nil) ⟨show Value.bool (decide (t - 3 < (im.1.length : Int))) = _ by (congr 1; rw [decide_eq_decide]; unfold validP; omega), rfl⟩
  ·refine g_yesA ?_
   refine g_mv ?_
   refine g_yesA ?_
   refine g_pure (p_geq rfl rfl) rfl ?_
   refine g_yesA ?_
   refine g_mv ?_
   refine g_splitd rfl rfl (fun h6 => ?_) (fun h6 => ?_)
   ·refine g_yesA ?_
    refine g_mv ?_
    refine g_yesA ?_
    first | refine g_pure (p_subi rfl rfl (by omega)) rfl ?_ | refine g_pure (p_sub rfl rfl) rfl ?_
    refine g_yesA ?_
    refine g_fa ?_
    refine g_yesA ?_
    refine g_ld ?_
    refine g_yesA ?_
    refine g_pure (p_len (by rfl) rfl) rfl ?_
    refine g_yesA ?_
    refine g_pure (p_lss rfl rfl) rfl ?_
    refine g_yesA ?_
    first | refine g_pkt ?_ | refine g_pkf ?_
    first | refine g_pkt ?_ | refine g_pkf ?_
    refine g_as ?_
    refine g_nil <| g_qt <| g_ret ?_
    first | exact g_postA (Ho := []) (rs := [.tmp 4]) rfl (.tmp rfl .nil) ⟨show Value.bool true = _ by (rw [decide_eq_true (p := validP im.1 t) (by unfold validP; omega)]; done), rfl⟩ | exact g_postA (Ho := []) (rs := [.tmp 4]) rfl (.tmp rfl .nil) ⟨show Value.bool false = _ by (rw [decide_eq_false (p := validP im.1 t) (fun h => by unfold validP at h; omega)]; done), rfl⟩ | exact g_postA (Ho := []) (rs := [.tmp 4]) rfl (.tmp rfl .nil) ⟨show Value.bool (decide (t - 3 < (im.1.length : Int))) = _ by (congr 1; rw [decide_eq_decide]; unfold validP; omega), rfl⟩
   ·refine g_noA ?_
    refine g_noA ?_
    refine g_noA ?_
    refine g_noA ?_
    refine g_noA ?_
    refine g_noA ?_
    refine g_yesA ?_
    first | refine g_pkt ?_ | refine g_pkf ?_
    first | refine g_pkt ?_ | refine g_pkf ?_
    refine g_as ?_
    refine g_nil <| g_qt <| g_ret ?_
    first | exact g_postA (Ho := []) (rs := [.tmp 4]) rfl (.tmp rfl .nil) ⟨show Value.bool true = _ by (rw [decide_eq_true (p := validP im.1 t) (by unfold validP; omega)]; done), rfl⟩ | exact g_postA (Ho := []) (rs := [.tmp 4]) rfl (.tmp rfl .nil) ⟨show Value.bool false = _ by (rw [decide_eq_false (p := validP im.1 t) (fun h => by unfold validP at h; omega)]; done), rfl⟩ | exact g_postA (Ho := []) (rs := [.tmp 4]) rfl (.tmp rfl .nil) ⟨show Value.bool (decide (t - 3 < (im.1.length : Int))) = _ by (congr 1; rw [decide_eq_decide]; unfold validP; omega), rfl⟩
end Go.Proofs.YtcnfcoojmbjdlaaGreatDoor
/- Chapter 26: the form of an instruction. Conditions: what the table of operations holds (OpsK). -/
namespace Go.Z.Asm
set_option maxRecDepth 8000
set_option linter.unusedVariables false
set_option linter.unusedSimpArgs false
set_option linter.unusedSectionVars false
open Go Go.Z Go.Lib
theorem all_take {α : Type} (f : α → Bool) {l : List α} {k : Nat} (hk : k < l.length) : (l.take (k + 1)).all f = ((l.take k).all f && f l[k]) := by
 rw [List.take_add_one, List.getElem?_eq_getElem hk, List.all_append]; simp
/-- the fields beside their kinds -/
def pairs (i : Ins) : List (Nat × Int) := List.zip (opRow i.1).2.1 (fieldsV i)
theorem pairs_len (i : Ins) : (pairs i).length = 4 := by unfold pairs; rw [List.length_zip, opRow_len]; rfl
theorem pairs_at (i : Ins) {k : Nat} (hk : k < 4) : ∃ kd x, (pairs i)[k]'(by rw [pairs_len]; exact hk) = (kd, x) ∧ (opRow i.1).2.1[k]? = some kd ∧ (fieldsV i)[k]? = some x ∧ kd ≤ 9 := by
 have h1 : k < (opRow i.1).2.1.length := by rw [opRow_len]; exact hk
 have h2 : k < (fieldsV i).length := hk
 refine ⟨(opRow i.1).2.1[k], (fieldsV i)[k], ?_, List.getElem?_eq_getElem h1, List.getElem?_eq_getElem h2, (opRow_le i.1).1 _ (List.getElem_mem h1)⟩
 unfold pairs
 rw [List.getElem_zip]
/-- the cells of an operation: its kinds -/
theorem row_kind {op : Int} {k kd : Nat} (h : (opRow op).2.1[k]? = some kd) : (rowC op)[1 + k]? = some (.int .i64 kd) := by
 unfold rowC
 rw [List.cons_append, Nat.add_comm, List.getElem?_cons_succ]
 have hl := (List.getElem?_eq_some_iff.1 h).1
 rw [List.getElem?_append_left (by rw [List.length_map]; exact hl), List.getElem?_map, h]; rfl
theorem row_nops (op : Int) : (rowC op)[5]? = some (.int .i64 (opRow op).2.2) := by
 obtain ⟨k0, k1, k2, k3, _, h⟩ := rowC_ex op
 rw [h]; rfl
end Go.Z.Asm
namespace Go.Proofs.YtcnfcoojmbjdlaaGreatDoor
set_option maxRecDepth 8000
set_option linter.unusedVariables false
set_option linter.unusedSimpArgs false
set_option linter.unusedSectionVars false
open Go Go.Z Go.Z.Asm

theorem fields_ok {ρ : Nat → Obj → Prop} (i : Ins) : Con Tryz.prog ρ 44 #[.agg (encIns i).toArray] [] (fun v H => v = .agg ((fieldsV i).map encI).toArray ∧ H = []) := by
 refine con_intro Tryz.func44 Tryz.call44 rfl Tryz.ntmps44 rfl (L := [(0, _)]) rfl fun w hh => ?_
 refine g_seq <| g_region ?_
 refine g_eff (e_box rfl (by rfl)) rfl (fun _ _ => ?_)
 rintro ⟨b1, rfl, rfl⟩
 refine g_eff (e_alloc (by rfl)) rfl (fun _ _ => ?_)
 rintro ⟨b2, rfl, rfl⟩
 refine g_nil <| g_qt <| g_seq <| g_region ?_
 refine g_fa ?_
 refine g_ld ?_
 refine g_fa ?_
 refine g_ld ?_
 refine g_fa ?_
 refine g_ld ?_
 refine g_fa ?_
 refine g_ld ?_
 refine g_pure (p_buildA (by rfl) (z := List.replicate 4 (.int .i64 0)) (by rfl) rfl rfl) rfl ?_
 first | refine g_eff0 (e_storeO rfl rfl (by rfl) (by rfl) (by rfl) (by repeat' (first | exact Take.here | apply Take.there)) (by rfl)) (fun _ _ => ?_) | refine g_eff0 (e_storeN rfl rfl (by rfl) (by rfl) (by rfl) (by repeat' (first | exact Take.here | apply Take.there)) (by simp)) (fun _ _ => ?_)
 rintro rfl
 refine g_nil <| g_qt <| g_ret ?_
 exact g_postA (Ho := []) (rs := [.cell 2 60]) rfl (Res.cellN (by rfl) rfl (Has.own (by repeat' (first | exact Take.here | apply Take.there))) (by rfl) .nil) ⟨rfl, rfl⟩
end Go.Proofs.YtcnfcoojmbjdlaaGreatDoor
/- Chapter 26: the form and the ranges of an instruction. Conditions: what the table of operations holds (OpsK). -/
namespace Go.Proofs.YtcnfcoojmbjdlaaGreatDoor
set_option maxRecDepth 8000
set_option linter.unusedVariables false
set_option linter.unusedSimpArgs false
set_option linter.unusedSectionVars false
open Go Go.Z Go.Z.Asm

theorem known_at {ρ : Nat → Obj → Prop} (hO : OpsK ρ) {op : Int} {l : List Value} (h : rowC op = l) : Con Tryz.prog ρ 43 #[.int .i64 op] [] (fun v H => v = .tuple #[.agg l.toArray, .bool (decide (knownP op))] ∧ H = []) := by
 subst h; exact known_ok hO op
theorem form_ok {ρ : Nat → Obj → Prop} (hO : OpsK ρ) (nm : ByteArray) (ia oa na ca : Option Addr) (il ic ol oc nl nc cl cc : Nat) (rg : Int) (at' : Int) (i : Ins) (hcl : cl ≤ 9223372036854775807) :
  Con Tryz.prog ρ 62 #[.agg #[.string nm, .slice ia il ic, .slice oa ol oc, .int .i64 rg, .slice na nl nc, .slice ca cl cc], .int .i64 at', .agg (encIns i).toArray] [] (fun v H => v = .bool (formP cl at' i) ∧ H = []) := by
 obtain ⟨k0, k1, k2, k3, hks, hrow⟩ := rowC_ex i.1
 have hkat : ∀ k kd : Nat, (opRow i.1).2.1[k]? = some kd → [Value.string (strB (opRow i.1).1), .int .i64 k0, .int .i64 k1, .int .i64 k2, .int .i64 k3, .int .i64 (opRow i.1).2.2][0 + 1 + (k : Int).toNat * 1]? = some (.int .i64 kd) := fun k kd h => by
  rw [← hrow, show 0 + 1 + (k : Int).toNat * 1 = 1 + k by omega]; exact row_kind h
 refine con_intro Tryz.func62 Tryz.call62 rfl Tryz.ntmps62 rfl (L := [(0, _), (1, _), (2, _)]) rfl fun w hh => ?_
 refine g_seq <| g_region ?_
 refine g_eff (e_box rfl (by rfl)) rfl (fun _ _ => ?_)
 rintro ⟨b3, rfl, rfl⟩
 refine g_eff (e_box rfl (by rfl)) rfl (fun _ _ => ?_)
 rintro ⟨b5, rfl, rfl⟩
 refine g_as ?_
 refine g_nil <| g_qt <| g_seq <| g_region ?_
 refine g_fa ?_
 refine g_ld ?_
 refine g_call (Hin := []) (Hr := ?hr1) (R := ?rr1) rfl rfl rfl ?hin1 ?hc1 ?hk1
 case hin1 => repeat' (first | exact Cover.nil | exact Take.here | apply Cover.cons | apply Take.there)
 case hc1 => intro ρ' hρ hR; exact known_at (hO.mono hρ) hrow
 rintro _ _ ⟨rfl, rfl⟩
 refine g_mv ?_
 refine g_pure (p_extract rfl rfl) rfl ?_
 refine g_pure (p_extract rfl rfl) rfl ?_
 refine g_eff (e_alloc (by rfl)) rfl (fun _ _ => ?_)
 rintro ⟨b7, rfl, rfl⟩
 first | refine g_eff0 (e_storeO rfl rfl (by rfl) (by rfl) (by rfl) (by repeat' (first | exact Take.here | apply Take.there)) (by rfl)) (fun _ _ => ?_) | refine g_eff0 (e_storeN rfl rfl (by rfl) (by rfl) (by rfl) (by repeat' (first | exact Take.here | apply Take.there)) (by simp)) (fun _ _ => ?_)
 rintro rfl
 refine g_as ?_
 refine g_nil <| g_qt <| g_seq <| g_seq <| g_region ?_
 refine g_mv ?_
 refine g_pure (p_not rfl) rfl ?_
 refine g_nil <| g_qt ?_
 refine g_ifnd rfl (fun h => ?_) (fun h => ?_)
 ·refine g_seq <| g_region ?_
  refine g_as ?_
  refine g_nil <| g_qt <| g_ret <| g_qt_ret ?_
  exact g_postA (Ho := []) (rs := [.tmp 6]) rfl (.tmp rfl .nil) ⟨by unfold formP; rw [decide_eq_false h]; rfl, rfl⟩
 ·have hres : formP cl at' i = (pairs i).all fun p => formT cl at' (opRow i.1).2.2 p.1 p.2 := by unfold formP; rw [decide_eq_true h]; rfl
  rw [hres, decide_eq_true h]
  obtain ⟨f, hf⟩ : ∃ f : Nat × Int → Bool, (fun p => formT cl at' (opRow i.1).2.2 p.1 p.2) = f := ⟨_, rfl⟩
  rw [hf]
  have hpl := pairs_len i
  refine g_skip <| g_qt <| g_seq <| g_seq <| g_region ?_
  first | refine g_pure (p_loadO (by rfl) rfl (by first | (apply Has.own; (repeat' (first | exact Take.here | apply Take.there)); done) | exact Has.ro (by assumption)) (by rfl)) rfl ?_ | refine g_pure (p_loadN (by rfl) rfl (by first | (apply Has.own; (repeat' (first | exact Take.here | apply Take.there)); done) | exact Has.ro (by assumption)) (by first | rfl | assumption)) rfl ?_
  refine g_call (Hin := []) (Hr := ?hr2) (R := ?rr2) rfl rfl rfl ?hin2 ?hc2 ?hk2
  case hin2 => repeat' (first | exact Cover.nil | exact Take.here | apply Cover.cons | apply Take.there)
  case hc2 => intro ρ' hρ hR; exact fields_ok i
  rintro _ _ ⟨rfl, rfl⟩
  refine g_mv ?_
  refine g_nil <| g_qt <| g_block ?_
  refine g_loop (fun q : Nat × Bool => [(1, .int .i64 at'), (3, .pointer (some ⟨b3, 0, none⟩)), (7, .pointer (some ⟨b7, 0, none⟩)), (8, .bool q.2), (20, .agg ((fieldsV i).map encI).toArray), (21, .int .i64 q.1)])
   (fun _ => [Blk b3 (.cells [.string nm, .slice ia il ic, .slice oa ol oc, .int .i64 rg, .slice na nl nc, .slice ca cl cc].toArray 45 (0, 0)), Blk b7 (.cells [.string (strB (opRow i.1).1), .int .i64 k0, .int .i64 k1, .int .i64 k2, .int .i64 k3, .int .i64 (opRow i.1).2.2].toArray 62 (0, 0))])
   (fun q => q.1 ≤ 4 ∧ ((pairs i).take q.1).all f = q.2) (fun q => 4 - q.1) (0, true) ⟨Nat.zero_le _, rfl⟩ (by (repeat (first | exact trivial | refine ⟨by rfl, ?_⟩)); done) (by repeat' (first | exact Cover.nil | exact Take.here | apply Cover.cons | apply Take.there)) ?_
  rintro ⟨k, y⟩ ⟨hk4, hy⟩
  dsimp only at hk4 hy ⊢
  refine g_seq <| g_region ?_
  refine g_pure (p_lss rfl rfl) rfl ?_
  refine g_nil <| g_qt <| g_seq ?_
  refine g_ifd rfl (fun q => ?_) (fun q => ?_)
  ·have hkl : k < 4 := by omega
   obtain ⟨kd, x, hp, e1, e2, hkd⟩ := pairs_at i hkl
   have hst := all_take f (l := pairs i) (k := k) (by omega)
   rw [hy, hp] at hst
   have hfv : f (kd, x) = formT cl at' (opRow i.1).2.2 kd x := by rw [← hf]
   rw [hfv] at hst
   have hx : ((fieldsV i).map encI)[(k : Int).toNat]? = some (.int .i64 x) := by rw [Int.toNat_natCast, List.getElem?_map, e2]; rfl
   have hk1 : k + 1 ≤ 4 := hkl
   have hk2 : 4 - (k + 1) < 4 - k := by omega
   have hF : y = false → ((pairs i).take (k + 1)).all f = false := fun h => by rw [hst, h]; rfl
   have h0 : y = true → (kd : Int) = 0 → ((pairs i).take (k + 1)).all f = decide (x = 0) := fun h h1 => by rw [hst, h]; unfold formT; rw [if_pos (by omega)]; rfl
   have h5 : y = true → (kd : Int) = 5 → ((pairs i).take (k + 1)).all f = decide (operandsP x = ((opRow i.1).2.2 : Int)) := fun h h1 => by rw [hst, h]; unfold formT; rw [if_neg (by omega), if_pos (by omega)]; rfl
   have h4 : y = true → (kd : Int) = 4 → at' < x → ((pairs i).take (k + 1)).all f = decide (x ≤ (cl : Int)) := fun h h1 h2 => by rw [hst, h]; unfold formT; rw [if_neg (by omega), if_neg (by omega), if_pos (by omega), decide_eq_true h2]; rfl
   have h4' : (kd : Int) = 4 → ¬ at' < x → ((pairs i).take (k + 1)).all f = false := fun h1 h2 => by rw [hst]; unfold formT; rw [if_neg (by omega), if_neg (by omega), if_pos (by omega), decide_eq_false h2]; cases y <;> rfl
   have hE : ¬ (kd : Int) = 0 → ¬ (kd : Int) = 5 → ¬ (kd : Int) = 4 → ((pairs i).take (k + 1)).all f = y := fun h1 h2 h3 => by rw [hst]; unfold formT; rw [if_neg (by omega), if_neg (by omega), if_neg (by omega)]; cases y <;> rfl
   refine g_skip <| g_qt <| g_seq <| g_block <| g_seq <| g_region ?_
   refine g_mv ?_
   refine g_pure (p_indexA (he := ty3) (by rfl) (by rfl) rfl rfl rfl (by omega) hx) rfl ?_
   refine g_as ?_
   refine g_as ?_
   refine g_nil <| g_qt <| g_seq <| g_region ?_
   refine g_mv ?_
   refine g_fa ?_
   refine g_pure (p_indexAddrA (he := ty3) (by rfl) rfl rfl (by omega)) rfl ?_
   refine g_pure (p_load (by rfl) rfl (Has.own (by repeat' (first | exact Take.here | apply Take.there))) (hkat k kd e1)) rfl ?_
   refine g_nil <| g_qt <| g_block <| g_seq <| g_region ?_
   refine g_pure (p_eql rfl rfl) rfl ?_
   refine g_as ?_
   refine g_nil <| g_qt ?_
   refine g_ifdL rfl (fun h1 => ?_) (fun h1 => ?_)
   ·refine g_region ?_
    refine g_mv ?_
    refine g_mv ?_
    refine g_split rfl rfl (fun h2 => ?_) (fun h2 => ?_)
    ·refine g_yesA ?_
     refine g_mv ?_
     refine g_yesA ?_
     refine g_pure (p_eql rfl rfl) rfl ?_
     first | refine g_pkt ?_ | refine g_pkf ?_
     refine g_as ?_
     refine g_nil <| g_qb <| g_qb <| g_qt <| g_region ?_
     first | refine g_pure (p_addi rfl rfl (by omega)) rfl ?_ | refine g_pure (p_add rfl rfl) rfl ?_
     refine g_mv ?_
     refine g_nil <| g_qn ?_
     first | exact g_nextA (k + 1, false) ⟨hk1, hF (by assumption)⟩ hk2 | exact g_nextA (k + 1, decide (x = 0)) ⟨hk1, h0 (by assumption) (by assumption)⟩ hk2 | exact g_nextA (k + 1, decide (operandsP x = ((opRow i.1).2.2 : Int))) ⟨hk1, h5 (by assumption) (by assumption)⟩ hk2 | exact g_nextA (k + 1, decide (x ≤ (cl : Int))) ⟨hk1, h4 (by assumption) (by assumption) (by assumption)⟩ hk2 | exact g_nextA (k + 1, false) ⟨hk1, h4' (by assumption) (by assumption)⟩ hk2 | exact g_nextA (k + 1, y) ⟨hk1, hE (by assumption) (by assumption) (by assumption)⟩ hk2
    ·refine g_noA ?_
     refine g_noA ?_
     first | refine g_pkt ?_ | refine g_pkf ?_
     refine g_as ?_
     refine g_nil <| g_qb <| g_qb <| g_qt <| g_region ?_
     first | refine g_pure (p_addi rfl rfl (by omega)) rfl ?_ | refine g_pure (p_add rfl rfl) rfl ?_
     refine g_mv ?_
     refine g_nil <| g_qn ?_
     first | exact g_nextA (k + 1, false) ⟨hk1, hF (by assumption)⟩ hk2 | exact g_nextA (k + 1, decide (x = 0)) ⟨hk1, h0 (by assumption) (by assumption)⟩ hk2 | exact g_nextA (k + 1, decide (operandsP x = ((opRow i.1).2.2 : Int))) ⟨hk1, h5 (by assumption) (by assumption)⟩ hk2 | exact g_nextA (k + 1, decide (x ≤ (cl : Int))) ⟨hk1, h4 (by assumption) (by assumption) (by assumption)⟩ hk2 | exact g_nextA (k + 1, false) ⟨hk1, h4' (by assumption) (by assumption)⟩ hk2 | exact g_nextA (k + 1, y) ⟨hk1, hE (by assumption) (by assumption) (by assumption)⟩ hk2
   ·refine g_seq <| g_region ?_
    refine g_pure (p_eql rfl rfl) rfl ?_
    refine g_as ?_
    refine g_nil <| g_qt ?_
    refine g_ifdL rfl (fun h3 => ?_) (fun h3 => ?_)
    ·refine m_begin0 (.fl 0 0 (.fl 1 0 (.fl 2 0 (.fl 4 0 (.fl 5 1 (.ef 3 (.fl 6 0 (.fl 7 0 (.fl 8 0 .done))))))))) (by kernel_rfl) (by kernel_rfl) ?_
     refine m_float0 rfl (fun _ _ => p_move rfl) rfl ?_
     refine m_float0 rfl (fun _ _ => p_move rfl) rfl ?_
     refine m_split 1 rfl rfl (fun h4 => ?_) (fun h4 => ?_)
     ·refine m_yes0 rfl rfl rfl (fun _ _ => p_move rfl) rfl ?_
      refine m_yes0 rfl rfl rfl (fun _ _ => p_fieldAddr rfl) rfl ?_
      refine m_yes rfl rfl rfl (p_loadA) rfl ?_
      refine m_call (Hin := []) (Hr := ?hr3) (R := ?rr3) rfl (wantedY rfl rfl) rfl rfl rfl ?hin3 ?hc3 ?hk3
      case hin3 => repeat' (first | exact Cover.nil | exact Take.here | apply Cover.cons | apply Take.there)
      case hc3 => intro ρ' hρ hR; exact operands_ok x
      rintro _ _ ⟨rfl, rfl⟩
      refine ⟨.some (by repeat' (first | exact Cover.nil | exact Take.here | apply Cover.cons | apply Take.there)), ?_⟩
      refine m_yes0 rfl rfl rfl (fun _ _ => p_eql rfl rfl) rfl ?_
      first | refine m_float0 rfl (fun _ _ => p_pickt rfl rfl) rfl ?_ | refine m_float0 rfl (fun _ _ => p_pickf rfl rfl) rfl ?_
      refine m_float0 rfl (fun _ _ => p_assign rfl) rfl ?_
      refine m_nil ?_
      refine g_qb <| g_qb <| g_qt <| g_region ?_
      first | refine g_pure (p_addi rfl rfl (by omega)) rfl ?_ | refine g_pure (p_add rfl rfl) rfl ?_
      refine g_mv ?_
      refine g_nil <| g_qn ?_
      first | exact g_nextA (k + 1, false) ⟨hk1, hF (by assumption)⟩ hk2 | exact g_nextA (k + 1, decide (x = 0)) ⟨hk1, h0 (by assumption) (by assumption)⟩ hk2 | exact g_nextA (k + 1, decide (operandsP x = ((opRow i.1).2.2 : Int))) ⟨hk1, h5 (by assumption) (by assumption)⟩ hk2 | exact g_nextA (k + 1, decide (x ≤ (cl : Int))) ⟨hk1, h4 (by assumption) (by assumption) (by assumption)⟩ hk2 | exact g_nextA (k + 1, false) ⟨hk1, h4' (by assumption) (by assumption)⟩ hk2 | exact g_nextA (k + 1, y) ⟨hk1, hE (by assumption) (by assumption) (by assumption)⟩ hk2
     ·refine m_no0 rfl rfl rfl rfl rfl ?_
      refine m_no0 rfl rfl rfl rfl rfl ?_
      refine m_no rfl rfl rfl rfl rfl ?_
      refine m_noe rfl rfl rfl rfl rfl (.some (by repeat' (first | exact Cover.nil | exact Take.here | apply Cover.cons | apply Take.there))) ?_
      refine m_no0 rfl rfl rfl rfl rfl ?_
      first | refine m_float0 rfl (fun _ _ => p_pickt rfl rfl) rfl ?_ | refine m_float0 rfl (fun _ _ => p_pickf rfl rfl) rfl ?_
      refine m_float0 rfl (fun _ _ => p_assign rfl) rfl ?_
      refine m_nil ?_
      refine g_qb <| g_qb <| g_qt <| g_region ?_
      first | refine g_pure (p_addi rfl rfl (by omega)) rfl ?_ | refine g_pure (p_add rfl rfl) rfl ?_
      refine g_mv ?_
      refine g_nil <| g_qn ?_
      first | exact g_nextA (k + 1, false) ⟨hk1, hF (by assumption)⟩ hk2 | exact g_nextA (k + 1, decide (x = 0)) ⟨hk1, h0 (by assumption) (by assumption)⟩ hk2 | exact g_nextA (k + 1, decide (operandsP x = ((opRow i.1).2.2 : Int))) ⟨hk1, h5 (by assumption) (by assumption)⟩ hk2 | exact g_nextA (k + 1, decide (x ≤ (cl : Int))) ⟨hk1, h4 (by assumption) (by assumption) (by assumption)⟩ hk2 | exact g_nextA (k + 1, false) ⟨hk1, h4' (by assumption) (by assumption)⟩ hk2 | exact g_nextA (k + 1, y) ⟨hk1, hE (by assumption) (by assumption) (by assumption)⟩ hk2
    ·refine g_seq <| g_region ?_
     refine g_pure (p_eql rfl rfl) rfl ?_
     refine g_as ?_
     refine g_nil <| g_qt ?_
     refine g_ifdL rfl (fun h5 => ?_) (fun h5 => ?_)
     ·refine g_region ?_
      refine g_mv ?_
      refine g_mv ?_
      refine g_split rfl rfl (fun h6 => ?_) (fun h6 => ?_)
      ·refine g_yesA ?_
       refine g_mv ?_
       refine g_yesA ?_
       refine g_mv ?_
       refine g_yesA ?_
       refine g_pure (p_gtr rfl rfl) rfl ?_
       first | refine g_pkt ?_ | refine g_pkf ?_
       refine g_mv ?_
       refine g_splitd rfl rfl (fun h7 => ?_) (fun h7 => ?_)
       ·refine g_yesA ?_
        refine g_mv ?_
        refine g_yesA ?_
        refine g_fa ?_
        refine g_yesA ?_
        refine g_ld ?_
        refine g_yesA ?_
        refine g_pure (p_len (by rfl) rfl) rfl ?_
        refine g_yesA ?_
        refine g_pure (p_leq rfl rfl) rfl ?_
        first | refine g_pkt ?_ | refine g_pkf ?_
        refine g_as ?_
        refine g_nil <| g_qb <| g_qb <| g_qt <| g_region ?_
        first | refine g_pure (p_addi rfl rfl (by omega)) rfl ?_ | refine g_pure (p_add rfl rfl) rfl ?_
        refine g_mv ?_
        refine g_nil <| g_qn ?_
        first | exact g_nextA (k + 1, false) ⟨hk1, hF (by assumption)⟩ hk2 | exact g_nextA (k + 1, decide (x = 0)) ⟨hk1, h0 (by assumption) (by assumption)⟩ hk2 | exact g_nextA (k + 1, decide (operandsP x = ((opRow i.1).2.2 : Int))) ⟨hk1, h5 (by assumption) (by assumption)⟩ hk2 | exact g_nextA (k + 1, decide (x ≤ (cl : Int))) ⟨hk1, h4 (by assumption) (by assumption) (by assumption)⟩ hk2 | exact g_nextA (k + 1, false) ⟨hk1, h4' (by assumption) (by assumption)⟩ hk2 | exact g_nextA (k + 1, y) ⟨hk1, hE (by assumption) (by assumption) (by assumption)⟩ hk2
       ·refine g_noA ?_
        refine g_noA ?_
        refine g_noA ?_
        refine g_noA ?_
        refine g_noA ?_
        first | refine g_pkt ?_ | refine g_pkf ?_
        refine g_as ?_
        refine g_nil <| g_qb <| g_qb <| g_qt <| g_region ?_
        first | refine g_pure (p_addi rfl rfl (by omega)) rfl ?_ | refine g_pure (p_add rfl rfl) rfl ?_
        refine g_mv ?_
        refine g_nil <| g_qn ?_
        first | exact g_nextA (k + 1, false) ⟨hk1, hF (by assumption)⟩ hk2 | exact g_nextA (k + 1, decide (x = 0)) ⟨hk1, h0 (by assumption) (by assumption)⟩ hk2 | exact g_nextA (k + 1, decide (operandsP x = ((opRow i.1).2.2 : Int))) ⟨hk1, h5 (by assumption) (by assumption)⟩ hk2 | exact g_nextA (k + 1, decide (x ≤ (cl : Int))) ⟨hk1, h4 (by assumption) (by assumption) (by assumption)⟩ hk2 | exact g_nextA (k + 1, false) ⟨hk1, h4' (by assumption) (by assumption)⟩ hk2 | exact g_nextA (k + 1, y) ⟨hk1, hE (by assumption) (by assumption) (by assumption)⟩ hk2
      ·refine g_noA ?_
       refine g_noA ?_
       refine g_noA ?_
       first | refine g_pkt ?_ | refine g_pkf ?_
       refine g_mv ?_
       refine g_noA ?_
       refine g_noA ?_
       refine g_noA ?_
       refine g_noA ?_
       refine g_noA ?_
       first | refine g_pkt ?_ | refine g_pkf ?_
       refine g_as ?_
       refine g_nil <| g_qb <| g_qb <| g_qt <| g_region ?_
       first | refine g_pure (p_addi rfl rfl (by omega)) rfl ?_ | refine g_pure (p_add rfl rfl) rfl ?_
       refine g_mv ?_
       refine g_nil <| g_qn ?_
       first | exact g_nextA (k + 1, false) ⟨hk1, hF (by assumption)⟩ hk2 | exact g_nextA (k + 1, decide (x = 0)) ⟨hk1, h0 (by assumption) (by assumption)⟩ hk2 | exact g_nextA (k + 1, decide (operandsP x = ((opRow i.1).2.2 : Int))) ⟨hk1, h5 (by assumption) (by assumption)⟩ hk2 | exact g_nextA (k + 1, decide (x ≤ (cl : Int))) ⟨hk1, h4 (by assumption) (by assumption) (by assumption)⟩ hk2 | exact g_nextA (k + 1, false) ⟨hk1, h4' (by assumption) (by assumption)⟩ hk2 | exact g_nextA (k + 1, y) ⟨hk1, hE (by assumption) (by assumption) (by assumption)⟩ hk2
     ·refine g_skip <| g_qb <| g_qb <| g_qt <| g_region ?_
      first | refine g_pure (p_addi rfl rfl (by omega)) rfl ?_ | refine g_pure (p_add rfl rfl) rfl ?_
      refine g_mv ?_
      refine g_nil <| g_qn ?_
      first | exact g_nextA (k + 1, false) ⟨hk1, hF (by assumption)⟩ hk2 | exact g_nextA (k + 1, decide (x = 0)) ⟨hk1, h0 (by assumption) (by assumption)⟩ hk2 | exact g_nextA (k + 1, decide (operandsP x = ((opRow i.1).2.2 : Int))) ⟨hk1, h5 (by assumption) (by assumption)⟩ hk2 | exact g_nextA (k + 1, decide (x ≤ (cl : Int))) ⟨hk1, h4 (by assumption) (by assumption) (by assumption)⟩ hk2 | exact g_nextA (k + 1, false) ⟨hk1, h4' (by assumption) (by assumption)⟩ hk2 | exact g_nextA (k + 1, y) ⟨hk1, hE (by assumption) (by assumption) (by assumption)⟩ hk2
  ·have hke : k = 4 := by omega
   subst hke
   rw [List.take_of_length_le (by omega)] at hy
   rw [hy]
   refine g_exit <| g_qt_exit <| g_qn_exit <| g_qb_exit <| g_qt <| g_seq <| g_region ?_
   refine g_mv ?_
   refine g_as ?_
   refine g_nil <| g_qt <| g_ret ?_
   exact g_postA (Ho := []) (rs := [.tmp 6]) rfl (.tmp rfl .nil) ⟨rfl, rfl⟩
end Go.Proofs.YtcnfcoojmbjdlaaGreatDoor
/- Chapter 26: the ranges of an instruction. Conditions: what the table of operations holds (OpsK). -/
namespace Go.Proofs.YtcnfcoojmbjdlaaGreatDoor
set_option maxRecDepth 8000
set_option linter.unusedVariables false
set_option linter.unusedSimpArgs false
set_option linter.unusedSectionVars false
open Go Go.Z Go.Z.Asm

theorem called_at {ρ : Nat → Obj → Prop} {ea ra : Option Addr} {ec rc : Nat} {im : Im} (h : ImI ρ ea ra im) (k : Int) {y : Rt} (hy : calledP im.2 k = y) :
  Con Tryz.prog ρ 37 #[.agg #[.slice ea im.1.length ec, .slice ra im.2.length rc], .int .i64 k] [] (fun v H => ∃ ia ic oa oc na nc ca cc, v = .agg #[.string (strB y.1), .slice ia y.2.1.length ic, .slice oa y.2.2.1.length oc, .int .i64 y.2.2.2.1, .slice na y.2.2.2.2.1.length nc, .slice ca y.2.2.2.2.2.length cc] ∧ H = []) := by
 subst hy
 exact (called_ok h k).mono fun v H ⟨row, e, hr, e2⟩ => by
  obtain ⟨ia, ic, oa, oc, na, nc, ca, cc, h0, _⟩ := hr
  subst h0
  exact ⟨ia, ic, oa, oc, na, nc, ca, cc, e, e2⟩
theorem calledP_len {rts : List Rt} (h : ∀ x ∈ rts, RtOk x) (k : Int) : RtOk (calledP rts k) := by
 unfold calledP
 split
 ·exact RtOk.empty
 ·rw [List.getD_eq_getElem?_getD]
  cases e : rts[k.toNat]? with
  | none => exact RtOk.empty
  | some x => exact h x (List.mem_of_getElem? e)
theorem ranges_ok {ρ : Nat → Obj → Prop} (hO : OpsK ρ) {ea ra : Option Addr} {ec rc : Nat} {im : Im} (h : ImI ρ ea ra im) (kr : Nat) (hkr : kr < im.2.length) (i : Ins) :
  Con Tryz.prog ρ 63 #[.agg #[.slice ea im.1.length ec, .slice ra im.2.length rc], .int .i64 kr, .agg (encIns i).toArray] [] (fun v H => v = .bool (rangesP im.2 kr i) ∧ H = []) := by
 obtain ⟨k0, k1, k2, k3, hks, hrow⟩ := rowC_ex i.1
 have hkat : ∀ k kd : Nat, (opRow i.1).2.1[k]? = some kd → [Value.string (strB (opRow i.1).1), .int .i64 k0, .int .i64 k1, .int .i64 k2, .int .i64 k3, .int .i64 (opRow i.1).2.2][0 + 1 + (k : Int).toNat * 1]? = some (.int .i64 kd) := fun k kd h => by
  rw [← hrow, show 0 + 1 + (k : Int).toNat * 1 = 1 + k by omega]; exact row_kind h
 have hrl := h.rl
 obtain ⟨b, off, cs, T, fz, r1, r2, r3⟩ := h.rs (by omega)
 obtain ⟨row, q1, q2, q3⟩ := r3 kr hkr
 have hok := h.ok im.2[kr] (List.getElem_mem hkr)
 have hget : im.2.getD kr emptyRt = im.2[kr] := by rw [List.getD_eq_getElem?_getD, List.getElem?_eq_getElem hkr]; rfl
 have hcok := calledP_len h.ok i.2.1
 obtain ⟨yy, hyy⟩ : ∃ yy, calledP im.2 i.2.1 = yy := ⟨_, rfl⟩
 rw [hyy] at hcok
 have hres : rangesP im.2 kr i = (pairs i).all fun p => rangeT im.2[kr] kr yy p.1 p.2 := by unfold rangesP; rw [hget, hyy]; rfl
 rw [hres]
 generalize im.2[kr] = x0 at q1 hok hget hres
 obtain ⟨ia, ic, oa, oc, na, nc, ca, cc, e0, _⟩ := q1
 subst e0
 obtain ⟨f, hf⟩ : ∃ f : Nat × Int → Bool, (fun p => rangeT x0 kr yy p.1 p.2) = f := ⟨_, rfl⟩
 rw [hf]
 have hpl := pairs_len i
 have hr64 := hok.ri
 have hzl := hok.zl
 have hcz := hcok.zl
 have hci := hcok.il
 have hco := hcok.ol
 refine con_intro Tryz.func63 Tryz.call63 rfl Tryz.ntmps63 rfl (L := [(0, _), (1, _), (2, _)]) rfl fun w hh => ?_
 refine g_seq <| g_region ?_
 refine g_eff (e_box rfl (by rfl)) rfl (fun _ _ => ?_)
 rintro ⟨b3, rfl, rfl⟩
 refine g_eff (e_box rfl (by rfl)) rfl (fun _ _ => ?_)
 rintro ⟨b5, rfl, rfl⟩
 refine g_as ?_
 refine g_nil <| g_qt <| g_seq <| g_region ?_
 refine g_fa ?_
 refine g_ld ?_
 refine g_mv ?_
 refine g_pure (p_indexAddr rfl rfl (by omega) (fun _ => r1)) rfl ?_
 refine g_pure (p_loadN (by rfl) rfl (Has.ro r2) (by rw [Int.toNat_natCast]; exact q2)) rfl ?_
 refine g_eff (e_alloc (by rfl)) rfl (fun _ _ => ?_)
 rintro ⟨b7, rfl, rfl⟩
 first | refine g_eff0 (e_storeO rfl rfl (by rfl) (by rfl) (by rfl) (by repeat' (first | exact Take.here | apply Take.there)) (by rfl)) (fun _ _ => ?_) | refine g_eff0 (e_storeN rfl rfl (by rfl) (by rfl) (by rfl) (by repeat' (first | exact Take.here | apply Take.there)) (by simp)) (fun _ _ => ?_)
 rintro rfl
 refine g_nil <| g_qt <| g_seq <| g_region ?_
 refine g_fa ?_
 refine g_ld ?_
 refine g_call (Hin := []) (Hr := ?hr1) (R := ?rr1) rfl rfl rfl ?hin1 ?hc1 ?hk1
 case hin1 => repeat' (first | exact Cover.nil | exact Take.here | apply Cover.cons | apply Take.there)
 case hc1 => intro ρ' hρ hR; exact known_at (hO.mono hρ) hrow
 rintro _ _ ⟨rfl, rfl⟩
 refine g_mv ?_
 refine g_pure (p_extract rfl rfl) rfl ?_
 refine g_pure (p_extract rfl rfl) rfl ?_
 refine g_eff (e_alloc (by rfl)) rfl (fun _ _ => ?_)
 rintro ⟨b8, rfl, rfl⟩
 first | refine g_eff0 (e_storeO rfl rfl (by rfl) (by rfl) (by rfl) (by repeat' (first | exact Take.here | apply Take.there)) (by rfl)) (fun _ _ => ?_) | refine g_eff0 (e_storeN rfl rfl (by rfl) (by rfl) (by rfl) (by repeat' (first | exact Take.here | apply Take.there)) (by simp)) (fun _ _ => ?_)
 rintro rfl
 refine g_as ?_
 refine g_nil <| g_qt <| g_seq <| g_region ?_
 refine g_as ?_
 refine g_nil <| g_qt <| g_seq <| g_seq <| g_region ?_
 first | refine g_pure (p_loadO (by rfl) rfl (by first | (apply Has.own; (repeat' (first | exact Take.here | apply Take.there)); done) | exact Has.ro (by assumption)) (by rfl)) rfl ?_ | refine g_pure (p_loadN (by rfl) rfl (by first | (apply Has.own; (repeat' (first | exact Take.here | apply Take.there)); done) | exact Has.ro (by assumption)) (by first | rfl | assumption)) rfl ?_
 refine g_call (Hin := []) (Hr := ?hr2) (R := ?rr2) rfl rfl rfl ?hin2 ?hc2 ?hk2
 case hin2 => repeat' (first | exact Cover.nil | exact Take.here | apply Cover.cons | apply Take.there)
 case hc2 => intro ρ' hρ hR; exact fields_ok i
 rintro _ _ ⟨rfl, rfl⟩
 refine g_mv ?_
 refine g_nil <| g_qt <| g_block ?_
 refine g_loop (fun q : Nat × Bool => [(1, .int .i64 kr), (3, .pointer (some ⟨b3, 0, none⟩)), (5, .pointer (some ⟨b5, 0, none⟩)), (7, .pointer (some ⟨b7, 0, none⟩)), (8, .pointer (some ⟨b8, 0, none⟩)), (10, .bool q.2), (25, .agg ((fieldsV i).map encI).toArray), (26, .int .i64 q.1)])
  (fun _ => [Blk b3 (.cells [.slice ea im.1.length ec, .slice ra im.2.length rc].toArray 25 (0, 0)), Blk b5 (.cells [.int .i64 i.1, .int .i64 i.2.1, .int .i64 i.2.2.1, .int .i64 i.2.2.2.1, .int .i64 i.2.2.2.2].toArray 32 (0, 0)), Blk b7 (.cells [.string (strB x0.1), .slice ia x0.2.1.length ic, .slice oa x0.2.2.1.length oc, .int .i64 x0.2.2.2.1, .slice na x0.2.2.2.2.1.length nc, .slice ca x0.2.2.2.2.2.length cc].toArray 45 (0, 0)), Blk b8 (.cells [.string (strB (opRow i.1).1), .int .i64 k0, .int .i64 k1, .int .i64 k2, .int .i64 k3, .int .i64 (opRow i.1).2.2].toArray 62 (0, 0))])
  (fun q => q.1 ≤ 4 ∧ ((pairs i).take q.1).all f = q.2) (fun q => 4 - q.1) (0, true) ⟨Nat.zero_le _, rfl⟩ (by (repeat (first | exact trivial | refine ⟨by rfl, ?_⟩)); done) (by repeat' (first | exact Cover.nil | exact Take.here | apply Cover.cons | apply Take.there)) ?_
 rintro ⟨k, y⟩ ⟨hk4, hy⟩
 dsimp only at hk4 hy ⊢
 refine g_seq <| g_region ?_
 refine g_pure (p_lss rfl rfl) rfl ?_
 refine g_nil <| g_qt <| g_seq ?_
 refine g_ifd rfl (fun q => ?_) (fun q => ?_)
 ·have hkl : k < 4 := by omega
  obtain ⟨kd, x, hp, e1, e2, hkd⟩ := pairs_at i hkl
  have hst := all_take f (l := pairs i) (k := k) (by omega)
  rw [hy, hp] at hst
  have hfv : f (kd, x) = rangeT x0 kr yy kd x := by rw [← hf]
  rw [hfv] at hst
  have hx : ((fieldsV i).map encI)[(k : Int).toNat]? = some (.int .i64 x) := by rw [Int.toNat_natCast, List.getElem?_map, e2]; rfl
  have hk1' : k + 1 ≤ 4 := hkl
  have hk2' : 4 - (k + 1) < 4 - k := by omega
  have hF : y = false → ((pairs i).take (k + 1)).all f = false := fun h => by rw [hst, h]; rfl
  have t1 : y = true → (kd : Int) = 1 → ((pairs i).take (k + 1)).all f = decide (withinP x 1 x0.2.2.2.1) := fun h h1 => by
   obtain rfl : kd = 1 := by omega
   rw [hst, h]; rfl
  have t2 : y = true → (kd : Int) = 2 → ((pairs i).take (k + 1)).all f = decide (withinP x 1 (x0.2.2.2.2.1.length : Int)) := fun h h1 => by
   obtain rfl : kd = 2 := by omega
   rw [hst, h]; rfl
  have t3 : y = true → (kd : Int) = 3 → -32768 ≤ x → ((pairs i).take (k + 1)).all f = decide (x ≤ 32767) := fun h h1 h2 => by
   obtain rfl : kd = 3 := by omega
   rw [hst, h]
   show decide (-32768 ≤ x ∧ x ≤ 32767) = _
   rw [decide_eq_decide]; omega
  have t3' : (kd : Int) = 3 → ¬ -32768 ≤ x → ((pairs i).take (k + 1)).all f = false := fun h1 h2 => by
   obtain rfl : kd = 3 := by omega
   rw [hst]
   show (y && decide (-32768 ≤ x ∧ x ≤ 32767)) = _
   rw [decide_eq_false (fun h => h2 h.1), Bool.and_false]
  have t6 : y = true → (kd : Int) = 6 → 0 ≤ x → ((pairs i).take (k + 1)).all f = decide (x < (kr : Int)) := fun h h1 h2 => by
   obtain rfl : kd = 6 := by omega
   rw [hst, h]
   show decide (0 ≤ x ∧ x < (kr : Int)) = _
   rw [decide_eq_decide]; omega
  have t6' : (kd : Int) = 6 → ¬ 0 ≤ x → ((pairs i).take (k + 1)).all f = false := fun h1 h2 => by
   obtain rfl : kd = 6 := by omega
   rw [hst]
   show (y && decide (0 ≤ x ∧ x < (kr : Int))) = _
   rw [decide_eq_false (fun h => h2 h.1), Bool.and_false]
  have t7 : y = true → (kd : Int) = 7 → ((pairs i).take (k + 1)).all f = decide (withinP x (yy.2.2.2.2.1.length : Int) (x0.2.2.2.2.1.length : Int)) := fun h h1 => by
   obtain rfl : kd = 7 := by omega
   rw [hst, h]; rfl
  have t8 : y = true → (kd : Int) = 8 → ((pairs i).take (k + 1)).all f = decide (withinP x (yy.2.1.length : Int) x0.2.2.2.1) := fun h h1 => by
   obtain rfl : kd = 8 := by omega
   rw [hst, h]; rfl
  have t9 : y = true → (kd : Int) = 9 → ((pairs i).take (k + 1)).all f = decide (withinP x (yy.2.2.1.length : Int) x0.2.2.2.1) := fun h h1 => by
   obtain rfl : kd = 9 := by omega
   rw [hst, h]; rfl
  have hE : ¬ (kd : Int) = 1 → ¬ (kd : Int) = 2 → ¬ (kd : Int) = 3 → ¬ (kd : Int) = 6 → ¬ (kd : Int) = 7 → ¬ (kd : Int) = 8 → ¬ (kd : Int) = 9 → ((pairs i).take (k + 1)).all f = y := fun h1 h2 h3 h4 h5 h6 h7 => by
   rw [hst]; unfold rangeT
   rw [if_neg (by omega), if_neg (by omega), if_neg (by omega), if_neg (by omega), if_neg (by omega), if_neg (by omega), if_neg (by omega)]; cases y <;> rfl
  refine g_skip <| g_qt <| g_seq <| g_block <| g_seq <| g_region ?_
  refine g_mv ?_
  refine g_pure (p_indexA (he := ty3) (by rfl) (by rfl) rfl rfl rfl (by omega) hx) rfl ?_
  refine g_as ?_
  refine g_as ?_
  refine g_nil <| g_qt <| g_seq <| g_region ?_
  refine g_mv ?_
  refine g_fa ?_
  refine g_pure (p_indexAddrA (he := ty3) (by rfl) rfl rfl (by omega)) rfl ?_
  refine g_pure (p_load (by rfl) rfl (Has.own (by repeat' (first | exact Take.here | apply Take.there))) (hkat k kd e1)) rfl ?_
  refine g_nil <| g_qt <| g_block <| g_seq <| g_region ?_
  refine g_pure (p_eql rfl rfl) rfl ?_
  refine g_as ?_
  refine g_nil <| g_qt ?_
  refine g_ifdL rfl (fun h1 => ?_) (fun h1 => ?_)
  ·refine g_region ?_
   refine g_mv ?_
   refine g_mv ?_
   refine g_split rfl rfl (fun h2 => ?_) (fun h2 => ?_)
   ·refine g_yesA ?_
    refine g_mv ?_
    refine g_yesA ?_
    refine g_fa ?_
    refine g_yesA ?_
    refine g_ld ?_
    refine g_yesA ?_
    refine g_call (Hin := []) (Hr := ?hr3) (R := ?rr3) rfl rfl rfl ?hin3 ?hc3 ?hk3
    case hin3 => repeat' (first | exact Cover.nil | exact Take.here | apply Cover.cons | apply Take.there)
    case hc3 => intro ρ' hρ hR; exact within_ok x 1 x0.2.2.2.1 hr64
    rintro _ _ ⟨rfl, rfl⟩
    first | refine g_pkt ?_ | refine g_pkf ?_
    refine g_as ?_
    refine g_nil <| g_qb <| g_qb <| g_qt <| g_region ?_
    first | refine g_pure (p_addi rfl rfl (by omega)) rfl ?_ | refine g_pure (p_add rfl rfl) rfl ?_
    refine g_mv ?_
    refine g_nil <| g_qn ?_
    first | exact g_nextA (k + 1, false) ⟨hk1', hF (by assumption)⟩ hk2' | exact g_nextA (k + 1, decide (withinP x 1 x0.2.2.2.1)) ⟨hk1', t1 (by assumption) (by assumption)⟩ hk2' | exact g_nextA (k + 1, decide (withinP x 1 (x0.2.2.2.2.1.length : Int))) ⟨hk1', t2 (by assumption) (by assumption)⟩ hk2' | exact g_nextA (k + 1, decide (x ≤ 32767)) ⟨hk1', t3 (by assumption) (by assumption) (by assumption)⟩ hk2' | exact g_nextA (k + 1, false) ⟨hk1', t3' (by assumption) (by assumption)⟩ hk2' | exact g_nextA (k + 1, decide (x < (kr : Int))) ⟨hk1', t6 (by assumption) (by assumption) (by assumption)⟩ hk2' | exact g_nextA (k + 1, false) ⟨hk1', t6' (by assumption) (by assumption)⟩ hk2' | exact g_nextA (k + 1, decide (withinP x (yy.2.2.2.2.1.length : Int) (x0.2.2.2.2.1.length : Int))) ⟨hk1', t7 (by assumption) (by assumption)⟩ hk2' | exact g_nextA (k + 1, decide (withinP x (yy.2.1.length : Int) x0.2.2.2.1)) ⟨hk1', t8 (by assumption) (by assumption)⟩ hk2' | exact g_nextA (k + 1, decide (withinP x (yy.2.2.1.length : Int) x0.2.2.2.1)) ⟨hk1', t9 (by assumption) (by assumption)⟩ hk2' | exact g_nextA (k + 1, y) ⟨hk1', hE (by assumption) (by assumption) (by assumption) (by assumption) (by assumption) (by assumption) (by assumption)⟩ hk2'
   ·refine g_noA ?_
    refine g_noA ?_
    refine g_noA ?_
    refine g_noA ?_
    first | refine g_pkt ?_ | refine g_pkf ?_
    refine g_as ?_
    refine g_nil <| g_qb <| g_qb <| g_qt <| g_region ?_
    first | refine g_pure (p_addi rfl rfl (by omega)) rfl ?_ | refine g_pure (p_add rfl rfl) rfl ?_
    refine g_mv ?_
    refine g_nil <| g_qn ?_
    first | exact g_nextA (k + 1, false) ⟨hk1', hF (by assumption)⟩ hk2' | exact g_nextA (k + 1, decide (withinP x 1 x0.2.2.2.1)) ⟨hk1', t1 (by assumption) (by assumption)⟩ hk2' | exact g_nextA (k + 1, decide (withinP x 1 (x0.2.2.2.2.1.length : Int))) ⟨hk1', t2 (by assumption) (by assumption)⟩ hk2' | exact g_nextA (k + 1, decide (x ≤ 32767)) ⟨hk1', t3 (by assumption) (by assumption) (by assumption)⟩ hk2' | exact g_nextA (k + 1, false) ⟨hk1', t3' (by assumption) (by assumption)⟩ hk2' | exact g_nextA (k + 1, decide (x < (kr : Int))) ⟨hk1', t6 (by assumption) (by assumption) (by assumption)⟩ hk2' | exact g_nextA (k + 1, false) ⟨hk1', t6' (by assumption) (by assumption)⟩ hk2' | exact g_nextA (k + 1, decide (withinP x (yy.2.2.2.2.1.length : Int) (x0.2.2.2.2.1.length : Int))) ⟨hk1', t7 (by assumption) (by assumption)⟩ hk2' | exact g_nextA (k + 1, decide (withinP x (yy.2.1.length : Int) x0.2.2.2.1)) ⟨hk1', t8 (by assumption) (by assumption)⟩ hk2' | exact g_nextA (k + 1, decide (withinP x (yy.2.2.1.length : Int) x0.2.2.2.1)) ⟨hk1', t9 (by assumption) (by assumption)⟩ hk2' | exact g_nextA (k + 1, y) ⟨hk1', hE (by assumption) (by assumption) (by assumption) (by assumption) (by assumption) (by assumption) (by assumption)⟩ hk2'
  ·refine g_seq <| g_region ?_
   refine g_pure (p_eql rfl rfl) rfl ?_
   refine g_as ?_
   refine g_nil <| g_qt ?_
   refine g_ifdL rfl (fun h3 => ?_) (fun h3 => ?_)
   ·refine g_region ?_
    refine g_mv ?_
    refine g_mv ?_
    refine g_split rfl rfl (fun h4 => ?_) (fun h4 => ?_)
    ·refine g_yesA ?_
     refine g_mv ?_
     refine g_yesA ?_
     refine g_fa ?_
     refine g_yesA ?_
     refine g_ld ?_
     refine g_yesA ?_
     refine g_pure (p_len (by rfl) rfl) rfl ?_
     refine g_yesA ?_
     refine g_call (Hin := []) (Hr := ?hr4) (R := ?rr4) rfl rfl rfl ?hin4 ?hc4 ?hk4
     case hin4 => repeat' (first | exact Cover.nil | exact Take.here | apply Cover.cons | apply Take.there)
     case hc4 => intro ρ' hρ hR; exact within_ok x 1 (x0.2.2.2.2.1.length : Int) (by unfold I64; omega)
     rintro _ _ ⟨rfl, rfl⟩
     first | refine g_pkt ?_ | refine g_pkf ?_
     refine g_as ?_
     refine g_nil <| g_qb <| g_qb <| g_qt <| g_region ?_
     first | refine g_pure (p_addi rfl rfl (by omega)) rfl ?_ | refine g_pure (p_add rfl rfl) rfl ?_
     refine g_mv ?_
     refine g_nil <| g_qn ?_
     first | exact g_nextA (k + 1, false) ⟨hk1', hF (by assumption)⟩ hk2' | exact g_nextA (k + 1, decide (withinP x 1 x0.2.2.2.1)) ⟨hk1', t1 (by assumption) (by assumption)⟩ hk2' | exact g_nextA (k + 1, decide (withinP x 1 (x0.2.2.2.2.1.length : Int))) ⟨hk1', t2 (by assumption) (by assumption)⟩ hk2' | exact g_nextA (k + 1, decide (x ≤ 32767)) ⟨hk1', t3 (by assumption) (by assumption) (by assumption)⟩ hk2' | exact g_nextA (k + 1, false) ⟨hk1', t3' (by assumption) (by assumption)⟩ hk2' | exact g_nextA (k + 1, decide (x < (kr : Int))) ⟨hk1', t6 (by assumption) (by assumption) (by assumption)⟩ hk2' | exact g_nextA (k + 1, false) ⟨hk1', t6' (by assumption) (by assumption)⟩ hk2' | exact g_nextA (k + 1, decide (withinP x (yy.2.2.2.2.1.length : Int) (x0.2.2.2.2.1.length : Int))) ⟨hk1', t7 (by assumption) (by assumption)⟩ hk2' | exact g_nextA (k + 1, decide (withinP x (yy.2.1.length : Int) x0.2.2.2.1)) ⟨hk1', t8 (by assumption) (by assumption)⟩ hk2' | exact g_nextA (k + 1, decide (withinP x (yy.2.2.1.length : Int) x0.2.2.2.1)) ⟨hk1', t9 (by assumption) (by assumption)⟩ hk2' | exact g_nextA (k + 1, y) ⟨hk1', hE (by assumption) (by assumption) (by assumption) (by assumption) (by assumption) (by assumption) (by assumption)⟩ hk2'
    ·refine g_noA ?_
     refine g_noA ?_
     refine g_noA ?_
     refine g_noA ?_
     refine g_noA ?_
     first | refine g_pkt ?_ | refine g_pkf ?_
     refine g_as ?_
     refine g_nil <| g_qb <| g_qb <| g_qt <| g_region ?_
     first | refine g_pure (p_addi rfl rfl (by omega)) rfl ?_ | refine g_pure (p_add rfl rfl) rfl ?_
     refine g_mv ?_
     refine g_nil <| g_qn ?_
     first | exact g_nextA (k + 1, false) ⟨hk1', hF (by assumption)⟩ hk2' | exact g_nextA (k + 1, decide (withinP x 1 x0.2.2.2.1)) ⟨hk1', t1 (by assumption) (by assumption)⟩ hk2' | exact g_nextA (k + 1, decide (withinP x 1 (x0.2.2.2.2.1.length : Int))) ⟨hk1', t2 (by assumption) (by assumption)⟩ hk2' | exact g_nextA (k + 1, decide (x ≤ 32767)) ⟨hk1', t3 (by assumption) (by assumption) (by assumption)⟩ hk2' | exact g_nextA (k + 1, false) ⟨hk1', t3' (by assumption) (by assumption)⟩ hk2' | exact g_nextA (k + 1, decide (x < (kr : Int))) ⟨hk1', t6 (by assumption) (by assumption) (by assumption)⟩ hk2' | exact g_nextA (k + 1, false) ⟨hk1', t6' (by assumption) (by assumption)⟩ hk2' | exact g_nextA (k + 1, decide (withinP x (yy.2.2.2.2.1.length : Int) (x0.2.2.2.2.1.length : Int))) ⟨hk1', t7 (by assumption) (by assumption)⟩ hk2' | exact g_nextA (k + 1, decide (withinP x (yy.2.1.length : Int) x0.2.2.2.1)) ⟨hk1', t8 (by assumption) (by assumption)⟩ hk2' | exact g_nextA (k + 1, decide (withinP x (yy.2.2.1.length : Int) x0.2.2.2.1)) ⟨hk1', t9 (by assumption) (by assumption)⟩ hk2' | exact g_nextA (k + 1, y) ⟨hk1', hE (by assumption) (by assumption) (by assumption) (by assumption) (by assumption) (by assumption) (by assumption)⟩ hk2'
   ·refine g_seq <| g_region ?_
    refine g_pure (p_eql rfl rfl) rfl ?_
    refine g_as ?_
    refine g_nil <| g_qt ?_
    refine g_ifdL rfl (fun h5 => ?_) (fun h5 => ?_)
    ·refine g_region ?_
     refine g_mv ?_
     refine g_mv ?_
     refine g_split rfl rfl (fun h6 => ?_) (fun h6 => ?_)
     ·refine g_yesA ?_
      refine g_mv ?_
      refine g_yesA ?_
      refine g_pure (p_geq rfl rfl) rfl ?_
      first | refine g_pkt ?_ | refine g_pkf ?_
      refine g_mv ?_
      refine g_splitd rfl rfl (fun h7 => ?_) (fun h7 => ?_)
      ·refine g_yesA ?_
       refine g_mv ?_
       refine g_yesA ?_
       refine g_pure (p_leq rfl rfl) rfl ?_
       first | refine g_pkt ?_ | refine g_pkf ?_
       refine g_as ?_
       refine g_nil <| g_qb <| g_qb <| g_qt <| g_region ?_
       first | refine g_pure (p_addi rfl rfl (by omega)) rfl ?_ | refine g_pure (p_add rfl rfl) rfl ?_
       refine g_mv ?_
       refine g_nil <| g_qn ?_
       first | exact g_nextA (k + 1, false) ⟨hk1', hF (by assumption)⟩ hk2' | exact g_nextA (k + 1, decide (withinP x 1 x0.2.2.2.1)) ⟨hk1', t1 (by assumption) (by assumption)⟩ hk2' | exact g_nextA (k + 1, decide (withinP x 1 (x0.2.2.2.2.1.length : Int))) ⟨hk1', t2 (by assumption) (by assumption)⟩ hk2' | exact g_nextA (k + 1, decide (x ≤ 32767)) ⟨hk1', t3 (by assumption) (by assumption) (by assumption)⟩ hk2' | exact g_nextA (k + 1, false) ⟨hk1', t3' (by assumption) (by assumption)⟩ hk2' | exact g_nextA (k + 1, decide (x < (kr : Int))) ⟨hk1', t6 (by assumption) (by assumption) (by assumption)⟩ hk2' | exact g_nextA (k + 1, false) ⟨hk1', t6' (by assumption) (by assumption)⟩ hk2' | exact g_nextA (k + 1, decide (withinP x (yy.2.2.2.2.1.length : Int) (x0.2.2.2.2.1.length : Int))) ⟨hk1', t7 (by assumption) (by assumption)⟩ hk2' | exact g_nextA (k + 1, decide (withinP x (yy.2.1.length : Int) x0.2.2.2.1)) ⟨hk1', t8 (by assumption) (by assumption)⟩ hk2' | exact g_nextA (k + 1, decide (withinP x (yy.2.2.1.length : Int) x0.2.2.2.1)) ⟨hk1', t9 (by assumption) (by assumption)⟩ hk2' | exact g_nextA (k + 1, y) ⟨hk1', hE (by assumption) (by assumption) (by assumption) (by assumption) (by assumption) (by assumption) (by assumption)⟩ hk2'
      ·refine g_noA ?_
       refine g_noA ?_
       first | refine g_pkt ?_ | refine g_pkf ?_
       refine g_as ?_
       refine g_nil <| g_qb <| g_qb <| g_qt <| g_region ?_
       first | refine g_pure (p_addi rfl rfl (by omega)) rfl ?_ | refine g_pure (p_add rfl rfl) rfl ?_
       refine g_mv ?_
       refine g_nil <| g_qn ?_
       first | exact g_nextA (k + 1, false) ⟨hk1', hF (by assumption)⟩ hk2' | exact g_nextA (k + 1, decide (withinP x 1 x0.2.2.2.1)) ⟨hk1', t1 (by assumption) (by assumption)⟩ hk2' | exact g_nextA (k + 1, decide (withinP x 1 (x0.2.2.2.2.1.length : Int))) ⟨hk1', t2 (by assumption) (by assumption)⟩ hk2' | exact g_nextA (k + 1, decide (x ≤ 32767)) ⟨hk1', t3 (by assumption) (by assumption) (by assumption)⟩ hk2' | exact g_nextA (k + 1, false) ⟨hk1', t3' (by assumption) (by assumption)⟩ hk2' | exact g_nextA (k + 1, decide (x < (kr : Int))) ⟨hk1', t6 (by assumption) (by assumption) (by assumption)⟩ hk2' | exact g_nextA (k + 1, false) ⟨hk1', t6' (by assumption) (by assumption)⟩ hk2' | exact g_nextA (k + 1, decide (withinP x (yy.2.2.2.2.1.length : Int) (x0.2.2.2.2.1.length : Int))) ⟨hk1', t7 (by assumption) (by assumption)⟩ hk2' | exact g_nextA (k + 1, decide (withinP x (yy.2.1.length : Int) x0.2.2.2.1)) ⟨hk1', t8 (by assumption) (by assumption)⟩ hk2' | exact g_nextA (k + 1, decide (withinP x (yy.2.2.1.length : Int) x0.2.2.2.1)) ⟨hk1', t9 (by assumption) (by assumption)⟩ hk2' | exact g_nextA (k + 1, y) ⟨hk1', hE (by assumption) (by assumption) (by assumption) (by assumption) (by assumption) (by assumption) (by assumption)⟩ hk2'
     ·refine g_noA ?_
      refine g_noA ?_
      first | refine g_pkt ?_ | refine g_pkf ?_
      refine g_mv ?_
      refine g_noA ?_
      refine g_noA ?_
      first | refine g_pkt ?_ | refine g_pkf ?_
      refine g_as ?_
      refine g_nil <| g_qb <| g_qb <| g_qt <| g_region ?_
      first | refine g_pure (p_addi rfl rfl (by omega)) rfl ?_ | refine g_pure (p_add rfl rfl) rfl ?_
      refine g_mv ?_
      refine g_nil <| g_qn ?_
      first | exact g_nextA (k + 1, false) ⟨hk1', hF (by assumption)⟩ hk2' | exact g_nextA (k + 1, decide (withinP x 1 x0.2.2.2.1)) ⟨hk1', t1 (by assumption) (by assumption)⟩ hk2' | exact g_nextA (k + 1, decide (withinP x 1 (x0.2.2.2.2.1.length : Int))) ⟨hk1', t2 (by assumption) (by assumption)⟩ hk2' | exact g_nextA (k + 1, decide (x ≤ 32767)) ⟨hk1', t3 (by assumption) (by assumption) (by assumption)⟩ hk2' | exact g_nextA (k + 1, false) ⟨hk1', t3' (by assumption) (by assumption)⟩ hk2' | exact g_nextA (k + 1, decide (x < (kr : Int))) ⟨hk1', t6 (by assumption) (by assumption) (by assumption)⟩ hk2' | exact g_nextA (k + 1, false) ⟨hk1', t6' (by assumption) (by assumption)⟩ hk2' | exact g_nextA (k + 1, decide (withinP x (yy.2.2.2.2.1.length : Int) (x0.2.2.2.2.1.length : Int))) ⟨hk1', t7 (by assumption) (by assumption)⟩ hk2' | exact g_nextA (k + 1, decide (withinP x (yy.2.1.length : Int) x0.2.2.2.1)) ⟨hk1', t8 (by assumption) (by assumption)⟩ hk2' | exact g_nextA (k + 1, decide (withinP x (yy.2.2.1.length : Int) x0.2.2.2.1)) ⟨hk1', t9 (by assumption) (by assumption)⟩ hk2' | exact g_nextA (k + 1, y) ⟨hk1', hE (by assumption) (by assumption) (by assumption) (by assumption) (by assumption) (by assumption) (by assumption)⟩ hk2'
    ·refine g_seq <| g_region ?_
     refine g_pure (p_eql rfl rfl) rfl ?_
     refine g_as ?_
     refine g_nil <| g_qt ?_
     refine g_ifdL rfl (fun h9 => ?_) (fun h9 => ?_)
     ·refine g_region ?_
      refine g_mv ?_
      refine g_mv ?_
      refine g_split rfl rfl (fun h10 => ?_) (fun h10 => ?_)
      ·refine g_yesA ?_
       refine g_mv ?_
       refine g_yesA ?_
       refine g_pure (p_geq rfl rfl) rfl ?_
       first | refine g_pkt ?_ | refine g_pkf ?_
       refine g_mv ?_
       refine g_splitd rfl rfl (fun h11 => ?_) (fun h11 => ?_)
       ·refine g_yesA ?_
        refine g_mv ?_
        refine g_yesA ?_
        refine g_mv ?_
        refine g_yesA ?_
        refine g_pure (p_lss rfl rfl) rfl ?_
        first | refine g_pkt ?_ | refine g_pkf ?_
        refine g_as ?_
        refine g_nil <| g_qb <| g_qb <| g_qt <| g_region ?_
        first | refine g_pure (p_addi rfl rfl (by omega)) rfl ?_ | refine g_pure (p_add rfl rfl) rfl ?_
        refine g_mv ?_
        refine g_nil <| g_qn ?_
        first | exact g_nextA (k + 1, false) ⟨hk1', hF (by assumption)⟩ hk2' | exact g_nextA (k + 1, decide (withinP x 1 x0.2.2.2.1)) ⟨hk1', t1 (by assumption) (by assumption)⟩ hk2' | exact g_nextA (k + 1, decide (withinP x 1 (x0.2.2.2.2.1.length : Int))) ⟨hk1', t2 (by assumption) (by assumption)⟩ hk2' | exact g_nextA (k + 1, decide (x ≤ 32767)) ⟨hk1', t3 (by assumption) (by assumption) (by assumption)⟩ hk2' | exact g_nextA (k + 1, false) ⟨hk1', t3' (by assumption) (by assumption)⟩ hk2' | exact g_nextA (k + 1, decide (x < (kr : Int))) ⟨hk1', t6 (by assumption) (by assumption) (by assumption)⟩ hk2' | exact g_nextA (k + 1, false) ⟨hk1', t6' (by assumption) (by assumption)⟩ hk2' | exact g_nextA (k + 1, decide (withinP x (yy.2.2.2.2.1.length : Int) (x0.2.2.2.2.1.length : Int))) ⟨hk1', t7 (by assumption) (by assumption)⟩ hk2' | exact g_nextA (k + 1, decide (withinP x (yy.2.1.length : Int) x0.2.2.2.1)) ⟨hk1', t8 (by assumption) (by assumption)⟩ hk2' | exact g_nextA (k + 1, decide (withinP x (yy.2.2.1.length : Int) x0.2.2.2.1)) ⟨hk1', t9 (by assumption) (by assumption)⟩ hk2' | exact g_nextA (k + 1, y) ⟨hk1', hE (by assumption) (by assumption) (by assumption) (by assumption) (by assumption) (by assumption) (by assumption)⟩ hk2'
       ·refine g_noA ?_
        refine g_noA ?_
        refine g_noA ?_
        first | refine g_pkt ?_ | refine g_pkf ?_
        refine g_as ?_
        refine g_nil <| g_qb <| g_qb <| g_qt <| g_region ?_
        first | refine g_pure (p_addi rfl rfl (by omega)) rfl ?_ | refine g_pure (p_add rfl rfl) rfl ?_
        refine g_mv ?_
        refine g_nil <| g_qn ?_
        first | exact g_nextA (k + 1, false) ⟨hk1', hF (by assumption)⟩ hk2' | exact g_nextA (k + 1, decide (withinP x 1 x0.2.2.2.1)) ⟨hk1', t1 (by assumption) (by assumption)⟩ hk2' | exact g_nextA (k + 1, decide (withinP x 1 (x0.2.2.2.2.1.length : Int))) ⟨hk1', t2 (by assumption) (by assumption)⟩ hk2' | exact g_nextA (k + 1, decide (x ≤ 32767)) ⟨hk1', t3 (by assumption) (by assumption) (by assumption)⟩ hk2' | exact g_nextA (k + 1, false) ⟨hk1', t3' (by assumption) (by assumption)⟩ hk2' | exact g_nextA (k + 1, decide (x < (kr : Int))) ⟨hk1', t6 (by assumption) (by assumption) (by assumption)⟩ hk2' | exact g_nextA (k + 1, false) ⟨hk1', t6' (by assumption) (by assumption)⟩ hk2' | exact g_nextA (k + 1, decide (withinP x (yy.2.2.2.2.1.length : Int) (x0.2.2.2.2.1.length : Int))) ⟨hk1', t7 (by assumption) (by assumption)⟩ hk2' | exact g_nextA (k + 1, decide (withinP x (yy.2.1.length : Int) x0.2.2.2.1)) ⟨hk1', t8 (by assumption) (by assumption)⟩ hk2' | exact g_nextA (k + 1, decide (withinP x (yy.2.2.1.length : Int) x0.2.2.2.1)) ⟨hk1', t9 (by assumption) (by assumption)⟩ hk2' | exact g_nextA (k + 1, y) ⟨hk1', hE (by assumption) (by assumption) (by assumption) (by assumption) (by assumption) (by assumption) (by assumption)⟩ hk2'
      ·refine g_noA ?_
       refine g_noA ?_
       first | refine g_pkt ?_ | refine g_pkf ?_
       refine g_mv ?_
       refine g_noA ?_
       refine g_noA ?_
       refine g_noA ?_
       first | refine g_pkt ?_ | refine g_pkf ?_
       refine g_as ?_
       refine g_nil <| g_qb <| g_qb <| g_qt <| g_region ?_
       first | refine g_pure (p_addi rfl rfl (by omega)) rfl ?_ | refine g_pure (p_add rfl rfl) rfl ?_
       refine g_mv ?_
       refine g_nil <| g_qn ?_
       first | exact g_nextA (k + 1, false) ⟨hk1', hF (by assumption)⟩ hk2' | exact g_nextA (k + 1, decide (withinP x 1 x0.2.2.2.1)) ⟨hk1', t1 (by assumption) (by assumption)⟩ hk2' | exact g_nextA (k + 1, decide (withinP x 1 (x0.2.2.2.2.1.length : Int))) ⟨hk1', t2 (by assumption) (by assumption)⟩ hk2' | exact g_nextA (k + 1, decide (x ≤ 32767)) ⟨hk1', t3 (by assumption) (by assumption) (by assumption)⟩ hk2' | exact g_nextA (k + 1, false) ⟨hk1', t3' (by assumption) (by assumption)⟩ hk2' | exact g_nextA (k + 1, decide (x < (kr : Int))) ⟨hk1', t6 (by assumption) (by assumption) (by assumption)⟩ hk2' | exact g_nextA (k + 1, false) ⟨hk1', t6' (by assumption) (by assumption)⟩ hk2' | exact g_nextA (k + 1, decide (withinP x (yy.2.2.2.2.1.length : Int) (x0.2.2.2.2.1.length : Int))) ⟨hk1', t7 (by assumption) (by assumption)⟩ hk2' | exact g_nextA (k + 1, decide (withinP x (yy.2.1.length : Int) x0.2.2.2.1)) ⟨hk1', t8 (by assumption) (by assumption)⟩ hk2' | exact g_nextA (k + 1, decide (withinP x (yy.2.2.1.length : Int) x0.2.2.2.1)) ⟨hk1', t9 (by assumption) (by assumption)⟩ hk2' | exact g_nextA (k + 1, y) ⟨hk1', hE (by assumption) (by assumption) (by assumption) (by assumption) (by assumption) (by assumption) (by assumption)⟩ hk2'
     ·refine g_seq <| g_region ?_
      refine g_pure (p_eql rfl rfl) rfl ?_
      refine g_as ?_
      refine g_nil <| g_qt ?_
      refine g_ifdL rfl (fun h13 => ?_) (fun h13 => ?_)
      ·refine m_begin0 (.fl 0 0 (.fl 1 0 (.fl 2 0 (.fl 3 1 (.fl 4 0 (.fl 5 1 (.fl 9 0 (.fl 10 1 (.fl 11 0 (.ef 6 (.fl 7 0 (.fl 8 0 (.ef 12 (.fl 13 0 (.fl 14 0 .done))))))))))))))) (by kernel_rfl) (by kernel_rfl) ?_
       refine m_float0 rfl (fun _ _ => p_move rfl) rfl ?_
       refine m_float0 rfl (fun _ _ => p_move rfl) rfl ?_
       refine m_split 1 rfl rfl (fun h14 => ?_) (fun h14 => ?_)
       ·refine m_yes0 rfl rfl rfl (fun _ _ => p_move rfl) rfl ?_
        first | refine m_yes rfl rfl rfl (p_loadO (by rfl) rfl (by first | (apply Has.own; (repeat' (first | exact Take.here | apply Take.there)); done) | exact Has.ro (by assumption)) (by rfl)) rfl ?_ | refine m_yes rfl rfl rfl (p_loadN (by rfl) rfl (by first | (apply Has.own; (repeat' (first | exact Take.here | apply Take.there)); done) | exact Has.ro (by assumption)) (by first | rfl | assumption)) rfl ?_
        refine m_yes0 rfl rfl rfl (fun _ _ => p_fieldAddr rfl) rfl ?_
        refine m_yes rfl rfl rfl (p_loadA) rfl ?_
        refine m_yes0 rfl rfl rfl (fun _ _ => p_fieldAddr rfl) rfl ?_
        refine m_yes rfl rfl rfl (p_loadA) rfl ?_
        refine m_yes0 rfl rfl rfl (fun _ _ => p_len (by rfl) rfl) rfl ?_
        refine m_call (Hin := []) (Hr := ?hr5) (R := ?rr5) rfl (wantedY rfl rfl) rfl rfl rfl ?hin5 ?hc5 ?hk5
        case hin5 => repeat' (first | exact Cover.nil | exact Take.here | apply Cover.cons | apply Take.there)
        case hc5 => intro ρ' hρ hR; exact called_at (ec := ec) (rc := rc) (h.mono hρ) i.2.1 hyy
        rintro _ _ ⟨ja, jc, pa, pc, qa, qc, sa, sc, rfl, rfl⟩
        refine ⟨.some (by repeat' (first | exact Cover.nil | exact Take.here | apply Cover.cons | apply Take.there)), ?_⟩
        refine m_yes0 rfl rfl rfl (fun _ _ => p_fieldV Tryz.underlying45 rfl ty22 rfl rfl rfl) rfl ?_
        refine m_yes0 rfl rfl rfl (fun _ _ => p_len (by rfl) rfl) rfl ?_
        refine m_call (Hin := []) (Hr := ?hr6) (R := ?rr6) rfl (wantedY rfl rfl) rfl rfl rfl ?hin6 ?hc6 ?hk6
        case hin6 => repeat' (first | exact Cover.nil | exact Take.here | apply Cover.cons | apply Take.there)
        case hc6 => intro ρ' hρ hR; exact within_ok x (yy.2.2.2.2.1.length : Int) (x0.2.2.2.2.1.length : Int) (by unfold I64; omega)
        rintro _ _ ⟨rfl, rfl⟩
        refine ⟨.none (by kernel_rfl), ?_⟩
        first | refine m_float0 rfl (fun _ _ => p_pickt rfl rfl) rfl ?_ | refine m_float0 rfl (fun _ _ => p_pickf rfl rfl) rfl ?_
        refine m_float0 rfl (fun _ _ => p_assign rfl) rfl ?_
        refine m_nil ?_
        refine g_qb <| g_qb <| g_qt <| g_region ?_
        first | refine g_pure (p_addi rfl rfl (by omega)) rfl ?_ | refine g_pure (p_add rfl rfl) rfl ?_
        refine g_mv ?_
        refine g_nil <| g_qn ?_
        first | exact g_nextA (k + 1, false) ⟨hk1', hF (by assumption)⟩ hk2' | exact g_nextA (k + 1, decide (withinP x 1 x0.2.2.2.1)) ⟨hk1', t1 (by assumption) (by assumption)⟩ hk2' | exact g_nextA (k + 1, decide (withinP x 1 (x0.2.2.2.2.1.length : Int))) ⟨hk1', t2 (by assumption) (by assumption)⟩ hk2' | exact g_nextA (k + 1, decide (x ≤ 32767)) ⟨hk1', t3 (by assumption) (by assumption) (by assumption)⟩ hk2' | exact g_nextA (k + 1, false) ⟨hk1', t3' (by assumption) (by assumption)⟩ hk2' | exact g_nextA (k + 1, decide (x < (kr : Int))) ⟨hk1', t6 (by assumption) (by assumption) (by assumption)⟩ hk2' | exact g_nextA (k + 1, false) ⟨hk1', t6' (by assumption) (by assumption)⟩ hk2' | exact g_nextA (k + 1, decide (withinP x (yy.2.2.2.2.1.length : Int) (x0.2.2.2.2.1.length : Int))) ⟨hk1', t7 (by assumption) (by assumption)⟩ hk2' | exact g_nextA (k + 1, decide (withinP x (yy.2.1.length : Int) x0.2.2.2.1)) ⟨hk1', t8 (by assumption) (by assumption)⟩ hk2' | exact g_nextA (k + 1, decide (withinP x (yy.2.2.1.length : Int) x0.2.2.2.1)) ⟨hk1', t9 (by assumption) (by assumption)⟩ hk2' | exact g_nextA (k + 1, y) ⟨hk1', hE (by assumption) (by assumption) (by assumption) (by assumption) (by assumption) (by assumption) (by assumption)⟩ hk2'
       ·refine m_no0 rfl rfl rfl rfl rfl ?_
        refine m_no rfl rfl rfl rfl rfl ?_
        refine m_no0 rfl rfl rfl rfl rfl ?_
        refine m_no rfl rfl rfl rfl rfl ?_
        refine m_no0 rfl rfl rfl rfl rfl ?_
        refine m_no rfl rfl rfl rfl rfl ?_
        refine m_no0 rfl rfl rfl rfl rfl ?_
        refine m_noe rfl rfl rfl rfl rfl (.some (by repeat' (first | exact Cover.nil | exact Take.here | apply Cover.cons | apply Take.there))) ?_
        refine m_no0 rfl rfl rfl rfl rfl ?_
        refine m_no0 rfl rfl rfl rfl rfl ?_
        refine m_noe rfl rfl rfl rfl rfl (.none (by kernel_rfl)) ?_
        first | refine m_float0 rfl (fun _ _ => p_pickt rfl rfl) rfl ?_ | refine m_float0 rfl (fun _ _ => p_pickf rfl rfl) rfl ?_
        refine m_float0 rfl (fun _ _ => p_assign rfl) rfl ?_
        refine m_nil ?_
        refine g_qb <| g_qb <| g_qt <| g_region ?_
        first | refine g_pure (p_addi rfl rfl (by omega)) rfl ?_ | refine g_pure (p_add rfl rfl) rfl ?_
        refine g_mv ?_
        refine g_nil <| g_qn ?_
        first | exact g_nextA (k + 1, false) ⟨hk1', hF (by assumption)⟩ hk2' | exact g_nextA (k + 1, decide (withinP x 1 x0.2.2.2.1)) ⟨hk1', t1 (by assumption) (by assumption)⟩ hk2' | exact g_nextA (k + 1, decide (withinP x 1 (x0.2.2.2.2.1.length : Int))) ⟨hk1', t2 (by assumption) (by assumption)⟩ hk2' | exact g_nextA (k + 1, decide (x ≤ 32767)) ⟨hk1', t3 (by assumption) (by assumption) (by assumption)⟩ hk2' | exact g_nextA (k + 1, false) ⟨hk1', t3' (by assumption) (by assumption)⟩ hk2' | exact g_nextA (k + 1, decide (x < (kr : Int))) ⟨hk1', t6 (by assumption) (by assumption) (by assumption)⟩ hk2' | exact g_nextA (k + 1, false) ⟨hk1', t6' (by assumption) (by assumption)⟩ hk2' | exact g_nextA (k + 1, decide (withinP x (yy.2.2.2.2.1.length : Int) (x0.2.2.2.2.1.length : Int))) ⟨hk1', t7 (by assumption) (by assumption)⟩ hk2' | exact g_nextA (k + 1, decide (withinP x (yy.2.1.length : Int) x0.2.2.2.1)) ⟨hk1', t8 (by assumption) (by assumption)⟩ hk2' | exact g_nextA (k + 1, decide (withinP x (yy.2.2.1.length : Int) x0.2.2.2.1)) ⟨hk1', t9 (by assumption) (by assumption)⟩ hk2' | exact g_nextA (k + 1, y) ⟨hk1', hE (by assumption) (by assumption) (by assumption) (by assumption) (by assumption) (by assumption) (by assumption)⟩ hk2'
      ·refine g_seq <| g_region ?_
       refine g_pure (p_eql rfl rfl) rfl ?_
       refine g_as ?_
       refine g_nil <| g_qt ?_
       refine g_ifdL rfl (fun h15 => ?_) (fun h15 => ?_)
       ·refine m_begin0 (.fl 0 0 (.fl 1 0 (.fl 2 0 (.fl 3 1 (.fl 4 0 (.fl 5 1 (.fl 9 0 (.fl 10 1 (.ef 6 (.fl 7 0 (.fl 8 0 (.ef 11 (.fl 12 0 (.fl 13 0 .done)))))))))))))) (by kernel_rfl) (by kernel_rfl) ?_
        refine m_float0 rfl (fun _ _ => p_move rfl) rfl ?_
        refine m_float0 rfl (fun _ _ => p_move rfl) rfl ?_
        refine m_split 1 rfl rfl (fun h16 => ?_) (fun h16 => ?_)
        ·refine m_yes0 rfl rfl rfl (fun _ _ => p_move rfl) rfl ?_
         first | refine m_yes rfl rfl rfl (p_loadO (by rfl) rfl (by first | (apply Has.own; (repeat' (first | exact Take.here | apply Take.there)); done) | exact Has.ro (by assumption)) (by rfl)) rfl ?_ | refine m_yes rfl rfl rfl (p_loadN (by rfl) rfl (by first | (apply Has.own; (repeat' (first | exact Take.here | apply Take.there)); done) | exact Has.ro (by assumption)) (by first | rfl | assumption)) rfl ?_
         refine m_yes0 rfl rfl rfl (fun _ _ => p_fieldAddr rfl) rfl ?_
         refine m_yes rfl rfl rfl (p_loadA) rfl ?_
         refine m_yes0 rfl rfl rfl (fun _ _ => p_fieldAddr rfl) rfl ?_
         refine m_yes rfl rfl rfl (p_loadA) rfl ?_
         refine m_call (Hin := []) (Hr := ?hr7) (R := ?rr7) rfl (wantedY rfl rfl) rfl rfl rfl ?hin7 ?hc7 ?hk7
         case hin7 => repeat' (first | exact Cover.nil | exact Take.here | apply Cover.cons | apply Take.there)
         case hc7 => intro ρ' hρ hR; exact called_at (ec := ec) (rc := rc) (h.mono hρ) i.2.1 hyy
         rintro _ _ ⟨ja, jc, pa, pc, qa, qc, sa, sc, rfl, rfl⟩
         refine ⟨.some (by repeat' (first | exact Cover.nil | exact Take.here | apply Cover.cons | apply Take.there)), ?_⟩
         refine m_yes0 rfl rfl rfl (fun _ _ => p_fieldV Tryz.underlying45 rfl ty22 rfl rfl rfl) rfl ?_
         refine m_yes0 rfl rfl rfl (fun _ _ => p_len (by rfl) rfl) rfl ?_
         refine m_call (Hin := []) (Hr := ?hr8) (R := ?rr8) rfl (wantedY rfl rfl) rfl rfl rfl ?hin8 ?hc8 ?hk8
         case hin8 => repeat' (first | exact Cover.nil | exact Take.here | apply Cover.cons | apply Take.there)
         case hc8 => intro ρ' hρ hR; exact within_ok x (yy.2.1.length : Int) x0.2.2.2.1 hr64
         rintro _ _ ⟨rfl, rfl⟩
         refine ⟨.none (by kernel_rfl), ?_⟩
         first | refine m_float0 rfl (fun _ _ => p_pickt rfl rfl) rfl ?_ | refine m_float0 rfl (fun _ _ => p_pickf rfl rfl) rfl ?_
         refine m_float0 rfl (fun _ _ => p_assign rfl) rfl ?_
         refine m_nil ?_
         refine g_qb <| g_qb <| g_qt <| g_region ?_
         first | refine g_pure (p_addi rfl rfl (by omega)) rfl ?_ | refine g_pure (p_add rfl rfl) rfl ?_
         refine g_mv ?_
         refine g_nil <| g_qn ?_
         first | exact g_nextA (k + 1, false) ⟨hk1', hF (by assumption)⟩ hk2' | exact g_nextA (k + 1, decide (withinP x 1 x0.2.2.2.1)) ⟨hk1', t1 (by assumption) (by assumption)⟩ hk2' | exact g_nextA (k + 1, decide (withinP x 1 (x0.2.2.2.2.1.length : Int))) ⟨hk1', t2 (by assumption) (by assumption)⟩ hk2' | exact g_nextA (k + 1, decide (x ≤ 32767)) ⟨hk1', t3 (by assumption) (by assumption) (by assumption)⟩ hk2' | exact g_nextA (k + 1, false) ⟨hk1', t3' (by assumption) (by assumption)⟩ hk2' | exact g_nextA (k + 1, decide (x < (kr : Int))) ⟨hk1', t6 (by assumption) (by assumption) (by assumption)⟩ hk2' | exact g_nextA (k + 1, false) ⟨hk1', t6' (by assumption) (by assumption)⟩ hk2' | exact g_nextA (k + 1, decide (withinP x (yy.2.2.2.2.1.length : Int) (x0.2.2.2.2.1.length : Int))) ⟨hk1', t7 (by assumption) (by assumption)⟩ hk2' | exact g_nextA (k + 1, decide (withinP x (yy.2.1.length : Int) x0.2.2.2.1)) ⟨hk1', t8 (by assumption) (by assumption)⟩ hk2' | exact g_nextA (k + 1, decide (withinP x (yy.2.2.1.length : Int) x0.2.2.2.1)) ⟨hk1', t9 (by assumption) (by assumption)⟩ hk2' | exact g_nextA (k + 1, y) ⟨hk1', hE (by assumption) (by assumption) (by assumption) (by assumption) (by assumption) (by assumption) (by assumption)⟩ hk2'
        ·refine m_no0 rfl rfl rfl rfl rfl ?_
         refine m_no rfl rfl rfl rfl rfl ?_
         refine m_no0 rfl rfl rfl rfl rfl ?_
         refine m_no rfl rfl rfl rfl rfl ?_
         refine m_no0 rfl rfl rfl rfl rfl ?_
         refine m_no rfl rfl rfl rfl rfl ?_
         refine m_noe rfl rfl rfl rfl rfl (.some (by repeat' (first | exact Cover.nil | exact Take.here | apply Cover.cons | apply Take.there))) ?_
         refine m_no0 rfl rfl rfl rfl rfl ?_
         refine m_no0 rfl rfl rfl rfl rfl ?_
         refine m_noe rfl rfl rfl rfl rfl (.none (by kernel_rfl)) ?_
         first | refine m_float0 rfl (fun _ _ => p_pickt rfl rfl) rfl ?_ | refine m_float0 rfl (fun _ _ => p_pickf rfl rfl) rfl ?_
         refine m_float0 rfl (fun _ _ => p_assign rfl) rfl ?_
         refine m_nil ?_
         refine g_qb <| g_qb <| g_qt <| g_region ?_
         first | refine g_pure (p_addi rfl rfl (by omega)) rfl ?_ | refine g_pure (p_add rfl rfl) rfl ?_
         refine g_mv ?_
         refine g_nil <| g_qn ?_
         first | exact g_nextA (k + 1, false) ⟨hk1', hF (by assumption)⟩ hk2' | exact g_nextA (k + 1, decide (withinP x 1 x0.2.2.2.1)) ⟨hk1', t1 (by assumption) (by assumption)⟩ hk2' | exact g_nextA (k + 1, decide (withinP x 1 (x0.2.2.2.2.1.length : Int))) ⟨hk1', t2 (by assumption) (by assumption)⟩ hk2' | exact g_nextA (k + 1, decide (x ≤ 32767)) ⟨hk1', t3 (by assumption) (by assumption) (by assumption)⟩ hk2' | exact g_nextA (k + 1, false) ⟨hk1', t3' (by assumption) (by assumption)⟩ hk2' | exact g_nextA (k + 1, decide (x < (kr : Int))) ⟨hk1', t6 (by assumption) (by assumption) (by assumption)⟩ hk2' | exact g_nextA (k + 1, false) ⟨hk1', t6' (by assumption) (by assumption)⟩ hk2' | exact g_nextA (k + 1, decide (withinP x (yy.2.2.2.2.1.length : Int) (x0.2.2.2.2.1.length : Int))) ⟨hk1', t7 (by assumption) (by assumption)⟩ hk2' | exact g_nextA (k + 1, decide (withinP x (yy.2.1.length : Int) x0.2.2.2.1)) ⟨hk1', t8 (by assumption) (by assumption)⟩ hk2' | exact g_nextA (k + 1, decide (withinP x (yy.2.2.1.length : Int) x0.2.2.2.1)) ⟨hk1', t9 (by assumption) (by assumption)⟩ hk2' | exact g_nextA (k + 1, y) ⟨hk1', hE (by assumption) (by assumption) (by assumption) (by assumption) (by assumption) (by assumption) (by assumption)⟩ hk2'
       ·refine g_seq <| g_region ?_
        refine g_pure (p_eql rfl rfl) rfl ?_
        refine g_as ?_
        refine g_nil <| g_qt ?_
        refine g_ifdL rfl (fun h17 => ?_) (fun h17 => ?_)
        ·refine m_begin0 (.fl 0 0 (.fl 1 0 (.fl 2 0 (.fl 3 1 (.fl 4 0 (.fl 5 1 (.fl 9 0 (.fl 10 1 (.ef 6 (.fl 7 0 (.fl 8 0 (.ef 11 (.fl 12 0 (.fl 13 0 .done)))))))))))))) (by kernel_rfl) (by kernel_rfl) ?_
         refine m_float0 rfl (fun _ _ => p_move rfl) rfl ?_
         refine m_float0 rfl (fun _ _ => p_move rfl) rfl ?_
         refine m_split 1 rfl rfl (fun h18 => ?_) (fun h18 => ?_)
         ·refine m_yes0 rfl rfl rfl (fun _ _ => p_move rfl) rfl ?_
          first | refine m_yes rfl rfl rfl (p_loadO (by rfl) rfl (by first | (apply Has.own; (repeat' (first | exact Take.here | apply Take.there)); done) | exact Has.ro (by assumption)) (by rfl)) rfl ?_ | refine m_yes rfl rfl rfl (p_loadN (by rfl) rfl (by first | (apply Has.own; (repeat' (first | exact Take.here | apply Take.there)); done) | exact Has.ro (by assumption)) (by first | rfl | assumption)) rfl ?_
          refine m_yes0 rfl rfl rfl (fun _ _ => p_fieldAddr rfl) rfl ?_
          refine m_yes rfl rfl rfl (p_loadA) rfl ?_
          refine m_yes0 rfl rfl rfl (fun _ _ => p_fieldAddr rfl) rfl ?_
          refine m_yes rfl rfl rfl (p_loadA) rfl ?_
          refine m_call (Hin := []) (Hr := ?hr9) (R := ?rr9) rfl (wantedY rfl rfl) rfl rfl rfl ?hin9 ?hc9 ?hk9
          case hin9 => repeat' (first | exact Cover.nil | exact Take.here | apply Cover.cons | apply Take.there)
          case hc9 => intro ρ' hρ hR; exact called_at (ec := ec) (rc := rc) (h.mono hρ) i.2.1 hyy
          rintro _ _ ⟨ja, jc, pa, pc, qa, qc, sa, sc, rfl, rfl⟩
          refine ⟨.some (by repeat' (first | exact Cover.nil | exact Take.here | apply Cover.cons | apply Take.there)), ?_⟩
          refine m_yes0 rfl rfl rfl (fun _ _ => p_fieldV Tryz.underlying45 rfl ty22 rfl rfl rfl) rfl ?_
          refine m_yes0 rfl rfl rfl (fun _ _ => p_len (by rfl) rfl) rfl ?_
          refine m_call (Hin := []) (Hr := ?hr10) (R := ?rr10) rfl (wantedY rfl rfl) rfl rfl rfl ?hin10 ?hc10 ?hk10
          case hin10 => repeat' (first | exact Cover.nil | exact Take.here | apply Cover.cons | apply Take.there)
          case hc10 => intro ρ' hρ hR; exact within_ok x (yy.2.2.1.length : Int) x0.2.2.2.1 hr64
          rintro _ _ ⟨rfl, rfl⟩
          refine ⟨.none (by kernel_rfl), ?_⟩
          first | refine m_float0 rfl (fun _ _ => p_pickt rfl rfl) rfl ?_ | refine m_float0 rfl (fun _ _ => p_pickf rfl rfl) rfl ?_
          refine m_float0 rfl (fun _ _ => p_assign rfl) rfl ?_
          refine m_nil ?_
          refine g_qb <| g_qb <| g_qt <| g_region ?_
          first | refine g_pure (p_addi rfl rfl (by omega)) rfl ?_ | refine g_pure (p_add rfl rfl) rfl ?_
          refine g_mv ?_
          refine g_nil <| g_qn ?_
          first | exact g_nextA (k + 1, false) ⟨hk1', hF (by assumption)⟩ hk2' | exact g_nextA (k + 1, decide (withinP x 1 x0.2.2.2.1)) ⟨hk1', t1 (by assumption) (by assumption)⟩ hk2' | exact g_nextA (k + 1, decide (withinP x 1 (x0.2.2.2.2.1.length : Int))) ⟨hk1', t2 (by assumption) (by assumption)⟩ hk2' | exact g_nextA (k + 1, decide (x ≤ 32767)) ⟨hk1', t3 (by assumption) (by assumption) (by assumption)⟩ hk2' | exact g_nextA (k + 1, false) ⟨hk1', t3' (by assumption) (by assumption)⟩ hk2' | exact g_nextA (k + 1, decide (x < (kr : Int))) ⟨hk1', t6 (by assumption) (by assumption) (by assumption)⟩ hk2' | exact g_nextA (k + 1, false) ⟨hk1', t6' (by assumption) (by assumption)⟩ hk2' | exact g_nextA (k + 1, decide (withinP x (yy.2.2.2.2.1.length : Int) (x0.2.2.2.2.1.length : Int))) ⟨hk1', t7 (by assumption) (by assumption)⟩ hk2' | exact g_nextA (k + 1, decide (withinP x (yy.2.1.length : Int) x0.2.2.2.1)) ⟨hk1', t8 (by assumption) (by assumption)⟩ hk2' | exact g_nextA (k + 1, decide (withinP x (yy.2.2.1.length : Int) x0.2.2.2.1)) ⟨hk1', t9 (by assumption) (by assumption)⟩ hk2' | exact g_nextA (k + 1, y) ⟨hk1', hE (by assumption) (by assumption) (by assumption) (by assumption) (by assumption) (by assumption) (by assumption)⟩ hk2'
         ·refine m_no0 rfl rfl rfl rfl rfl ?_
          refine m_no rfl rfl rfl rfl rfl ?_
          refine m_no0 rfl rfl rfl rfl rfl ?_
          refine m_no rfl rfl rfl rfl rfl ?_
          refine m_no0 rfl rfl rfl rfl rfl ?_
          refine m_no rfl rfl rfl rfl rfl ?_
          refine m_noe rfl rfl rfl rfl rfl (.some (by repeat' (first | exact Cover.nil | exact Take.here | apply Cover.cons | apply Take.there))) ?_
          refine m_no0 rfl rfl rfl rfl rfl ?_
          refine m_no0 rfl rfl rfl rfl rfl ?_
          refine m_noe rfl rfl rfl rfl rfl (.none (by kernel_rfl)) ?_
          first | refine m_float0 rfl (fun _ _ => p_pickt rfl rfl) rfl ?_ | refine m_float0 rfl (fun _ _ => p_pickf rfl rfl) rfl ?_
          refine m_float0 rfl (fun _ _ => p_assign rfl) rfl ?_
          refine m_nil ?_
          refine g_qb <| g_qb <| g_qt <| g_region ?_
          first | refine g_pure (p_addi rfl rfl (by omega)) rfl ?_ | refine g_pure (p_add rfl rfl) rfl ?_
          refine g_mv ?_
          refine g_nil <| g_qn ?_
          first | exact g_nextA (k + 1, false) ⟨hk1', hF (by assumption)⟩ hk2' | exact g_nextA (k + 1, decide (withinP x 1 x0.2.2.2.1)) ⟨hk1', t1 (by assumption) (by assumption)⟩ hk2' | exact g_nextA (k + 1, decide (withinP x 1 (x0.2.2.2.2.1.length : Int))) ⟨hk1', t2 (by assumption) (by assumption)⟩ hk2' | exact g_nextA (k + 1, decide (x ≤ 32767)) ⟨hk1', t3 (by assumption) (by assumption) (by assumption)⟩ hk2' | exact g_nextA (k + 1, false) ⟨hk1', t3' (by assumption) (by assumption)⟩ hk2' | exact g_nextA (k + 1, decide (x < (kr : Int))) ⟨hk1', t6 (by assumption) (by assumption) (by assumption)⟩ hk2' | exact g_nextA (k + 1, false) ⟨hk1', t6' (by assumption) (by assumption)⟩ hk2' | exact g_nextA (k + 1, decide (withinP x (yy.2.2.2.2.1.length : Int) (x0.2.2.2.2.1.length : Int))) ⟨hk1', t7 (by assumption) (by assumption)⟩ hk2' | exact g_nextA (k + 1, decide (withinP x (yy.2.1.length : Int) x0.2.2.2.1)) ⟨hk1', t8 (by assumption) (by assumption)⟩ hk2' | exact g_nextA (k + 1, decide (withinP x (yy.2.2.1.length : Int) x0.2.2.2.1)) ⟨hk1', t9 (by assumption) (by assumption)⟩ hk2' | exact g_nextA (k + 1, y) ⟨hk1', hE (by assumption) (by assumption) (by assumption) (by assumption) (by assumption) (by assumption) (by assumption)⟩ hk2'
        ·refine g_skip <| g_qb <| g_qb <| g_qt <| g_region ?_
         first | refine g_pure (p_addi rfl rfl (by omega)) rfl ?_ | refine g_pure (p_add rfl rfl) rfl ?_
         refine g_mv ?_
         refine g_nil <| g_qn ?_
         first | exact g_nextA (k + 1, false) ⟨hk1', hF (by assumption)⟩ hk2' | exact g_nextA (k + 1, decide (withinP x 1 x0.2.2.2.1)) ⟨hk1', t1 (by assumption) (by assumption)⟩ hk2' | exact g_nextA (k + 1, decide (withinP x 1 (x0.2.2.2.2.1.length : Int))) ⟨hk1', t2 (by assumption) (by assumption)⟩ hk2' | exact g_nextA (k + 1, decide (x ≤ 32767)) ⟨hk1', t3 (by assumption) (by assumption) (by assumption)⟩ hk2' | exact g_nextA (k + 1, false) ⟨hk1', t3' (by assumption) (by assumption)⟩ hk2' | exact g_nextA (k + 1, decide (x < (kr : Int))) ⟨hk1', t6 (by assumption) (by assumption) (by assumption)⟩ hk2' | exact g_nextA (k + 1, false) ⟨hk1', t6' (by assumption) (by assumption)⟩ hk2' | exact g_nextA (k + 1, decide (withinP x (yy.2.2.2.2.1.length : Int) (x0.2.2.2.2.1.length : Int))) ⟨hk1', t7 (by assumption) (by assumption)⟩ hk2' | exact g_nextA (k + 1, decide (withinP x (yy.2.1.length : Int) x0.2.2.2.1)) ⟨hk1', t8 (by assumption) (by assumption)⟩ hk2' | exact g_nextA (k + 1, decide (withinP x (yy.2.2.1.length : Int) x0.2.2.2.1)) ⟨hk1', t9 (by assumption) (by assumption)⟩ hk2' | exact g_nextA (k + 1, y) ⟨hk1', hE (by assumption) (by assumption) (by assumption) (by assumption) (by assumption) (by assumption) (by assumption)⟩ hk2'
 ·have hke : k = 4 := by omega
  subst hke
  rw [List.take_of_length_le (by omega)] at hy
  rw [hy]
  refine g_exit <| g_qt_exit <| g_qn_exit <| g_qb_exit <| g_qt <| g_seq <| g_region ?_
  refine g_mv ?_
  refine g_as ?_
  refine g_nil <| g_qt <| g_ret ?_
  exact g_postA (Ho := []) (rs := [.tmp 6]) rfl (.tmp rfl .nil) ⟨rfl, rfl⟩
end Go.Proofs.YtcnfcoojmbjdlaaGreatDoor
/- Chapter 26: titles; functions over lists of numbers. Conditions: none. -/
namespace Go.Z
set_option maxRecDepth 8000
set_option linter.unusedVariables false
set_option linter.unusedSimpArgs false
set_option linter.unusedSectionVars false
open Go
section
variable {P : Program} {n : Nat} {L : Fr} {H H' : List Assn} {M : Mx}
variable {dd : Option Tmp} {ty t : TypeId} {ps : String} {af : Array Edge} {gd : Option (Nat × Bool)} {x y : Operand}
theorem p_cap {len cap : Nat} {e : TypeId} {ad : Option Addr} {yt : Ty} [ht : TyC P t yt] (hd : yt.d = .slice e) (h1 : ev L x = some (.slice ad len cap)) :
  Pur P M n L H ⟨dd, .call ⟨.builtin .cap, #[x], #[t]⟩, ty, ps, af, gd⟩ (.int .i64 cap) := fun a w ha _ => by
 simp [execOp, resolve, invoke, builtin, Builtin.cap_, ha.ev h1, ht.run_u, hd, goInt]
theorem run_append_made {w : World} (t tx ty e : TypeId) (i : TypeInfo) (z : Value) (ht : P.underlying t = some (.slice e)) (hx : P.underlying tx = some (.int .i64)) (hi : P.info? e = some i) (hz : i.zero = some z) (hs : i.size ≠ 0)
  (m : Nat) (h0 : 0 < m) (h63 : (m : Int) ≤ 9223372036854775807) (h48 : m * i.bytes ≤ 281474976710656) :
  (Builtin.append_ #[t, tx] ty #[.slice none 0 0, .int .i64 m]).run P w =
   .ok (.slice (some ⟨w.heap.size, 0, none⟩) m (grownCap w m 0 e)) (w.drew.alloc (.cells (Builtin.zeroCells z.cells m ++ Builtin.zeroCells z.cells (grownCap w m 0 e - m)) e)) := by
 have hm : m ≠ 0 := by omega
 have h63' : ¬ (9223372036854775807 < (m : Int)) := by omega
 have h48' : ¬ (281474976710656 < Builtin.nextslicecap m 0 * i.bytes) := by rw [nextslicecap_zero h0]; omega
 have hw : IntKind.i64.wrap (m : Int) = m := i64_in (by omega) (by omega)
 have hb : ¬ (281474976710656 < (m : Int) * (i.bytes : Int)) := by rw [← Int.natCast_mul]; omega
 have hneg : ¬ ((m : Int) < 0) := by omega
 have hms : m * i.size ≠ 0 := Nat.mul_ne_zero hm hs
 simp [hms, Builtin.append_, run_underlying ht, run_underlying hx, sizeOf, typeInfo, zeroValue, hi, hz, hm, hw, hb, hneg, h63', h48', Question.forced, run_firstCells_none, newRow, grownCap, asInt, asIntOf, hs]
theorem e_made {e : TypeId} {ye : Ty} {tx : TypeId} {yx : Ty} {m : Nat} [hsl : SlC P t e ye] [hx : TyC P tx yx] (hxd : yx.d = .int .i64) (hz : ye.zero.cells.size = ye.size) (hs0 : Nat.blt 0 ye.size = true)
  (h1 : ev L x = some (.slice none 0 0)) (h2 : ev L y = some (.int .i64 m)) (h0 : 0 < m) (hb : m * ye.bytes ≤ 140737488355328) (h63 : m ≤ 9223372036854775807) :
  Eff P M n L H ⟨dd, .call ⟨.builtin .append, #[x, y], #[t, tx]⟩, ty, ps, af, gd⟩ (fun v H2 => ∃ a2 c2 zs, v = .slice a2 m c2 ∧ H2 = OwnSl e ye.size a2 m c2 zs :: H) :=
 Eff.of_run fun a w ha hm => by
  obtain ⟨yt, ht, hd⟩ := hsl.t
  have he := hsl.e
  have hs0' : 0 < ye.size := by simpa using hs0
  obtain ⟨i, hri, hib, his, hi, hiz⟩ := he.run_info
  have ht' : P.underlying t = some (.slice e) := by rw [ht.u, hd]
  have hx' : P.underlying tx = some (.int .i64) := by rw [hx.u, hxd]
  have hr := run_append_made (P := P) (w := w) t tx ty e i ye.zero ht' hx' hi hiz (by omega) m h0 (by omega) (by rw [hib]; omega)
  have hexec : ∀ (r : Result Value), (Builtin.append_ #[t, tx] ty #[.slice none 0 0, .int .i64 m]).run P w = r →
    (execOp a.eval ⟨dd, .call ⟨.builtin .append, #[x, y], #[t, tx]⟩, ty, ps, af, gd⟩).run P w = r.andThen fun v w => .ok (.value v) w := fun r hr => by
   simp [execOp, resolve, invoke, builtin, ha.ev h1, ha.ev h2, hr]
  refine ⟨_, _, _, hexec _ hr, ⟨_, _, (Builtin.zeroCells ye.zero.cells m).toList, rfl, rfl⟩, ?_⟩
  have := (hm.drawn (w.drawn + 1)).alloc (.cells ((Builtin.zeroCells ye.zero.cells m).toList ++ (Builtin.zeroCells ye.zero.cells (grownCap w m 0 e - m)).toList).toArray e (0, 0))
  have hge := grownCap_ge w m 0 e
  have hcm : grownCap w m 0 e ≤ maxLen := grownCap_le_maxLen w m 0 e (by simp only [maxLen]; omega)
  have hw := this.weaken (B := OwnSl e ye.size (some ⟨w.heap.size, 0, none⟩) m (grownCap w m 0 e) (Builtin.zeroCells ye.zero.cells m).toList) (fun kk hk => by
   have e1 : kk = one w.heap.size _ := hk
   have hl1 : (Builtin.zeroCells ye.zero.cells m).toList.length = m * ye.size := by rw [Array.length_toList, size_zeroCells, hz]
   rw [e1]
   refine ⟨hl1, .inr ⟨_, _, rfl, hge, hcm, ?_, ?_, rfl⟩⟩
   ·rw [List.length_append, hl1, Array.length_toList, size_zeroCells, hz, ← Nat.add_mul]; congr 1; omega
   ·rw [← hl1]; exact List.take_left)
  have e9 : ((Builtin.zeroCells ye.zero.cells m).toList ++ (Builtin.zeroCells ye.zero.cells (grownCap w m 0 e - m)).toList).toArray = Builtin.zeroCells ye.zero.cells m ++ Builtin.zeroCells ye.zero.cells (grownCap w m 0 e - m) := by
   apply Array.ext'; simp
  rw [e9] at hw
  exact hw
end
end Go.Z
namespace Go.Z
set_option maxRecDepth 8000
set_option linter.unusedVariables false
set_option linter.unusedSimpArgs false
set_option linter.unusedSectionVars false
open Go
theorem g_cap {M : Mx} {n : Nat} {L : Fr} {H H' : List Assn} {T : Act → World → Prop} {e : TypeId} {size : Nat} {a1 : Option Addr} {k cap : Nat} {xs : List Value} (tk : Take H (OwnSl e size a1 k cap xs) H') (h : k ≤ cap → cap ≤ 9223372036854775807 → G M n L H T) : G M n L H T := by
 intro a w ha hm
 obtain ⟨e1, e2⟩ := OwnSl.cases tk hm
 rcases e2 with ⟨r1, r2, r3, hm'⟩ | ⟨g, cur, r1, r2, r3, r4, r5, hm'⟩
 ·exact h (by omega) (by omega) a w ha hm
 ·exact h r2 r3 a w ha hm
end Go.Z
namespace Go.Z
set_option maxRecDepth 8000
set_option linter.unusedVariables false
set_option linter.unusedSimpArgs false
set_option linter.unusedSectionVars false
open Go Go.RowKit
section
variable {P : Program} {M : Mx} {n : Nat} {L : Fr} {H : List Assn} {x y : Operand} {t ty tz : TypeId} {ps : String} {af : Array Edge} {gd : Option (Nat × Bool)} {dd : Option Tmp} {yt : Ty}
theorem p_neqsT {i j : ByteArray} [ht : TyC P t yt] (hd : yt.d = .string) (h1 : ev L x = some (.string i)) (h2 : ev L y = some (.string j)) (h : i ≠ j) : Pur P M n L H ⟨dd, .binOp .neq t x y tz, ty, ps, af, gd⟩ (.bool true) := by
 have := p_neqs (P := P) (M := M) (n := n) (H := H) (dd := dd) (t := t) (tz := tz) (ty := ty) (ps := ps) (af := af) (gd := gd) hd h1 h2
 rwa [decide_eq_false h] at this
theorem Ms.below {ρ : Nat → Obj → Prop} {W w' : World} {h : Nat → Option Obj} {H : List Assn} (m : Ms ⟨ρ, W, h⟩ H w') (hn : ∀ b, h b = none) : Below W.heap.size W w' :=
 ⟨m.os, m.tape, m.output, m.size, fun k hk => m.keep k hk (hn k)⟩
end
end Go.Z
namespace Go.Z.Asm
set_option maxRecDepth 8000
set_option linter.unusedVariables false
set_option linter.unusedSimpArgs false
set_option linter.unusedSectionVars false
open Go Go.Z Go.Lib Go.RowKit
theorem mapI (c : List Int) {k : Nat} (hk : k < c.length) : (c.map encI)[k]? = some (encI c[k]) := by simp [List.getElem?_eq_getElem hk]
theorem take_all {α : Type} {p : α → Prop} {l : List α} {k : Nat} (hk : k < l.length) (h : ∀ x ∈ l.take k, p x) (h2 : p l[k]) : ∀ x ∈ l.take (k + 1), p x := by
 intro x hx
 rw [List.take_add_one, List.getElem?_eq_getElem hk, List.mem_append] at hx
 rcases hx with hx | hx
 ·exact h x hx
 ·simp at hx; subst hx; exact h2
def badC (c : Int) : Bool := decide (c ≠ 95 ∧ (c < 48 ∨ 57 < c) ∧ (c < 65 ∨ 90 < c) ∧ (c < 97 ∨ 122 < c))
theorem badC_char (c : UInt8) : badC c.toNat = !charP c := by
 unfold badC charP
 rw [Bool.eq_iff_iff]
 simp only [decide_eq_true_eq, Bool.not_eq_true', Bool.or_eq_false_iff, decide_eq_false_iff_not]
 omega
theorem decode_ge (s : ByteArray) (i : Nat) (h : 128 ≤ (s.get! i).toNat) : 128 ≤ (Utf8.decode s i).1 := by
 have hR : Utf8.runeError = 65533 := by decide
 unfold Utf8.decode
 simp only [Nat.add_zero]
 rw [if_neg (by omega)]
 split
 ·split
  ·assumption
  ·rw [hR]; decide
 ·split
  ·split
   ·rename_i h2; simp at h2; omega
   ·rw [hR]; decide
  ·split
   ·split
    ·rename_i h2; simp at h2; omega
    ·rw [hR]; decide
   ·rw [hR]; decide
theorem get_at (s : List UInt8) (i : Nat) (h : i < s.length) : (strB s).get! i = s[i] := by
 simp [strB, ByteArray.get!, getElem!_pos, h]
theorem idx_title (s : List UInt8) : ∀ f pos : Nat, s.length ≤ pos + f → decide (0 ≤ idxFuncFrom (fun c => badC c) true (strB s) f pos) = !(s.drop pos).all charP
 | 0, pos, h => by
  rw [List.drop_eq_nil_of_le (by omega)]; rfl
 | f + 1, pos, h => by
  unfold idxFuncFrom
  by_cases hp : pos < s.length
  ·rw [if_pos (by rw [strB_size]; exact hp), List.drop_eq_getElem_cons hp, List.all_cons]
   have hg := get_at s pos hp
   by_cases h1 : (s[pos]).toNat < 128
   ·have hd := decode_ascii (strB s) pos (by rw [strB_size]; exact hp) (by exact h1)
    have hd' : Utf8.decode (strB s) pos = ((s[pos]).toNat, 1) := hd
    rw [hd']
    dsimp only
    rw [badC_char]
    cases hc : charP s[pos]
    ·rw [if_pos (by rfl)]; simp
    ·rw [if_neg (by simp), idx_title s f (pos + 1) (by omega)]; rfl
   ·have hd := decode_ge (strB s) pos (by rw [hg]; omega)
    have hb : badC ((Utf8.decode (strB s) pos).1 : Int) = true := by unfold badC; rw [decide_eq_true]; omega
    have hc : charP s[pos] = false := by
     have := badC_char s[pos]
     have hb2 : badC (s[pos]).toNat = true := by unfold badC; rw [decide_eq_true]; omega
     rw [hb2] at this
     simpa using this
    rw [if_pos hb, hc]; simp
  ·rw [if_neg (by rw [strB_size]; exact hp), List.drop_eq_nil_of_le (by omega)]; rfl
theorem idx_all (s : List UInt8) : decide (0 ≤ idxFunc (fun c => badC c) true (strB s)) = !s.all charP := by
 have := idx_title s s.length 0 (by omega)
 rw [List.drop_zero] at this
 exact this
end Go.Z.Asm
namespace Go.Proofs.YtcnfcoojmbjdlaaGreatDoor
set_option maxRecDepth 8000
set_option linter.unusedVariables false
set_option linter.unusedSimpArgs false
set_option linter.unusedSectionVars false
open Go Go.Z Go.Z.Asm Go.RowKit

theorem title1_ok {ρ : Nat → Obj → Prop} (c : Int) : Con Tryz.prog ρ 81 #[.int .i32 c] [] (fun v H => v = .bool (badC c) ∧ H = []) := by
 refine con_intro Tryz.func81 Tryz.call81 rfl Tryz.ntmps81 rfl (L := [(0, _)]) rfl fun w hh => ?_
 refine g_seq <| g_region ?_
 refine g_as ?_
 refine g_nil <| g_qt <| g_seq <| g_region ?_
 refine g_mv ?_
 refine g_pure (p_neq rfl rfl) rfl ?_
 refine g_mv ?_
 refine g_splitnd rfl rfl (fun h1 => ?_) (fun h1 => ?_)
 ·refine g_yesA ?_
  refine g_mv ?_
  refine g_yesA ?_
  refine g_pure (p_lss rfl rfl) rfl ?_
  refine g_yesA ?_
  refine g_mv ?_
  refine g_splitd rfl rfl (fun h2 => ?_) (fun h2 => ?_)
  ·refine g_noA ?_
   refine g_noA ?_
   refine g_yesA ?_
   first | refine g_pkt ?_ | refine g_pkf ?_
   first | refine g_pkt ?_ | refine g_pkf ?_
   refine g_mv ?_
   refine g_yesA ?_
   refine g_mv ?_
   refine g_yesA ?_
   refine g_pure (p_lss rfl rfl) rfl ?_
   refine g_yesA ?_
   refine g_mv ?_
   refine g_splitd rfl rfl (fun h4 => ?_) (fun h4 => ?_)
   ·refine g_noA ?_
    refine g_noA ?_
    refine g_yesA ?_
    first | refine g_pkt ?_ | refine g_pkf ?_
    first | refine g_pkt ?_ | refine g_pkf ?_
    refine g_mv ?_
    refine g_yesA ?_
    refine g_mv ?_
    refine g_yesA ?_
    refine g_pure (p_lss rfl rfl) rfl ?_
    refine g_yesA ?_
    refine g_mv ?_
    refine g_splitd rfl rfl (fun h6 => ?_) (fun h6 => ?_)
    ·refine g_noA ?_
     refine g_noA ?_
     refine g_yesA ?_
     first | refine g_pkt ?_ | refine g_pkf ?_
     first | refine g_pkt ?_ | refine g_pkf ?_
     refine g_as ?_
     refine g_nil <| g_qt <| g_ret ?_
     first | exact g_postA (Ho := []) (rs := [.tmp 2]) rfl (.tmp rfl .nil) ⟨show Value.bool true = _ by (rw [show badC c = true from decide_eq_true (by omega)]; done), rfl⟩ | exact g_postA (Ho := []) (rs := [.tmp 2]) rfl (.tmp rfl .nil) ⟨show Value.bool false = _ by (rw [show badC c = false from decide_eq_false (by omega)]; done), rfl⟩ | exact g_postA (Ho := []) (rs := [.tmp 2]) rfl (.tmp rfl .nil) ⟨show Value.bool (decide (122 < c)) = _ by (congr 1; exact decide_eq_decide.2 (by omega)), rfl⟩
    ·refine g_yesA ?_
     refine g_mv ?_
     refine g_yesA ?_
     refine g_pure (p_gtr rfl rfl) rfl ?_
     refine g_yesA ?_
     first | refine g_pkt ?_ | refine g_pkf ?_
     first | refine g_pkt ?_ | refine g_pkf ?_
     refine g_as ?_
     refine g_nil <| g_qt <| g_ret ?_
     first | exact g_postA (Ho := []) (rs := [.tmp 2]) rfl (.tmp rfl .nil) ⟨show Value.bool true = _ by (rw [show badC c = true from decide_eq_true (by omega)]; done), rfl⟩ | exact g_postA (Ho := []) (rs := [.tmp 2]) rfl (.tmp rfl .nil) ⟨show Value.bool false = _ by (rw [show badC c = false from decide_eq_false (by omega)]; done), rfl⟩ | exact g_postA (Ho := []) (rs := [.tmp 2]) rfl (.tmp rfl .nil) ⟨show Value.bool (decide (122 < c)) = _ by (congr 1; exact decide_eq_decide.2 (by omega)), rfl⟩
   ·refine g_yesA ?_
    refine g_mv ?_
    refine g_yesA ?_
    refine g_pure (p_gtr rfl rfl) rfl ?_
    refine g_yesA ?_
    first | refine g_pkt ?_ | refine g_pkf ?_
    first | refine g_pkt ?_ | refine g_pkf ?_
    refine g_mv ?_
    refine g_splitd rfl rfl (fun h7 => ?_) (fun h7 => ?_)
    ·refine g_yesA ?_
     refine g_mv ?_
     refine g_yesA ?_
     refine g_pure (p_lss rfl rfl) rfl ?_
     refine g_yesA ?_
     refine g_mv ?_
     refine g_splitd rfl rfl (fun h8 => ?_) (fun h8 => ?_)
     ·refine g_noA ?_
      refine g_noA ?_
      refine g_yesA ?_
      first | refine g_pkt ?_ | refine g_pkf ?_
      first | refine g_pkt ?_ | refine g_pkf ?_
      refine g_as ?_
      refine g_nil <| g_qt <| g_ret ?_
      first | exact g_postA (Ho := []) (rs := [.tmp 2]) rfl (.tmp rfl .nil) ⟨show Value.bool true = _ by (rw [show badC c = true from decide_eq_true (by omega)]; done), rfl⟩ | exact g_postA (Ho := []) (rs := [.tmp 2]) rfl (.tmp rfl .nil) ⟨show Value.bool false = _ by (rw [show badC c = false from decide_eq_false (by omega)]; done), rfl⟩ | exact g_postA (Ho := []) (rs := [.tmp 2]) rfl (.tmp rfl .nil) ⟨show Value.bool (decide (122 < c)) = _ by (congr 1; exact decide_eq_decide.2 (by omega)), rfl⟩
     ·refine g_yesA ?_
      refine g_mv ?_
      refine g_yesA ?_
      refine g_pure (p_gtr rfl rfl) rfl ?_
      refine g_yesA ?_
      first | refine g_pkt ?_ | refine g_pkf ?_
      first | refine g_pkt ?_ | refine g_pkf ?_
      refine g_as ?_
      refine g_nil <| g_qt <| g_ret ?_
      first | exact g_postA (Ho := []) (rs := [.tmp 2]) rfl (.tmp rfl .nil) ⟨show Value.bool true = _ by (rw [show badC c = true from decide_eq_true (by omega)]; done), rfl⟩ | exact g_postA (Ho := []) (rs := [.tmp 2]) rfl (.tmp rfl .nil) ⟨show Value.bool false = _ by (rw [show badC c = false from decide_eq_false (by omega)]; done), rfl⟩ | exact g_postA (Ho := []) (rs := [.tmp 2]) rfl (.tmp rfl .nil) ⟨show Value.bool (decide (122 < c)) = _ by (congr 1; exact decide_eq_decide.2 (by omega)), rfl⟩
    ·refine g_noA ?_
     refine g_noA ?_
     refine g_noA ?_
     refine g_nou rfl rfl rfl ?_
     refine g_nou rfl rfl rfl ?_
     refine g_noA ?_
     first | refine g_pkt ?_ | refine g_pkf ?_
     refine g_as ?_
     refine g_nil <| g_qt <| g_ret ?_
     first | exact g_postA (Ho := []) (rs := [.tmp 2]) rfl (.tmp rfl .nil) ⟨show Value.bool true = _ by (rw [show badC c = true from decide_eq_true (by omega)]; done), rfl⟩ | exact g_postA (Ho := []) (rs := [.tmp 2]) rfl (.tmp rfl .nil) ⟨show Value.bool false = _ by (rw [show badC c = false from decide_eq_false (by omega)]; done), rfl⟩ | exact g_postA (Ho := []) (rs := [.tmp 2]) rfl (.tmp rfl .nil) ⟨show Value.bool (decide (122 < c)) = _ by (congr 1; exact decide_eq_decide.2 (by omega)), rfl⟩
  ·refine g_yesA ?_
   refine g_mv ?_
   refine g_yesA ?_
   refine g_pure (p_gtr rfl rfl) rfl ?_
   refine g_yesA ?_
   first | refine g_pkt ?_ | refine g_pkf ?_
   first | refine g_pkt ?_ | refine g_pkf ?_
   refine g_mv ?_
   refine g_splitd rfl rfl (fun h10 => ?_) (fun h10 => ?_)
   ·refine g_yesA ?_
    refine g_mv ?_
    refine g_yesA ?_
    refine g_pure (p_lss rfl rfl) rfl ?_
    refine g_yesA ?_
    refine g_mv ?_
    refine g_splitd rfl rfl (fun h11 => ?_) (fun h11 => ?_)
    ·refine g_noA ?_
     refine g_noA ?_
     refine g_yesA ?_
     first | refine g_pkt ?_ | refine g_pkf ?_
     first | refine g_pkt ?_ | refine g_pkf ?_
     refine g_mv ?_
     refine g_yesA ?_
     refine g_mv ?_
     refine g_yesA ?_
     refine g_pure (p_lss rfl rfl) rfl ?_
     refine g_yesA ?_
     refine g_mv ?_
     refine g_splitd rfl rfl (fun h13 => ?_) (fun h13 => ?_)
     ·refine g_noA ?_
      refine g_noA ?_
      refine g_yesA ?_
      first | refine g_pkt ?_ | refine g_pkf ?_
      first | refine g_pkt ?_ | refine g_pkf ?_
      refine g_as ?_
      refine g_nil <| g_qt <| g_ret ?_
      first | exact g_postA (Ho := []) (rs := [.tmp 2]) rfl (.tmp rfl .nil) ⟨show Value.bool true = _ by (rw [show badC c = true from decide_eq_true (by omega)]; done), rfl⟩ | exact g_postA (Ho := []) (rs := [.tmp 2]) rfl (.tmp rfl .nil) ⟨show Value.bool false = _ by (rw [show badC c = false from decide_eq_false (by omega)]; done), rfl⟩ | exact g_postA (Ho := []) (rs := [.tmp 2]) rfl (.tmp rfl .nil) ⟨show Value.bool (decide (122 < c)) = _ by (congr 1; exact decide_eq_decide.2 (by omega)), rfl⟩
     ·refine g_yesA ?_
      refine g_mv ?_
      refine g_yesA ?_
      refine g_pure (p_gtr rfl rfl) rfl ?_
      refine g_yesA ?_
      first | refine g_pkt ?_ | refine g_pkf ?_
      first | refine g_pkt ?_ | refine g_pkf ?_
      refine g_as ?_
      refine g_nil <| g_qt <| g_ret ?_
      first | exact g_postA (Ho := []) (rs := [.tmp 2]) rfl (.tmp rfl .nil) ⟨show Value.bool true = _ by (rw [show badC c = true from decide_eq_true (by omega)]; done), rfl⟩ | exact g_postA (Ho := []) (rs := [.tmp 2]) rfl (.tmp rfl .nil) ⟨show Value.bool false = _ by (rw [show badC c = false from decide_eq_false (by omega)]; done), rfl⟩ | exact g_postA (Ho := []) (rs := [.tmp 2]) rfl (.tmp rfl .nil) ⟨show Value.bool (decide (122 < c)) = _ by (congr 1; exact decide_eq_decide.2 (by omega)), rfl⟩
    ·refine g_yesA ?_
     refine g_mv ?_
     refine g_yesA ?_
     refine g_pure (p_gtr rfl rfl) rfl ?_
     refine g_yesA ?_
     first | refine g_pkt ?_ | refine g_pkf ?_
     first | refine g_pkt ?_ | refine g_pkf ?_
     refine g_mv ?_
     refine g_splitd rfl rfl (fun h14 => ?_) (fun h14 => ?_)
     ·refine g_yesA ?_
      refine g_mv ?_
      refine g_yesA ?_
      refine g_pure (p_lss rfl rfl) rfl ?_
      refine g_yesA ?_
      refine g_mv ?_
      refine g_splitd rfl rfl (fun h15 => ?_) (fun h15 => ?_)
      ·refine g_noA ?_
       refine g_noA ?_
       refine g_yesA ?_
       first | refine g_pkt ?_ | refine g_pkf ?_
       first | refine g_pkt ?_ | refine g_pkf ?_
       refine g_as ?_
       refine g_nil <| g_qt <| g_ret ?_
       first | exact g_postA (Ho := []) (rs := [.tmp 2]) rfl (.tmp rfl .nil) ⟨show Value.bool true = _ by (rw [show badC c = true from decide_eq_true (by omega)]; done), rfl⟩ | exact g_postA (Ho := []) (rs := [.tmp 2]) rfl (.tmp rfl .nil) ⟨show Value.bool false = _ by (rw [show badC c = false from decide_eq_false (by omega)]; done), rfl⟩ | exact g_postA (Ho := []) (rs := [.tmp 2]) rfl (.tmp rfl .nil) ⟨show Value.bool (decide (122 < c)) = _ by (congr 1; exact decide_eq_decide.2 (by omega)), rfl⟩
      ·refine g_yesA ?_
       refine g_mv ?_
       refine g_yesA ?_
       refine g_pure (p_gtr rfl rfl) rfl ?_
       refine g_yesA ?_
       first | refine g_pkt ?_ | refine g_pkf ?_
       first | refine g_pkt ?_ | refine g_pkf ?_
       refine g_as ?_
       refine g_nil <| g_qt <| g_ret ?_
       first | exact g_postA (Ho := []) (rs := [.tmp 2]) rfl (.tmp rfl .nil) ⟨show Value.bool true = _ by (rw [show badC c = true from decide_eq_true (by omega)]; done), rfl⟩ | exact g_postA (Ho := []) (rs := [.tmp 2]) rfl (.tmp rfl .nil) ⟨show Value.bool false = _ by (rw [show badC c = false from decide_eq_false (by omega)]; done), rfl⟩ | exact g_postA (Ho := []) (rs := [.tmp 2]) rfl (.tmp rfl .nil) ⟨show Value.bool (decide (122 < c)) = _ by (congr 1; exact decide_eq_decide.2 (by omega)), rfl⟩
     ·refine g_noA ?_
      refine g_noA ?_
      refine g_noA ?_
      refine g_nou rfl rfl rfl ?_
      refine g_nou rfl rfl rfl ?_
      refine g_noA ?_
      first | refine g_pkt ?_ | refine g_pkf ?_
      refine g_as ?_
      refine g_nil <| g_qt <| g_ret ?_
      first | exact g_postA (Ho := []) (rs := [.tmp 2]) rfl (.tmp rfl .nil) ⟨show Value.bool true = _ by (rw [show badC c = true from decide_eq_true (by omega)]; done), rfl⟩ | exact g_postA (Ho := []) (rs := [.tmp 2]) rfl (.tmp rfl .nil) ⟨show Value.bool false = _ by (rw [show badC c = false from decide_eq_false (by omega)]; done), rfl⟩ | exact g_postA (Ho := []) (rs := [.tmp 2]) rfl (.tmp rfl .nil) ⟨show Value.bool (decide (122 < c)) = _ by (congr 1; exact decide_eq_decide.2 (by omega)), rfl⟩
   ·refine g_noA ?_
    refine g_noA ?_
    refine g_noA ?_
    refine g_nou rfl rfl rfl ?_
    refine g_nou rfl rfl rfl ?_
    refine g_noA ?_
    first | refine g_pkt ?_ | refine g_pkf ?_
    refine g_mv ?_
    refine g_noA ?_
    refine g_noA ?_
    refine g_noA ?_
    refine g_nou rfl rfl rfl ?_
    refine g_nou rfl rfl rfl ?_
    refine g_noA ?_
    first | refine g_pkt ?_ | refine g_pkf ?_
    refine g_as ?_
    refine g_nil <| g_qt <| g_ret ?_
    first | exact g_postA (Ho := []) (rs := [.tmp 2]) rfl (.tmp rfl .nil) ⟨show Value.bool true = _ by (rw [show badC c = true from decide_eq_true (by omega)]; done), rfl⟩ | exact g_postA (Ho := []) (rs := [.tmp 2]) rfl (.tmp rfl .nil) ⟨show Value.bool false = _ by (rw [show badC c = false from decide_eq_false (by omega)]; done), rfl⟩ | exact g_postA (Ho := []) (rs := [.tmp 2]) rfl (.tmp rfl .nil) ⟨show Value.bool (decide (122 < c)) = _ by (congr 1; exact decide_eq_decide.2 (by omega)), rfl⟩
 ·refine g_noA ?_
  refine g_noA ?_
  refine g_noA ?_
  refine g_nou rfl rfl rfl ?_
  refine g_nou rfl rfl rfl ?_
  refine g_noA ?_
  first | refine g_pkt ?_ | refine g_pkf ?_
  refine g_mv ?_
  refine g_noA ?_
  refine g_noA ?_
  refine g_noA ?_
  refine g_nou rfl rfl rfl ?_
  refine g_nou rfl rfl rfl ?_
  refine g_noA ?_
  first | refine g_pkt ?_ | refine g_pkf ?_
  refine g_mv ?_
  refine g_noA ?_
  refine g_noA ?_
  refine g_noA ?_
  refine g_nou rfl rfl rfl ?_
  refine g_nou rfl rfl rfl ?_
  refine g_noA ?_
  first | refine g_pkt ?_ | refine g_pkf ?_
  refine g_as ?_
  refine g_nil <| g_qt <| g_ret ?_
  first | exact g_postA (Ho := []) (rs := [.tmp 2]) rfl (.tmp rfl .nil) ⟨show Value.bool true = _ by (rw [show badC c = true from decide_eq_true (by omega)]; done), rfl⟩ | exact g_postA (Ho := []) (rs := [.tmp 2]) rfl (.tmp rfl .nil) ⟨show Value.bool false = _ by (rw [show badC c = false from decide_eq_false (by omega)]; done), rfl⟩ | exact g_postA (Ho := []) (rs := [.tmp 2]) rfl (.tmp rfl .nil) ⟨show Value.bool (decide (122 < c)) = _ by (congr 1; exact decide_eq_decide.2 (by omega)), rfl⟩
theorem charsf_ok {ρ : Nat → Obj → Prop} (s : List UInt8) : Con Tryz.prog ρ 80 #[.string (strB s), .func (.func 81) #[] #[]] [] (fun v H => v = .bool (!s.all charP) ∧ H = []) :=
 con_below Tryz.call80 fun w hw => by
  have hp : PredGrows Tryz.prog 81 #[] (fun c => badC c) w := fun W x _ _ =>
   ((title1_ok (ρ := fun _ _ => False) (x : Int)).2 W (fun _ => none) rfl (fun _ _ h => by cases h) (fun _ _ h => h.elim)).mono fun e w' ⟨v, H', e1, ⟨e2, e3⟩, m⟩ => ⟨by rw [e1, e2], m.below fun _ => rfl⟩
  have h := Any.strings_ContainsFunc_grows laysGw17 81 #[] (fun _ _ => Tryz.call81 _ _) (fun c => badC c) (strB s) w hp
  rw [idx_all] at h
  exact Calls.mono (show Calls Tryz.prog 80 _ w _ from h) fun e w' ⟨e1, e2⟩ => ⟨_, e1, rfl, e2⟩
theorem title_ok {ρ : Nat → Obj → Prop} (s : List UInt8) (hs : s.length ≤ 9223372036854775807) : Con Tryz.prog ρ 57 #[.string (strB s)] [] (fun v H => v = .bool (titleP s) ∧ H = []) := by
 have hsz : (strB s).size = s.length := strB_size s
 refine con_intro Tryz.func57 Tryz.call57 rfl Tryz.ntmps57 rfl (L := [(0, _)]) rfl fun w hh => ?_
 by_cases h0 : s = []
 ·have hT : titleP s = false := by unfold titleP; rw [decide_eq_false (fun h => h h0)]; rfl
  refine g_seq <| g_region ?_
  refine g_as ?_
  refine g_nil <| g_qt <| g_seq <| g_region ?_
  refine g_mv ?_
  refine g_pure (p_neqsF (by rfl) rfl rfl (by subst h0; rfl)) rfl ?_
  refine g_mv ?_
  refine g_noA ?_
  refine g_noA ?_
  refine g_noA ?_
  first | refine g_pkt ?_ | refine g_pkf ?_
  refine g_mv ?_
  refine g_noA ?_
  refine g_noA ?_
  refine g_noA ?_
  first | refine g_pkt ?_ | refine g_pkf ?_
  refine g_as ?_
  refine g_nil <| g_qt <| g_ret ?_
  exact g_post (rs := [.tmp 2]) rfl (.tmp rfl .nil) ⟨by rw [hT]; rfl, rfl⟩ .nil
 ·refine g_seq <| g_region ?_
  refine g_as ?_
  refine g_nil <| g_qt <| g_seq <| g_region ?_
  refine g_mv ?_
  refine g_pure (p_neqsT (by rfl) rfl rfl (fun h => h0 ((strB_inj (b := [])).1 h))) rfl ?_
  refine g_mv ?_
  refine g_yesA ?_
  refine g_mv ?_
  refine g_yesA ?_
  refine g_pure (p_lens (by rfl) rfl) rfl ?_
  refine g_yesA ?_
  refine g_pure (p_leq rfl rfl) rfl ?_
  first | refine g_pkt ?_ | refine g_pkf ?_
  refine g_mv ?_
  refine g_splitd rfl rfl (fun h1 => ?_) (fun h1 => ?_)
  ·refine g_yesA ?_
   refine g_mv ?_
   refine g_yesA ?_
   refine g_call (Hin := []) (Hr := ?hr1) (R := ?rr1) rfl rfl rfl ?hin1 ?hc1 ?hk1
   case hin1 => repeat' (first | exact Cover.nil | exact Take.here | apply Cover.cons | apply Take.there)
   case hc1 => intro ρ' hρ hR; exact charsf_ok s
   rintro _ _ ⟨rfl, rfl⟩
   refine g_yesA ?_
   refine g_pure (p_not rfl) rfl ?_
   first | refine g_pkt ?_ | refine g_pkf ?_
   refine g_as ?_
   refine g_nil <| g_qt <| g_ret ?_
   exact g_post (rs := [.tmp 2]) rfl (.tmp rfl .nil) ⟨by unfold titleP; rw [decide_eq_true h0, decide_eq_true (p := s.length ≤ 40) (by omega)]; show Value.bool _ = _; simp, rfl⟩ .nil
  ·refine g_noA ?_
   refine g_noA ?_
   refine g_noA ?_
   first | refine g_pkt ?_ | refine g_pkf ?_
   refine g_as ?_
   refine g_nil <| g_qt <| g_ret ?_
   exact g_post (rs := [.tmp 2]) rfl (.tmp rfl .nil) ⟨by unfold titleP; rw [decide_eq_true h0, decide_eq_false (p := s.length ≤ 40) (by omega)]; rfl, rfl⟩ .nil

theorem idxI_ok {ρ : Nat → Obj → Prop} (al : Option Addr) (cl : Nat) (ls : List Int) (hl : RSl ρ 1 al ls.length (ls.map encI)) (hlen : ls.length ≤ 9223372036854775807) (f : Nat) (cap : Array Value) (pred : Int → Bool) (hF : ∀ l ∈ ls, ∀ ρ', (∀ b o, ρ b o → ρ' b o) → Con Tryz.prog ρ' f (#[.int .i64 l] ++ cap) [] (fun v H => v = .bool (pred l) ∧ H = [])) :
  Con Tryz.prog ρ 56 #[.slice al ls.length cl, .func (.func f) #[] cap] [] (fun v H => v = .int .i64 (match ls.findIdx? pred with | some i => (i : Int) | none => -1) ∧ H = []) := by
 obtain ⟨_, b, off, cs, T, fz, hr⟩ := hl
 refine con_intro Tryz.func56 Tryz.call56 rfl Tryz.ntmps56 rfl (L := [(0, _), (1, _)]) rfl fun w hh => ?_
 refine g_seq <| g_region ?_
 refine g_as ?_
 refine g_nil <| g_qt <| g_seq <| g_seq <| g_region ?_
 refine g_mv ?_
 refine g_pure (p_len (by rfl) rfl) rfl ?_
 refine g_mv ?_
 refine g_nil <| g_qt <| g_block ?_
 refine g_loop (fun k : Nat => [(0, .slice al ls.length cl), (1, .func (.func f) #[] cap), (7, .int .i64 ls.length), (8, .int .i64 k)]) (fun _ => []) (fun k => k ≤ ls.length ∧ ∀ l ∈ ls.take k, pred l = false) (fun k => ls.length - k) 0 ⟨Nat.zero_le _, by simp⟩ (by (repeat (first | exact trivial | refine ⟨by rfl, ?_⟩)); done) .nil fun k ⟨hk, hno⟩ => ?_
 refine g_seq <| g_region ?_
 refine g_pure (p_lss rfl rfl) rfl ?_
 refine g_nil <| g_qt <| g_seq ?_
 refine g_ifd rfl (fun h1 => ?_) (fun h1 => ?_)
 ·have hk' : k < ls.length := by omega
  have hx : (ls.map encI)[k]? = some (.int .i64 ls[k]) := mapI _ hk'
  refine g_skip <| g_qt <| g_seq <| g_block <| g_seq <| g_region ?_
  refine g_mv ?_
  refine g_as ?_
  refine g_nil <| g_qt <| g_seq <| g_region ?_
  refine g_mv ?_
  refine g_mv ?_
  refine g_mv ?_
  refine g_pure (p_indexAddr rfl rfl (by omega) (fun _ => (hr (by omega)).1)) rfl ?_
  refine g_pure (p_load (v := .int .i64 ls[k]) (by rfl) rfl (Has.ro (hr (by omega)).2.1) (by simpa using (hr (by omega)).2.2 k _ hx)) rfl ?_
  refine g_call (Hin := []) (Hr := ?hr2) (R := ?rr2) rfl rfl rfl ?hin2 ?hc2 ?hk2
  case hin2 => repeat' (first | exact Cover.nil | exact Take.here | apply Cover.cons | apply Take.there)
  case hc2 => intro ρ' hρ hR; exact hF _ (List.getElem_mem hk') ρ' hρ
  rintro _ _ ⟨rfl, rfl⟩
  refine g_nil <| g_qt ?_
  refine g_if rfl (fun h2 => ?_) (fun h2 => ?_)
  ·refine g_seq <| g_region ?_
   refine g_mv ?_
   refine g_as ?_
   refine g_nil <| g_qt <| g_ret <| g_qb_ret <| g_qt_ret <| g_qn_ret <| g_qb_ret <| g_qt_ret ?_
   refine g_post (rs := [.tmp 4]) rfl (.tmp rfl .nil) ⟨?_, rfl⟩ .nil
   have e : ls.findIdx? pred = some k := by
    rw [List.findIdx?_eq_some_iff_getElem]
    refine ⟨hk', h2, fun j hj => ?_⟩
    have := hno ls[j] (by rw [List.mem_take_iff_getElem]; exact ⟨j, by omega, rfl⟩)
    simp [this]
   rw [e]; rfl
  ·refine g_skip <| g_qb <| g_qt <| g_region ?_
   first | refine g_pure (p_addi rfl rfl (by omega)) rfl ?_ | refine g_pure (p_add rfl rfl) rfl ?_
   refine g_mv ?_
   refine g_nil <| g_qn ?_
   exact g_next (k + 1) (by (repeat (first | exact trivial | refine ⟨by rfl, ?_⟩)); done) .nil ⟨by omega, take_all hk' hno h2⟩ (by omega)
 ·refine g_exit <| g_qt_exit <| g_qn_exit <| g_qb_exit <| g_qt <| g_seq <| g_region ?_
  refine g_as ?_
  refine g_nil <| g_qt <| g_ret ?_
  refine g_post (rs := [.tmp 4]) rfl (.tmp rfl .nil) ⟨?_, rfl⟩ .nil
  have e : ls.findIdx? pred = none := by
   rw [List.findIdx?_eq_none_iff]
   intro l hl
   exact hno l (by rw [List.take_of_length_le (by omega)]; exact hl)
  rw [e]; rfl

theorem any_of_idx {α : Type} {ls : List α} {pred : α → Bool} : decide (0 ≤ (match ls.findIdx? pred with | some i => (i : Int) | none => -1)) = ls.any pred := by
 cases h : ls.findIdx? pred with
 | none =>
  rw [List.findIdx?_eq_none_iff] at h
  have : ls.any pred = false := by rw [List.any_eq_false]; intro x hx; simp [h x hx]
  rw [this]; rfl
 | some i =>
  rw [List.findIdx?_eq_some_iff_getElem] at h
  obtain ⟨h1, h2, _⟩ := h
  have : ls.any pred = true := List.any_eq_true.2 ⟨_, List.getElem_mem h1, h2⟩
  rw [this]; simp

theorem anyI_ok {ρ : Nat → Obj → Prop} (al : Option Addr) (cl : Nat) (ls : List Int) (hl : RSl ρ 1 al ls.length (ls.map encI)) (hlen : ls.length ≤ 9223372036854775807) (f : Nat) (cap : Array Value) (pred : Int → Bool) (hF : ∀ l ∈ ls, ∀ ρ', (∀ b o, ρ b o → ρ' b o) → Con Tryz.prog ρ' f (#[.int .i64 l] ++ cap) [] (fun v H => v = .bool (pred l) ∧ H = [])) :
  Con Tryz.prog ρ 32 #[.slice al ls.length cl, .func (.func f) #[] cap] [] (fun v H => v = .bool (ls.any pred) ∧ H = []) := by
 refine con_intro Tryz.func32 Tryz.call32 rfl Tryz.ntmps32 rfl (L := [(0, _), (1, _)]) rfl fun w hh => ?_
 refine g_seq <| g_region ?_
 refine g_as ?_
 refine g_nil <| g_qt <| g_seq <| g_region ?_
 refine g_mv ?_
 refine g_mv ?_
 refine g_call (Hin := []) (Hr := ?hr3) (R := ?rr3) rfl rfl rfl ?hin3 ?hc3 ?hk3
 case hin3 => repeat' (first | exact Cover.nil | exact Take.here | apply Cover.cons | apply Take.there)
 case hc3 => intro ρ' hρ hR; exact idxI_ok al cl ls (hl.mono hρ) hlen f cap pred (fun l h1 ρ2 h2 => hF l h1 ρ2 (fun b o h3 => h2 b o (hρ b o h3)))
 rintro _ _ ⟨rfl, rfl⟩
 refine g_pure (p_geq rfl rfl) rfl ?_
 refine g_as ?_
 refine g_nil <| g_qt <| g_ret ?_
 exact g_post (rs := [.tmp 4]) rfl (.tmp rfl .nil) ⟨by rw [← any_of_idx]; rfl, rfl⟩ .nil

theorem grow_ok {ρ : Nat → Obj → Prop} (m : Nat) (hm : m ≤ 1000000000000) : Con Tryz.prog ρ 82 #[.slice none 0 0, .int .i64 m] [] (fun v H => ∃ a c, v = .slice a 0 c ∧ H = [OwnSl 3 1 a 0 c []]) := by
 refine con_intro Tryz.func82 Tryz.call82 rfl Tryz.ntmps82 rfl (L := [(0, _), (1, _)]) rfl fun w hh => ?_
 refine g_seq <| g_region ?_
 refine g_as ?_
 refine g_nil <| g_qt <| g_seq <| g_seq <| g_region ?_
 refine g_mv ?_
 refine g_pure (p_lss rfl rfl) rfl ?_
 refine g_nil <| g_qt ?_
 refine g_iff rfl ?_
 refine g_skip <| g_qt <| g_seq <| g_seq <| g_region ?_
 refine g_mv ?_
 refine g_mv ?_
 refine g_pure (p_cap (by rfl) rfl) rfl ?_
 refine g_mv ?_
 refine g_pure (p_len (by rfl) rfl) rfl ?_
 first | refine g_pure (p_subi rfl rfl (by omega)) rfl ?_ | refine g_pure (p_sub rfl rfl) rfl ?_
 first | refine g_pure (p_subi rfl rfl (by omega)) rfl ?_ | refine g_pure (p_sub rfl rfl) rfl ?_
 refine g_as ?_
 refine g_nil <| g_qt <| g_seq <| g_region ?_
 refine g_mv ?_
 refine g_pure (p_gtr rfl rfl) rfl ?_
 refine g_nil <| g_qt ?_
 rcases Nat.eq_zero_or_pos m with rfl | h0
 ·refine g_ownnil (e := 3) (size := 1) ?_
  refine g_iff rfl ?_
  refine g_skip <| g_qt <| g_seq <| g_region ?_
  refine g_mv ?_
  refine g_as ?_
  refine g_nil <| g_qt <| g_ret ?_
  exact g_postA (rs := [.tmp 4]) rfl (.tmp rfl .nil) ⟨none, 0, rfl, rfl⟩
 ·refine g_ifd rfl (fun h => ?_) (fun h => ?_)
  ·refine g_region ?_
   refine g_mv ?_
   refine g_mv ?_
   refine g_pure (p_cap (by rfl) rfl) rfl ?_
   refine g_pure (p_sliceh rfl rfl (by omega)) rfl ?_
   refine g_mv ?_
   refine g_eff (e_made (m := m) (by rfl) (by rfl) (by rfl) rfl (by show some (Value.int .i64 ((m : Int) - (((0 : Nat) : Int) - ((0 : Nat) : Int)))) = some _; congr 2) h0 (by dsimp only; omega) (by omega)) rfl (fun _ _ => ?_)
   rintro ⟨a22, c22, zs, rfl, rfl⟩
   refine g_mv ?_
   refine g_pure (p_len (by rfl) rfl) rfl ?_
   refine g_pure (p_sliceh rfl rfl (by omega)) rfl ?_
   refine g_as ?_
   refine g_nil <| g_qt <| g_seq <| g_region ?_
   refine g_mv ?_
   refine g_as ?_
   refine g_nil <| g_qt <| g_ret ?_
   refine g_weak (A := OwnSl 3 1 a22 m c22 zs) (B := OwnSl 3 1 a22 0 c22 []) (by repeat' (first | exact Take.here | apply Take.there)) (fun h hh => by
    have := own_shrink (m := 0) (by omega) h hh
    rwa [Nat.zero_mul, List.take_zero] at this) ?_
   exact g_postA (rs := [.tmp 4]) rfl (.tmp rfl .nil) ⟨a22, c22, rfl, rfl⟩
  ·exact absurd h (by simp; omega)

theorem lrd2 {ρ : Nat → Obj → Prop} {al : Option Addr} {lss : List (List Int)} (h : RSl2 ρ al (lss.map (·.map encI))) : ∃ b off cs T fz, 0 < lss.length → al = some ⟨b, off, none⟩ ∧ ρ b (.cells (cs : List Value).toArray T fz) ∧ ∀ j (hj : j < lss.length), ∃ ai ci, cs[off + j * 1]? = some (.slice ai lss[j].length ci) ∧ RSl ρ 1 ai lss[j].length (lss[j].map encI) := by
 by_cases h0 : 0 < lss.length
 ·obtain ⟨b, off, cs, T, fz, h1, h2, h3⟩ := h.at (by rw [List.length_map]; exact h0)
  refine ⟨b, off, cs, T, fz, fun _ => ⟨h1, h2, fun j hj => ?_⟩⟩
  obtain ⟨ai, ci, e1, e2⟩ := h3 j (by rw [List.length_map]; exact hj)
  rw [List.getElem_map, List.length_map] at e1
  rw [List.getElem_map, List.length_map] at e2
  exact ⟨ai, ci, by rw [Nat.mul_one]; exact e1, e2⟩
 ·exact ⟨0, 0, [], 0, (0, 0), fun h => absurd h h0⟩
theorem flat_succ {lss : List (List Int)} {k : Nat} (hk : k < lss.length) : (lss.take (k + 1)).flatten = (lss.take k).flatten ++ lss[k] := by
 rw [List.take_add_one, List.getElem?_eq_getElem hk, Option.toList_some, List.flatten_append]; simp
theorem flat_le (lss : List (List Int)) (k : Nat) : (lss.take k).flatten.length ≤ lss.flatten.length := by
 conv => rhs; rw [← List.take_append_drop k lss, List.flatten_append, List.length_append]
 omega

theorem concat_ok {ρ : Nat → Obj → Prop} {al : Option Addr} {cl : Nat} {lss : List (List Int)} (hr : RSl2 ρ al (lss.map (·.map encI))) (h1 : lss.flatten.length ≤ 1000000000000) (h2 : lss.length ≤ 1000000000000) :
  Con Tryz.prog ρ 58 #[.slice al lss.length cl] [] (fun v H => ∃ a c, v = .slice a lss.flatten.length c ∧ H = [OwnSl 3 1 a lss.flatten.length c (lss.flatten.map encI)]) := by
 obtain ⟨b1, o1, cs1, T1, fz1, hrd⟩ := lrd2 hr
 refine con_intro Tryz.func58 Tryz.call58 rfl Tryz.ntmps58 rfl (L := [(0, _)]) rfl fun w hh => ?_
 refine g_seq <| g_region ?_
 refine g_as ?_
 refine g_nil <| g_qt <| g_seq <| g_region ?_
 refine g_as ?_
 refine g_nil <| g_qt <| g_seq <| g_seq <| g_region ?_
 refine g_mv ?_
 refine g_pure (p_len (by rfl) rfl) rfl ?_
 refine g_mv ?_
 refine g_nil <| g_qt <| g_block ?_
 refine g_loop (fun k : Nat => [(0, .slice al lss.length cl), (3, .int .i64 ((lss.take k).flatten.length : Int)), (9, .slice al lss.length cl), (10, .int .i64 lss.length), (11, .int .i64 k)])
  (fun _ => []) (fun k => k ≤ lss.length) (fun k => lss.length - k) 0 (Nat.zero_le _) (by (repeat (first | exact trivial | refine ⟨by rfl, ?_⟩)); done) .nil fun k hk => ?_
 refine g_seq <| g_region ?_
 refine g_pure (p_lss rfl rfl) rfl ?_
 refine g_nil <| g_qt <| g_seq ?_
 refine g_ifd rfl (fun q => ?_) (fun q => ?_)
 ·have hkl : k < lss.length := by omega
  obtain ⟨r1, r2, r3⟩ := hrd (by omega)
  obtain ⟨ai, ci, e1, e2⟩ := r3 k hkl
  have hf := flat_succ hkl
  have hfl := flat_le lss (k + 1)
  have hfl' := congrArg List.length hf
  rw [List.length_append] at hfl'
  refine g_skip <| g_qt <| g_seq <| g_block <| g_seq <| g_region ?_
  refine g_pure (p_indexAddr rfl rfl (by omega) (fun _ => r1)) rfl ?_
  refine g_pure (p_load (by rfl) rfl (Has.ro r2) e1) rfl ?_
  refine g_as ?_
  refine g_nil <| g_qt <| g_seq <| g_region ?_
  refine g_mv ?_
  refine g_mv ?_
  refine g_pure (p_len (by rfl) rfl) rfl ?_
  first | refine g_pure (p_addi rfl rfl (by omega)) rfl ?_ | refine g_pure (p_add rfl rfl) rfl ?_
  refine g_as ?_
  refine g_nil <| g_qt <| g_seq <| g_region ?_
  refine g_mv ?_
  refine g_pure (p_lss rfl rfl) rfl ?_
  refine g_nil <| g_qt ?_
  refine g_ifd rfl (fun q2 => ?_) (fun q2 => ?_)
  ·exfalso; omega
  ·refine g_skip <| g_qb <| g_qt <| g_region ?_
   first | refine g_pure (p_addi rfl rfl (by omega)) rfl ?_ | refine g_pure (p_add rfl rfl) rfl ?_
   refine g_mv ?_
   refine g_nil <| g_qn ?_
   have e3 : (((lss.take k).flatten.length : Int) + (lss[k].length : Int)) = ((lss.take (k + 1)).flatten.length : Int) := by omega
   rw [e3]
   exact g_next (k + 1) (by (repeat (first | exact trivial | refine ⟨by rfl, ?_⟩)); done) .nil (by omega) (by omega)
 ·have hke : k = lss.length := by omega
  subst hke
  rw [List.take_of_length_le (Nat.le_refl _)]
  refine g_exit <| g_qt_exit <| g_qn_exit <| g_qb_exit <| g_qt <| g_seq <| g_region ?_
  refine g_mv ?_
  refine g_call (Hin := []) (Hr := ?hr4) (R := ?rr4) rfl rfl rfl ?hin4 ?hc4 ?hk4
  case hin4 => repeat' (first | exact Cover.nil | exact Take.here | apply Cover.cons | apply Take.there)
  case hc4 => intro ρ' hρ hR; exact grow_ok lss.flatten.length h1
  rintro _ _ ⟨ga, gc, rfl, rfl⟩
  refine g_as ?_
  refine g_nil <| g_qt <| g_seq <| g_seq <| g_region ?_
  refine g_mv ?_
  refine g_pure (p_len (by rfl) rfl) rfl ?_
  refine g_mv ?_
  refine g_nil <| g_qt <| g_block ?_
  refine g_loop (fun q : Nat × Option Addr × Nat => [(0, .slice al lss.length cl), (6, .slice q.2.1 (lss.take q.1).flatten.length q.2.2), (25, .slice al lss.length cl), (26, .int .i64 lss.length), (27, .int .i64 q.1)])
   (fun q => [OwnSl 3 1 q.2.1 (lss.take q.1).flatten.length q.2.2 ((lss.take q.1).flatten.map encI)]) (fun q => q.1 ≤ lss.length) (fun q => lss.length - q.1) (0, ga, gc) (Nat.zero_le _) (by (repeat (first | exact trivial | refine ⟨by rfl, ?_⟩)); done) (by repeat' (first | exact Cover.nil | exact Take.here | apply Cover.cons | apply Take.there)) ?_
  rintro ⟨k, oa, oc⟩ hk
  dsimp only at hk ⊢
  refine g_seq <| g_region ?_
  refine g_pure (p_lss rfl rfl) rfl ?_
  refine g_nil <| g_qt <| g_seq ?_
  refine g_ifd rfl (fun q3 => ?_) (fun q3 => ?_)
  ·have hkl : k < lss.length := by omega
   obtain ⟨r1, r2, r3⟩ := hrd (by omega)
   obtain ⟨ai, ci, e1, e2⟩ := r3 k hkl
   have hf := flat_succ hkl
   have hfl := flat_le lss (k + 1)
   rw [hf, List.length_append] at hfl
   rcases Nat.eq_zero_or_pos lss[k].length with h0 | h0
   ·have hn : lss[k] = [] := List.eq_nil_of_length_eq_zero h0
    rw [h0] at e1
    refine g_cap (e := 3) (size := 1) (a1 := oa) (k := (lss.take k).flatten.length) (cap := oc) (xs := (lss.take k).flatten.map encI) (by repeat' (first | exact Take.here | apply Take.there)) fun hcap _ => ?_
    refine g_skip <| g_qt <| g_seq <| g_block <| g_seq <| g_region ?_
    refine g_pure (p_indexAddr rfl rfl (by omega) (fun _ => r1)) rfl ?_
    refine g_pure (p_load (by rfl) rfl (Has.ro r2) e1) rfl ?_
    refine g_as ?_
    refine g_nil <| g_qt <| g_region ?_
    refine g_mv ?_
    refine g_mv ?_
    refine g_eff (e_append0 rfl rfl hcap) rfl (fun _ _ => ?_)
    rintro ⟨rfl, rfl⟩
    refine g_as ?_
    refine g_nil <| g_qb <| g_qt <| g_region ?_
    first | refine g_pure (p_addi rfl rfl (by omega)) rfl ?_ | refine g_pure (p_add rfl rfl) rfl ?_
    refine g_mv ?_
    refine g_nil <| g_qn ?_
    have e4 : (lss.take k).flatten = (lss.take (k + 1)).flatten := by rw [hf, hn, List.append_nil]
    rw [e4]
    exact g_nextA (k + 1, oa, oc) (by dsimp only; omega) (by dsimp only; omega)
   ·obtain ⟨hel, bb, oo, cc, TT, zz, hb⟩ := e2
    obtain ⟨b1', b2', b3'⟩ := hb h0
    subst b1'
    have hsub : sub cc oo (lss[k].length * 1) = some (lss[k].map encI) := by
     have := sub_of (o := oo) (i := 0) (k := lss[k].length) b3' h0 (by rw [List.length_map]; omega)
     rw [List.drop_zero, List.take_of_length_le (by rw [List.length_map]; omega)] at this
     rw [Nat.mul_one]; exact this
    have hone : one1 (lss[k].map encI) = true := by unfold one1; rw [List.all_eq_true]; intro v hv; obtain ⟨y, _, rfl⟩ := List.mem_map.1 hv; rfl
    refine g_skip <| g_qt <| g_seq <| g_block <| g_seq <| g_region ?_
    refine g_pure (p_indexAddr rfl rfl (by omega) (fun _ => r1)) rfl ?_
    refine g_pure (p_load (by rfl) rfl (Has.ro r2) e1) rfl ?_
    refine g_as ?_
    refine g_nil <| g_qt <| g_region ?_
    refine g_mv ?_
    refine g_mv ?_
    refine g_eff (e_append rfl rfl rfl rfl (Has.ro b2') hsub hone (by repeat' (first | exact Take.here | apply Take.there)) h0 (by dsimp only; omega) (by omega)) rfl (fun _ _ => ?_)
    rintro ⟨a33, c33, rfl, rfl⟩
    refine g_as ?_
    refine g_nil <| g_qb <| g_qt <| g_region ?_
    first | refine g_pure (p_addi rfl rfl (by omega)) rfl ?_ | refine g_pure (p_add rfl rfl) rfl ?_
    refine g_mv ?_
    refine g_nil <| g_qn ?_
    have e4 : (lss.take k).flatten.map encI ++ lss[k].map encI = (lss.take (k + 1)).flatten.map encI := by rw [hf, List.map_append]
    have e5 : (lss.take k).flatten.length + lss[k].length = (lss.take (k + 1)).flatten.length := by rw [hf, List.length_append]
    rw [e4, e5]
    exact g_nextA (k + 1, a33, c33) (by dsimp only; omega) (by dsimp only; omega)
  ·have hke : k = lss.length := by omega
   subst hke
   rw [List.take_of_length_le (Nat.le_refl _)]
   refine g_exit <| g_qt_exit <| g_qn_exit <| g_qb_exit <| g_qt <| g_seq <| g_region ?_
   refine g_mv ?_
   refine g_as ?_
   refine g_nil <| g_qt <| g_ret ?_
   exact g_postA (rs := [.tmp 2]) rfl (.tmp rfl .nil) ⟨oa, oc, rfl, rfl⟩

theorem check1_ok {ρ : Nat → Obj → Prop} (x : Int) : Con Tryz.prog ρ 33 #[.int .i64 x] [] (fun v H => v = .bool (decide (x < 1) || decide (16 < x)) ∧ H = []) := by
 refine con_intro Tryz.func33 Tryz.call33 rfl Tryz.ntmps33 rfl (L := [(0, _)]) rfl fun w hh => ?_
 refine g_seq <| g_region ?_
 refine g_as ?_
 refine g_nil <| g_qt <| g_seq <| g_region ?_
 refine g_mv ?_
 refine g_pure (p_lss rfl rfl) rfl ?_
 refine g_mv ?_
 refine g_splitd rfl rfl (fun h1 => ?_) (fun h1 => ?_)
 ·refine g_noA ?_
  refine g_noA ?_
  first | refine g_pkt ?_ | refine g_pkf ?_
  refine g_as ?_
  refine g_nil <| g_qt <| g_ret ?_
  exact g_post (rs := [.tmp 2]) rfl (.tmp rfl .nil) ⟨by rw [decide_eq_true h1]; rfl, rfl⟩ .nil
 ·refine g_yesA ?_
  refine g_mv ?_
  refine g_yesA ?_
  refine g_pure (p_gtr rfl rfl) rfl ?_
  first | refine g_pkt ?_ | refine g_pkf ?_
  refine g_as ?_
  refine g_nil <| g_qt <| g_ret ?_
  exact g_post (rs := [.tmp 2]) rfl (.tmp rfl .nil) ⟨by rw [decide_eq_false h1]; rfl, rfl⟩ .nil
theorem one2_ok {ρ : Nat → Obj → Prop} (x : Int) : Con Tryz.prog ρ 61 #[.int .i64 x] [] (fun v H => v = .bool (outB x) ∧ H = []) := by
 refine con_intro Tryz.func61 Tryz.call61 rfl Tryz.ntmps61 rfl (L := [(0, _)]) rfl fun w hh => ?_
 refine g_seq <| g_region ?_
 refine g_as ?_
 refine g_nil <| g_qt <| g_seq <| g_region ?_
 refine g_mv ?_
 refine g_pure (p_lss rfl rfl) rfl ?_
 refine g_mv ?_
 refine g_splitd rfl rfl (fun h1 => ?_) (fun h1 => ?_)
 ·refine g_noA ?_
  refine g_noA ?_
  first | refine g_pkt ?_ | refine g_pkf ?_
  refine g_as ?_
  refine g_nil <| g_qt <| g_ret ?_
  exact g_post (rs := [.tmp 2]) rfl (.tmp rfl .nil) ⟨by unfold outB; rw [decide_eq_true h1]; rfl, rfl⟩ .nil
 ·refine g_yesA ?_
  refine g_mv ?_
  refine g_yesA ?_
  refine g_pure (p_gtr rfl rfl) rfl ?_
  first | refine g_pkt ?_ | refine g_pkf ?_
  refine g_as ?_
  refine g_nil <| g_qt <| g_ret ?_
  exact g_post (rs := [.tmp 2]) rfl (.tmp rfl .nil) ⟨by unfold outB; rw [decide_eq_false h1]; rfl, rfl⟩ .nil
theorem one1_ok {ρ : Nat → Obj → Prop} {b2 : Nat} {ea ra : Option Addr} {ec rc : Nat} {im : Im} (hel : im.1.length ≤ 17592186044416) (t : Int) (ht : I64 t) (hb : ρ b2 (.cells [.slice ea im.1.length ec, .slice ra im.2.length rc].toArray 25 (0, 0))) :
  Con Tryz.prog ρ 59 #[.int .i64 t, .pointer (some ⟨b2, 0, none⟩)] [] (fun v H => v = .bool (!decide (validP im.1 t)) ∧ H = []) := by
 refine con_intro Tryz.func59 Tryz.call59 rfl Tryz.ntmps59 rfl (L := [(0, _), (1, _)]) rfl fun w hh => ?_
 refine g_seq <| g_region ?_
 refine g_as ?_
 refine g_nil <| g_qt <| g_seq <| g_region ?_
 refine g_pure (p_loadN (by rfl) rfl (Has.ro hb) (by rfl)) rfl ?_
 refine g_mv ?_
 refine g_call (Hin := []) (Hr := ?hr5) (R := ?rr5) rfl rfl rfl ?hin5 ?hc5 ?hk5
 case hin5 => repeat' (first | exact Cover.nil | exact Take.here | apply Cover.cons | apply Take.there)
 case hc5 => intro ρ' hρ hR; exact valid_ok (ec := ec) (ra := ra) (rc := rc) (im := im) hel t ht
 rintro _ _ ⟨rfl, rfl⟩
 refine g_pure (p_not rfl) rfl ?_
 refine g_as ?_
 refine g_nil <| g_qt <| g_ret ?_
 exact g_post (rs := [.tmp 3]) rfl (.tmp rfl .nil) ⟨rfl, rfl⟩ .nil
end Go.Proofs.YtcnfcoojmbjdlaaGreatDoor
/- Chapter 26: a routine's check, an image's check. Conditions: what the table of operations holds (OpsK). -/
namespace Go.Z.Asm
set_option maxRecDepth 8000
set_option linter.unusedVariables false
set_option linter.unusedSimpArgs false
set_option linter.unusedSectionVars false
open Go Go.Z Go.Lib
def oneR (im : Im) (k : Nat) (r : Rt) : Int :=
 if ¬ titleP r.1 = true then 6
 else if (64 < max r.2.1.length r.2.2.1.length ∨ 16384 < r.2.2.2.2.1.length) ∨ 32768 < max (r.2.2.2.2.2.length : Int) r.2.2.2.1 then 3
 else if (r.2.1 ++ r.2.2.1).any (fun t => !decide (validP im.1 t)) = true then 10
 else if r.2.2.2.1 < (r.2.1.length : Int) + r.2.2.1.length then 9
 else if r.2.2.2.2.1.any outB = true then 14
 else codeE im.2 k r.2.2.2.2.2.length 0 r.2.2.2.2.2
theorem oneR_eq (im : Im) (k : Nat) (hk : k < im.2.length) : oneP im k = oneR im k im.2[k] := by
 have hget : im.2.getD k emptyRt = im.2[k] := by rw [List.getD_eq_getElem?_getD, List.getElem?_eq_getElem hk]; rfl
 unfold oneP
 rw [hget]; rfl
theorem codeE_step (rts : List Rt) (k : Nat) (len : Int) (l : List Ins) {j : Nat} (hj : j < l.length) : codeE rts k len j (l.drop j) = if formP len j l[j] then if rangesP rts k l[j] then codeE rts k len (j + 1) (l.drop (j + 1)) else 14 else 5 := by
 rw [List.drop_eq_getElem_cons hj]; rfl
theorem two_rows {ρ : Nat → Obj → Prop} {ia oa : Option Addr} {ic oc b0 : Nat} {a b : List Int} {T : TypeId} {fz : Nat × Nat} (hi : RSl ρ 1 ia a.length (a.map encI)) (ho : RSl ρ 1 oa b.length (b.map encI)) (h : ρ b0 (.cells [.slice ia a.length ic, .slice oa b.length oc].toArray T fz)) : RSl2 ρ (some ⟨b0, 0, none⟩) ([a, b].map (·.map encI)) := by
 refine ⟨[.slice ia a.length ic, .slice oa b.length oc], ⟨rfl, fun j hj => ?_⟩, RSl.of_blk (k := 2) (size := 1) h (Nat.le_refl 2)⟩
 match j, hj with
 | 0, _ => exact ⟨ia, ic, by show some (Value.slice ia a.length ic) = some (Value.slice ia (a.map encI).length ic); rw [List.length_map], by show RSl ρ 1 ia (a.map encI).length (a.map encI); rw [List.length_map]; exact hi⟩
 | 1, _ => exact ⟨oa, oc, by show some (Value.slice oa b.length oc) = some (Value.slice oa (b.map encI).length oc); rw [List.length_map], by show RSl ρ 1 oa (b.map encI).length (b.map encI); rw [List.length_map]; exact ho⟩
end Go.Z.Asm
namespace Go.Proofs.YtcnfcoojmbjdlaaGreatDoor
set_option maxRecDepth 8000
set_option linter.unusedVariables false
set_option linter.unusedSimpArgs false
set_option linter.unusedSectionVars false
open Go Go.Z Go.Z.Asm

theorem one_ok {ρ : Nat → Obj → Prop} (hO : OpsK ρ) {ea ra : Option Addr} {ec rc : Nat} {im : Im} (h : ImI ρ ea ra im) (kr : Nat) (hkr : kr < im.2.length) :
  Con Tryz.prog ρ 34 #[.agg #[.slice ea im.1.length ec, .slice ra im.2.length rc], .int .i64 kr] [] (fun v H => v = .int .i64 (oneP im kr) ∧ H = []) := by
 have hrl := h.rl
 obtain ⟨b, off, cs, T, fz, r1, r2, r3⟩ := h.rs (by omega)
 obtain ⟨row, q1, q2, q3⟩ := r3 kr hkr
 have hok := h.ok im.2[kr] (List.getElem_mem hkr)
 rw [oneR_eq im kr hkr]
 generalize im.2[kr] = x0 at q1 hok
 obtain ⟨ia, ic, oa, oc, na, nc, ca, cc, e0, hi, ho, hn, hc⟩ := q1
 subst e0
 have hil := hok.il
 have hol := hok.ol
 have hzl := hok.zl
 have hcl := hok.cl
 obtain ⟨hr1, hr2⟩ := hok.ri
 have hel := h.el
 obtain ⟨bc, oc2, cs2, T2, fz2, hcr⟩ := RSl.row encIns_len hc
 refine con_intro Tryz.func34 Tryz.call34 rfl Tryz.ntmps34 rfl (L := [(0, _), (1, _)]) rfl fun w hh => ?_
 refine g_seq <| g_region ?_
 refine g_eff (e_box rfl (by rfl)) rfl (fun _ _ => ?_)
 rintro ⟨b2, rfl, rfl⟩
 refine g_as ?_
 refine g_nil <| g_qt <| g_seq <| g_region ?_
 refine g_fa ?_
 refine g_ld ?_
 refine g_mv ?_
 refine g_pure (p_indexAddr rfl rfl (by omega) (fun _ => r1)) rfl ?_
 refine g_pure (p_loadN (by rfl) rfl (Has.ro r2) (by rw [Int.toNat_natCast]; exact q2)) rfl ?_
 refine g_eff (e_alloc (by rfl)) rfl (fun _ _ => ?_)
 rintro ⟨b5, rfl, rfl⟩
 first | refine g_eff0 (e_storeO rfl rfl (by rfl) (by rfl) (by rfl) (by repeat' (first | exact Take.here | apply Take.there)) (by rfl)) (fun _ _ => ?_) | refine g_eff0 (e_storeN rfl rfl (by rfl) (by rfl) (by rfl) (by repeat' (first | exact Take.here | apply Take.there)) (by simp)) (fun _ _ => ?_)
 rintro rfl
 refine g_nil <| g_qt <| g_seq <| g_block <| g_seq <| g_region ?_
 refine g_fa ?_
 refine g_ld ?_
 refine g_call (Hin := []) (Hr := ?hr1) (R := ?rr1) rfl rfl rfl ?hin1 ?hc1 ?hk1
 case hin1 => repeat' (first | exact Cover.nil | exact Take.here | apply Cover.cons | apply Take.there)
 case hc1 => intro ρ' hρ hR; exact title_ok x0.1 hok.nl
 rintro _ _ ⟨rfl, rfl⟩
 refine g_pure (p_not rfl) rfl ?_
 refine g_as ?_
 refine g_nil <| g_qt ?_
 refine g_if rfl (fun h1 => ?_) (fun h1 => ?_)
 ·refine g_seq <| g_region ?_
  refine g_as ?_
  refine g_nil <| g_qt <| g_ret <| g_qb_ret <| g_qt_ret ?_
  exact g_postA (rs := [.tmp 4]) rfl (.tmp rfl .nil) ⟨by unfold oneR; rw [if_pos (by simpa using h1)]; rfl, rfl⟩
 ·have p1 : titleP x0.1 = true := by simpa using h1
  refine g_seq <| g_region ?_
  refine g_fa ?_
  refine g_ld ?_
  refine g_pure (p_len (by rfl) rfl) rfl ?_
  refine g_fa ?_
  refine g_ld ?_
  refine g_pure (p_len (by rfl) rfl) rfl ?_
  refine g_pure (p_max rfl rfl) rfl ?_
  refine g_pure (p_gtr rfl rfl) rfl ?_
  refine g_mv ?_
  refine g_splitd rfl rfl (fun h2 => ?_) (fun h2 => ?_)
  ·refine g_noA ?_
   refine g_noA ?_
   refine g_noA ?_
   refine g_noA ?_
   first | refine g_pkt ?_ | refine g_pkf ?_
   refine g_mv ?_
   refine g_noA ?_
   refine g_noA ?_
   refine g_noA ?_
   refine g_noA ?_
   refine g_noA ?_
   refine g_noA ?_
   refine g_noA ?_
   first | refine g_pkt ?_ | refine g_pkf ?_
   refine g_as ?_
   refine g_nil <| g_qt ?_
   refine g_ift rfl ?_
   refine g_seq <| g_region ?_
   refine g_as ?_
   refine g_nil <| g_qt <| g_ret <| g_qb_ret <| g_qt_ret ?_
   exact g_postA (rs := [.tmp 4]) rfl (.tmp rfl .nil) ⟨by unfold oneR; rw [if_neg (fun h => h p1), if_pos (.inl (.inl (by omega)))]; rfl, rfl⟩
  ·refine g_yesA ?_
   refine g_fa ?_
   refine g_yesA ?_
   refine g_ld ?_
   refine g_yesA ?_
   refine g_pure (p_len (by rfl) rfl) rfl ?_
   refine g_yesA ?_
   refine g_pure (p_gtr rfl rfl) rfl ?_
   first | refine g_pkt ?_ | refine g_pkf ?_
   refine g_mv ?_
   refine g_splitd rfl rfl (fun h3 => ?_) (fun h3 => ?_)
   ·refine g_noA ?_
    refine g_noA ?_
    refine g_noA ?_
    refine g_noA ?_
    refine g_noA ?_
    refine g_noA ?_
    refine g_noA ?_
    first | refine g_pkt ?_ | refine g_pkf ?_
    refine g_as ?_
    refine g_nil <| g_qt ?_
    refine g_ift rfl ?_
    refine g_seq <| g_region ?_
    refine g_as ?_
    refine g_nil <| g_qt <| g_ret <| g_qb_ret <| g_qt_ret ?_
    exact g_postA (rs := [.tmp 4]) rfl (.tmp rfl .nil) ⟨by unfold oneR; rw [if_neg (fun h => h p1), if_pos (.inl (.inr (by omega)))]; rfl, rfl⟩
   ·refine g_yesA ?_
    refine g_fa ?_
    refine g_yesA ?_
    refine g_ld ?_
    refine g_yesA ?_
    refine g_pure (p_len (by rfl) rfl) rfl ?_
    refine g_yesA ?_
    refine g_fa ?_
    refine g_yesA ?_
    refine g_ld ?_
    refine g_yesA ?_
    refine g_pure (p_max rfl rfl) rfl ?_
    refine g_yesA ?_
    refine g_pure (p_gtr rfl rfl) rfl ?_
    first | refine g_pkt ?_ | refine g_pkf ?_
    refine g_as ?_
    refine g_nil <| g_qt ?_
    refine g_ifd rfl (fun h4 => ?_) (fun h4 => ?_)
    ·refine g_seq <| g_region ?_
     refine g_as ?_
     refine g_nil <| g_qt <| g_ret <| g_qb_ret <| g_qt_ret ?_
     exact g_postA (rs := [.tmp 4]) rfl (.tmp rfl .nil) ⟨by unfold oneR; rw [if_neg (fun h => h p1), if_pos (.inr (by omega))]; rfl, rfl⟩
    ·have p2 : ¬ ((64 < max x0.2.1.length x0.2.2.1.length ∨ 16384 < x0.2.2.2.2.1.length) ∨ 32768 < max (x0.2.2.2.2.2.length : Int) x0.2.2.2.1) := by omega
     refine g_seq <| g_region ?_
     refine g_fa ?_
     refine g_ld ?_
     refine g_fa ?_
     refine g_ld ?_
     refine g_eff (e_bs (xs := [.tmp 44, .tmp 46]) rfl rfl rfl (by rfl) (by rfl) rfl (by rfl)) rfl (fun _ _ => ?_)
     rintro ⟨b47, rfl, rfl⟩
     have hfl : [x0.2.1, x0.2.2.1].flatten = x0.2.1 ++ x0.2.2.1 := by simp
     refine g_call (Hin := []) (Hr := ?hr2) (R := ?rr2) rfl rfl rfl ?hin2 ?hc2 ?hk2
     case hin2 => repeat' (first | exact Cover.nil | exact Take.here | apply Cover.cons | apply Take.there)
     case hc2 => intro ρ' hρ hR; exact concat_ok (lss := [x0.2.1, x0.2.2.1]) (two_rows (hi.mono hρ) (ho.mono hρ) (Take.ro (A := Blk b47 (.cells [.slice ia x0.2.1.length ic, .slice oa x0.2.2.1.length oc].toArray 22 (0, 0))) (by repeat' (first | exact Take.here | apply Take.there)) hR).blk) (by rw [hfl, List.length_append]; omega) (by simp)
     rintro _ _ ⟨ka, kc, rfl, rfl⟩
     refine g_pure (p_makeFunc rfl rfl) rfl ?_
     refine g_call (Hin := []) (Hr := ?hr3) (R := ?rr3) rfl rfl rfl ?hin3 ?hc3 ?hk3
     case hin3 => repeat' (first | exact Cover.nil | exact Take.here | apply Cover.cons | apply Take.there)
     case hc3 => intro ρ' hρ hR; exact anyI_ok ka kc [x0.2.1, x0.2.2.1].flatten (RSl.of_own (Take.ro (A := OwnSl 3 1 ka [x0.2.1, x0.2.2.1].flatten.length kc ([x0.2.1, x0.2.2.1].flatten.map encI)) (by repeat' (first | exact Take.here | apply Take.there)) hR)) (by rw [hfl, List.length_append]; omega) _ #[.pointer (some ⟨b2, 0, none⟩)] (fun t => !decide (validP im.1 t)) (fun l hl ρ2 h2 => one1_ok (ec := ec) (rc := rc) (ra := ra) (im := im) hel l (by rw [hfl, List.mem_append] at hl; exact hl.elim (hok.ii l) (hok.oi l)) (h2 _ _ (Take.ro (A := Blk b2 (.cells [.slice ea im.1.length ec, .slice ra im.2.length rc].toArray 25 (0, 0))) (by repeat' (first | exact Take.here | apply Take.there)) hR).blk))
     rintro _ _ ⟨rfl, rfl⟩
     refine g_as ?_
     refine g_nil <| g_qt ?_
     rw [hfl]
     refine g_if rfl (fun h5 => ?_) (fun h5 => ?_)
     ·refine g_seq <| g_region ?_
      refine g_as ?_
      refine g_nil <| g_qt <| g_ret <| g_qb_ret <| g_qt_ret ?_
      exact g_postA (rs := [.tmp 4]) rfl (.tmp rfl .nil) ⟨by unfold oneR; rw [if_neg (fun h => h p1), if_neg p2, if_pos h5]; rfl, rfl⟩
     ·refine g_seq <| g_region ?_
      refine g_fa ?_
      refine g_ld ?_
      refine g_fa ?_
      refine g_ld ?_
      refine g_pure (p_len (by rfl) rfl) rfl ?_
      refine g_fa ?_
      refine g_ld ?_
      refine g_pure (p_len (by rfl) rfl) rfl ?_
      first | refine g_pure (p_addi rfl rfl (by omega)) rfl ?_ | refine g_pure (p_add rfl rfl) rfl ?_
      refine g_pure (p_lss rfl rfl) rfl ?_
      refine g_as ?_
      refine g_nil <| g_qt ?_
      refine g_ifd rfl (fun h6 => ?_) (fun h6 => ?_)
      ·refine g_seq <| g_region ?_
       refine g_as ?_
       refine g_nil <| g_qt <| g_ret <| g_qb_ret <| g_qt_ret ?_
       exact g_postA (rs := [.tmp 4]) rfl (.tmp rfl .nil) ⟨by unfold oneR; rw [if_neg (fun h => h p1), if_neg p2, if_neg (by rw [h5]; decide), if_pos (by omega)]; rfl, rfl⟩
      ·refine g_seq <| g_region ?_
       refine g_fa ?_
       refine g_ld ?_
       refine g_call (Hin := []) (Hr := ?hr4) (R := ?rr4) rfl rfl rfl ?hin4 ?hc4 ?hk4
       case hin4 => repeat' (first | exact Cover.nil | exact Take.here | apply Cover.cons | apply Take.there)
       case hc4 => intro ρ' hρ hR; exact anyI_ok na nc x0.2.2.2.2.1 (hn.mono hρ) (by omega) _ #[] outB (fun l hl ρ2 h2 => one2_ok l)
       rintro _ _ ⟨rfl, rfl⟩
       refine g_as ?_
       refine g_nil <| g_qt ?_
       refine g_if rfl (fun h7 => ?_) (fun h7 => ?_)
       ·refine g_seq <| g_region ?_
        refine g_as ?_
        refine g_nil <| g_qt <| g_ret <| g_qb_ret <| g_qt_ret ?_
        exact g_postA (rs := [.tmp 4]) rfl (.tmp rfl .nil) ⟨by unfold oneR; rw [if_neg (fun h => h p1), if_neg p2, if_neg (by rw [h5]; decide), if_neg (by omega), if_pos h7]; rfl, rfl⟩
       ·have hres : oneR im kr x0 = codeE im.2 kr x0.2.2.2.2.2.length 0 x0.2.2.2.2.2 := by unfold oneR; rw [if_neg (fun h => h p1), if_neg p2, if_neg (by rw [h5]; decide), if_neg (by omega), if_neg (by rw [h7]; decide)]
        rw [hres]
        refine g_skip <| g_qb <| g_qt <| g_seq <| g_seq <| g_region ?_
        refine g_fa ?_
        refine g_ld ?_
        refine g_pure (p_len (by rfl) rfl) rfl ?_
        refine g_mv ?_
        refine g_nil <| g_qt <| g_block ?_
        refine g_loop (fun k : Nat => [(1, .int .i64 kr), (2, .pointer (some ⟨b2, 0, none⟩)), (5, .pointer (some ⟨b5, 0, none⟩)), (67, .slice ca x0.2.2.2.2.2.length cc), (68, .int .i64 x0.2.2.2.2.2.length), (69, .int .i64 k)])
         (fun _ => [Blk b2 (.cells [.slice ea im.1.length ec, .slice ra im.2.length rc].toArray 25 (0, 0)), Blk b5 (.cells [.string (strB x0.1), .slice ia x0.2.1.length ic, .slice oa x0.2.2.1.length oc, .int .i64 x0.2.2.2.1, .slice na x0.2.2.2.2.1.length nc, .slice ca x0.2.2.2.2.2.length cc].toArray 45 (0, 0))])
         (fun k => k ≤ x0.2.2.2.2.2.length ∧ codeE im.2 kr x0.2.2.2.2.2.length 0 x0.2.2.2.2.2 = codeE im.2 kr x0.2.2.2.2.2.length k (x0.2.2.2.2.2.drop k)) (fun k => x0.2.2.2.2.2.length - k) 0 ⟨Nat.zero_le _, rfl⟩ (by (repeat (first | exact trivial | refine ⟨by rfl, ?_⟩)); done) (by repeat' (first | exact Cover.nil | exact Take.here | apply Cover.cons | apply Take.there)) ?_
        rintro k ⟨hk, hk2⟩
        rw [hk2]
        refine g_seq <| g_region ?_
        refine g_pure (p_lss rfl rfl) rfl ?_
        refine g_nil <| g_qt <| g_seq ?_
        refine g_ifd rfl (fun q => ?_) (fun q => ?_)
        ·have hkl : k < x0.2.2.2.2.2.length := by omega
         obtain ⟨c1, c2, c3⟩ := hcr (by omega)
         have c4 := (c3 k hkl).1 (by decide)
         rw [codeE_step im.2 kr x0.2.2.2.2.2.length x0.2.2.2.2.2 hkl] at hk2 ⊢
         generalize x0.2.2.2.2.2[k] = ii at c4 hk2
         refine g_skip <| g_qt <| g_seq <| g_block <| g_seq <| g_region ?_
         refine g_mv ?_
         refine g_pure (p_indexAddr rfl rfl (by omega) (fun _ => c1)) rfl ?_
         refine g_pure (p_loadN (by rfl) rfl (Has.ro c2) (by rw [Int.toNat_natCast]; exact c4)) rfl ?_
         refine g_eff (e_alloc (by rfl)) rfl (fun _ _ => ?_)
         rintro ⟨b7, rfl, rfl⟩
         refine g_as ?_
         first | refine g_eff0 (e_storeO rfl rfl (by rfl) (by rfl) (by rfl) (by repeat' (first | exact Take.here | apply Take.there)) (by rfl)) (fun _ _ => ?_) | refine g_eff0 (e_storeN rfl rfl (by rfl) (by rfl) (by rfl) (by repeat' (first | exact Take.here | apply Take.there)) (by simp)) (fun _ _ => ?_)
         rintro rfl
         refine g_nil <| g_qt <| g_seq <| g_seq <| g_region ?_
         first | refine g_pure (p_loadO (by rfl) rfl (by first | (apply Has.own; (repeat' (first | exact Take.here | apply Take.there)); done) | exact Has.ro (by assumption)) (by rfl)) rfl ?_ | refine g_pure (p_loadN (by rfl) rfl (by first | (apply Has.own; (repeat' (first | exact Take.here | apply Take.there)); done) | exact Has.ro (by assumption)) (by first | rfl | assumption)) rfl ?_
         refine g_mv ?_
         first | refine g_pure (p_loadO (by rfl) rfl (by first | (apply Has.own; (repeat' (first | exact Take.here | apply Take.there)); done) | exact Has.ro (by assumption)) (by rfl)) rfl ?_ | refine g_pure (p_loadN (by rfl) rfl (by first | (apply Has.own; (repeat' (first | exact Take.here | apply Take.there)); done) | exact Has.ro (by assumption)) (by first | rfl | assumption)) rfl ?_
         refine g_call (Hin := []) (Hr := ?hr5) (R := ?rr5) rfl rfl rfl ?hin5 ?hc5 ?hk5
         case hin5 => repeat' (first | exact Cover.nil | exact Take.here | apply Cover.cons | apply Take.there)
         case hc5 => intro ρ' hρ hR; exact form_ok (hO.mono hρ) (strB x0.1) ia oa na ca x0.2.1.length ic x0.2.2.1.length oc x0.2.2.2.2.1.length nc x0.2.2.2.2.2.length cc x0.2.2.2.1 k ii (by omega)
         rintro _ _ ⟨rfl, rfl⟩
         refine g_pure (p_not rfl) rfl ?_
         refine g_nil <| g_qt ?_
         refine g_if rfl (fun h8 => ?_) (fun h8 => ?_)
         ·have h8' : formP x0.2.2.2.2.2.length k ii = false := by simpa using h8
          refine g_seq <| g_region ?_
          refine g_as ?_
          refine g_nil <| g_qt <| g_ret <| g_qt_ret <| g_qb_ret <| g_qt_ret <| g_qn_ret <| g_qb_ret ?_
          refine g_qt_ret ?_
          exact g_postA (rs := [.tmp 4]) rfl (.tmp rfl .nil) ⟨by rw [h8']; rfl, rfl⟩
         ·have h8' : formP x0.2.2.2.2.2.length k ii = true := by simpa using h8
          rw [h8', if_pos rfl] at hk2 ⊢
          refine g_skip <| g_qt <| g_seq <| g_region ?_
          first | refine g_pure (p_loadO (by rfl) rfl (by first | (apply Has.own; (repeat' (first | exact Take.here | apply Take.there)); done) | exact Has.ro (by assumption)) (by rfl)) rfl ?_ | refine g_pure (p_loadN (by rfl) rfl (by first | (apply Has.own; (repeat' (first | exact Take.here | apply Take.there)); done) | exact Has.ro (by assumption)) (by first | rfl | assumption)) rfl ?_
          refine g_mv ?_
          first | refine g_pure (p_loadO (by rfl) rfl (by first | (apply Has.own; (repeat' (first | exact Take.here | apply Take.there)); done) | exact Has.ro (by assumption)) (by rfl)) rfl ?_ | refine g_pure (p_loadN (by rfl) rfl (by first | (apply Has.own; (repeat' (first | exact Take.here | apply Take.there)); done) | exact Has.ro (by assumption)) (by first | rfl | assumption)) rfl ?_
          refine g_call (Hin := []) (Hr := ?hr6) (R := ?rr6) rfl rfl rfl ?hin6 ?hc6 ?hk6
          case hin6 => repeat' (first | exact Cover.nil | exact Take.here | apply Cover.cons | apply Take.there)
          case hc6 => intro ρ' hρ hR; exact ranges_ok (ec := ec) (rc := rc) (hO.mono hρ) (h.mono hρ) kr hkr ii
          rintro _ _ ⟨rfl, rfl⟩
          refine g_pure (p_not rfl) rfl ?_
          refine g_nil <| g_qt ?_
          refine g_if rfl (fun h9 => ?_) (fun h9 => ?_)
          ·have h9' : rangesP im.2 kr ii = false := by simpa using h9
           refine g_seq <| g_region ?_
           refine g_as ?_
           refine g_nil <| g_qt <| g_ret <| g_qb_ret <| g_qt_ret <| g_qn_ret <| g_qb_ret <| g_qt_ret ?_
           exact g_postA (rs := [.tmp 4]) rfl (.tmp rfl .nil) ⟨by rw [h9']; rfl, rfl⟩
          ·have h9' : rangesP im.2 kr ii = true := by simpa using h9
           rw [h9', if_pos rfl] at hk2 ⊢
           refine g_skip <| g_qb <| g_qt <| g_region ?_
           first | refine g_pure (p_addi rfl rfl (by omega)) rfl ?_ | refine g_pure (p_add rfl rfl) rfl ?_
           refine g_mv ?_
           refine g_nil <| g_qn ?_
           rw [← hk2]
           exact g_nextA (k + 1) ⟨hkl, hk2⟩ (by omega)
        ·have hke : k = x0.2.2.2.2.2.length := by omega
         subst hke
         refine g_exit <| g_qt_exit <| g_qn_exit <| g_qb_exit <| g_qt <| g_seq <| g_region ?_
         refine g_as ?_
         refine g_nil <| g_qt <| g_ret ?_
         exact g_postA (rs := [.tmp 4]) rfl (.tmp rfl .nil) ⟨by rw [List.drop_eq_nil_of_le (Nat.le_refl _)]; rfl, rfl⟩

theorem rtsE_step (im : Im) {k n : Nat} (hk : k < n) : rtsE im k (n - k) = if oneP im k = 0 then rtsE im (k + 1) (n - (k + 1)) else oneP im k := by
 obtain ⟨m, hm⟩ : ∃ m, n - k = m + 1 := ⟨n - k - 1, by omega⟩
 rw [hm, show n - (k + 1) = m by omega]; rfl
theorem checkA_ok {ρ : Nat → Obj → Prop} (hO : OpsK ρ) {ea ra : Option Addr} {ec rc : Nat} {im : Im} (h : ImI ρ ea ra im) :
  Con Tryz.prog ρ 14 #[.agg #[.slice ea im.1.length ec, .slice ra im.2.length rc]] [] (fun v H => v = .int .i64 (checkP im) ∧ H = []) := by
 have hrl := h.rl
 have hel := h.el
 refine con_intro Tryz.func14 Tryz.call14 rfl Tryz.ntmps14 rfl (L := [(0, _)]) rfl fun w hh => ?_
 refine g_seq <| g_region ?_
 refine g_eff (e_box rfl (by rfl)) rfl (fun _ _ => ?_)
 rintro ⟨b1, rfl, rfl⟩
 refine g_as ?_
 refine g_nil <| g_qt <| g_seq <| g_seq <| g_region ?_
 refine g_fa ?_
 refine g_ld ?_
 refine g_pure (p_len (by rfl) rfl) rfl ?_
 refine g_pure (p_gtr rfl rfl) rfl ?_
 refine g_mv ?_
 refine g_splitd rfl rfl (fun h1 => ?_) (fun h1 => ?_)
 ·refine g_noA ?_
  refine g_noA ?_
  refine g_noA ?_
  refine g_noA ?_
  first | refine g_pkt ?_ | refine g_pkf ?_
  refine g_nil <| g_qt ?_
  refine g_ift rfl ?_
  refine g_seq <| g_region ?_
  refine g_as ?_
  refine g_nil <| g_qt <| g_ret <| g_qt_ret ?_
  exact g_postA (rs := [.tmp 2]) rfl (.tmp rfl .nil) ⟨by unfold checkP; rw [if_pos (.inl (by omega))]; rfl, rfl⟩
 ·refine g_yesA ?_
  refine g_fa ?_
  refine g_yesA ?_
  refine g_ld ?_
  refine g_yesA ?_
  refine g_pure (p_len (by rfl) rfl) rfl ?_
  refine g_yesA ?_
  refine g_pure (p_gtr rfl rfl) rfl ?_
  first | refine g_pkt ?_ | refine g_pkf ?_
  refine g_nil <| g_qt ?_
  refine g_ifd rfl (fun h2 => ?_) (fun h2 => ?_)
  ·refine g_seq <| g_region ?_
   refine g_as ?_
   refine g_nil <| g_qt <| g_ret <| g_qt_ret ?_
   exact g_postA (rs := [.tmp 2]) rfl (.tmp rfl .nil) ⟨by unfold checkP; rw [if_pos (.inr (by omega))]; rfl, rfl⟩
  ·have p1 : ¬ (24 < im.1.length ∨ 96 < im.2.length) := by omega
   refine g_skip <| g_qt <| g_seq <| g_seq <| g_region ?_
   refine g_fa ?_
   refine g_ld ?_
   refine g_call (Hin := []) (Hr := ?hr7) (R := ?rr7) rfl rfl rfl ?hin7 ?hc7 ?hk7
   case hin7 => repeat' (first | exact Cover.nil | exact Take.here | apply Cover.cons | apply Take.there)
   case hc7 => intro ρ' hρ hR; exact anyI_ok ea ec im.1 (h.es.mono hρ) (by omega) _ #[] (fun n => decide (n < 1) || decide (16 < n)) (fun l hl ρ2 h2 => check1_ok l)
   rintro _ _ ⟨rfl, rfl⟩
   refine g_nil <| g_qt ?_
   refine g_if rfl (fun h3 => ?_) (fun h3 => ?_)
   ·refine g_seq <| g_region ?_
    refine g_as ?_
    refine g_nil <| g_qt <| g_ret <| g_qt_ret ?_
    exact g_postA (rs := [.tmp 2]) rfl (.tmp rfl .nil) ⟨by unfold checkP; rw [if_neg p1, if_pos h3]; rfl, rfl⟩
   ·refine g_skip <| g_qt <| g_seq <| g_seq <| g_region ?_
    refine g_fa ?_
    refine g_ld ?_
    refine g_pure (p_len (by rfl) rfl) rfl ?_
    refine g_pure (p_eql rfl rfl) rfl ?_
    refine g_nil <| g_qt ?_
    refine g_ifd rfl (fun h4 => ?_) (fun h4 => ?_)
    ·refine g_seq <| g_region ?_
     refine g_as ?_
     refine g_nil <| g_qt <| g_ret <| g_qt_ret ?_
     exact g_postA (rs := [.tmp 2]) rfl (.tmp rfl .nil) ⟨by unfold checkP; rw [if_neg p1, if_neg (by rw [h3]; decide), if_pos (by omega)]; rfl, rfl⟩
    ·have hres : checkP im = rtsE im 0 (im.2.length - 0) := by unfold checkP; rw [if_neg p1, if_neg (by rw [h3]; decide), if_neg (by omega)]; rfl
     rw [hres]
     refine g_skip <| g_qt <| g_seq <| g_seq <| g_region ?_
     refine g_fa ?_
     refine g_ld ?_
     refine g_pure (p_len (by rfl) rfl) rfl ?_
     refine g_mv ?_
     refine g_nil <| g_qt <| g_block ?_
     refine g_loop (fun k : Nat => [(1, .pointer (some ⟨b1, 0, none⟩)), (24, .int .i64 im.2.length), (25, .int .i64 k)])
      (fun _ => [Blk b1 (.cells [.slice ea im.1.length ec, .slice ra im.2.length rc].toArray 25 (0, 0))])
      (fun k => k ≤ im.2.length ∧ rtsE im 0 (im.2.length - 0) = rtsE im k (im.2.length - k)) (fun k => im.2.length - k) 0 ⟨Nat.zero_le _, rfl⟩ (by (repeat (first | exact trivial | refine ⟨by rfl, ?_⟩)); done) (by repeat' (first | exact Cover.nil | exact Take.here | apply Cover.cons | apply Take.there)) ?_
     rintro k ⟨hk, hk2⟩
     rw [hk2]
     refine g_seq <| g_region ?_
     refine g_pure (p_lss rfl rfl) rfl ?_
     refine g_nil <| g_qt <| g_seq ?_
     refine g_ifd rfl (fun q => ?_) (fun q => ?_)
     ·have hkl : k < im.2.length := by omega
      rw [rtsE_step im hkl] at hk2 ⊢
      refine g_skip <| g_qt <| g_seq <| g_block <| g_seq <| g_region ?_
      refine g_mv ?_
      refine g_as ?_
      refine g_nil <| g_qt <| g_seq <| g_region ?_
      first | refine g_pure (p_loadO (by rfl) rfl (by first | (apply Has.own; (repeat' (first | exact Take.here | apply Take.there)); done) | exact Has.ro (by assumption)) (by rfl)) rfl ?_ | refine g_pure (p_loadN (by rfl) rfl (by first | (apply Has.own; (repeat' (first | exact Take.here | apply Take.there)); done) | exact Has.ro (by assumption)) (by first | rfl | assumption)) rfl ?_
      refine g_mv ?_
      refine g_call (Hin := []) (Hr := ?hr8) (R := ?rr8) rfl rfl rfl ?hin8 ?hc8 ?hk8
      case hin8 => repeat' (first | exact Cover.nil | exact Take.here | apply Cover.cons | apply Take.there)
      case hc8 => intro ρ' hρ hR; exact one_ok (ec := ec) (rc := rc) (hO.mono hρ) (h.mono hρ) k hkl
      rintro _ _ ⟨rfl, rfl⟩
      refine g_as ?_
      refine g_nil <| g_qt <| g_seq <| g_region ?_
      refine g_mv ?_
      refine g_pure (p_neq rfl rfl) rfl ?_
      refine g_nil <| g_qt ?_
      generalize oneP im k = E0 at hk2 ⊢
      refine g_ifnd rfl (fun h5 => ?_) (fun h5 => ?_)
      ·refine g_seq <| g_region ?_
       refine g_mv ?_
       refine g_as ?_
       refine g_nil <| g_qt <| g_ret <| g_qb_ret <| g_qt_ret <| g_qn_ret <| g_qb_ret <| g_qt_ret ?_
       exact g_postA (rs := [.tmp 2]) rfl (.tmp rfl .nil) ⟨by rw [if_neg h5]; rfl, rfl⟩
      ·rw [if_pos (by omega)] at hk2 ⊢
       refine g_skip <| g_qb <| g_qt <| g_region ?_
       first | refine g_pure (p_addi rfl rfl (by omega)) rfl ?_ | refine g_pure (p_add rfl rfl) rfl ?_
       refine g_mv ?_
       refine g_nil <| g_qn ?_
       rw [← hk2]
       exact g_nextA (k + 1) ⟨hkl, hk2⟩ (by omega)
     ·have hke : k = im.2.length := by omega
      rw [show im.2.length - k = 0 by omega]
      refine g_exit <| g_qt_exit <| g_qn_exit <| g_qb_exit <| g_qt <| g_seq <| g_region ?_
      refine g_as ?_
      refine g_nil <| g_qt <| g_ret ?_
      exact g_postA (rs := [.tmp 2]) rfl (.tmp rfl .nil) ⟨rfl, rfl⟩
end Go.Proofs.YtcnfcoojmbjdlaaGreatDoor
/- Chapter 26: contracts of the library that write one row; strconv.AppendInt; slices.Sort and Compact over numbers. Conditions: what the library's table of powers holds. -/
namespace Go.Z
set_option maxRecDepth 8000
set_option linter.unusedVariables false
set_option linter.unusedSimpArgs false
set_option linter.unusedSectionVars false
open Go Go.Sort
theorem sat_blk {b : Nat} {o : Obj} {hp : Hp} (s : Sat [Blk b o] hp) : hp = one b o := by
 obtain ⟨h1, h2, e1, e2, _, e3⟩ := s
 have e1' : h1 = one b o := e1
 have e2' : h2 = fun _ => none := e2
 subst e1'; subst e2'
 rw [e3]; funext c; unfold join; cases one b o c <;> rfl
theorem one_self {b : Nat} {o : Obj} : one b o b = some o := by simp [one]
theorem blk_sat {b : Nat} {o : Obj} : Sat [Blk b o] (one b o) :=
 ⟨one b o, fun _ => none, rfl, rfl, fun b => .inr rfl, by funext c; unfold join; cases one b o c <;> rfl⟩
theorem put_zero {α : Type} [Inhabited α] (enc : α → Value) (d : List α) (cs : List Value) (h : d.length ≤ cs.length) : putCells enc 0 d.toArray cs.toArray = (d.map enc ++ cs.drop d.length).toArray := by
 apply Array.ext_getElem?
 intro k
 simp only [putCells, Array.getElem?_mapIdx, List.getElem?_toArray, List.size_toArray]
 by_cases hk : k < d.length
 ·rw [List.getElem?_append_left (by simpa using hk), List.getElem?_map, List.getElem?_eq_getElem hk, List.getElem?_eq_getElem (by omega : k < cs.length)]
  simp only [Option.map_some, Nat.zero_le, Nat.zero_add, true_and, hk, if_true, Nat.sub_zero]
  rw [getElem!_pos _ k (by simpa using hk)]
  try rfl
 ·rw [List.getElem?_append_right (by simp; omega), List.length_map, List.getElem?_drop, show d.length + (k - d.length) = k by omega]
  have hf : ¬ (0 ≤ k ∧ k < 0 + d.length) := by omega
  cases cs[k]? with
  | none => rfl
  | some v => simp only [Option.map_some, if_neg hf]
theorem ms_put {α : Type} [Inhabited α] (enc : α → Value) {ρ : Nat → Obj → Prop} {w : World} {b : Nat} {cs : Array Value} {T : TypeId} {fz : Nat × Nat} (hw : w.heap[b]? = some (.cells cs T fz)) (hr : ∀ b' o, ρ b' o → w.heap[b']? = some o ∧ one b (.cells cs T fz) b' = none) (d : Array α) (off k : Nat) (os : Array Obj) :
  Ms ⟨ρ, w, one b (.cells cs T fz)⟩ [Blk b (.cells (putCells enc off d cs) T fz)] (grow (putRow enc (w.drewN k) b off d) os) := by
 have hb := lt_of_heap hw
 have hh : (grow (putRow enc (w.drewN k) b off d) os).heap = (w.heap.modify b (onCells (putCells enc off d))) ++ os := rfl
 have hat : ∀ c, c < w.heap.size → (grow (putRow enc (w.drewN k) b off d) os).heap[c]? = if b = c then (w.heap[c]?).map (onCells (putCells enc off d)) else w.heap[c]? := fun c hc => by
  rw [hh, Array.getElem?_append_left (by simpa using hc), Array.getElem?_modify]
 refine ⟨rfl, rfl, rfl, ?_, fun c hc hn => ?_, fun c o ho => ?_, one b (.cells (putCells enc off d cs) T fz), blk_sat, fun c o ho => ?_, fun c hc => ?_, fun c o ho => ?_⟩
 ·rw [hh]; simp
 ·have : b ≠ c := fun e => by subst e; simp [one] at hn
  rw [hat c hc, if_neg this]
 ·have h1 := hr c o ho
  have : b ≠ c := fun e => by subst e; simp [one] at h1
  rw [hat c (lt_of_heap h1.1), if_neg this, h1.1]
 ·unfold one at ho
  split at ho
  ·rename_i e; subst e; cases ho
   rw [hat c hb, if_pos rfl, hw]; rfl
  ·cases ho
 ·refine .inl fun h => hc ?_
  have h' : one b (.cells cs T fz) c = none := h
  unfold one at h' ⊢
  split at h'
  ·cases h'
  ·rename_i e; rw [if_neg e]
 ·have h1 := (hr c o ho).2
  unfold one at h1 ⊢
  split at h1
  ·cases h1
  ·rename_i e; rw [if_neg e]
theorem holds_blk {α : Type} [Inhabited α] (enc : α → Value) {w : World} {b : Nat} {cs : List Value} {T : TypeId} (hw : w.heap[b]? = some (.cells cs.toArray T (0, 0))) (d : List α) (h : cs.take d.length = d.map enc) : Go.Sort.Holds enc w b 0 d.toArray := fun j hj => by
 have hj' : j < d.length := by simpa using hj
 refine ⟨?_, ?_⟩
 ·rw [Nat.zero_add, getElem!_pos _ j hj]
  have h1 : (cs.take d.length)[j]? = some (enc d[j]) := by rw [h, List.getElem?_map, List.getElem?_eq_getElem hj']; rfl
  rw [List.getElem?_take, if_pos hj'] at h1
  simp [World.cell?, hw, h1]
 ·simp [World.frozen?, hw]
end Go.Z
namespace Go.Proofs.YtcnfcoojmbjdlaaGreatDoor
set_option maxRecDepth 8000
set_option linter.unusedVariables false
set_option linter.unusedSimpArgs false
set_option linter.unusedSectionVars false
open Go Go.Z Go.Z.Asm Go.RowKit Go.Sort

/-- the library's table of powers -/
def TabK (ρ : Nat → Obj → Prop) : Prop := Knows ρ fun w => Lib.TabIs Tryz.prog w "internal/strconv.uint64pow10" .u64 Lib.pow10Tab

theorem small_ok {ρ : Nat → Obj → Prop} (i : Nat) (h : i < 100) : Con Tryz.prog ρ 128 #[.int .i64 i] [] (fun v H => v = .string (strB (Lib.decDigits i)) ∧ H = []) :=
 con_below Tryz.call128 fun w hw =>
  Calls.mono (show Calls Tryz.prog 128 #[.int .i64 i] w _ from Any.internal_strconv_small lays283 i h w) fun e w' ⟨e1, e2⟩ => ⟨_, e1, rfl, by subst e2; exact Below.refl _ _⟩
theorem ndig_ok {ρ : Nat → Obj → Prop} (hk : TabK ρ) (u : Nat) (h1 : 1 ≤ u) (h2 : u < 18446744073709551616) : Con Tryz.prog ρ 129 #[.int .u64 u] [] (fun v H => v = .int .i64 (Lib.nDigits u) ∧ H = []) :=
 con_below Tryz.call129 fun w hw =>
  Calls.mono (show Calls Tryz.prog 129 #[.int .u64 u] w _ from Any.internal_strconv_numDigits laysM284 u h1 h2 w (hk w hw)) fun e w' ⟨e1, e2⟩ => ⟨_, e1, rfl, by subst e2; exact Below.refl _ _⟩
theorem fmt_ok {ρ : Nat → Obj → Prop} (b u : Nat) (T : TypeId) (h2 : u < 18446744073709551616) (hnd : Lib.nDigits u ≤ 24) : Con Tryz.prog ρ 130 #[.slice (some ⟨b, 0, none⟩) (Lib.nDigits u) 24, .int .u64 u] [Blk b (.cells (List.replicate 24 (Value.int .u8 0)).toArray T (0, 0))]
  (fun v H => v = .tuple #[] ∧ H = [Blk b (.cells (Lib.byteCells (Lib.decDigits u) ++ List.replicate (24 - Lib.nDigits u) (Value.int .u8 0)).toArray T (0, 0))]) :=
 ⟨Tryz.call130, fun w hp sa su r => by
  have e := sat_blk sa
  subst e
  have hw := su b _ one_self
  have hH : Go.Sort.Holds (fun (b : UInt8) => Value.int .u8 (b.toNat : Int)) w b 0 (List.replicate (Lib.nDigits u) (0 : UInt8)).toArray := holds_blk _ hw _ (by rw [List.length_replicate, List.take_replicate, Nat.min_eq_left hnd, List.map_replicate]; rfl)
  have h := Any.internal_strconv_formatBase10 lays285 b 0 24 u (List.replicate (Lib.nDigits u) (0 : UInt8)).toArray w hH (by rw [List.size_toArray, List.length_replicate]; exact Lib.lt_pow_nDigits u) h2 (by rw [List.size_toArray, List.length_replicate]; omega)
  rw [List.size_toArray, List.length_replicate] at h
  refine Calls.mono (show Calls Tryz.prog 130 #[.slice (some ⟨b, 0, none⟩) (Lib.nDigits u) 24, .int .u64 u] w _ from h) fun e w' ⟨e1, n, v', dk, e2, hF⟩ => ⟨_, _, e1, ⟨rfl, rfl⟩, ?_⟩
  have hdk : dk.toList = Lib.decDigits u := by
   apply List.ext_getElem
   ·rw [Array.length_toList, hF.size, Lib.decDigits_length]
   ·intro j h1 h2
    rw [Lib.row_is_numeral hF j h2, getElem!_pos _ j (by simpa using h1)]
    rfl
  have hms := ms_put (fun (b : UInt8) => Value.int .u8 (b.toNat : Int)) hw r dk 0 n #[]
  have hput := put_zero (fun (b : UInt8) => Value.int .u8 (b.toNat : Int)) dk.toList (List.replicate 24 (Value.int .u8 0)) (by rw [hdk, Lib.decDigits_length, List.length_replicate]; exact hnd)
  rw [Array.toArray_toList] at hput
  rw [hput, grow_empty] at hms
  have ew : w' = putRow (fun (b : UInt8) => Value.int .u8 (b.toNat : Int)) (w.drewN n) b 0 dk := e2
  rw [ew]
  rw [hdk, Lib.decDigits_length, List.drop_replicate] at hms
  exact hms⟩

theorem slen (l : List UInt8) : (strB l).size = l.length := rfl
end Go.Proofs.YtcnfcoojmbjdlaaGreatDoor
/- Chapter 26: strconv.AppendInt at a row of the caller's; a line. Conditions: what the library's table of powers holds (TabK). -/
namespace Go.Z
set_option maxRecDepth 8000
set_option linter.unusedVariables false
set_option linter.unusedSimpArgs false
set_option linter.unusedSectionVars false
open Go
section
variable {P : Program} {M : Mx} {n : Nat} {L : Fr} {H H' : List Assn} {x y : Operand} {t ty tz : TypeId} {ps : String} {af : Array Edge} {gd : Option (Nat × Bool)} {dd : Option Tmp}
theorem p_sliceArr {k : IntKind} {j : Int} {b m e : Nat} {yt ye : Ty} [ht : TyC P t yt] (hd : yt.d = .array m e) [he : TyC P e ye] (h1 : ev L x = some (.pointer (some ⟨b, 0, none⟩))) (h2 : ev L y = some (.int k j)) (hj : 0 ≤ j ∧ j ≤ m) :
  Pur P M n L H ⟨dd, .slice t x none (some y) none, ty, ps, af, gd⟩ (.slice (some ⟨b, 0, none⟩) j.toNat m) := fun a w ha _ => by
 have e6 : (Addr.mk b 0 none).add 0 = ⟨b, 0, none⟩ := by unfold Addr.add; split <;> simp_all
 simp [execOp, Instr.sliceAt, Instr.slice, Instr.sliceBounds, Instr.sliceBound, Instr.sureAddr, asIntOf, ha.ev h1, ha.ev h2, ht.run_u, hd, hj, he.run_size, e6]
theorem slAt_blk {b : Nat} {cs : List Value} {T : TypeId} {fz : Nat × Nat} {m : Nat} {news : List Value} (tk : Take H (Blk b (.cells cs.toArray T fz)) H') (hn : news.length = m) (hc : cs.take m = news) : ∀ w, Ms M H w → SlAt w 1 (some ⟨b, 0, none⟩) m news := fun w hm => by
 refine ⟨by omega, fun _ => ⟨b, 0, cs, T, fz, rfl, hm.blk tk, fun j v hj => ?_⟩⟩
 rw [← hc, List.getElem?_take] at hj
 split at hj
 ·rw [Nat.zero_add]; exact hj
 ·cases hj
end
end Go.Z
namespace Go.Z.Asm
set_option maxRecDepth 8000
set_option linter.unusedVariables false
set_option linter.unusedSimpArgs false
set_option linter.unusedSectionVars false
open Go Go.Z Go.Lib
theorem bytes_app (a b : List UInt8) : byteCells (a ++ b) = byteCells a ++ byteCells b := by simp [byteCells]
theorem bytes_one (l : List UInt8) : one1 (byteCells l) = true := by simp [one1, byteCells, Value.oneCell']
theorem nd_le (u : Nat) (h : u < 18446744073709551616) : nDigits u ≤ 20 := by
 by_cases h1 : 1 ≤ u
 ·have := numDigits_eq u h1 h; split at this <;> omega
 ·have : u = 0 := by omega
  subst this; rw [nDigits_small (by omega)]; omega
theorem u64_pos {i : Int} (h0 : 0 ≤ i) (h : I64 i) : IntKind.u64.wrap i = ((i.toNat : Nat) : Int) := by
 obtain ⟨h1, h2⟩ := h
 show i % 18446744073709551616 = _
 omega
theorem u64_neg {i : Int} (h0 : i < 0) (h : I64 i) : IntKind.u64.wrap (0 - IntKind.u64.wrap i) = ((i.natAbs : Nat) : Int) := by
 obtain ⟨h1, h2⟩ := h
 show (0 - i % 18446744073709551616) % 18446744073709551616 = _
 omega
end Go.Z.Asm
namespace Go.Proofs.YtcnfcoojmbjdlaaGreatDoor
set_option maxRecDepth 8000
set_option linter.unusedVariables false
set_option linter.unusedSimpArgs false
set_option linter.unusedSectionVars false
open Go Go.Z Go.Z.Asm Go.RowKit Go.Lib

instance ty24 : TyC Tryz.prog 152 ⟨Go.TypeDesc.array 24 5, 24, (Go.Value.agg #[Go.Value.int Go.IntKind.u8 0, Go.Value.int Go.IntKind.u8 0, Go.Value.int Go.IntKind.u8 0, Go.Value.int Go.IntKind.u8 0, Go.Value.int Go.IntKind.u8 0, Go.Value.int Go.IntKind.u8 0, Go.Value.int Go.IntKind.u8 0, Go.Value.int Go.IntKind.u8 0, Go.Value.int Go.IntKind.u8 0, Go.Value.int Go.IntKind.u8 0, Go.Value.int Go.IntKind.u8 0, Go.Value.int Go.IntKind.u8 0, Go.Value.int Go.IntKind.u8 0, Go.Value.int Go.IntKind.u8 0, Go.Value.int Go.IntKind.u8 0, Go.Value.int Go.IntKind.u8 0, Go.Value.int Go.IntKind.u8 0, Go.Value.int Go.IntKind.u8 0, Go.Value.int Go.IntKind.u8 0, Go.Value.int Go.IntKind.u8 0, Go.Value.int Go.IntKind.u8 0, Go.Value.int Go.IntKind.u8 0, Go.Value.int Go.IntKind.u8 0, Go.Value.int Go.IntKind.u8 0]), 24⟩ := ⟨Tryz.underlying152, Tryz.t152, Tryz.type152, rfl, rfl, rfl⟩
theorem appu_ok {ρ : Nat → Obj → Prop} (hk : TabK ρ) (u : Nat) (hu : u < 18446744073709551616) (a : Option Addr) (cap : Nat) (l : List UInt8) (hb : l.length + 20 ≤ 140737488355328) :
  Con Tryz.prog ρ 117 #[.slice a l.length cap, .int .u64 u, .int .i64 10] [OwnSl 5 1 a l.length cap (byteCells l)] (fun v H => ∃ a2 c2, v = .slice a2 (l ++ decDigits u).length c2 ∧ H = [OwnSl 5 1 a2 (l ++ decDigits u).length c2 (byteCells (l ++ decDigits u))]) := by
 have hnd := nd_le u hu
 have hdl := decDigits_length u
 have hlen : (l ++ decDigits u).length = l.length + nDigits u := by rw [List.length_append, hdl]
 refine con_intro Tryz.func117 Tryz.call117 rfl Tryz.ntmps117 rfl (L := [(0, _), (1, _), (2, _)]) rfl fun w hh => ?_
 refine g_seq <| g_region ?_
 refine g_as ?_
 refine g_nil <| g_qt <| g_seq <| g_seq <| g_region ?_
 refine g_mv ?_
 refine g_pure (p_eql rfl rfl) rfl ?_
 refine g_nil <| g_qt ?_
 refine g_ift rfl ?_
 refine g_seq <| g_seq <| g_region ?_
 refine g_mv ?_
 refine g_pure (p_lss rfl rfl) rfl ?_
 refine g_nil <| g_qt ?_
 refine g_ifd rfl (fun h1 => ?_) (fun h1 => ?_)
 ·have hs : (strB (decDigits u)).size = nDigits u := hdl
  refine g_seq <| g_region ?_
  refine g_mv ?_
  refine g_mv ?_
  refine g_pure (p_convi (by rfl) rfl (by omega)) rfl ?_
  refine g_call (Hin := []) (Hr := ?hr1) (R := ?rr1) rfl rfl rfl ?hin1 ?hc1 ?hk1
  case hin1 => repeat' (first | exact Cover.nil | exact Take.here | apply Cover.cons | apply Take.there)
  case hc1 => intro ρ' hρ hR; exact small_ok u (by omega)
  rintro _ _ ⟨rfl, rfl⟩
  refine g_eff (e_appStr (by rfl) (by rfl) (by rfl) (by rfl) rfl rfl (by repeat' (first | exact Take.here | apply Take.there)) (by rw [hs]; omega)) rfl (fun _ _ => ?_)
  rintro ⟨a17, c17, rfl, rfl⟩
  refine g_as ?_
  refine g_nil <| g_qt <| g_ret <| g_qt_ret <| g_qt_ret ?_
  rw [show byteCells l ++ strCells (strB (decDigits u)) = byteCells (l ++ decDigits u) from (bytes_app l _).symm, show l.length + (strB (decDigits u)).size = (l ++ decDigits u).length by rw [hs, hlen]]
  exact g_postA (rs := [.tmp 6]) rfl (.tmp rfl .nil) ⟨a17, c17, rfl, rfl⟩
 ·refine g_skip <| g_qt <| g_seq <| g_region ?_
  refine g_eff (e_alloc (by rfl)) rfl (fun _ _ => ?_)
  rintro ⟨b7, rfl, rfl⟩
  refine g_nil <| g_qt <| g_seq <| g_region ?_
  refine g_mv ?_
  refine g_call (Hin := []) (Hr := ?hr2) (R := ?rr2) rfl rfl rfl ?hin2 ?hc2 ?hk2
  case hin2 => repeat' (first | exact Cover.nil | exact Take.here | apply Cover.cons | apply Take.there)
  case hc2 => intro ρ' hρ hR; exact ndig_ok (hk.mono hρ) u (by omega) hu
  rintro _ _ ⟨rfl, rfl⟩
  refine g_as ?_
  refine g_nil <| g_qt <| g_seq <| g_region ?_
  refine g_mv ?_
  refine g_pure (p_sliceArr (he := ty5) (by rfl) rfl rfl (by omega)) rfl ?_
  refine g_mv ?_
  rw [Int.toNat_natCast]
  refine g_call (Hin := [Blk b7 (.cells (List.replicate 24 (Value.int .u8 0)).toArray 152 (0, 0))]) (Hr := ?hr3) (R := ?rr3) rfl rfl rfl ?hin3 ?hc3 ?hk3
  case hin3 => repeat' (first | exact Cover.nil | exact Take.here | apply Cover.cons | apply Take.there)
  case hc3 => intro ρ' hρ hR; exact fmt_ok b7 u 152 hu (by omega)
  rintro _ _ ⟨rfl, rfl⟩
  refine g_nil <| g_qt <| g_seq <| g_region ?_
  refine g_mv ?_
  refine g_mv ?_
  refine g_pure (p_sliceArr (he := ty5) (by rfl) rfl rfl (by omega)) rfl ?_
  refine g_eff (e_appendS (news := byteCells (decDigits u)) (by rfl) (by rfl) rfl rfl (slAt_blk (T := 152) (by repeat' (first | exact Take.here | apply Take.there)) (by rw [byteCells_length, hdl]; exact Int.toNat_natCast _) (by rw [Int.toNat_natCast, ← hdl, ← byteCells_length]; exact List.take_left)) (bytes_one _) (by repeat' (first | exact Take.here | apply Take.there)) (by rw [Int.toNat_natCast]; show (l.length + nDigits u) * 1 ≤ _; omega) (by rw [Int.toNat_natCast]; omega)) rfl (fun _ _ => ?_)
  rintro ⟨a27, c27, rfl, rfl⟩
  refine g_as ?_
  refine g_nil <| g_qt <| g_ret <| g_qt_ret ?_
  rw [Int.toNat_natCast, ← bytes_app, ← hlen]
  exact g_postA (rs := [.tmp 6]) rfl (.tmp rfl .nil) ⟨a27, c27, rfl, rfl⟩
end Go.Proofs.YtcnfcoojmbjdlaaGreatDoor
/- Chapter 26: strconv.AppendInt at a row of the caller's; a line. Conditions: what the library's table of powers holds (TabK). -/
namespace Go.Z.Asm
set_option maxRecDepth 8000
set_option linter.unusedVariables false
set_option linter.unusedSimpArgs false
set_option linter.unusedSectionVars false
open Go Go.Z Go.Lib
def lineC (c : List UInt8) (l : List Int) : List UInt8 := c ++ (l.map fun n => 32 :: itoa n).flatten
theorem line_eq (c w : List UInt8) (l : List Int) : c ++ lineP w l = lineC (c ++ w) l ++ [10] := by unfold lineP lineC; simp
theorem lineC_step (c : List UInt8) (l : List Int) {k : Nat} (hk : k < l.length) : lineC c (l.take (k + 1)) = (lineC c (l.take k) ++ [32]) ++ itoa l[k] := by
 unfold lineC
 rw [List.take_add_one, List.getElem?_eq_getElem hk, Option.toList_some, List.map_append, List.flatten_append]; simp
theorem lineC_len (c : List UInt8) : ∀ l : List Int, (∀ x ∈ l, I64 x) → (lineC c l).length ≤ c.length + 22 * l.length
 | [], _ => by unfold lineC; simp
 | x :: l, h => by
  have h1 := lineC_len c l fun y hy => h y (List.mem_cons_of_mem _ hy)
  have h2 := itoa_length_le x (h x List.mem_cons_self).1 (h x List.mem_cons_self).2
  unfold lineC at h1 ⊢
  rw [List.length_append] at h1 ⊢
  rw [List.map_cons, List.flatten_cons, List.length_append, List.length_cons, List.length_cons]
  omega
end Go.Z.Asm
namespace Go.Proofs.YtcnfcoojmbjdlaaGreatDoor
set_option maxRecDepth 8000
set_option linter.unusedVariables false
set_option linter.unusedSimpArgs false
set_option linter.unusedSectionVars false
open Go Go.Z Go.Z.Asm Go.RowKit Go.Lib

theorem appi_ok {ρ : Nat → Obj → Prop} (hk : TabK ρ) (i : Int) (hi : I64 i) (a : Option Addr) (cap : Nat) (l : List UInt8) (hb : l.length + 21 ≤ 140737488355328) :
  Con Tryz.prog ρ 98 #[.slice a l.length cap, .int .i64 i, .int .i64 10] [OwnSl 5 1 a l.length cap (byteCells l)] (fun v H => ∃ a2 c2, v = .slice a2 (l ++ itoa i).length c2 ∧ H = [OwnSl 5 1 a2 (l ++ itoa i).length c2 (byteCells (l ++ itoa i))]) := by
 obtain ⟨hi1, hi2⟩ := id hi
 refine con_intro Tryz.func98 Tryz.call98 rfl Tryz.ntmps98 rfl (L := [(0, _), (1, _), (2, _)]) rfl fun w hh => ?_
 refine g_seq <| g_region ?_
 refine g_as ?_
 refine g_nil <| g_qt <| g_seq <| g_region ?_
 refine g_mv ?_
 refine g_pure (p_conv (by rfl) rfl) rfl ?_
 refine g_as ?_
 refine g_nil <| g_qt <| g_seq <| g_seq <| g_region ?_
 refine g_mv ?_
 refine g_pure (p_lss rfl rfl) rfl ?_
 refine g_nil <| g_qt ?_
 refine g_ifd rfl (fun h1 => ?_) (fun h1 => ?_)
 ·have e : l ++ itoa i = (l ++ [45]) ++ decDigits i.natAbs := by unfold itoa; rw [if_pos h1]; simp
  rw [e]
  refine g_seq <| g_region ?_
  refine g_mv ?_
  refine g_eff (e_bs (xs := [.const (.int .u8 45)]) rfl rfl rfl (by rfl) (by rfl) rfl (by rfl)) rfl (fun _ _ => ?_)
  rintro ⟨b13, rfl, rfl⟩
  refine g_eff (e_appendO (by rfl) (by rfl) rfl rfl (by first | (apply Has.own; (repeat' (first | exact Take.here | apply Take.there)); done) | exact Has.ro (by assumption)) (by rfl) (by rfl) (by repeat' (first | exact Take.here | apply Take.there)) (by omega) (by first | omega | (dsimp only; omega) | (simp <;> omega)) (by omega)) rfl (fun _ _ => ?_)
  rintro ⟨a14, c14, rfl, rfl⟩
  refine g_as ?_
  refine g_nil <| g_qt <| g_region ?_
  refine g_mv ?_
  first | refine g_pure (p_negi rfl (by omega)) rfl ?_ | refine g_pure (p_neg rfl) rfl ?_
  refine g_as ?_
  refine g_nil <| g_qt <| g_seq <| g_region ?_
  refine g_mv ?_
  refine g_mv ?_
  refine g_mv ?_
  rw [u64_neg h1 hi, show byteCells l ++ [Value.int IntKind.u8 45] = byteCells (l ++ [45]) from (bytes_app l [45]).symm, show l.length + 1 = (l ++ [45]).length by simp]
  refine g_call (Hin := ?hi1) (Hr := ?hr1) (R := ?rr1) rfl rfl rfl ?hin1 ?hc1 ?hk1
  case hc1 => intro ρ' hρ hR; exact appu_ok (hk.mono hρ) i.natAbs (by omega) _ _ (l ++ [45]) (by simp; omega)
  case hin1 => repeat' (first | exact Cover.nil | exact Take.here | apply Cover.cons | apply Take.there)
  rintro _ _ ⟨a20, c20, rfl, rfl⟩
  refine g_as ?_
  refine g_nil <| g_qt <| g_ret ?_
  exact g_postA (rs := [.tmp 6]) rfl (.tmp rfl .nil) ⟨a20, c20, rfl, rfl⟩
 ·have e : l ++ itoa i = l ++ decDigits i.toNat := by unfold itoa; rw [if_neg h1]
  rw [e]
  refine g_skip <| g_qt <| g_seq <| g_region ?_
  refine g_mv ?_
  refine g_mv ?_
  refine g_mv ?_
  rw [u64_pos (by omega) hi]
  refine g_call (Hin := ?hi2) (Hr := ?hr2) (R := ?rr2) rfl rfl rfl ?hin2 ?hc2 ?hk2
  case hc2 => intro ρ' hρ hR; exact appu_ok (hk.mono hρ) i.toNat (by omega) _ _ l (by omega)
  case hin2 => repeat' (first | exact Cover.nil | exact Take.here | apply Cover.cons | apply Take.there)
  rintro _ _ ⟨a20, c20, rfl, rfl⟩
  refine g_as ?_
  refine g_nil <| g_qt <| g_ret ?_
  exact g_postA (rs := [.tmp 6]) rfl (.tmp rfl .nil) ⟨a20, c20, rfl, rfl⟩
theorem appI_ok {ρ : Nat → Obj → Prop} (hk : TabK ρ) (i : Int) (hi : I64 i) (a : Option Addr) (cap : Nat) (l : List UInt8) (hb : l.length + 21 ≤ 140737488355328) :
  Con Tryz.prog ρ 70 #[.slice a l.length cap, .int .i64 i, .int .i64 10] [OwnSl 5 1 a l.length cap (byteCells l)] (fun v H => ∃ a2 c2, v = .slice a2 (l ++ itoa i).length c2 ∧ H = [OwnSl 5 1 a2 (l ++ itoa i).length c2 (byteCells (l ++ itoa i))]) := by
 refine con_intro Tryz.func70 Tryz.call70 rfl Tryz.ntmps70 rfl (L := [(0, _), (1, _), (2, _)]) rfl fun w hh => ?_
 refine g_seq <| g_region ?_
 refine g_as ?_
 refine g_nil <| g_qt <| g_seq <| g_region ?_
 refine g_mv ?_
 refine g_mv ?_
 refine g_mv ?_
 refine g_call (Hin := ?hi3) (Hr := ?hr3) (R := ?rr3) rfl rfl rfl ?hin3 ?hc3 ?hk3
 case hc3 => intro ρ' hρ hR; exact appi_ok (hk.mono hρ) i hi _ _ l hb
 case hin3 => repeat' (first | exact Cover.nil | exact Take.here | apply Cover.cons | apply Take.there)
 rintro _ _ ⟨a20, c20, rfl, rfl⟩
 refine g_as ?_
 refine g_nil <| g_qt <| g_ret ?_
 exact g_postA (rs := [.tmp 6]) rfl (.tmp rfl .nil) ⟨a20, c20, rfl, rfl⟩

theorem line_ok {ρ : Nat → Obj → Prop} (hk : TabK ρ) (a : Option Addr) (cap : Nat) (c wd : List UInt8) (la : Option Addr) (lc : Nat) (l : List Int) (hl : RSl ρ 1 la l.length (l.map encI)) (hi : ∀ x ∈ l, I64 x) (hb : c.length + wd.length + 22 * l.length + 1 ≤ 140737488355328) :
  Con Tryz.prog ρ 42 #[.slice a c.length cap, .string (strB wd), .slice la l.length lc] [OwnSl 5 1 a c.length cap (byteCells c)] (fun v H => ∃ a2 c2, v = .slice a2 (c ++ lineP wd l).length c2 ∧ H = [OwnSl 5 1 a2 (c ++ lineP wd l).length c2 (byteCells (c ++ lineP wd l))]) := by
 obtain ⟨_, b, off, cs, T, fz, hr⟩ := hl
 have hs : (strB wd).size = wd.length := rfl
 have hcw : (c ++ wd).length = c.length + wd.length := List.length_append
 rw [line_eq]
 refine con_intro Tryz.func42 Tryz.call42 rfl Tryz.ntmps42 rfl (L := [(0, _), (1, _), (2, _)]) rfl fun w hh => ?_
 refine g_seq <| g_region ?_
 refine g_as ?_
 refine g_nil <| g_qt <| g_seq <| g_region ?_
 refine g_mv ?_
 refine g_mv ?_
 refine g_eff (e_appStr (by rfl) (by rfl) (by rfl) (by rfl) rfl rfl (by repeat' (first | exact Take.here | apply Take.there)) (by rw [hs]; omega)) rfl (fun _ _ => ?_)
 rintro ⟨a11, c11, rfl, rfl⟩
 refine g_as ?_
 refine g_nil <| g_qt <| g_seq <| g_seq <| g_region ?_
 refine g_mv ?_
 refine g_pure (p_len (by rfl) rfl) rfl ?_
 refine g_mv ?_
 refine g_nil <| g_qt <| g_block ?_
 rw [show byteCells c ++ strCells (strB wd) = byteCells (lineC (c ++ wd) (l.take 0)) by rw [show lineC (c ++ wd) (l.take 0) = c ++ wd by simp [lineC]]; exact (bytes_app c wd).symm, show c.length + (strB wd).size = (lineC (c ++ wd) (l.take 0)).length by rw [show lineC (c ++ wd) (l.take 0) = c ++ wd by simp [lineC]]; exact hcw.symm]
 refine g_loop (fun q : Nat × Option Addr × Nat => [(0, .slice q.2.1 (lineC (c ++ wd) (l.take q.1)).length q.2.2), (12, .slice la l.length lc), (13, .int .i64 l.length), (14, .int .i64 q.1)])
  (fun q => [OwnSl 5 1 q.2.1 (lineC (c ++ wd) (l.take q.1)).length q.2.2 (byteCells (lineC (c ++ wd) (l.take q.1)))]) (fun q => q.1 ≤ l.length) (fun q => l.length - q.1) (0, a11, c11) (Nat.zero_le _) (by (repeat (first | exact trivial | refine ⟨by rfl, ?_⟩)); done) (by repeat' (first | exact Cover.nil | exact Take.here | apply Cover.cons | apply Take.there)) ?_
 rintro ⟨k, oa, oc⟩ hk1
 dsimp only at hk1 ⊢
 have hlen := lineC_len (c ++ wd) (l.take k) fun x hx => hi x (List.mem_of_mem_take hx)
 have htk : (l.take k).length ≤ k := List.length_take_le ..
 refine g_seq <| g_region ?_
 refine g_pure (p_lss rfl rfl) rfl ?_
 refine g_nil <| g_qt <| g_seq ?_
 refine g_ifd rfl (fun q => ?_) (fun q => ?_)
 ·have hkl : k < l.length := by omega
  have hst := lineC_step (c ++ wd) l hkl
  have hx : (l.map encI)[k]? = some (.int .i64 l[k]) := mapI _ hkl
  generalize lineC (c ++ wd) (l.take k) = d at hst hlen ⊢
  rw [hcw] at hlen
  refine g_skip <| g_qt <| g_seq <| g_block <| g_seq <| g_region ?_
  refine g_pure (p_indexAddr rfl rfl (by omega) (fun _ => (hr (by omega)).1)) rfl ?_
  refine g_pure (p_load (v := .int .i64 l[k]) (by rfl) rfl (Has.ro (hr (by omega)).2.1) (by simpa using (hr (by omega)).2.2 k _ hx)) rfl ?_
  refine g_as ?_
  refine g_nil <| g_qt <| g_region ?_
  refine g_mv ?_
  refine g_eff (e_bs (xs := [.const (.int .u8 32)]) rfl rfl rfl (by rfl) (by rfl) rfl (by rfl)) rfl (fun _ _ => ?_)
  rintro ⟨b19, rfl, rfl⟩
  refine g_eff (e_appendO (by rfl) (by rfl) rfl rfl (by first | (apply Has.own; (repeat' (first | exact Take.here | apply Take.there)); done) | exact Has.ro (by assumption)) (by rfl) (by rfl) (by repeat' (first | exact Take.here | apply Take.there)) (by omega) (by first | omega | (dsimp only; omega) | (simp <;> omega)) (by omega)) rfl (fun _ _ => ?_)
  rintro ⟨a20, c20, rfl, rfl⟩
  refine g_mv ?_
  rw [show byteCells d ++ [Value.int IntKind.u8 32] = byteCells (d ++ [32]) from (bytes_app d [32]).symm, show d.length + 1 = (d ++ [32]).length by simp]
  refine g_call (Hin := ?hi4) (Hr := ?hr4) (R := ?rr4) rfl rfl rfl ?hin4 ?hc4 ?hk4
  case hc4 => intro ρ' hρ hR; exact appI_ok (hk.mono hρ) l[k] (hi _ (List.getElem_mem hkl)) _ _ (d ++ [32]) (by simp; omega)
  case hin4 => repeat' (first | exact Cover.nil | exact Take.here | apply Cover.cons | apply Take.there)
  rintro _ _ ⟨a22, c22, rfl, rfl⟩
  refine g_as ?_
  refine g_nil <| g_qb <| g_qt <| g_region ?_
  first | refine g_pure (p_addi rfl rfl (by omega)) rfl ?_ | refine g_pure (p_add rfl rfl) rfl ?_
  refine g_mv ?_
  refine g_nil <| g_qn ?_
  rw [← hst]
  exact g_nextA (k + 1, a22, c22) hkl (by dsimp only; omega)
 ·have hke : k = l.length := by omega
  subst hke
  rw [List.take_length] at hlen ⊢
  generalize lineC (c ++ wd) l = d at hlen ⊢
  rw [hcw] at hlen
  refine g_exit <| g_qt_exit <| g_qn_exit <| g_qb_exit <| g_qt <| g_seq <| g_region ?_
  refine g_mv ?_
  refine g_eff (e_bs (xs := [.const (.int .u8 10)]) rfl rfl rfl (by rfl) (by rfl) rfl (by rfl)) rfl (fun _ _ => ?_)
  rintro ⟨b25, rfl, rfl⟩
  refine g_eff (e_appendO (by rfl) (by rfl) rfl rfl (by first | (apply Has.own; (repeat' (first | exact Take.here | apply Take.there)); done) | exact Has.ro (by assumption)) (by rfl) (by rfl) (by repeat' (first | exact Take.here | apply Take.there)) (by omega) (by first | omega | (dsimp only; omega) | (simp <;> omega)) (by omega)) rfl (fun _ _ => ?_)
  rintro ⟨a26, c26, rfl, rfl⟩
  refine g_as ?_
  refine g_nil <| g_qt <| g_ret ?_
  rw [show byteCells d ++ [Value.int IntKind.u8 10] = byteCells (d ++ [10]) from (bytes_app d [10]).symm, show d.length + 1 = (d ++ [10]).length by simp]
  exact g_postA (rs := [.tmp 6]) rfl (.tmp rfl .nil) ⟨a26, c26, rfl, rfl⟩
end Go.Proofs.YtcnfcoojmbjdlaaGreatDoor
/- Chapter 26, plain: what an accepted image is like; lengths of texts. Conditions: none. -/
namespace Go.Z.Asm
set_option maxRecDepth 8000
set_option linter.unusedVariables false
set_option linter.unusedSimpArgs false
set_option linter.unusedSectionVars false
open Go Go.Z Go.Lib
theorem rtsE_zero (im : Im) : ∀ (m k : Nat), rtsE im k m = 0 → ∀ j, k ≤ j → j < k + m → oneP im j = 0
 | 0, k, _, j, h1, h2 => by omega
 | m + 1, k, h, j, h1, h2 => by
  unfold rtsE at h
  by_cases h0 : oneP im k = 0
  ·rw [if_pos h0] at h
   by_cases hj : j = k
   ·subst hj; exact h0
   ·exact rtsE_zero im m (k + 1) h j (by omega) (by omega)
  ·rw [if_neg h0] at h; exact absurd h h0
structure RtGood (im : Im) (k : Nat) (r : Rt) : Prop where
 tl : titleP r.1 = true
 il : r.2.1.length ≤ 64
 ol : r.2.2.1.length ≤ 64
 zl : r.2.2.2.2.1.length ≤ 16384
 cl : r.2.2.2.2.2.length ≤ 32768
 rl : r.2.2.2.1 ≤ 32768
 io : (r.2.1.length : Int) + r.2.2.1.length ≤ r.2.2.2.1
 ty : (r.2.1 ++ r.2.2.1).any (fun t => !decide (validP im.1 t)) = false
 zi : r.2.2.2.2.1.any outB = false
 co : codeE im.2 k r.2.2.2.2.2.length 0 r.2.2.2.2.2 = 0
theorem oneR_zero {im : Im} {k : Nat} {r : Rt} (h : oneR im k r = 0) : RtGood im k r := by
 unfold oneR at h
 by_cases h1 : titleP r.1 = true
 ·rw [if_neg (fun h => h h1)] at h
  by_cases h2 : (64 < max r.2.1.length r.2.2.1.length ∨ 16384 < r.2.2.2.2.1.length) ∨ 32768 < max (r.2.2.2.2.2.length : Int) r.2.2.2.1
  ·rw [if_pos h2] at h; omega
  ·rw [if_neg h2] at h
   cases h3 : (r.2.1 ++ r.2.2.1).any (fun t => !decide (validP im.1 t))
   ·rw [h3, if_neg (by decide)] at h
    by_cases h4 : r.2.2.2.1 < (r.2.1.length : Int) + r.2.2.1.length
    ·rw [if_pos h4] at h; omega
    ·rw [if_neg h4] at h
     cases h5 : r.2.2.2.2.1.any outB
     ·rw [h5, if_neg (by decide)] at h
      exact ⟨h1, by omega, by omega, by omega, by omega, by omega, by omega, h3, h5, h⟩
     ·rw [h5, if_pos rfl] at h; omega
   ·rw [h3, if_pos rfl] at h; omega
 ·rw [if_pos h1] at h; omega
theorem checkP_zero {im : Im} (h : checkP im = 0) : im.1.length ≤ 24 ∧ im.2.length ≤ 96 ∧ 0 < im.2.length ∧ ∀ k (hk : k < im.2.length), RtGood im k im.2[k] := by
 unfold checkP at h
 by_cases h1 : 24 < im.1.length ∨ 96 < im.2.length
 ·rw [if_pos h1] at h; omega
 ·rw [if_neg h1] at h
  split at h
  ·omega
  ·split at h
   ·omega
   ·refine ⟨by omega, by omega, by omega, fun k hk => oneR_zero ?_⟩
    rw [← oneR_eq im k hk]
    exact rtsE_zero im _ 0 h k (Nat.zero_le _) (by omega)
theorem codeE_zero (rts : List Rt) (k : Nat) (len : Int) : ∀ (l : List Ins) (j : Nat), codeE rts k len j l = 0 → ∀ i (hi : i < l.length), formP len ((j + i : Nat) : Int) l[i] = true ∧ rangesP rts k l[i] = true
 | x :: l, j, h, i, hi => by
  unfold codeE at h
  cases h1 : formP len j x
  ·rw [h1] at h; simp at h
  ·rw [h1, if_pos rfl] at h
   cases h2 : rangesP rts k x
   ·rw [h2] at h; simp at h
   ·rw [h2, if_pos rfl] at h
    match i, hi with
    | 0, _ => exact ⟨h1, h2⟩
    | i + 1, hi =>
     have := codeE_zero rts k len l (j + 1) h i (by simpa using hi)
     rw [show j + 1 + i = j + (i + 1) by omega] at this
     exact this
theorem lineP_len (w : List UInt8) (l : List Int) (h : ∀ x ∈ l, I64 x) : (lineP w l).length ≤ w.length + 22 * l.length + 1 := by
 have h1 := lineC_len w l h
 have h2 := line_eq [] w l
 rw [List.nil_append, List.nil_append] at h2
 rw [h2, List.length_append, List.length_singleton]
 omega
theorem word_len (op : Int) : (opRow op).1.length ≤ 5 := by
 by_cases h : knownP op
 ·rcases op_cases h with rfl | rfl | rfl | rfl | rfl | rfl | rfl | rfl | rfl | rfl <;> decide
 ·unfold opRow; rw [if_neg h]; decide
theorem used_fields {i : Ins} {x : Int} (h : x ∈ usedP i) : x = i.2.1 ∨ x = i.2.2.1 ∨ x = i.2.2.2.1 ∨ x = i.2.2.2.2 := by
 unfold usedP at h
 rw [List.mem_map] at h
 obtain ⟨⟨a, b⟩, h1, rfl⟩ := h
 have h2 := (List.of_mem_zip (List.mem_filter.1 h1).1).2
 simpa [fieldsV] using h2
theorem used_len (i : Ins) : (usedP i).length ≤ 4 := by
 unfold usedP
 rw [List.length_map]
 exact Nat.le_trans (List.length_filter_le ..) (by rw [List.length_zip]; exact Nat.min_le_right ..)
theorem insT_len {i : Ins} (h : I64 i.2.1 ∧ I64 i.2.2.1 ∧ I64 i.2.2.2.1 ∧ I64 i.2.2.2.2) : (insT i).length ≤ 94 := by
 have h1 := lineP_len (opRow i.1).1 (usedP i) fun x hx => by
  rcases used_fields hx with rfl | rfl | rfl | rfl
  ·exact h.1
  ·exact h.2.1
  ·exact h.2.2.1
  ·exact h.2.2.2
 have h2 := word_len i.1
 have h3 := used_len i
 unfold insT
 omega
theorem strB_app (a b : List UInt8) : strB (a ++ b) = strB a ++ strB b := by
 unfold strB
 apply ByteArray.ext
 simp
theorem flat_step {α : Type} (f : α → List UInt8) (l : List α) {k : Nat} (hk : k < l.length) : ((l.take (k + 1)).map f).flatten = ((l.take k).map f).flatten ++ f l[k] := by
 rw [List.take_add_one, List.getElem?_eq_getElem hk, Option.toList_some, List.map_append, List.flatten_append]; simp
theorem rsl_nil {ρ : Nat → Obj → Prop} {size : Nat} : RSl ρ size none 0 [] := ⟨by simp, 0, 0, [], 0, (0, 0), fun h => absurd h (Nat.lt_irrefl 0)⟩
def headT (r : Rt) : List UInt8 :=
 lineP ([114, 111, 117, 116, 105, 110, 101, 32] ++ r.1) [] ++ lineP [105, 110] r.2.1 ++ lineP [111, 117, 116] r.2.2.1 ++ lineP [114, 101, 103, 115] [r.2.2.2.1] ++ lineP [105, 110, 105, 116] r.2.2.2.2.1
theorem rtT_eq (r : Rt) : rtT r = headT r ++ (r.2.2.2.2.2.map insT).flatten ++ lineP [101, 110, 100] [] := rfl
end Go.Z.Asm
/- Chapter 26: the text of an image. Conditions: what the table of operations (OpsK) and the library's table of powers (TabK) hold. -/
namespace Go.Z
set_option maxRecDepth 8000
set_option linter.unusedVariables false
set_option linter.unusedSimpArgs false
set_option linter.unusedSectionVars false
theorem own_bytes {e : TypeId} {a : Option Addr} {k cap : Nat} {xs : List Value} (h0 : 0 < k) : ∀ h, OwnSl e 1 a k cap xs h → OwnB e a k cap xs h := fun h ⟨h1, h2⟩ => by
 rcases h2 with ⟨_, h3, _⟩ | ⟨g, cur, r1, r2, r3, r4, r5, r6⟩
 ·omega
 ·exact ⟨by omega, g, cur, (0, 0), r1, r2, r3, by omega, by rw [← r5, Nat.mul_one], .inl rfl, r6⟩
end Go.Z
namespace Go.Z.Asm
set_option maxRecDepth 8000
set_option linter.unusedVariables false
set_option linter.unusedSimpArgs false
set_option linter.unusedSectionVars false
open Go Go.Z Go.Lib
def usedT (i : Ins) (n : Nat) : List Int := (((pairs i).take n).filter fun p => decide (p.1 ≠ 0)).map (·.2)
theorem usedT_step (i : Ins) {n kd : Nat} {x : Int} (hn : n < 4) (h : (pairs i)[n]'(by rw [pairs_len]; exact hn) = (kd, x)) : usedT i (n + 1) = if kd = 0 then usedT i n else usedT i n ++ [x] := by
 unfold usedT
 rw [List.take_add_one, List.getElem?_eq_getElem (by rw [pairs_len]; exact hn), h, Option.toList_some, List.filter_append, List.map_append]
 by_cases h0 : kd = 0
 ·rw [if_pos h0]; simp [h0]
 ·rw [if_neg h0]; simp [h0]
theorem usedT_all (i : Ins) : usedT i 4 = usedP i := by
 unfold usedT
 rw [List.take_of_length_le (by rw [pairs_len]; omega)]; rfl
theorem usedT_len (i : Ins) (n : Nat) (h : n ≤ 4) : (usedT i n).length ≤ n := by
 unfold usedT
 rw [List.length_map]
 exact Nat.le_trans (List.length_filter_le ..) (List.length_take_le ..)
end Go.Z.Asm
namespace Go.Proofs.YtcnfcoojmbjdlaaGreatDoor
set_option maxRecDepth 8000
set_option linter.unusedVariables false
set_option linter.unusedSimpArgs false
set_option linter.unusedSectionVars false
open Go Go.Z Go.Z.Asm Go.RowKit Go.Lib

theorem textA_ok {ρ : Nat → Obj → Prop} (hO : OpsK ρ) (hk : TabK ρ) {ea ra : Option Addr} {ec rc : Nat} {im : Im} (h : ImI ρ ea ra im) :
  Con Tryz.prog ρ 23 #[.agg #[.slice ea im.1.length ec, .slice ra im.2.length rc]] [] (fun v H => v = .tuple #[.string (strB (if checkP im = 0 then textP im else [])), .int .i64 (checkP im)] ∧ H = []) := by
 have hrl := h.rl
 have hel := h.el
 refine con_intro Tryz.func23 Tryz.call23 rfl Tryz.ntmps23 rfl (L := [(0, _)]) rfl fun w hh => ?_
 refine g_seq <| g_region ?_
 refine g_eff (e_box rfl (by rfl)) rfl (fun _ _ => ?_)
 rintro ⟨b1, rfl, rfl⟩
 refine g_as ?_
 refine g_as ?_
 refine g_nil <| g_qt <| g_seq <| g_seq <| g_region ?_
 first | refine g_pure (p_loadO (by rfl) rfl (by first | (apply Has.own; (repeat' (first | exact Take.here | apply Take.there)); done) | exact Has.ro (by assumption)) (by rfl)) rfl ?_ | refine g_pure (p_loadN (by rfl) rfl (by first | (apply Has.own; (repeat' (first | exact Take.here | apply Take.there)); done) | exact Has.ro (by assumption)) (by first | rfl | assumption)) rfl ?_
 refine g_call (Hin := []) (Hr := ?hr1) (R := ?rr1) rfl rfl rfl ?hin1 ?hc1 ?hk1
 case hin1 => repeat' (first | exact Cover.nil | exact Take.here | apply Cover.cons | apply Take.there)
 case hc1 => intro ρ' hρ hR; exact checkA_ok (ec := ec) (rc := rc) (hO.mono hρ) (h.mono hρ)
 rintro _ _ ⟨rfl, rfl⟩
 refine g_as ?_
 refine g_nil <| g_qt <| g_seq <| g_region ?_
 refine g_mv ?_
 refine g_pure (p_neq rfl rfl) rfl ?_
 refine g_nil <| g_qt ?_
 generalize hE : checkP im = E
 refine g_ifnd rfl (fun h1 => ?_) (fun h1 => ?_)
 ·refine g_seq <| g_region ?_
  refine g_mv ?_
  refine g_as ?_
  refine g_as ?_
  refine g_nil <| g_qt <| g_ret <| g_qt_ret ?_
  exact g_postA (rs := [.tmp 2, .tmp 3]) rfl (.tmp rfl (.tmp rfl .nil)) ⟨by rw [if_neg h1]; rfl, rfl⟩
 ·have h1' : E = 0 := by omega
  subst h1'
  obtain ⟨g1, g2, g3, g4⟩ := checkP_zero hE
  rw [if_pos rfl]
  have hee := lineP_len [101, 110, 117, 109, 115] im.1 h.ei
  refine g_skip <| g_qt <| g_seq <| g_region ?_
  refine g_fa ?_
  refine g_ld ?_
  refine g_ownnil (e := 5) (size := 1) ?_
  refine g_call (Hin := [OwnSl 5 1 none ([] : List UInt8).length 0 (byteCells [])]) (Hr := ?hr2) (R := ?rr2) rfl rfl rfl ?hin2 ?hc2 ?hk2
  case hin2 => repeat' (first | exact Cover.nil | exact Take.here | apply Cover.cons | apply Take.there)
  case hc2 => intro ρ' hρ hR; exact line_ok (hk.mono hρ) none 0 [] [101, 110, 117, 109, 115] ea ec im.1 (h.es.mono hρ) h.ei (by simp; omega)
  rintro _ _ ⟨a22, c22, rfl, rfl⟩
  refine g_as ?_
  refine g_nil <| g_qt <| g_seq <| g_seq <| g_region ?_
  refine g_fa ?_
  refine g_ld ?_
  refine g_pure (p_len (by rfl) rfl) rfl ?_
  refine g_mv ?_
  refine g_nil <| g_qt <| g_block ?_
  rw [List.nil_append]
  have hCe : lineP [101, 110, 117, 109, 115] im.1 = lineP [101, 110, 117, 109, 115] im.1 ++ ((im.2.take 0).map rtT).flatten := by simp
  have hCl : (lineP [101, 110, 117, 109, 115] im.1 ++ ((im.2.take 0).map rtT).flatten).length ≤ 1000 + 0 * 5000000 := by rw [← hCe]; simp only [List.length_cons, List.length_nil] at hee; omega
  rw [hCe]
  refine g_loop (fun q : Nat × Option Addr × Nat => [(5, .slice q.2.1 (lineP [101, 110, 117, 109, 115] im.1 ++ ((im.2.take q.1).map rtT).flatten).length q.2.2), (24, .slice ra im.2.length rc), (25, .int .i64 im.2.length), (26, .int .i64 q.1)])
   (fun q => [OwnSl 5 1 q.2.1 (lineP [101, 110, 117, 109, 115] im.1 ++ ((im.2.take q.1).map rtT).flatten).length q.2.2 (byteCells (lineP [101, 110, 117, 109, 115] im.1 ++ ((im.2.take q.1).map rtT).flatten))])
   (fun q => q.1 ≤ im.2.length ∧ (lineP [101, 110, 117, 109, 115] im.1 ++ ((im.2.take q.1).map rtT).flatten).length ≤ 1000 + q.1 * 5000000) (fun q => im.2.length - q.1) (0, a22, c22) ⟨Nat.zero_le _, hCl⟩ (by (repeat (first | exact trivial | refine ⟨by rfl, ?_⟩)); done) (by repeat' (first | exact Cover.nil | exact Take.here | apply Cover.cons | apply Take.there)) ?_
  rintro ⟨k, oa, oc⟩ ⟨hk1, hk2⟩
  dsimp only at hk1 hk2 ⊢
  refine g_seq <| g_region ?_
  refine g_pure (p_lss rfl rfl) rfl ?_
  refine g_nil <| g_qt <| g_seq ?_
  refine g_ifd rfl (fun q => ?_) (fun q => ?_)
  ·have hkl : k < im.2.length := by omega
   have hst := flat_step rtT im.2 hkl
   obtain ⟨b, off, cs, T, fz, r1, r2, r3⟩ := h.rs (by omega)
   obtain ⟨row, q1, q2, q3⟩ := r3 k hkl
   have hok := h.ok im.2[k] (List.getElem_mem hkl)
   have hgd := g4 k hkl
   have hfin : lineP [101, 110, 117, 109, 115] im.1 ++ ((im.2.take (k + 1)).map rtT).flatten = (lineP [101, 110, 117, 109, 115] im.1 ++ ((im.2.take k).map rtT).flatten) ++ rtT im.2[k] := by rw [hst, List.append_assoc]
   generalize im.2[k] = x0 at q1 hok hgd hst hfin
   obtain ⟨ia, ic, oa', oc', na, nc, ca, cc, e0, hi, ho, hn, hc⟩ := q1
   subst e0
   have hil := hgd.il
   have hol := hgd.ol
   have hzl := hgd.zl
   have hcl := hgd.cl
   have htl : x0.1.length ≤ 40 := by
    have := hgd.tl
    unfold titleP at this
    simp only [Bool.and_eq_true, decide_eq_true_eq] at this
    exact this.2.1
   obtain ⟨bc, oc2, cs2, T2, fz2, hcr⟩ := RSl.row encIns_len hc
   generalize lineP [101, 110, 117, 109, 115] im.1 ++ ((im.2.take k).map rtT).flatten = d at hk2 hfin ⊢
   obtain ⟨d1, e1⟩ : ∃ d1, d ++ lineP ([114, 111, 117, 116, 105, 110, 101, 32] ++ x0.1) [] = d1 := ⟨_, rfl⟩
   obtain ⟨d2, e2⟩ : ∃ d2, d1 ++ lineP [105, 110] x0.2.1 = d2 := ⟨_, rfl⟩
   obtain ⟨d3, e3⟩ : ∃ d3, d2 ++ lineP [111, 117, 116] x0.2.2.1 = d3 := ⟨_, rfl⟩
   obtain ⟨d4, e4⟩ : ∃ d4, d3 ++ lineP [114, 101, 103, 115] [x0.2.2.2.1] = d4 := ⟨_, rfl⟩
   obtain ⟨d5, e5⟩ : ∃ d5, d4 ++ lineP [105, 110, 105, 116] x0.2.2.2.2.1 = d5 := ⟨_, rfl⟩
   have i1 : d1.length ≤ d.length + 49 := by
    have := lineP_len ([114, 111, 117, 116, 105, 110, 101, 32] ++ x0.1) [] (fun x hx => absurd hx List.not_mem_nil)
    rw [← e1, List.length_append]; simp only [List.length_append, List.length_cons, List.length_nil] at this; omega
   have i2 : d2.length ≤ d1.length + 1500 := by
    have := lineP_len [105, 110] x0.2.1 hok.ii
    rw [← e2, List.length_append]; simp only [List.length_cons, List.length_nil] at this; omega
   have i3 : d3.length ≤ d2.length + 1500 := by
    have := lineP_len [111, 117, 116] x0.2.2.1 hok.oi
    rw [← e3, List.length_append]; simp only [List.length_cons, List.length_nil] at this; omega
   have i4 : d4.length ≤ d3.length + 100 := by
    have := lineP_len [114, 101, 103, 115] [x0.2.2.2.1] (fun x hx => by rw [List.mem_singleton.1 hx]; exact hok.ri)
    rw [← e4, List.length_append]; simp only [List.length_cons, List.length_nil] at this; omega
   have i5 : d5.length ≤ d4.length + 400000 := by
    have := lineP_len [105, 110, 105, 116] x0.2.2.2.2.1 hok.zi
    rw [← e5, List.length_append]; simp only [List.length_cons, List.length_nil] at this; omega
   have hs0 : (strB x0.1).size = x0.1.length := rfl
   refine g_skip <| g_qt <| g_seq <| g_block <| g_seq <| g_region ?_
   refine g_pure (p_indexAddr rfl rfl (by omega) (fun _ => r1)) rfl ?_
   refine g_pure (p_loadN (by rfl) rfl (Has.ro r2) (by rw [Int.toNat_natCast]; exact q2)) rfl ?_
   refine g_eff (e_alloc (by rfl)) rfl (fun _ _ => ?_)
   rintro ⟨b7, rfl, rfl⟩
   first | refine g_eff0 (e_storeO rfl rfl (by rfl) (by rfl) (by rfl) (by repeat' (first | exact Take.here | apply Take.there)) (by rfl)) (fun _ _ => ?_) | refine g_eff0 (e_storeN rfl rfl (by rfl) (by rfl) (by rfl) (by repeat' (first | exact Take.here | apply Take.there)) (by simp)) (fun _ _ => ?_)
   rintro rfl
   refine g_nil <| g_qt <| g_seq <| g_region ?_
   refine g_mv ?_
   refine g_fa ?_
   refine g_ld ?_
   refine g_pure (p_adds (r := strB x0.1) (by rfl) rfl rfl (by rw [hs0]; show 8 + x0.1.length ≤ _; omega)) rfl ?_
   rw [show (⟨#[114, 111, 117, 116, 105, 110, 101, 32]⟩ : ByteArray) ++ strB x0.1 = strB ([114, 111, 117, 116, 105, 110, 101, 32] ++ x0.1) from (strB_app [114, 111, 117, 116, 105, 110, 101, 32] x0.1).symm]
   refine g_call (Hin := ?hi3) (Hr := ?hr3) (R := ?rr3) rfl rfl rfl ?hin3 ?hc3 ?hk3
   case hc3 => intro ρ' hρ hR; exact line_ok (hk.mono hρ) _ _ d ([114, 111, 117, 116, 105, 110, 101, 32] ++ x0.1) none 0 [] rsl_nil (fun x hx => absurd hx List.not_mem_nil) (by simp; omega)
   case hin3 => repeat' (first | exact Cover.nil | exact Take.here | apply Cover.cons | apply Take.there)
   rintro _ _ ⟨a34, c34, rfl, rfl⟩
   rw [e1]
   refine g_as ?_
   refine g_nil <| g_qt <| g_seq <| g_region ?_
   refine g_mv ?_
   refine g_fa ?_
   refine g_ld ?_
   refine g_call (Hin := ?hi4) (Hr := ?hr4) (R := ?rr4) rfl rfl rfl ?hin4 ?hc4 ?hk4
   case hc4 => intro ρ' hρ hR; exact line_ok (hk.mono hρ) _ _ d1 [105, 110] ia ic x0.2.1 (hi.mono hρ) hok.ii (by simp; omega)
   case hin4 => repeat' (first | exact Cover.nil | exact Take.here | apply Cover.cons | apply Take.there)
   rintro _ _ ⟨a38, c38, rfl, rfl⟩
   rw [e2]
   refine g_as ?_
   refine g_nil <| g_qt <| g_seq <| g_region ?_
   refine g_mv ?_
   refine g_fa ?_
   refine g_ld ?_
   refine g_call (Hin := ?hi5) (Hr := ?hr5) (R := ?rr5) rfl rfl rfl ?hin5 ?hc5 ?hk5
   case hc5 => intro ρ' hρ hR; exact line_ok (hk.mono hρ) _ _ d2 [111, 117, 116] oa' oc' x0.2.2.1 (ho.mono hρ) hok.oi (by simp; omega)
   case hin5 => repeat' (first | exact Cover.nil | exact Take.here | apply Cover.cons | apply Take.there)
   rintro _ _ ⟨a42, c42, rfl, rfl⟩
   rw [e3]
   refine g_as ?_
   refine g_nil <| g_qt <| g_seq <| g_region ?_
   refine g_mv ?_
   refine g_fa ?_
   refine g_ld ?_
   refine g_eff (e_bs (xs := [.tmp 45]) rfl rfl rfl (by rfl) (by rfl) rfl (by rfl)) rfl (fun _ _ => ?_)
   rintro ⟨b46, rfl, rfl⟩
   refine g_call (Hin := [OwnSl 5 1 a42 d3.length c42 (byteCells d3)]) (Hr := ?hr6) (R := ?rr6) rfl rfl rfl ?hin6 ?hc6 ?hk6
   case hin6 => repeat' (first | exact Cover.nil | exact Take.here | apply Cover.cons | apply Take.there)
   case hc6 => intro ρ' hρ hR; exact line_ok (hk.mono hρ) _ _ d3 [114, 101, 103, 115] (some ⟨b46, 0, none⟩) 1 [x0.2.2.2.1] (RSl.of_blk (T := 3) (cs := [.int .i64 x0.2.2.2.1]) (k := 1) (size := 1) (Take.ro (A := Blk b46 (.cells [.int .i64 x0.2.2.2.1].toArray 3 (0, 0))) (by repeat' (first | exact Take.here | apply Take.there)) hR).blk (Nat.le_refl 1)) (fun x hx => by rw [List.mem_singleton.1 hx]; exact hok.ri) (by simp; omega)
   rintro _ _ ⟨a47, c47, rfl, rfl⟩
   rw [e4]
   refine g_as ?_
   refine g_nil <| g_qt <| g_seq <| g_region ?_
   refine g_mv ?_
   refine g_fa ?_
   refine g_ld ?_
   refine g_call (Hin := ?hi7) (Hr := ?hr7) (R := ?rr7) rfl rfl rfl ?hin7 ?hc7 ?hk7
   case hc7 => intro ρ' hρ hR; exact line_ok (hk.mono hρ) _ _ d4 [105, 110, 105, 116] na nc x0.2.2.2.2.1 (hn.mono hρ) hok.zi (by simp; omega)
   case hin7 => repeat' (first | exact Cover.nil | exact Take.here | apply Cover.cons | apply Take.there)
   rintro _ _ ⟨a51, c51, rfl, rfl⟩
   rw [e5]
   refine g_as ?_
   refine g_nil <| g_qt <| g_seq <| g_seq <| g_region ?_
   refine g_fa ?_
   refine g_ld ?_
   refine g_pure (p_len (by rfl) rfl) rfl ?_
   refine g_mv ?_
   refine g_nil <| g_qt <| g_block ?_
   have hCi : d5 = d5 ++ ((x0.2.2.2.2.2.take 0).map insT).flatten := by simp
   have hL : d5.length ≤ d.length + 410000 := by omega
   rw [hCi]
   refine g_loop (fun q : Nat × Option Addr × Nat => [(5, .slice q.2.1 (d5 ++ ((x0.2.2.2.2.2.take q.1).map insT).flatten).length q.2.2), (24, .slice ra im.2.length rc), (25, .int .i64 im.2.length), (26, .int .i64 k), (53, .slice ca x0.2.2.2.2.2.length cc), (54, .int .i64 x0.2.2.2.2.2.length), (55, .int .i64 q.1)])
    (fun q => [OwnSl 5 1 q.2.1 (d5 ++ ((x0.2.2.2.2.2.take q.1).map insT).flatten).length q.2.2 (byteCells (d5 ++ ((x0.2.2.2.2.2.take q.1).map insT).flatten))])
    (fun q => q.1 ≤ x0.2.2.2.2.2.length ∧ (d5 ++ ((x0.2.2.2.2.2.take q.1).map insT).flatten).length ≤ d5.length + q.1 * 94) (fun q => x0.2.2.2.2.2.length - q.1) (0, a51, c51) ⟨Nat.zero_le _, by rw [← hCi]; omega⟩ (by (repeat (first | exact trivial | refine ⟨by rfl, ?_⟩)); done) (by repeat' (first | exact Cover.nil | exact Take.here | apply Cover.cons | apply Take.there)) ?_
   rintro ⟨j, ja, jc⟩ ⟨hj1, hj2⟩
   dsimp only at hj1 hj2 ⊢
   refine g_seq <| g_region ?_
   refine g_pure (p_lss rfl rfl) rfl ?_
   refine g_nil <| g_qt <| g_seq ?_
   refine g_ifd rfl (fun qj => ?_) (fun qj => ?_)
   ·have hjl : j < x0.2.2.2.2.2.length := by omega
    have hst2 := flat_step insT x0.2.2.2.2.2 hjl
    have hfin2 : d5 ++ ((x0.2.2.2.2.2.take (j + 1)).map insT).flatten = (d5 ++ ((x0.2.2.2.2.2.take j).map insT).flatten) ++ insT x0.2.2.2.2.2[j] := by rw [hst2, List.append_assoc]
    obtain ⟨c1, c2, c3⟩ := hcr (by omega)
    have c4 := (c3 j hjl).1 (by decide)
    have hii := hok.ci x0.2.2.2.2.2[j] (List.getElem_mem hjl)
    generalize x0.2.2.2.2.2[j] = ii at c4 hst2 hfin2 hii
    have hil2 := insT_len hii.2
    generalize d5 ++ ((x0.2.2.2.2.2.take j).map insT).flatten = f at hj2 hfin2 ⊢
    obtain ⟨k0, k1, k2, k3, hks, hrow⟩ := rowC_ex ii.1
    have hkat : ∀ k kd : Nat, (opRow ii.1).2.1[k]? = some kd → [Value.string (strB (opRow ii.1).1), .int .i64 k0, .int .i64 k1, .int .i64 k2, .int .i64 k3, .int .i64 (opRow ii.1).2.2][0 + 1 + (k : Int).toNat * 1]? = some (.int .i64 kd) := fun k kd h => by
     rw [← hrow, show 0 + 1 + (k : Int).toNat * 1 = 1 + k by omega]; exact row_kind h
    refine g_skip <| g_qt <| g_seq <| g_block <| g_seq <| g_region ?_
    refine g_pure (p_indexAddr rfl rfl (by omega) (fun _ => c1)) rfl ?_
    refine g_pure (p_loadN (by rfl) rfl (Has.ro c2) (by rw [Int.toNat_natCast]; exact c4)) rfl ?_
    refine g_eff (e_alloc (by rfl)) rfl (fun _ _ => ?_)
    rintro ⟨b9, rfl, rfl⟩
    first | refine g_eff0 (e_storeO rfl rfl (by rfl) (by rfl) (by rfl) (by repeat' (first | exact Take.here | apply Take.there)) (by rfl)) (fun _ _ => ?_) | refine g_eff0 (e_storeN rfl rfl (by rfl) (by rfl) (by rfl) (by repeat' (first | exact Take.here | apply Take.there)) (by simp)) (fun _ _ => ?_)
    rintro rfl
    refine g_nil <| g_qt <| g_seq <| g_region ?_
    refine g_fa ?_
    refine g_ld ?_
    refine g_call (Hin := []) (Hr := ?hr8) (R := ?rr8) rfl rfl rfl ?hin8 ?hc8 ?hk8
    case hin8 => repeat' (first | exact Cover.nil | exact Take.here | apply Cover.cons | apply Take.there)
    case hc8 => intro ρ' hρ hR; exact known_at (hO.mono hρ) hrow
    rintro _ _ ⟨rfl, rfl⟩
    refine g_mv ?_
    refine g_pure (p_extract rfl rfl) rfl ?_
    refine g_pure (p_extract rfl rfl) rfl ?_
    refine g_eff (e_alloc (by rfl)) rfl (fun _ _ => ?_)
    rintro ⟨b10, rfl, rfl⟩
    first | refine g_eff0 (e_storeO rfl rfl (by rfl) (by rfl) (by rfl) (by repeat' (first | exact Take.here | apply Take.there)) (by rfl)) (fun _ _ => ?_) | refine g_eff0 (e_storeN rfl rfl (by rfl) (by rfl) (by rfl) (by repeat' (first | exact Take.here | apply Take.there)) (by simp)) (fun _ _ => ?_)
    rintro rfl
    refine g_as ?_
    refine g_nil <| g_qt <| g_seq <| g_region ?_
    refine g_as ?_
    refine g_nil <| g_qt <| g_seq <| g_seq <| g_region ?_
    first | refine g_pure (p_loadO (by rfl) rfl (by first | (apply Has.own; (repeat' (first | exact Take.here | apply Take.there)); done) | exact Has.ro (by assumption)) (by rfl)) rfl ?_ | refine g_pure (p_loadN (by rfl) rfl (by first | (apply Has.own; (repeat' (first | exact Take.here | apply Take.there)); done) | exact Has.ro (by assumption)) (by first | rfl | assumption)) rfl ?_
    refine g_call (Hin := []) (Hr := ?hr9) (R := ?rr9) rfl rfl rfl ?hin9 ?hc9 ?hk9
    case hin9 => repeat' (first | exact Cover.nil | exact Take.here | apply Cover.cons | apply Take.there)
    case hc9 => intro ρ' hρ hR; exact fields_ok ii
    rintro _ _ ⟨rfl, rfl⟩
    refine g_mv ?_
    refine g_nil <| g_qt <| g_block ?_
    have hu0 : ([] : List Int) = usedT ii 0 := rfl
    refine g_ownnil (e := 3) (size := 1) ?_
    refine g_loop (fun q : Nat × Option Addr × Nat => [(5, .slice ja f.length jc), (10, .pointer (some ⟨b10, 0, none⟩)), (12, .slice q.2.1 (usedT ii q.1).length q.2.2), (24, .slice ra im.2.length rc), (25, .int .i64 im.2.length), (26, .int .i64 k), (53, .slice ca x0.2.2.2.2.2.length cc), (54, .int .i64 x0.2.2.2.2.2.length), (55, .int .i64 j), (66, .agg ((fieldsV ii).map encI).toArray), (67, .int .i64 q.1)])
     (fun q => [OwnSl 5 1 ja f.length jc (byteCells f), OwnSl 3 1 q.2.1 (usedT ii q.1).length q.2.2 ((usedT ii q.1).map encI), Blk b10 (.cells [.string (strB (opRow ii.1).1), .int .i64 k0, .int .i64 k1, .int .i64 k2, .int .i64 k3, .int .i64 (opRow ii.1).2.2].toArray 62 (0, 0))])
     (fun q => q.1 ≤ 4) (fun q => 4 - q.1) (0, none, 0) (Nat.zero_le _) (by (repeat (first | exact trivial | refine ⟨by rfl, ?_⟩)); done) (by repeat' (first | exact Cover.nil | exact Take.here | apply Cover.cons | apply Take.there)) ?_
    rintro ⟨n, ua, uc⟩ hn1
    dsimp only at hn1 ⊢
    have hul := usedT_len ii n hn1
    refine g_seq <| g_region ?_
    refine g_pure (p_lss rfl rfl) rfl ?_
    refine g_nil <| g_qt <| g_seq ?_
    refine g_ifd rfl (fun qn => ?_) (fun qn => ?_)
    ·have hnl : n < 4 := by omega
     obtain ⟨kd, x, hp, p1, p2, hkd⟩ := pairs_at ii hnl
     have hus := usedT_step ii hnl hp
     have hx : ((fieldsV ii).map encI)[(n : Int).toNat]? = some (.int .i64 x) := by rw [Int.toNat_natCast, List.getElem?_map, p2]; rfl
     refine g_skip <| g_qt <| g_seq <| g_block <| g_seq <| g_region ?_
     refine g_mv ?_
     refine g_pure (p_indexA (he := ty3) (by rfl) (by rfl) rfl rfl rfl (by omega) hx) rfl ?_
     refine g_as ?_
     refine g_as ?_
     refine g_nil <| g_qt <| g_seq <| g_region ?_
     refine g_mv ?_
     refine g_fa ?_
     refine g_pure (p_indexAddrA (he := ty3) (by rfl) rfl rfl (by omega)) rfl ?_
     refine g_pure (p_load (by rfl) rfl (Has.own (by repeat' (first | exact Take.here | apply Take.there))) (hkat n kd p1)) rfl ?_
     refine g_pure (p_neq rfl rfl) rfl ?_
     refine g_nil <| g_qt ?_
     refine g_ifnd rfl (fun h0 => ?_) (fun h0 => ?_)
     ·rw [if_neg (by omega)] at hus
      refine g_region ?_
      refine g_mv ?_
      refine g_mv ?_
      refine g_eff (e_bs (xs := [.tmp 77]) rfl rfl rfl (by rfl) (by rfl) rfl (by rfl)) rfl (fun _ _ => ?_)
      rintro ⟨b78, rfl, rfl⟩
      refine g_eff (e_appendO (by rfl) (by rfl) rfl rfl (by first | (apply Has.own; (repeat' (first | exact Take.here | apply Take.there)); done) | exact Has.ro (by assumption)) (by rfl) (by rfl) (by repeat' (first | exact Take.here | apply Take.there)) (by omega) (by first | omega | (dsimp only; omega) | (simp <;> omega)) (by omega)) rfl (fun _ _ => ?_)
      rintro ⟨a79, c79, rfl, rfl⟩
      refine g_as ?_
      refine g_nil <| g_qb <| g_qt <| g_region ?_
      first | refine g_pure (p_addi rfl rfl (by omega)) rfl ?_ | refine g_pure (p_add rfl rfl) rfl ?_
      refine g_mv ?_
      refine g_nil <| g_qn ?_
      rw [show (usedT ii n).map encI ++ [Value.int IntKind.i64 x] = (usedT ii (n + 1)).map encI by rw [hus, List.map_append]; rfl, show (usedT ii n).length + 1 = (usedT ii (n + 1)).length by rw [hus, List.length_append]; rfl]
      exact g_nextA (n + 1, a79, c79) hnl (by dsimp only; omega)
     ·rw [if_pos (by omega)] at hus
      rw [← hus]
      refine g_skip <| g_qb <| g_qt <| g_region ?_
      first | refine g_pure (p_addi rfl rfl (by omega)) rfl ?_ | refine g_pure (p_add rfl rfl) rfl ?_
      refine g_mv ?_
      refine g_nil <| g_qn ?_
      exact g_nextA (n + 1, ua, uc) hnl (by dsimp only; omega)
    ·have hne : n = 4 := by omega
     subst hne
     rw [usedT_all] at hul ⊢
     have hi64 : ∀ x ∈ usedP ii, I64 x := fun x hx => by
      rcases used_fields hx with rfl | rfl | rfl | rfl
      ·exact hii.2.1
      ·exact hii.2.2.1
      ·exact hii.2.2.2.1
      ·exact hii.2.2.2.2
     have hw5 := word_len ii.1
     refine g_exit <| g_qt_exit <| g_qn_exit <| g_qb_exit <| g_qt <| g_region ?_
     refine g_mv ?_
     refine g_fa ?_
     refine g_ld ?_
     refine g_mv ?_
     refine g_call (Hin := [OwnSl 5 1 ja f.length jc (byteCells f)]) (Hr := ?hr10) (R := ?rr10) rfl rfl rfl ?hin10 ?hc10 ?hk10
     case hin10 => repeat' (first | exact Cover.nil | exact Take.here | apply Cover.cons | apply Take.there)
     case hc10 => intro ρ' hρ hR; exact line_ok (hk.mono hρ) _ _ f (opRow ii.1).1 ua uc (usedP ii) (RSl.of_own (Take.ro (A := OwnSl 3 1 ua (usedP ii).length uc ((usedP ii).map encI)) (by repeat' (first | exact Take.here | apply Take.there)) hR)) hi64 (by omega)
     rintro _ _ ⟨a85, c85, rfl, rfl⟩
     rw [show lineP (opRow ii.1).1 (usedP ii) = insT ii from rfl, ← hfin2]
     refine g_as ?_
     refine g_nil <| g_qb <| g_qt <| g_region ?_
     first | refine g_pure (p_addi rfl rfl (by omega)) rfl ?_ | refine g_pure (p_add rfl rfl) rfl ?_
     refine g_mv ?_
     refine g_nil <| g_qn ?_
     exact g_nextA (j + 1, a85, c85) ⟨hjl, by dsimp only; rw [hfin2, List.length_append]; omega⟩ (by dsimp only; omega)
   ·have hje : j = x0.2.2.2.2.2.length := by omega
    subst hje
    rw [List.take_length] at hj2 ⊢
    generalize hff : d5 ++ (x0.2.2.2.2.2.map insT).flatten = f at hj2 ⊢
    refine g_exit <| g_qt_exit <| g_qn_exit <| g_qb_exit <| g_qt <| g_region ?_
    refine g_mv ?_
    refine g_call (Hin := ?hi11) (Hr := ?hr11) (R := ?rr11) rfl rfl rfl ?hin11 ?hc11 ?hk11
    case hc11 => intro ρ' hρ hR; exact line_ok (hk.mono hρ) _ _ f [101, 110, 100] none 0 [] rsl_nil (fun x hx => absurd hx List.not_mem_nil) (by simp; omega)
    case hin11 => repeat' (first | exact Cover.nil | exact Take.here | apply Cover.cons | apply Take.there)
    rintro _ _ ⟨a88, c88, rfl, rfl⟩
    have hend : f ++ lineP [101, 110, 100] [] = d ++ rtT x0 := by
     rw [← hff, ← e5, ← e4, ← e3, ← e2, ← e1, rtT_eq]; unfold headT; simp only [List.append_assoc]
    have hlen3 : (f ++ lineP [101, 110, 100] []).length ≤ f.length + 4 := by
     have := lineP_len [101, 110, 100] [] (fun x hx => absurd hx List.not_mem_nil)
     rw [List.length_append]; simp only [List.length_cons, List.length_nil] at this; omega
    rw [hend] at hlen3 ⊢
    rw [← hfin] at hlen3 ⊢
    refine g_as ?_
    refine g_nil <| g_qb <| g_qt <| g_region ?_
    first | refine g_pure (p_addi rfl rfl (by omega)) rfl ?_ | refine g_pure (p_add rfl rfl) rfl ?_
    refine g_mv ?_
    refine g_nil <| g_qn ?_
    exact g_nextA (k + 1, a88, c88) ⟨hkl, by dsimp only; omega⟩ (by dsimp only; omega)
  ·have hke : k = im.2.length := by omega
   subst hke
   rw [List.take_length] at hk2 ⊢
   rw [show lineP [101, 110, 117, 109, 115] im.1 ++ (im.2.map rtT).flatten = textP im from rfl] at hk2 ⊢
   have h0 : 0 < (textP im).length := by unfold textP lineP; simp
   refine g_weak (A := OwnSl 5 1 oa (textP im).length oc (byteCells (textP im))) (B := OwnB 5 oa (textP im).length oc (byteCells (textP im))) (by repeat' (first | exact Take.here | apply Take.there)) (own_bytes h0) ?_
   refine g_exit <| g_qt_exit <| g_qn_exit <| g_qb_exit <| g_qt <| g_seq <| g_region ?_
   refine g_mv ?_
   refine g_pure (p_btsB (by rfl) (by rfl) (l := textP im) rfl (by repeat' (first | exact Take.here | apply Take.there))) rfl ?_
   refine g_as ?_
   refine g_as ?_
   refine g_nil <| g_qt <| g_ret ?_
   exact g_postA (rs := [.tmp 2, .tmp 3]) rfl (.tmp rfl (.tmp rfl .nil)) ⟨rfl, rfl⟩
end Go.Proofs.YtcnfcoojmbjdlaaGreatDoor
