/- Own layer: strings: bytes, joining, bytes turned into a string. Conditions: none. -/
import Derived.Test.YtcnfcoojmbjdlaaGreatDoorZk
import Derived.Laws.BytesString
import Derived.Lib.Strings
namespace Go.Z
set_option maxRecDepth 8000
set_option linter.unusedVariables false
set_option linter.unusedSimpArgs false
set_option linter.unusedSectionVars false
open Go
variable {P : Program} {n : Nat} {L : Fr} {H : List Assn} {M : Mx}
variable {dd : Option Tmp} {ty t : TypeId} {ps : String} {af : Array Edge} {gd : Option (Nat × Bool)} {x y : Operand} {tz : TypeId} {yt : Ty}
theorem bytes_get (s : ByteArray) (i : Nat) : s[i]? = s.data.toList[i]? := by
  obtain ⟨⟨l⟩⟩ := s
  by_cases h : i < l.length
  · rw [getElem?_pos (ByteArray.mk ⟨l⟩) i h, List.getElem?_eq_getElem h]; rfl
  · rw [getElem?_neg (ByteArray.mk ⟨l⟩) i h, List.getElem?_eq_none (by show l.length ≤ i; omega)]
theorem p_indexs {s : ByteArray} {k : IntKind} {i : Int} {b : UInt8} [ht : TyC P t yt] (hd : yt.d = .string) (h1 : ev L x = some (.string s)) (h2 : ev L y = some (.int k i)) (h0 : 0 ≤ i) (hb : s.data.toList[i.toNat]? = some b) : Pur P M n L H ⟨dd, .index t x y, ty, ps, af, gd⟩ (.int .u8 b.toNat) := fun a w ha _ => by
  rw [← bytes_get] at hb
  simp [execOp, Instr.index, asIntOf, ha.ev h1, ha.ev h2, ht.run_u, hd, h0, hb]
theorem p_adds {s r : ByteArray} [ht : TyC P t yt] (hd : yt.d = .string) (h1 : ev L x = some (.string s)) (h2 : ev L y = some (.string r)) (hl : s.size + r.size ≤ 9223372036854775807) : Pur P M n L H ⟨dd, .binOp .add t x y tz, ty, ps, af, gd⟩ (.string (s ++ r)) := fun a w ha _ => by
  have e : ¬ ((s.size + r.size : Nat) : Int) > IntKind.i64.max := by
    have : IntKind.i64.max = 9223372036854775807 := rfl
    rw [this]; omega
  simp only [execOp, ha.ev h1, ha.ev h2, eqGuard, binOp, Op.stringOp, Sem.run_bind]
  simp; omega
theorem p_bts1 {src dst e : TypeId} {yd ye : Ty} [hs : SlC P src e ye] [hd : TyC P dst yd] (hde : ye.d = .int .u8) (hdd : yd.d = .string) {b c : Nat} {m : Int} {T : TypeId} {fz : Nat × Nat} (h1 : ev L x = some (.slice (some ⟨b, 0, none⟩) 1 c)) (hh : Has M H b (.cells [.int .u8 m].toArray T fz)) :
    Pur P M n L H ⟨dd, .convert src dst x, ty, ps, af, gd⟩ (.string ⟨#[UInt8.ofNat m.toNat]⟩) := fun a w ha hm => by
  obtain ⟨yt, ht, hdt⟩ := hs.t
  have he := hs.e
  have hc := run_loadRow (P := P) (hh w hm) 0 1 [.int .u8 m] rfl (fun j v e => by simpa using e)
  have hb := run_bytesToString w ⟨b, 0, none⟩ 1 c [m] hc
  have hu : P.underlying src = some (.slice e) := by rw [ht.u, hdt]
  have hue : P.underlying e = some (.int .u8) := by rw [he.u, hde]
  have hud : P.underlying dst = some .string := by rw [hd.u, hdd]
  have hcv := run_convert_bytes_string (P := P) w src dst e (some ⟨b, 0, none⟩) 1 c hu hue hud
  rw [hb] at hcv
  simp only [execOp, ha.ev h1, Sem.run_bind]
  simp [hcv]; rfl
end Go.Z
