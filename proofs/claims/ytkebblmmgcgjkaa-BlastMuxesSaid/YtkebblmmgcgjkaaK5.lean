/- Chapter 38: the small case of the statements. Conditions: none. -/
import Derived.Test.YtkebblmmgcgjkaaK4
namespace Go.Z
set_option maxRecDepth 8000
set_option linter.unusedVariables false
set_option linter.unusedSimpArgs false
set_option linter.unusedSectionVars false
open Go
theorem rsl2_of {ρ : Nat → Obj → Prop} {rows : List (List Value)} {cells : List Value} {b : Nat} {T : TypeId} {fz : Nat × Nat} (hb : ρ b (.cells cells.toArray T fz)) (hlen : cells.length = rows.length) (h : ∀ j (hj : j < rows.length), ∃ a c, cells[j]? = some (.slice a rows[j].length c) ∧ RSl ρ 1 a rows[j].length rows[j]) : RSl2 ρ (some ⟨b, 0, none⟩) rows :=
  ⟨cells, ⟨hlen, h⟩, by rw [Nat.mul_one]; exact hlen, b, 0, cells, T, fz, fun _ => ⟨rfl, hb, fun j v hj => by rw [Nat.zero_add]; exact hj⟩⟩
theorem rsl_pre {ρ : Nat → Obj → Prop} {a : Option Addr} {n m : Nat} {xs : List Value} (h : RSl ρ 1 a n xs) (hm : m ≤ n) : RSl ρ 1 a m (xs.take m) := by
  obtain ⟨h1, b, off, cs, T, fz, h2⟩ := h
  refine ⟨by rw [List.length_take]; omega, b, off, cs, T, fz, fun h0 => ?_⟩
  obtain ⟨k1, k2, k3⟩ := h2 (by omega)
  refine ⟨k1, k2, fun j v hj => k3 j v ?_⟩
  rw [List.getElem?_take] at hj
  split at hj
  · exact hj
  · cases hj
end Go.Z
namespace Go.Proofs.Ytkebblmmgcgjkaa
set_option maxRecDepth 8000
set_option linter.unusedVariables false
set_option linter.unusedSimpArgs false
set_option linter.unusedSectionVars false
open Go Go.Z Go.Z.Val Go.Z.Aig Go.Z.Bit

theorem two_rows {ρ : Nat → Obj → Prop} {a1 a2 : Option Addr} {c1 c2 : Nat} {l1 l2 : List Int} {n1 n2 : Nat} {b : Nat} (h1 : l1.length = n1) (h2 : l2.length = n2) (hb : ρ b (.cells [.slice a1 n1 c1, .slice a2 n2 c2].toArray 26 (0, 0))) (r1 : RSl ρ 1 a1 n1 (l1.map encI)) (r2 : RSl ρ 1 a2 n2 (l2.map encI)) : RSl2 ρ (some ⟨b, 0, none⟩) ([l1, l2].map (·.map encI)) := by
  subst h1 h2
  refine rsl2_of hb rfl fun j hj => ?_
  have hj2 : j < 2 := hj
  match j, hj2 with
  | 0, _ => exact ⟨a1, c1, by simp, by simpa using r1⟩
  | 1, _ => exact ⟨a2, c2, by simp, by simpa using r2⟩
theorem bapply_yes {ρ : Nat → Obj → Prop} (p : Nat) {S : St} {al : Option Addr} {cl : Nat} (op : Int) (hw : WF S) (hl : S.length ≤ 100000) {lss : List (List Int)} (hr : RSl2 ρ al (lss.map (·.map encI))) (h9 : lss.length ≤ 1000) (h3' : ∀ l ∈ lss, l.length ≤ 1000000000) (hb : ∀ l ∈ lss.flatten, has S l) (hy : applyE op lss = 0) :
    Con Try.prog ρ 29 #[.pointer (some ⟨p, 0, none⟩), .int .i64 op, .slice al lss.length cl] [Gr p S]
    (fun v H => ∃ a2 c2 out T, v = .tuple #[.slice a2 out.length c2, .int .i64 0] ∧ H = [OwnSl 27 1 a2 out.length c2 (out.map encI), Gr p T] ∧ Up S T 5000 ∧ DenL T out (fun i => operateF op ((lss.headD []).map (litv (vals S i))) ((lss.getLastD []).map (litv (vals S i))))) :=
  (bapply_ok p op hw hl hr h9 h3' hb).mono fun v H h => by
    rcases h with ⟨h, _⟩ | ⟨_, h⟩
    · exact absurd hy h
    · exact h
theorem bapply_no {ρ : Nat → Obj → Prop} (p : Nat) {S : St} {al : Option Addr} {cl : Nat} (op : Int) (hw : WF S) (hl : S.length ≤ 100000) {lss : List (List Int)} (hr : RSl2 ρ al (lss.map (·.map encI))) (h9 : lss.length ≤ 1000) (h3' : ∀ l ∈ lss, l.length ≤ 1000000000) (hb : ∀ l ∈ lss.flatten, has S l) (hy : applyE op lss ≠ 0) :
    Con Try.prog ρ 29 #[.pointer (some ⟨p, 0, none⟩), .int .i64 op, .slice al lss.length cl] [Gr p S]
    (fun v H => v = .tuple #[.slice none 0 0, .int .i64 (applyE op lss)] ∧ H = [Gr p S]) :=
  (bapply_ok p op hw hl hr h9 h3' hb).mono fun v H h => by
    rcases h with ⟨_, h⟩ | ⟨h, _⟩
    · exact h
    · exact absurd h hy
theorem apply_two {ρ : Nat → Obj → Prop} (p : Nat) {S : St} {al : Option Addr} {cl : Nat} {op : Int} (hw : WF S) (hl : S.length ≤ 100000) {l1 l2 : List Int} {f g : List Bool → List Bool} (d1 : DenL S l1 f) (d2 : DenL S l2 g) (h16 : l1.length = 16 ∧ l2.length = 16) (hop : 6 ≤ op ∧ op ≤ 16) (hr : RSl2 ρ al ([l1, l2].map (·.map encI))) {m : Nat} (hm : m = outF op) :
    Con Try.prog ρ 29 #[.pointer (some ⟨p, 0, none⟩), .int .i64 op, .slice al 2 cl] [Gr p S]
    (fun v H => ∃ a2 c2 out T, v = .tuple #[.slice a2 m c2, .int .i64 0] ∧ H = [OwnSl 27 1 a2 m c2 (out.map encI), Gr p T] ∧ out.length = m ∧ Up S T 5000 ∧ DenL T out (fun i => operateF op (f i) (g i))) := by
  have hb : ∀ l ∈ [l1, l2].flatten, has S l := fun l hl => by
    simp at hl
    rcases hl with h | h
    · exact d1.1 l h
    · exact d2.1 l h
  have hf : formF op ([l1, l2].map List.length) = (((outF op : Nat) : Int), 0) := by
    have e : [l1, l2].map List.length = [16, 16] := by simp [h16]
    rw [e]
    rcases (show op = 6 ∨ op = 7 ∨ op = 8 ∨ op = 9 ∨ op = 10 ∨ op = 11 ∨ op = 12 ∨ op = 13 ∨ op = 14 ∨ op = 15 ∨ op = 16 by omega) with rfl | rfl | rfl | rfl | rfl | rfl | rfl | rfl | rfl | rfl | rfl <;> rfl
  refine (bapply_yes (cl := cl) p op hw hl hr (by simp) (by simp; omega) hb (by rw [apply_form, hf])).mono ?_
  rintro _ _ ⟨a2, c2, out, T, rfl, rfl, u, d⟩
  have d' : DenL T out (fun i => operateF op (f i) (g i)) := d.congr fun i => by
    show operateF op (l1.map (litv (vals S i))) (l2.map (litv (vals S i))) = _
    rw [d1.2 i, d2.2 i]
  have hlen : out.length = m := by
    have h := d'.len []
    rw [← h, hm, operate_law (by omega) (by rw [d1.len, h16.1]; unfold widthF; rw [if_neg (by omega)]; split <;> rfl) (by rw [d1.len, d2.len]; omega) (fun h => absurd h (by omega)), bitsR_len]
  exact ⟨a2, c2, out, T, by rw [hlen], by rw [hlen], hlen, u, d'⟩

theorem enr_nil {ρ : Nat → Obj → Prop} : EnR ρ none [] := ⟨RSl.nil, fun e he => absurd he List.not_mem_nil⟩
theorem cst_ok {ρ : Nat → Obj → Prop} (v : Int) (hv : -32768 ≤ v ∧ v ≤ 32767) : Con Try.prog ρ 21 #[.slice none 0 0, .int .i64 2, .int .i64 v] []
    (fun u H => ∃ a c, u = .tuple #[.slice a 16 c, .int .i64 0] ∧ H = [OwnSl 27 1 a 16 c (((bitsR 16 v).map lit1).map encI)]) := by
  have hw : widthN [] 2 = 16 := widthN_16.2 rfl
  have he : constF [] 2 v = (bitsR 16 v, 0) := by
    unfold constF
    rw [hw, if_neg (by decide), if_pos (by unfold tyHas; rw [if_pos rfl]; exact hv)]
  have := const_ok (ρ := ρ) (ec := 0) enr_nil (Nat.zero_le _) 2 v (by unfold I64; omega) (by unfold I64; omega)
  rw [he] at this
  refine this.mono ?_
  rintro _ _ ⟨a, c, rfl, rfl⟩
  exact ⟨a, c, by rw [bitsR_len], by rw [bitsR_len]⟩
theorem val_ok {ρ : Nat → Obj → Prop} {ba : Option Addr} {bc : Nat} {bs : List Bool} (h16 : bs.length = 16) (hb : RSl ρ 1 ba 16 (bs.map encB)) : Con Try.prog ρ 25 #[.slice none 0 0, .int .i64 2, .slice ba 16 bc] []
    (fun u H => u = .tuple #[.int .i64 (sg bs), .int .i64 0] ∧ H = []) := by
  have hw : widthN [] 2 = 16 := widthN_16.2 rfl
  have hs := sg16 h16
  have he : valueF [] 2 bs = (sg bs, 0) := by
    unfold valueF
    rw [hw, if_neg (by decide), if_neg (by omega), if_pos (by unfold tyHas; rw [if_pos rfl]; exact ⟨hs.2.1, hs.2.2.1⟩)]
  have := bvalue_ok (ρ := ρ) (ec := 0) (bc := bc) enr_nil (Nat.zero_le _) 2 (by unfold I64; omega) (by rw [h16]; exact hb) (by omega)
  rw [he, h16] at this
  exact this
def threeE (b : Nat) : List En := [(⟨#[69]⟩, some ⟨b, 0, none⟩, 3, [⟨#[65]⟩, ⟨#[66]⟩, ⟨#[67]⟩])]
theorem three_ok {ρ : Nat → Obj → Prop} : Con Try.prog ρ 54 #[] [] (fun v H => ∃ b b2, v = .slice (some ⟨b, 0, none⟩) 1 1 ∧ H = [Blk b (.cells [.string ⟨#[69]⟩, .slice (some ⟨b2, 0, none⟩) 3 3].toArray 107 (0, 0)), Blk b2 (.cells [.string ⟨#[65]⟩, .string ⟨#[66]⟩, .string ⟨#[67]⟩].toArray 9 (0, 0))]) := by
  refine con_intro Try.func54 Try.call54 rfl Try.ntmps54 rfl (L := []) rfl fun w hh => ?_
  refine g_seq ?_
  refine g_region ?_
  refine g_pure (p_assign rfl) rfl ?_
  refine g_nil ?_
  refine g_qt ?_
  refine g_seq ?_
  refine g_region ?_
  refine g_eff (e_bs (xs := [.const (.string (⟨#[65]⟩)), .const (.string (⟨#[66]⟩)), .const (.string (⟨#[67]⟩))]) rfl rfl rfl (by rfl) (by rfl) rfl (by rfl)) rfl (fun _ _ => ?_)
  rintro ⟨b1, rfl, rfl⟩
  refine g_pure (p_build (by rfl) rfl (by rfl)) rfl ?_
  refine g_eff (e_bs (xs := [.tmp 2]) rfl rfl rfl (by rfl) (by rfl) rfl (by rfl)) rfl (fun _ _ => ?_)
  rintro ⟨b3, rfl, rfl⟩
  refine g_pure (p_assign rfl) rfl ?_
  refine g_nil ?_
  refine g_qt ?_
  refine g_ret ?_
  exact g_post (rs := [.tmp 0]) rfl (.tmp rfl .nil) ⟨_, _, rfl, rfl⟩ (by repeat' (first | exact Cover.nil | exact Take.here | apply Cover.cons | apply Take.there))
theorem three_enr {ρ : Nat → Obj → Prop} {b b2 : Nat} (h1 : ρ b (.cells [.string ⟨#[69]⟩, .slice (some ⟨b2, 0, none⟩) 3 3].toArray 107 (0, 0))) (h2 : ρ b2 (.cells [.string ⟨#[65]⟩, .string ⟨#[66]⟩, .string ⟨#[67]⟩].toArray 9 (0, 0))) : EnR ρ (some ⟨b, 0, none⟩) (threeE b2) := by
  have eM : maxLen = 9223372036854775807 := rfl
  refine ⟨RSl.of_blk (k := 1) (size := 2) h1 (by simp), fun e he => ?_⟩
  rw [List.mem_singleton.1 he]
  refine ⟨RSl.of_blk (k := 3) (size := 1) h2 (by simp), ?_, fun s hs => ?_, ?_⟩
  · show (1 : Nat) ≤ maxLen; omega
  · have hs' : s ∈ ([⟨#[65]⟩, ⟨#[66]⟩, ⟨#[67]⟩] : List ByteArray) := hs
    simp only [List.mem_cons, List.not_mem_nil, or_false] at hs'
    rcases hs' with rfl | rfl | rfl <;> (show (1 : Nat) ≤ maxLen; omega)
  · show (3 : Nat) ≤ maxLen; omega
end Go.Proofs.Ytkebblmmgcgjkaa
