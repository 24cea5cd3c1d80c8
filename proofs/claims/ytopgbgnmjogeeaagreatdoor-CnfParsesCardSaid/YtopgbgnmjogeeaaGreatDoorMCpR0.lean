/- Own texts, put together: Rq Re Rf Rh Ri Ra Rb Rc Rj. Conditions: as told at each. -/
import Derived.Test.YtopgbgnmjogeeaaGreatDoorMCpY0
import Derived.Test.YtopgbgnmjogeeaaGreatDoorMCpS0
import Derived.Test.YtopgbgnmjogeeaaGreatDoorMCpW0
import Derived.Test.YtopgbgnmjogeeaaGreatDoorMCpB0
import Derived.Test.YtopgbgnmjogeeaaGreatDoorMCpA0
import Derived.Test.YtopgbgnmjogeeaaGreatDoorMCpV0
/- Chapter 36, plain: what was read has this text; the document's reading by lines. No program in sight. Conditions: none. -/
namespace Go.Z.Txt
set_option maxRecDepth 8000
set_option linter.unusedVariables false
set_option linter.unusedSimpArgs false
set_option linter.unusedSectionVars false
open Go Go.Lib Go.Z.Val

theorem words_some : ∀ {ws : List (List UInt8)} {c : List Int}, wordsV ws = some c → ws = c.map itoa ++ [[48]] ∧ ∀ x ∈ c, x ≠ 0 ∧ -2147483648 ≤ x ∧ x ≤ 2147483648
  | [], c, h => by simp [wordsV] at h
  | [w], c, h => by
    rw [wordsV] at h
    cases hn : numV w with
    | none => rw [hn] at h; cases h
    | some n =>
      rw [hn] at h
      dsimp only at h
      split at h
      · rename_i h0
        subst h0
        injection h with h
        subst h
        have := (numV_some hn).1
        rw [itoa_zero] at this
        exact ⟨by rw [← this]; rfl, fun x hx => absurd hx List.not_mem_nil⟩
      · cases h
  | w :: y :: r, c, h => by
    rw [wordsV] at h
    · cases hn : numV w with
      | none => rw [hn] at h; cases h
      | some n =>
        rw [hn] at h
        dsimp only at h
        split at h
        · cases h
        · rename_i h0
          cases hr : wordsV (y :: r) with
          | none => rw [hr] at h; cases h
          | some d =>
            rw [hr] at h
            injection h with h
            subst h
            obtain ⟨e1, e2⟩ := words_some hr
            have := numV_some hn
            refine ⟨by rw [e1, List.map_cons, this.1]; rfl, fun x hx => ?_⟩
            rcases List.mem_cons.1 hx with rfl | hx
            · exact ⟨h0, this.2⟩
            · exact e2 x hx
    · simp
theorem words_text {s : List UInt8} {c : List Int} (h : wordsV (pieces 32 s) = some c) : s = lineT c := by
  rw [line_glue, ← (words_some h).1, glue_pieces]
theorem far_no {vars : Int} {c : List Int} (h : ¬ farV vars c = true) : ∀ x ∈ c, -vars ≤ x ∧ x ≤ vars := by
  intro x hx
  unfold farV at h
  have h1 : ¬ (decide (vars < x) || decide (x < -vars)) = true := fun e => h (List.any_eq_true.2 ⟨x, hx, e⟩)
  simp at h1; omega
theorem body_some {vars : Int} : ∀ (k : Nat) (rest : List UInt8) (line : Int) (F : List (List Int)), bodyV vars k rest line = .ok F →
    F.length = k ∧ rest = (F.map fun c => lineT c ++ [10]).flatten ∧ ∀ c ∈ F, ∀ x ∈ c, x ≠ 0 ∧ -vars ≤ x ∧ x ≤ vars
  | 0, rest, line, F, h => by
    rw [bodyV] at h
    split at h
    · rename_i e
      subst e
      injection h with h
      subst h
      exact ⟨rfl, rfl, fun c hc => absurd hc List.not_mem_nil⟩
    · cases h
  | k + 1, rest, line, F, h => by
    rw [bodyV] at h
    rcases cut_or 10 rest with hf | ⟨s, r, rfl, hf⟩
    · rw [cut_free hf] at h; cases h
    · rw [cut_hit r hf] at h
      dsimp only at h
      cases hW : wordsV (pieces 32 s) with
      | none => rw [hW] at h; cases h
      | some c =>
        rw [hW] at h
        dsimp only at h
        split at h
        · cases h
        · rename_i hfar
          cases hb : bodyV vars k r (line + 1) with
          | error e => rw [hb] at h; cases h
          | ok G =>
            rw [hb] at h
            simp only [Except.map] at h
            injection h with h
            subst h
            obtain ⟨h1, h2, h3⟩ := body_some k r (line + 1) G hb
            refine ⟨by simp [h1], ?_, fun d hd => ?_⟩
            · rw [List.map_cons, List.flatten_cons, ← h2, ← words_text hW]; simp
            · rcases List.mem_cons.1 hd with rfl | hd
              · exact fun x hx => ⟨((words_some hW).2 x hx).1, far_no hfar x hx⟩
              · exact h3 d hd
theorem head_some {s : List UInt8} {x y : Int} (h : headV s = .ok (x, y)) : s = headT x y.toNat := by
  have hb := headV_ok h
  unfold headV at h
  split at h
  · rename_i p q a b hp
    split at h
    · rename_i hpq
      obtain ⟨rfl, rfl⟩ := hpq
      split at h
      · rename_i x' y' hx hy
        split at h
        · cases h
        · split at h
          · cases h
          · injection h with h
            injection h with h2 h3
            subst h2
            subst h3
            rw [← glue_pieces 32 s, hp, ← (numV_some hx).1, ← (numV_some hy).1]
            have e : ((y'.toNat : Nat) : Int) = y' := by omega
            simp [headT, glue, e]
      · cases h
    · cases h
  · cases h
theorem parse_some {t : List UInt8} {n : Int} {F : List (List Int)} (h : parseV t = .ok (n, F)) : textV n F = t ∧ 0 ≤ n ∧ n ≤ 262144 ∧ F.length ≤ 2147483648 ∧ ∀ c ∈ F, ∀ x ∈ c, x ≠ 0 ∧ -n ≤ x ∧ x ≤ n := by
  unfold parseV at h
  rcases cut_or 10 t with hf | ⟨s, r, rfl, hf⟩
  · rw [cut_free hf] at h; cases h
  · rw [cut_hit r hf] at h
    dsimp only at h
    cases hH : headV s with
    | error e => rw [hH] at h; cases h
    | ok p =>
      obtain ⟨x, y⟩ := p
      rw [hH] at h
      dsimp only at h
      have hb := headV_ok hH
      cases hB : bodyV x y.toNat r 1 with
      | error e => rw [hB] at h; cases h
      | ok G =>
        rw [hB] at h
        simp only [Except.map] at h
        injection h with h
        injection h with h1 h2
        subst h1
        subst h2
        obtain ⟨e1, e2, e3⟩ := body_some _ _ _ _ hB
        refine ⟨?_, hb.1, hb.2.1, by omega, e3⟩
        unfold textV
        rw [e1, ← head_some hH, ← e2]; simp

/-- the body, by lines -/
def bodyL (vars : Int) : Nat → List (List UInt8) → Int → Except (Int × Int) (List (List Int))
  | 0, ls, line => if ls = [[]] then .ok [] else .error (line + 1, 5)
  | k + 1, ls, line =>
    match ls with
    | x :: y :: r =>
      match wordsV (pieces 32 x) with
      | none => .error (line + 1, 5)
      | some c => if farV vars c then .error (line + 1, 14) else (bodyL vars k (y :: r) (line + 1)).map (c :: ·)
    | _ => .error (line + 1, 4)
theorem bodyL_one (vars : Int) (k : Nat) (x : List UInt8) (line : Int) : bodyL vars (k + 1) [x] line = .error (line + 1, 4) := rfl
theorem bodyL_two (vars : Int) (k : Nat) (x y : List UInt8) (r : List (List UInt8)) (line : Int) : bodyL vars (k + 1) (x :: y :: r) line = (match wordsV (pieces 32 x) with
    | none => .error (line + 1, 5)
    | some c => if farV vars c then .error (line + 1, 14) else (bodyL vars k (y :: r) (line + 1)).map (c :: ·)) := rfl
theorem pieces_nil {c : UInt8} {l : List UInt8} : pieces c l = [[]] ↔ l = [] := by
  constructor
  · intro h
    have := glue_pieces c l
    rw [h] at this
    exact this.symm
  · rintro rfl; rfl
theorem body_lines (vars : Int) : ∀ (k : Nat) (rest : List UInt8) (line : Int), bodyV vars k rest line = bodyL vars k (pieces 10 rest) line
  | 0, rest, line => by
    rw [bodyV, bodyL]
    by_cases h : rest = []
    · rw [if_pos h, if_pos (pieces_nil.2 h)]
    · rw [if_neg h, if_neg (fun e => h (pieces_nil.1 e))]
  | k + 1, rest, line => by
    rw [bodyV]
    rcases cut_or 10 rest with hf | ⟨s, r, rfl, hf⟩
    · rw [cut_free hf, pieces_free hf, bodyL_one]
    · rw [cut_hit r hf, pieces_hit r hf]
      cases hp : pieces 10 r with
      | nil => exact absurd hp (pieces_ne _ _)
      | cons y l =>
        rw [bodyL_two]
        dsimp only
        rw [body_lines vars k r (line + 1), hp]
        cases wordsV (pieces 32 s) <;> rfl
def headD (s : List UInt8) : Option (Int × Int) :=
  match pieces 32 s with
  | [p, q, a, b] =>
    if p = [112] ∧ q = [99, 110, 102] then
      match numV a, numV b with
      | some x, some y => if x < 0 ∨ y < 0 then none else some (x, y)
      | _, _ => none
    else none
  | _ => none
theorem head_doc (s : List UInt8) : headV s = match headD s with
    | none => .error 5
    | some (x, y) => if 262144 < x then .error 3 else .ok (x, y) := by
  unfold headV headD
  match pieces 32 s with
  | [] => rfl
  | [_] => rfl
  | [_, _] => rfl
  | [_, _, _] => rfl
  | _ :: _ :: _ :: _ :: _ :: _ => rfl
  | [p, q, a, b] =>
    dsimp only
    by_cases h : p = [112] ∧ q = [99, 110, 102]
    · rw [if_pos h, if_pos h]
      cases numV a with
      | none => rfl
      | some x =>
        cases numV b with
        | none => rfl
        | some y =>
          dsimp only
          by_cases h2 : x < 0 ∨ y < 0
          · rw [if_pos h2, if_pos h2]
          · rw [if_neg h2, if_neg h2]
    · rw [if_neg h, if_neg h]
theorem headD_some {s : List UInt8} {x y : Int} (h : headD s = some (x, y)) : 0 ≤ x ∧ 0 ≤ y ∧ x ≤ 2147483648 ∧ y ≤ 2147483648 := by
  unfold headD at h
  split at h
  · split at h
    · split at h
      · rename_i x' y' hx hy
        have h1 := (numV_some hx).2
        have h2 := (numV_some hy).2
        split at h
        · cases h
        · injection h with h; injection h with h3 h4; subst h3; subst h4; omega
      · cases h
    · cases h
  · cases h
theorem parse_lines (t : List UInt8) : parseV t = match pieces 10 t with
    | x :: y :: r => (match headD x with
      | none => .error (1, 5)
      | some (n, k) => if 262144 < n then .error (1, 3) else (bodyL n k.toNat (y :: r) 1).map (n, ·))
    | _ => .error (1, 4) := by
  unfold parseV
  rcases cut_or 10 t with hf | ⟨s, r, rfl, hf⟩
  · rw [cut_free hf, pieces_free hf]
  · rw [cut_hit r hf, pieces_hit r hf]
    cases hp : pieces 10 r with
    | nil => exact absurd hp (pieces_ne _ _)
    | cons y l =>
      dsimp only
      rw [head_doc]
      cases headD s with
      | none => rfl
      | some p =>
        obtain ⟨n, k⟩ := p
        dsimp only
        by_cases h : 262144 < n
        · rw [if_pos h, if_pos h]
        · rw [if_neg h, if_neg h]
          dsimp only
          rw [body_lines, hp]

/-- the sign of a numeral -/
def sgn (l : List UInt8) : Nat := if l.head? = some 45 then 1 else 0
def digF (a : Int) (c : UInt8) : Int := 10 * a + (c.toNat : Int) - 48
def readN (l : List UInt8) : Int := if sgn l = 1 then -((l.drop 1).foldl digF 0) else l.foldl digF 0
theorem fold_dig (u : Nat) : (decDigits u).foldl digF 0 = u := fold_dec u
theorem sgn_le {l : List UInt8} : sgn l ≤ l.length := by
  unfold sgn; split
  · cases l with
    | nil => simp at *
    | cons a r => simp
  · exact Nat.zero_le _
theorem sgn_two (l : List UInt8) : sgn l = 0 ∨ sgn l = 1 := by unfold sgn; split <;> simp
theorem numV_shape {l : List UInt8} {n : Int} (h : numV l = some n) : l.length ≤ 11 ∧ sgn l ≠ l.length ∧ (∀ c ∈ l.drop (sgn l), 48 ≤ c.toNat ∧ c.toNat ≤ 57) ∧ readN l = n := by
  obtain ⟨rfl, h1, h2⟩ := numV_some h
  refine ⟨itoa_len ⟨h1, h2⟩, ?_⟩
  by_cases hn : n < 0
  · rw [itoa_neg hn]
    obtain ⟨d1, d2⟩ := dec_digits n.natAbs
    have hs : sgn (45 :: decDigits n.natAbs) = 1 := rfl
    have hl : 0 < (decDigits n.natAbs).length := List.length_pos_iff.2 d1
    refine ⟨by rw [hs, List.length_cons]; omega, by rw [hs]; exact d2, ?_⟩
    unfold readN
    rw [if_pos hs, List.drop_succ_cons, List.drop_zero, fold_dig]; omega
  · rw [itoa_pos hn]
    obtain ⟨d1, d2⟩ := dec_digits n.toNat
    have hl : 0 < (decDigits n.toNat).length := List.length_pos_iff.2 d1
    have hs : sgn (decDigits n.toNat) = 0 := by
      unfold sgn
      rw [if_neg]
      intro e
      have := d2 45 (List.mem_of_mem_head? e)
      revert this; decide
    refine ⟨by rw [hs]; omega, by rw [hs]; exact d2, ?_⟩
    unfold readN
    rw [if_neg (by rw [hs]; decide), fold_dig]; omega
theorem fold_lt : ∀ (k : Nat) (l : List UInt8) (a : Int), l.length = k → (∀ c ∈ l, 48 ≤ c.toNat ∧ c.toNat ≤ 57) → 0 ≤ a → 0 ≤ l.foldl digF a ∧ l.foldl digF a < (a + 1) * 10 ^ k
  | 0, l, a, h, _, ha => by
    have := List.eq_nil_of_length_eq_zero h
    subst this
    simp; omega
  | k + 1, [], a, h, _, _ => by cases h
  | k + 1, c :: l, a, h, hd, ha => by
    have hc := hd c (by simp)
    have e : digF a c = 10 * a + (c.toNat : Int) - 48 := rfl
    have ih := fold_lt k l (digF a c) (by simpa using h) (fun d hd' => hd d (by simp [hd'])) (by omega)
    rw [List.foldl_cons]
    refine ⟨ih.1, Int.lt_of_lt_of_le ih.2 ?_⟩
    rw [Int.pow_succ, Int.mul_comm (10 ^ k) 10, ← Int.mul_assoc]
    exact Int.mul_le_mul_of_nonneg_right (by omega) (Int.pow_nonneg (by decide))
theorem fold_le {l : List UInt8} (h : l.length ≤ 11) (hd : ∀ c ∈ l, 48 ≤ c.toNat ∧ c.toNat ≤ 57) : 0 ≤ l.foldl digF 0 ∧ l.foldl digF 0 < 100000000000 := by
  have h1 := fold_lt l.length l 0 rfl hd (by omega)
  refine ⟨h1.1, Int.lt_of_lt_of_le h1.2 ?_⟩
  rw [Int.zero_add, Int.one_mul]
  have h2 := Nat.pow_le_pow_right (n := 10) (by decide) h
  have : (10 : Int) ^ l.length ≤ 10 ^ 11 := by exact_mod_cast h2
  exact this
theorem num_none {l : List UInt8} (h : ¬ (l.length ≤ 11 ∧ sgn l ≠ l.length ∧ (∀ c ∈ l.drop (sgn l), 48 ≤ c.toNat ∧ c.toNat ≤ 57))) : numV l = none := by
  cases hn : numV l with
  | none => rfl
  | some n =>
    obtain ⟨h1, h2, h3, _⟩ := numV_shape hn
    exact absurd ⟨h1, h2, h3⟩ h
/-- what Read answers where the shape is right -/
theorem num_read (l : List UInt8) : numV l = if -2147483648 ≤ readN l ∧ readN l ≤ 2147483648 ∧ itoa (readN l) = l then some (readN l) else none := by
  split
  · rename_i h
    have := numV_itoa (n := readN l) ⟨h.1, h.2.1⟩
    rwa [h.2.2] at this
  · rename_i h
    cases hn : numV l with
    | none => rfl
    | some n =>
      have e := (numV_shape hn).2.2.2
      have := numV_some hn
      rw [e] at h
      exact absurd ⟨this.2.1, this.2.2, this.1⟩ h
end Go.Z.Txt
/- Chapter 36: the document's numerals; a text divided into lines, and a line into words. Conditions: none. -/
namespace Go.Z.Txt
set_option maxRecDepth 8000
set_option linter.unusedVariables false
set_option linter.unusedSimpArgs false
set_option linter.unusedSectionVars false
open Go Go.Lib Go.Z.Val
theorem digs : ∀ d : Nat, d < 10 → (([48, 49, 50, 51, 52, 53, 54, 55, 56, 57] : List UInt8).drop d).take 1 = [UInt8.ofNat (48 + d)] := by decide
def wordsD (s : List UInt8) : List (List UInt8) := if s = [] then [] else pieces 32 s
theorem words_doc (s : List UInt8) : wordsV (wordsD s) = wordsV (pieces 32 s) := by
  unfold wordsD
  split
  · rename_i h
    subst h
    have h0 : numV [] = none := by
      apply num_none
      intro h
      exact h.2.1 rfl
    show wordsV [] = wordsV [[]]
    simp [wordsV, h0]
  · rfl
theorem pieces_len (c : UInt8) : ∀ l : List UInt8, (pieces c l).length ≤ l.length + 1
  | [] => by simp [pieces]
  | b :: l => by
    have ih := pieces_len c l
    rw [pieces]
    split
    · simp; omega
    · split
      · simp
      · rename_i x r h; rw [h] at ih; simp at ih ⊢; omega
theorem wordsD_len (s : List UInt8) : (wordsD s).length ≤ s.length + 1 := by
  unfold wordsD; split
  · simp
  · exact pieces_len 32 s
theorem scan_hit {c : UInt8} {s : List UInt8} {f i : Nat} (hf : f ≤ i) (hi : i < s.length) (hc : s[i] = c) (hn : c ∉ (s.drop f).take (i - f)) : pieces c (s.drop f) = (s.drop f).take (i - f) :: pieces c (s.drop (i + 1)) := by
  have e : s.drop f = (s.drop f).take (i - f) ++ c :: s.drop (i + 1) := by
    have h1 : (s.drop f).drop (i - f) = s.drop i := by rw [List.drop_drop]; congr 1; omega
    rw [← hc, ← List.drop_eq_getElem_cons hi, ← h1, List.take_append_drop]
  conv => lhs; rw [e]
  exact pieces_hit _ hn
theorem scan_miss {c : UInt8} {s : List UInt8} {f i : Nat} (hf : f ≤ i) (hi : i < s.length) (hc : s[i] ≠ c) (hn : c ∉ (s.drop f).take (i - f)) : c ∉ (s.drop f).take (i + 1 - f) := by
  rw [show i + 1 - f = (i - f) + 1 by omega, List.take_add_one, List.getElem?_drop, show f + (i - f) = i by omega, List.getElem?_eq_getElem hi]
  simp only [Option.toList_some, List.mem_append, List.mem_singleton, not_or]
  exact ⟨hn, fun h => hc h.symm⟩
theorem scan_end {c : UInt8} {s : List UInt8} {f : Nat} (hn : c ∉ (s.drop f).take (s.length - f)) : pieces c (s.drop f) = [s.drop f] := by
  rw [List.take_of_length_le (by rw [List.length_drop]; omega)] at hn
  exact pieces_free hn
end Go.Z.Txt
namespace Go.Proofs.YtopgbgnmjogeeaaGreatDoor
set_option maxRecDepth 8000
set_option linter.unusedVariables false
set_option linter.unusedSimpArgs false
set_option linter.unusedSectionVars false
open Go Go.Z Go.Z.Txt Go.Z.Val

theorem strOf_app (l m : List UInt8) : strOf l ++ strOf m = strOf (l ++ m) := ByteArray.ext (Array.ext' (by rw [app_list]; rfl))
theorem eqlsF {P : Program} {M : Mx} {n : Nat} {L : Fr} {H : List Assn} {dd : Option Tmp} {ty t : TypeId} {ps : String} {af : Array Edge} {gd : Option (Nat × Bool)} {x y : Operand} {tz : TypeId} {yt : Ty} {i j : ByteArray} [ht : TyC P t yt] (hd : yt.d = .string) (h1 : ev L x = some (.string i)) (h2 : ev L y = some (.string j)) (h : i ≠ j) : Pur P M n L H ⟨dd, .binOp .eql t x y tz, ty, ps, af, gd⟩ (.bool false) := by
  have := p_eqls (P := P) (M := M) (n := n) (L := L) (H := H) (dd := dd) (t := t) (ty := ty) (ps := ps) (af := af) (gd := gd) (tz := tz) hd h1 h2
  rwa [decide_eq_false h] at this
def encS (l : List UInt8) : Value := .string (strOf l)
theorem dnum_pos : ∀ u : Nat, u ≤ 1000000000000 → ∀ {ρ : Nat → Obj → Prop}, Con Tryz.prog ρ 45 #[.int .i64 u] [] (fun v H => v = .string (strOf (Lib.decDigits u)) ∧ H = []) := by
  intro u
  induction u using Nat.strongRecOn with
  | ind u ih =>
    intro hu ρ
    have hdig := digs (u % 10) (Nat.mod_lt _ (by decide))
    refine con_intro Tryz.func45 Tryz.call45 rfl Tryz.ntmps45 rfl (L := [(0, _)]) rfl fun w hh => ?_
    refine g_seq ?_
    refine g_region ?_
    refine g_pure (p_assign rfl) rfl ?_
    refine g_nil ?_
    refine g_qt ?_
    refine g_seq ?_
    refine g_seq ?_
    refine g_region ?_
    refine g_pure (p_move rfl) rfl ?_
    refine g_pure (p_lss rfl rfl) rfl ?_
    refine g_nil ?_
    refine g_qt ?_
    refine g_ifd rfl (fun h0 => ?_) (fun h0 => ?_)
    · exfalso; omega
    · refine g_skip ?_
      refine g_qt ?_
      refine g_seq ?_
      refine g_region ?_
      refine g_pure (p_move rfl) rfl ?_
      refine g_pure (p_remn rfl rfl (by decide) (by omega)) rfl ?_
      refine g_pure (p_move rfl) rfl ?_
      refine g_pure (p_remn rfl rfl (by decide) (by omega)) rfl ?_
      first | refine g_pure (p_addi rfl rfl (by omega)) rfl ?_ | refine g_pure (p_add rfl rfl) rfl ?_
      refine g_pure (p_slices (by rfl) rfl rfl rfl (by omega) (by show (u : Int) % 10 + 1 ≤ ((10 : Nat) : Int); omega)) rfl ?_
      refine g_pure (p_assign rfl) rfl ?_
      refine g_nil ?_
      refine g_qt ?_
      refine g_seq ?_
      refine g_seq ?_
      refine g_region ?_
      refine g_pure (p_move rfl) rfl ?_
      refine g_pure (p_lss rfl rfl) rfl ?_
      refine g_nil ?_
      refine g_qt ?_
      rw [show ((u : Int) % 10 + 1).toNat - ((u : Int) % 10).toNat = 1 by omega, show ((u : Int) % 10).toNat = u % 10 by omega, hdig]
      refine g_ifd rfl (fun h1 => ?_) (fun h1 => ?_)
      · refine g_seq ?_
        refine g_region ?_
        refine g_pure (p_move rfl) rfl ?_
        refine g_pure (p_assign rfl) rfl ?_
        refine g_nil ?_
        refine g_qt ?_
        refine g_ret ?_
        refine g_qt_ret ?_
        exact g_post (Ho := []) (rs := [.tmp 2]) rfl (.tmp rfl .nil) ⟨by rw [dec_small (by omega), show u % 10 = u by omega]; rfl, rfl⟩ (by repeat' (first | exact Cover.nil | exact Take.here | apply Cover.cons | apply Take.there))
      · have hl := dec_len (k := 12) (u / 10) (by omega)
        refine g_skip ?_
        refine g_qt ?_
        refine g_seq ?_
        refine g_region ?_
        refine g_pure (p_move rfl) rfl ?_
        refine g_pure (p_quon rfl rfl (by decide) (by omega)) rfl ?_
        rw [show (u : Int) / 10 = ((u / 10 : Nat) : Int) by omega]
        refine g_call (Hin := []) (Hr := ?hr1) (R := ?rr1) rfl rfl rfl ?hin1 ?hc1 ?hk1
        case hin1 => repeat' (first | exact Cover.nil | exact Take.here | apply Cover.cons | apply Take.there)
        case hc1 => intro ρ' hρ hR; exact ih (u / 10) (by omega) (by omega)
        rintro _ _ ⟨rfl, rfl⟩
        refine g_pure (p_move rfl) rfl ?_
        refine g_pure (p_adds (by rfl) rfl rfl (by simp only [strOf_size, lit_size, List.size_toArray, List.length_cons, List.length_nil]; omega)) rfl ?_
        refine g_pure (p_assign rfl) rfl ?_
        refine g_nil ?_
        refine g_qt ?_
        refine g_ret ?_
        exact g_post (Ho := []) (rs := [.tmp 2]) rfl (.tmp rfl .nil) ⟨by rw [dec_big (u := u) (by omega)]; exact congrArg Value.string (strOf_app _ _), rfl⟩ (by repeat' (first | exact Cover.nil | exact Take.here | apply Cover.cons | apply Take.there))
theorem dnum_ok {ρ : Nat → Obj → Prop} (n : Int) (h : -1000000000000 ≤ n ∧ n ≤ 1000000000000) : Con Tryz.prog ρ 45 #[.int .i64 n] [] (fun v H => v = .string (strOf (Lib.itoa n)) ∧ H = []) := by
  by_cases hn : n < 0
  · have hl := dec_len (k := 12) n.natAbs (by omega)
    refine con_intro Tryz.func45 Tryz.call45 rfl Tryz.ntmps45 rfl (L := [(0, _)]) rfl fun w hh => ?_
    refine g_seq ?_
    refine g_region ?_
    refine g_pure (p_assign rfl) rfl ?_
    refine g_nil ?_
    refine g_qt ?_
    refine g_seq ?_
    refine g_seq ?_
    refine g_region ?_
    refine g_pure (p_move rfl) rfl ?_
    refine g_pure (p_lss rfl rfl) rfl ?_
    refine g_nil ?_
    refine g_qt ?_
    refine g_ifd rfl (fun h0 => ?_) (fun h0 => ?_)
    · refine g_seq ?_
      refine g_region ?_
      refine g_pure (p_move rfl) rfl ?_
      first | refine g_pure (p_negi rfl (by omega)) rfl ?_ | refine g_pure (p_neg rfl) rfl ?_
      rw [show -n = ((n.natAbs : Nat) : Int) by omega]
      refine g_call (Hin := []) (Hr := ?hr2) (R := ?rr2) rfl rfl rfl ?hin2 ?hc2 ?hk2
      case hin2 => repeat' (first | exact Cover.nil | exact Take.here | apply Cover.cons | apply Take.there)
      case hc2 => intro ρ' hρ hR; exact dnum_pos n.natAbs (by omega)
      rintro _ _ ⟨rfl, rfl⟩
      refine g_pure (p_adds (by rfl) rfl rfl (by simp only [strOf_size, lit_size, List.size_toArray, List.length_cons, List.length_nil]; omega)) rfl ?_
      refine g_pure (p_assign rfl) rfl ?_
      refine g_nil ?_
      refine g_qt ?_
      refine g_ret ?_
      refine g_qt_ret ?_
      exact g_post (Ho := []) (rs := [.tmp 2]) rfl (.tmp rfl .nil) ⟨by rw [itoa_neg hn]; exact congrArg Value.string (strOf_app [45] _), rfl⟩ (by repeat' (first | exact Cover.nil | exact Take.here | apply Cover.cons | apply Take.there))
    · exact absurd hn h0
  · have := dnum_pos n.toNat (by omega) (ρ := ρ)
    rw [show ((n.toNat : Nat) : Int) = n by omega] at this
    rw [itoa_pos hn]
    exact this

theorem lines_ok {ρ : Nat → Obj → Prop} (s : List UInt8) (hs : s.length ≤ 1000000) : Con Tryz.prog ρ 48 #[.string (strOf s)] [] (fun v H => ∃ a c, v = .slice a (pieces 10 s).length c ∧ H = [OwnSl 9 1 a (pieces 10 s).length c ((pieces 10 s).map encS)]) := by
  have hpl := pieces_len 10 s
  have hss : (strOf s).size = s.length := rfl
  refine con_intro Tryz.func48 Tryz.call48 rfl Tryz.ntmps48 rfl (L := [(0, _)]) rfl fun w hh => ?_
  refine g_seq ?_
  refine g_region ?_
  refine g_pure (p_assign rfl) rfl ?_
  refine g_nil ?_
  refine g_qt ?_
  refine g_seq ?_
  refine g_region ?_
  refine g_pure (p_assign rfl) rfl ?_
  refine g_nil ?_
  refine g_qt ?_
  refine g_seq ?_
  refine g_region ?_
  refine g_pure (p_assign rfl) rfl ?_
  refine g_nil ?_
  refine g_qt ?_
  refine g_seq ?_
  refine g_seq ?_
  refine g_region ?_
  refine g_pure (p_assign rfl) rfl ?_
  refine g_nil ?_
  refine g_qt ?_
  refine g_block ?_
  refine g_ownnil (e := 9) (size := 1) ?_
  refine g_loop (fun q : Nat × Nat × List (List UInt8) × Option Addr × Nat => [(0, .string (strOf s)), (3, .slice q.2.2.2.1 q.2.2.1.length q.2.2.2.2), (4, .int .i64 q.2.1), (5, .int .i64 q.1)])
    (fun q => [OwnSl 9 1 q.2.2.2.1 q.2.2.1.length q.2.2.2.2 (q.2.2.1.map encS)]) (fun q => q.2.1 ≤ q.1 ∧ q.1 ≤ s.length ∧ pieces 10 s = q.2.2.1 ++ pieces 10 (s.drop q.2.1) ∧ (10 : UInt8) ∉ (s.drop q.2.1).take (q.1 - q.2.1)) (fun q => s.length - q.1) (0, 0, [], none, 0) ⟨Nat.le_refl _, Nat.zero_le _, rfl, by simp⟩ (by (repeat (first | exact trivial | refine ⟨by rfl, ?_⟩)); done) (by repeat' (first | exact Cover.nil | exact Take.here | apply Cover.cons | apply Take.there)) ?_
  rintro ⟨i, f, out, a, c⟩ ⟨hf, hi, hP, hn⟩
  dsimp only at hf hi hP hn ⊢
  have hol : out.length ≤ s.length + 1 := by rw [hP, List.length_append] at hpl; omega
  refine g_seq ?_
  refine g_seq ?_
  refine g_region ?_
  refine g_pure (p_move rfl) rfl ?_
  refine g_pure (p_move rfl) rfl ?_
  refine g_pure (p_lens (by rfl) rfl) rfl ?_
  refine g_pure (p_lss rfl rfl) rfl ?_
  refine g_nil ?_
  refine g_qt ?_
  refine g_ifd rfl (fun q => ?_) (fun q => ?_)
  · rw [hss] at q
    have hil : i < s.length := by omega
    have hb : (strOf s).data.toList[(i : Int).toNat]? = some s[i] := by rw [strOf_list, Int.toNat_natCast, List.getElem?_eq_getElem hil]
    refine g_skip ?_
    refine g_qt ?_
    refine g_seq ?_
    refine g_block ?_
    refine g_seq ?_
    refine g_region ?_
    refine g_pure (p_move rfl) rfl ?_
    refine g_pure (p_move rfl) rfl ?_
    refine g_pure (p_indexs (by rfl) rfl rfl (by omega) hb) rfl ?_
    refine g_pure (p_eql rfl rfl) rfl ?_
    refine g_nil ?_
    refine g_qt ?_
    refine g_ifd rfl (fun h => ?_) (fun h => ?_)
    · have hc : s[i] = 10 := UInt8.toNat_inj.1 (by show s[i].toNat = 10; omega)
      have hP2 := hP
      rw [scan_hit hf hil hc hn] at hP2
      refine g_seq ?_
      refine g_region ?_
      refine g_pure (p_move rfl) rfl ?_
      refine g_pure (p_move rfl) rfl ?_
      refine g_pure (p_move rfl) rfl ?_
      refine g_pure (p_move rfl) rfl ?_
      refine g_pure (p_slices (by rfl) rfl rfl rfl (by omega) (by omega)) rfl ?_
      refine g_eff (e_bs (xs := [.tmp 20]) rfl rfl rfl (by rfl) (by rfl) rfl (by rfl)) rfl (fun _ _ => ?_)
      rintro ⟨b21, rfl, rfl⟩
      refine g_eff (e_appendO (by rfl) (by rfl) rfl rfl (by first | (apply Has.own; (repeat' (first | exact Take.here | apply Take.there)); done) | exact Has.ro (by assumption)) (by rfl) (by rfl) (by repeat' (first | exact Take.here | apply Take.there)) (by omega) (by first | omega | (dsimp only; omega) | (simp <;> omega)) (by omega)) rfl (fun _ _ => ?_)
      rintro ⟨a22, c22, rfl, rfl⟩
      refine g_pure (p_assign rfl) rfl ?_
      refine g_nil ?_
      refine g_qt ?_
      refine g_region ?_
      refine g_pure (p_move rfl) rfl ?_
      first | refine g_pure (p_addi rfl rfl (by omega)) rfl ?_ | refine g_pure (p_add rfl rfl) rfl ?_
      refine g_pure (p_assign rfl) rfl ?_
      refine g_nil ?_
      refine g_qb ?_
      refine g_qt ?_
      refine g_region ?_
      refine g_pure (p_move rfl) rfl ?_
      first | refine g_pure (p_addi rfl rfl (by omega)) rfl ?_ | refine g_pure (p_add rfl rfl) rfl ?_
      refine g_pure (p_assign rfl) rfl ?_
      refine g_nil ?_
      refine g_qn ?_
      rw [Int.toNat_natCast, Int.toNat_natCast]
      have e3 : out.map encS ++ [Value.string ⟨((s.drop f).take (i - f)).toArray⟩] = (out ++ [(s.drop f).take (i - f)]).map encS := by rw [List.map_append]; rfl
      have e4 : out.length + 1 = (out ++ [(s.drop f).take (i - f)]).length := by simp
      rw [e3, e4]
      exact g_next (i + 1, i + 1, out ++ [(s.drop f).take (i - f)], a22, c22) (by (repeat (first | exact trivial | refine ⟨by rfl, ?_⟩)); done) (by repeat' (first | exact Cover.nil | exact Take.here | apply Cover.cons | apply Take.there)) ⟨Nat.le_refl _, by dsimp only; omega, by dsimp only; rw [hP2]; simp, by simp⟩ (by dsimp only; omega)
    · have hc : s[i] ≠ 10 := fun e => h (by rw [e]; rfl)
      refine g_skip ?_
      refine g_qb ?_
      refine g_qt ?_
      refine g_region ?_
      refine g_pure (p_move rfl) rfl ?_
      first | refine g_pure (p_addi rfl rfl (by omega)) rfl ?_ | refine g_pure (p_add rfl rfl) rfl ?_
      refine g_pure (p_assign rfl) rfl ?_
      refine g_nil ?_
      refine g_qn ?_
      exact g_next (i + 1, f, out, a, c) (by (repeat (first | exact trivial | refine ⟨by rfl, ?_⟩)); done) (by repeat' (first | exact Cover.nil | exact Take.here | apply Cover.cons | apply Take.there)) ⟨by dsimp only; omega, by dsimp only; omega, hP, scan_miss hf hil hc hn⟩ (by dsimp only; omega)
  · rw [hss] at q
    have hie : i = s.length := by omega
    subst hie
    rw [scan_end hn] at hP
    refine g_exit ?_
    refine g_qt_exit ?_
    refine g_qn_exit ?_
    refine g_qb_exit ?_
    refine g_qt ?_
    refine g_seq ?_
    refine g_region ?_
    refine g_pure (p_move rfl) rfl ?_
    refine g_pure (p_move rfl) rfl ?_
    refine g_pure (p_move rfl) rfl ?_
    refine g_pure (p_slicesl (by rfl) rfl rfl (by omega)) rfl ?_
    refine g_eff (e_bs (xs := [.tmp 28]) rfl rfl rfl (by rfl) (by rfl) rfl (by rfl)) rfl (fun _ _ => ?_)
    rintro ⟨b29, rfl, rfl⟩
    refine g_eff (e_appendO (by rfl) (by rfl) rfl rfl (by first | (apply Has.own; (repeat' (first | exact Take.here | apply Take.there)); done) | exact Has.ro (by assumption)) (by rfl) (by rfl) (by repeat' (first | exact Take.here | apply Take.there)) (by omega) (by first | omega | (dsimp only; omega) | (simp <;> omega)) (by omega)) rfl (fun _ _ => ?_)
    rintro ⟨a30, c30, rfl, rfl⟩
    refine g_pure (p_assign rfl) rfl ?_
    refine g_nil ?_
    refine g_qt ?_
    refine g_ret ?_
    rw [Int.toNat_natCast]
    have e3 : out.map encS ++ [Value.string ⟨(s.drop f).toArray⟩] = (pieces 10 s).map encS := by rw [hP, List.map_append]; rfl
    have e4 : out.length + 1 = (pieces 10 s).length := by rw [hP]; simp
    rw [e3, e4]
    exact g_post (Ho := [OwnSl 9 1 a30 (pieces 10 s).length c30 ((pieces 10 s).map encS)]) (rs := [.tmp 2]) rfl (.tmp rfl .nil) ⟨a30, c30, rfl, rfl⟩ (by repeat' (first | exact Cover.nil | exact Take.here | apply Cover.cons | apply Take.there))
theorem words_ok {ρ : Nat → Obj → Prop} (s : List UInt8) (hs : s.length ≤ 1000000) : Con Tryz.prog ρ 70 #[.string (strOf s)] [] (fun v H => ∃ a c, v = .slice a (wordsD s).length c ∧ H = [OwnSl 9 1 a (wordsD s).length c ((wordsD s).map encS)]) := by
  have hpl := pieces_len 32 s
  have hss : (strOf s).size = s.length := rfl
  by_cases hs0 : s = []
  · subst hs0
    refine con_intro Tryz.func70 Tryz.call70 rfl Tryz.ntmps70 rfl (L := [(0, _)]) rfl fun w hh => ?_
    refine g_seq ?_
    refine g_region ?_
    refine g_pure (p_assign rfl) rfl ?_
    refine g_nil ?_
    refine g_qt ?_
    refine g_seq ?_
    refine g_seq ?_
    refine g_region ?_
    refine g_pure (p_move rfl) rfl ?_
    refine g_pure (p_eqlsT (by rfl) rfl rfl rfl) rfl ?_
    refine g_nil ?_
    refine g_qt ?_
    refine g_ift rfl ?_
    refine g_seq ?_
    refine g_region ?_
    refine g_pure (p_assign rfl) rfl ?_
    refine g_nil ?_
    refine g_qt ?_
    refine g_ret ?_
    refine g_qt_ret ?_
    refine g_ownnil (e := 9) (size := 1) ?_
    exact g_post (Ho := [OwnSl 9 1 none 0 0 []]) (rs := [.tmp 2]) rfl (.tmp rfl .nil) ⟨none, 0, rfl, rfl⟩ (by repeat' (first | exact Cover.nil | exact Take.here | apply Cover.cons | apply Take.there))
  · have hw : wordsD s = pieces 32 s := by unfold wordsD; rw [if_neg hs0]
    rw [hw]
    refine con_intro Tryz.func70 Tryz.call70 rfl Tryz.ntmps70 rfl (L := [(0, _)]) rfl fun w hh => ?_
    refine g_seq ?_
    refine g_region ?_
    refine g_pure (p_assign rfl) rfl ?_
    refine g_nil ?_
    refine g_qt ?_
    refine g_seq ?_
    refine g_seq ?_
    refine g_region ?_
    refine g_pure (p_move rfl) rfl ?_
    refine g_pure (eqlsF (by rfl) rfl rfl (fun e => hs0 (strOf_inj.1 e))) rfl ?_
    refine g_nil ?_
    refine g_qt ?_
    refine g_iff rfl ?_
    refine g_skip ?_
    refine g_qt ?_
    refine g_seq ?_
    refine g_region ?_
    refine g_pure (p_assign rfl) rfl ?_
    refine g_nil ?_
    refine g_qt ?_
    refine g_seq ?_
    refine g_region ?_
    refine g_pure (p_assign rfl) rfl ?_
    refine g_nil ?_
    refine g_qt ?_
    refine g_seq ?_
    refine g_seq ?_
    refine g_region ?_
    refine g_pure (p_assign rfl) rfl ?_
    refine g_nil ?_
    refine g_qt ?_
    refine g_block ?_
    refine g_ownnil (e := 9) (size := 1) ?_
    refine g_loop (fun q : Nat × Nat × List (List UInt8) × Option Addr × Nat => [(0, .string (strOf s)), (3, .slice q.2.2.2.1 q.2.2.1.length q.2.2.2.2), (4, .int .i64 q.2.1), (5, .int .i64 q.1)])
      (fun q => [OwnSl 9 1 q.2.2.2.1 q.2.2.1.length q.2.2.2.2 (q.2.2.1.map encS)]) (fun q => q.2.1 ≤ q.1 ∧ q.1 ≤ s.length ∧ pieces 32 s = q.2.2.1 ++ pieces 32 (s.drop q.2.1) ∧ (32 : UInt8) ∉ (s.drop q.2.1).take (q.1 - q.2.1)) (fun q => s.length - q.1) (0, 0, [], none, 0) ⟨Nat.le_refl _, Nat.zero_le _, rfl, by simp⟩ (by (repeat (first | exact trivial | refine ⟨by rfl, ?_⟩)); done) (by repeat' (first | exact Cover.nil | exact Take.here | apply Cover.cons | apply Take.there)) ?_
    rintro ⟨i, f, out, a, c⟩ ⟨hf, hi, hP, hn⟩
    dsimp only at hf hi hP hn ⊢
    have hol : out.length ≤ s.length + 1 := by rw [hP, List.length_append] at hpl; omega
    refine g_seq ?_
    refine g_seq ?_
    refine g_region ?_
    refine g_pure (p_move rfl) rfl ?_
    refine g_pure (p_move rfl) rfl ?_
    refine g_pure (p_lens (by rfl) rfl) rfl ?_
    refine g_pure (p_lss rfl rfl) rfl ?_
    refine g_nil ?_
    refine g_qt ?_
    refine g_ifd rfl (fun q => ?_) (fun q => ?_)
    · rw [hss] at q
      have hil : i < s.length := by omega
      have hb : (strOf s).data.toList[(i : Int).toNat]? = some s[i] := by rw [strOf_list, Int.toNat_natCast, List.getElem?_eq_getElem hil]
      refine g_skip ?_
      refine g_qt ?_
      refine g_seq ?_
      refine g_block ?_
      refine g_seq ?_
      refine g_region ?_
      refine g_pure (p_move rfl) rfl ?_
      refine g_pure (p_move rfl) rfl ?_
      refine g_pure (p_indexs (by rfl) rfl rfl (by omega) hb) rfl ?_
      refine g_pure (p_eql rfl rfl) rfl ?_
      refine g_nil ?_
      refine g_qt ?_
      refine g_ifd rfl (fun h => ?_) (fun h => ?_)
      · have hc : s[i] = 32 := UInt8.toNat_inj.1 (by show s[i].toNat = 32; omega)
        have hP2 := hP
        rw [scan_hit hf hil hc hn] at hP2
        refine g_seq ?_
        refine g_region ?_
        refine g_pure (p_move rfl) rfl ?_
        refine g_pure (p_move rfl) rfl ?_
        refine g_pure (p_move rfl) rfl ?_
        refine g_pure (p_move rfl) rfl ?_
        refine g_pure (p_slices (by rfl) rfl rfl rfl (by omega) (by omega)) rfl ?_
        refine g_eff (e_bs (xs := [.tmp 22]) rfl rfl rfl (by rfl) (by rfl) rfl (by rfl)) rfl (fun _ _ => ?_)
        rintro ⟨b23, rfl, rfl⟩
        refine g_eff (e_appendO (by rfl) (by rfl) rfl rfl (by first | (apply Has.own; (repeat' (first | exact Take.here | apply Take.there)); done) | exact Has.ro (by assumption)) (by rfl) (by rfl) (by repeat' (first | exact Take.here | apply Take.there)) (by omega) (by first | omega | (dsimp only; omega) | (simp <;> omega)) (by omega)) rfl (fun _ _ => ?_)
        rintro ⟨a24, c24, rfl, rfl⟩
        refine g_pure (p_assign rfl) rfl ?_
        refine g_nil ?_
        refine g_qt ?_
        refine g_region ?_
        refine g_pure (p_move rfl) rfl ?_
        first | refine g_pure (p_addi rfl rfl (by omega)) rfl ?_ | refine g_pure (p_add rfl rfl) rfl ?_
        refine g_pure (p_assign rfl) rfl ?_
        refine g_nil ?_
        refine g_qb ?_
        refine g_qt ?_
        refine g_region ?_
        refine g_pure (p_move rfl) rfl ?_
        first | refine g_pure (p_addi rfl rfl (by omega)) rfl ?_ | refine g_pure (p_add rfl rfl) rfl ?_
        refine g_pure (p_assign rfl) rfl ?_
        refine g_nil ?_
        refine g_qn ?_
        rw [Int.toNat_natCast, Int.toNat_natCast]
        have e3 : out.map encS ++ [Value.string ⟨((s.drop f).take (i - f)).toArray⟩] = (out ++ [(s.drop f).take (i - f)]).map encS := by rw [List.map_append]; rfl
        have e4 : out.length + 1 = (out ++ [(s.drop f).take (i - f)]).length := by simp
        rw [e3, e4]
        exact g_next (i + 1, i + 1, out ++ [(s.drop f).take (i - f)], a24, c24) (by (repeat (first | exact trivial | refine ⟨by rfl, ?_⟩)); done) (by repeat' (first | exact Cover.nil | exact Take.here | apply Cover.cons | apply Take.there)) ⟨Nat.le_refl _, by dsimp only; omega, by dsimp only; rw [hP2]; simp, by simp⟩ (by dsimp only; omega)
      · have hc : s[i] ≠ 32 := fun e => h (by rw [e]; rfl)
        refine g_skip ?_
        refine g_qb ?_
        refine g_qt ?_
        refine g_region ?_
        refine g_pure (p_move rfl) rfl ?_
        first | refine g_pure (p_addi rfl rfl (by omega)) rfl ?_ | refine g_pure (p_add rfl rfl) rfl ?_
        refine g_pure (p_assign rfl) rfl ?_
        refine g_nil ?_
        refine g_qn ?_
        exact g_next (i + 1, f, out, a, c) (by (repeat (first | exact trivial | refine ⟨by rfl, ?_⟩)); done) (by repeat' (first | exact Cover.nil | exact Take.here | apply Cover.cons | apply Take.there)) ⟨by dsimp only; omega, by dsimp only; omega, hP, scan_miss hf hil hc hn⟩ (by dsimp only; omega)
    · rw [hss] at q
      have hie : i = s.length := by omega
      subst hie
      rw [scan_end hn] at hP
      refine g_exit ?_
      refine g_qt_exit ?_
      refine g_qn_exit ?_
      refine g_qb_exit ?_
      refine g_qt ?_
      refine g_seq ?_
      refine g_region ?_
      refine g_pure (p_move rfl) rfl ?_
      refine g_pure (p_move rfl) rfl ?_
      refine g_pure (p_move rfl) rfl ?_
      refine g_pure (p_slicesl (by rfl) rfl rfl (by omega)) rfl ?_
      refine g_eff (e_bs (xs := [.tmp 30]) rfl rfl rfl (by rfl) (by rfl) rfl (by rfl)) rfl (fun _ _ => ?_)
      rintro ⟨b31, rfl, rfl⟩
      refine g_eff (e_appendO (by rfl) (by rfl) rfl rfl (by first | (apply Has.own; (repeat' (first | exact Take.here | apply Take.there)); done) | exact Has.ro (by assumption)) (by rfl) (by rfl) (by repeat' (first | exact Take.here | apply Take.there)) (by omega) (by first | omega | (dsimp only; omega) | (simp <;> omega)) (by omega)) rfl (fun _ _ => ?_)
      rintro ⟨a32, c32, rfl, rfl⟩
      refine g_pure (p_assign rfl) rfl ?_
      refine g_nil ?_
      refine g_qt ?_
      refine g_ret ?_
      rw [Int.toNat_natCast]
      have e3 : out.map encS ++ [Value.string ⟨(s.drop f).toArray⟩] = (pieces 32 s).map encS := by rw [hP, List.map_append]; rfl
      have e4 : out.length + 1 = (pieces 32 s).length := by rw [hP]; simp
      rw [e3, e4]
      exact g_post (Ho := [OwnSl 9 1 a32 (pieces 32 s).length c32 ((pieces 32 s).map encS)]) (rs := [.tmp 2]) rfl (.tmp rfl .nil) ⟨a32, c32, rfl, rfl⟩ (by repeat' (first | exact Cover.nil | exact Take.here | apply Cover.cons | apply Take.there))
end Go.Proofs.YtopgbgnmjogeeaaGreatDoor
/- Chapter 36: the document's text of a formula. Conditions: none. -/
namespace Go.Proofs.YtopgbgnmjogeeaaGreatDoor
set_option maxRecDepth 8000
set_option linter.unusedVariables false
set_option linter.unusedSimpArgs false
set_option linter.unusedSectionVars false
open Go Go.Z Go.Z.Txt Go.Z.Sat Go.Z.Val

theorem cells_of (l : List UInt8) : Lib.strCells (strOf l) = Lib.byteCells l := rfl
theorem cells_app (W l : List UInt8) : Lib.byteCells W ++ Lib.strCells (strOf l) = Lib.byteCells (W ++ l) := by simp [Lib.byteCells, Lib.strCells, strOf]
theorem size_app (W l : List UInt8) : W.length + (strOf l).size = (W ++ l).length := by rw [List.length_append]; rfl
theorem check_lits {n : Int} {F : Fm} (hc : check1 n F = 0) : n ≤ 262144 ∧ ∀ c ∈ F, ∀ x ∈ c, x ≠ 0 ∧ -n ≤ x ∧ x ≤ n := by
  have hnn := check1_nonneg hc
  have hv : n ≤ 262144 := by
    unfold check1 at hc
    split at hc
    · cases hc
    · omega
  have hall : allB n F = true := by
    unfold check1 at hc
    rw [if_neg (by omega), if_neg (by omega)] at hc
    split at hc
    · assumption
    · cases hc
  refine ⟨hv, fun c hcm x hx => ?_⟩
  have h1 := List.all_eq_true.1 hall c hcm
  have h2 := List.all_eq_true.1 h1 x hx
  have h3 := okB_okL (n := n.toNat) (l := x) (by rw [Int.toNat_of_nonneg hnn.1]; exact h2)
  unfold okL at h3
  omega
theorem dtext36_ok {ρ : Nat → Obj → Prop} (n : Int) (hn : I64 n) (ca : Option Addr) (cc : Nat) (F : Fm) (hF : FmR ρ ca F) (hFl : F.length ≤ 1000000) (hsz : (textV n F).length ≤ 4294967280) :
    Con Tryz.prog ρ 18 #[.agg #[.int .i64 n, .slice ca F.length cc]] []
      (fun v H => v = (if check1 n F = 0 then .tuple #[.string (strOf (textV n F)), .int .i64 0] else .tuple #[.string (strOf []), .int .i64 (check1 n F)]) ∧ H = []) := by
  have hlen := hF.len
  have hn' := itoa_len64 hn
  have hl' := itoa_len64 (n := (F.length : Int)) (by unfold I64; omega)
  refine con_intro Tryz.func18 Tryz.call18 rfl Tryz.ntmps18 rfl (L := [(0, _)]) rfl fun w hh => ?_
  refine g_seq ?_
  refine g_region ?_
  refine g_eff (e_box rfl (by rfl)) rfl (fun _ _ => ?_)
  rintro ⟨b1, rfl, rfl⟩
  refine g_pure (p_assign rfl) rfl ?_
  refine g_pure (p_assign rfl) rfl ?_
  refine g_nil ?_
  refine g_qt ?_
  refine g_seq ?_
  refine g_region ?_
  first | refine g_pure (p_loadO (by rfl) rfl (by first | (apply Has.own; (repeat' (first | exact Take.here | apply Take.there)); done) | exact Has.ro (by assumption)) (by rfl)) rfl ?_ | refine g_pure (p_loadN (by rfl) rfl (by first | (apply Has.own; (repeat' (first | exact Take.here | apply Take.there)); done) | exact Has.ro (by assumption)) (by first | rfl | assumption)) rfl ?_
  refine g_call (Hin := []) (Hr := ?hr1) (R := ?rr1) rfl rfl rfl ?hin1 ?hc1 ?hk1
  case hin1 => repeat' (first | exact Cover.nil | exact Take.here | apply Cover.cons | apply Take.there)
  case hc1 => intro ρ' hρ hR; exact rcheck_ok n hn ca cc F (hF.mono hρ)
  rintro _ _ ⟨rfl, rfl⟩
  refine g_pure (p_assign rfl) rfl ?_
  refine g_nil ?_
  refine g_qt ?_
  refine g_seq ?_
  refine g_seq ?_
  refine g_region ?_
  refine g_pure (p_move rfl) rfl ?_
  refine g_pure (p_neq rfl rfl) rfl ?_
  refine g_nil ?_
  refine g_qt ?_
  refine g_ifnd rfl (fun h1 => ?_) (fun h1 => ?_)
  · refine g_seq ?_
    refine g_region ?_
    refine g_pure (p_move rfl) rfl ?_
    refine g_pure (p_assign rfl) rfl ?_
    refine g_pure (p_assign rfl) rfl ?_
    refine g_nil ?_
    refine g_qt ?_
    refine g_ret ?_
    refine g_qt_ret ?_
    exact g_post (Ho := []) (rs := [.tmp 2, .tmp 3]) rfl (.tmp rfl (.tmp rfl .nil)) ⟨by rw [if_neg h1]; rfl, rfl⟩ (by repeat' (first | exact Cover.nil | exact Take.here | apply Cover.cons | apply Take.there))
  · have hc : check1 n F = 0 := by omega
    have hnn := check1_nonneg hc
    obtain ⟨hn2, hlits⟩ := check_lits hc
    have e0 : ⟨#[112, 32, 99, 110, 102, 32]⟩ ++ strOf (Lib.itoa n) ++ ⟨#[32]⟩ ++ strOf (Lib.itoa (F.length : Int)) ++ ⟨#[10]⟩ = strOf (outW n F 0) := by
      rw [outW_zero]
      apply ByteArray.ext
      apply Array.ext'
      simp only [app_list, strOf_list, headT]
    have ho0 := outW_le n F 0
    refine g_skip ?_
    refine g_qt ?_
    refine g_seq ?_
    refine m_begin (.fl 0 0 (.fl 1 1 (.fl 5 0 (.fl 6 1 (.fl 7 0 (.ef 2 (.fl 3 0 (.fl 4 0 (.ef 8 (.fl 9 0 (.fl 10 0 (.ef 11 (.fl 12 0 .done))))))))))))) [Blk b1 (.cells [.int .i64 n, .slice ca F.length cc].toArray 30 (0, 0))] (by kernel_rfl) (by kernel_rfl) (by repeat' (first | exact Cover.nil | exact Take.here | apply Cover.cons | apply Take.there)) ?_
    refine m_float0 rfl (fun _ _ => p_fieldAddr rfl) rfl ?_
    refine m_float rfl (p_load (by rfl) rfl (by first | (apply Has.own; (repeat' (first | exact Take.here | apply Take.there)); done) | exact Has.ro (by assumption)) (by first | rfl | assumption)) rfl ?_
    refine m_float0 rfl (fun _ _ => p_fieldAddr rfl) rfl ?_
    refine m_float rfl (p_load (by rfl) rfl (by first | (apply Has.own; (repeat' (first | exact Take.here | apply Take.there)); done) | exact Has.ro (by assumption)) (by first | rfl | assumption)) rfl ?_
    refine m_float0 rfl (fun _ _ => p_len (by rfl) rfl) rfl ?_
    refine m_call (Hin := []) (Hr := ?hr2) (R := ?rr2) rfl wantedN rfl rfl rfl ?hin2 ?hc2 ?hk2
    case hin2 => repeat' (first | exact Cover.nil | exact Take.here | apply Cover.cons | apply Take.there)
    case hc2 => intro ρ' hρ hR; exact dnum_ok n (by omega)
    rintro _ _ ⟨rfl, rfl⟩
    refine ⟨.some (by repeat' (first | exact Cover.nil | exact Take.here | apply Cover.cons | apply Take.there)), ?_⟩
    refine m_float0 rfl (fun _ _ => p_adds (by rfl) rfl rfl (by simp only [ByteArray.size_append, strOf_size, lit_size, List.size_toArray, List.length_cons, List.length_nil]; omega)) rfl ?_
    refine m_float0 rfl (fun _ _ => p_adds (by rfl) rfl rfl (by simp only [ByteArray.size_append, strOf_size, lit_size, List.size_toArray, List.length_cons, List.length_nil]; omega)) rfl ?_
    refine m_call (Hin := []) (Hr := ?hr3) (R := ?rr3) rfl wantedN rfl rfl rfl ?hin3 ?hc3 ?hk3
    case hin3 => repeat' (first | exact Cover.nil | exact Take.here | apply Cover.cons | apply Take.there)
    case hc3 => intro ρ' hρ hR; exact dnum_ok (F.length : Int) (by omega)
    rintro _ _ ⟨rfl, rfl⟩
    refine ⟨.none (by kernel_rfl), ?_⟩
    refine m_float0 rfl (fun _ _ => p_adds (by rfl) rfl rfl (by simp only [ByteArray.size_append, strOf_size, lit_size, List.size_toArray, List.length_cons, List.length_nil]; omega)) rfl ?_
    refine m_float0 rfl (fun _ _ => p_adds (by rfl) rfl rfl (by simp only [ByteArray.size_append, strOf_size, lit_size, List.size_toArray, List.length_cons, List.length_nil]; omega)) rfl ?_
    refine m_eff rfl (e_stb (P := Tryz.prog) (src := 9) (dst := 86) (e := 5) (s := ⟨#[112, 32, 99, 110, 102, 32]⟩ ++ strOf (Lib.itoa n) ++ ⟨#[32]⟩ ++ strOf (Lib.itoa (F.length : Int)) ++ ⟨#[10]⟩) (by rfl) (by rfl) rfl (by simp only [ByteArray.size_append, strOf_size, lit_size, List.size_toArray, List.length_cons, List.length_nil]; omega)) rfl (fun _ _ => ?_)
    rintro ⟨a24, c24, rfl, rfl⟩
    refine ⟨.none (by kernel_rfl), ?_⟩
    refine m_float0 rfl (fun _ _ => p_assign rfl) rfl ?_
    refine m_nil ?_
    refine g_qt ?_
    refine g_seq ?_
    refine g_seq ?_
    refine g_region ?_
    refine g_pure (p_assign rfl) rfl ?_
    refine g_nil ?_
    refine g_qt ?_
    refine g_block ?_
    rw [e0, strOf_size, cells_of]
    refine g_loop (fun x : Nat × Option Addr × Nat => [(1, .pointer (some ⟨b1, 0, none⟩)), (5, .slice x.2.1 (outW n F x.1).length x.2.2), (6, .int .i64 x.1)])
      (fun x => [Blk b1 (.cells [.int .i64 n, .slice ca F.length cc].toArray 30 (0, 0)), OwnB 5 x.2.1 (outW n F x.1).length x.2.2 (Lib.byteCells (outW n F x.1))]) (fun x => x.1 ≤ F.length) (fun x => F.length - x.1) (0, a24, c24) (Nat.zero_le _) (by (repeat (first | exact trivial | refine ⟨by rfl, ?_⟩)); done) (by repeat' (first | exact Cover.nil | exact Take.here | apply Cover.cons | apply Take.there)) ?_
    rintro ⟨i, a, cap⟩ hi
    dsimp only at hi ⊢
    refine g_seq ?_
    refine g_seq ?_
    refine g_region ?_
    refine g_pure (p_move rfl) rfl ?_
    refine g_pure (p_fieldAddr rfl) rfl ?_
    refine g_pure (p_load (by rfl) rfl (by first | (apply Has.own; (repeat' (first | exact Take.here | apply Take.there)); done) | exact Has.ro (by assumption)) (by first | rfl | assumption)) rfl ?_
    refine g_pure (p_len (by rfl) rfl) rfl ?_
    refine g_pure (p_lss rfl rfl) rfl ?_
    refine g_nil ?_
    refine g_qt ?_
    refine g_ifd rfl (fun q => ?_) (fun q => ?_)
    · have hil : i < F.length := by omega
      obtain ⟨bo, off, cs, T, fz, rfl, hro, hat⟩ := hF.at (by omega)
      obtain ⟨ai, ci, hci, hrow⟩ := hat i hil
      have hcl := hF.lens F[i] (List.getElem_mem hil)
      have hx1 : cs[off + (i : Int).toNat * 1]? = some (.slice ai F[i].length ci) := hci
      refine g_skip ?_
      refine g_qt ?_
      refine g_seq ?_
      refine g_block ?_
      refine g_seq ?_
      refine g_seq ?_
      refine g_region ?_
      refine g_pure (p_assign rfl) rfl ?_
      refine g_nil ?_
      refine g_qt ?_
      refine g_block ?_
      rw [← inW_zero (outW n F i) F[i]]
      refine g_loop (fun x : Nat × Option Addr × Nat => [(1, .pointer (some ⟨b1, 0, none⟩)), (5, .slice x.2.1 (inW (outW n F i) F[i] x.1).length x.2.2), (6, .int .i64 i), (7, .int .i64 x.1)])
        (fun x => [Blk b1 (.cells [.int .i64 n, .slice (some ⟨bo, off, none⟩) F.length cc].toArray 30 (0, 0)), OwnB 5 x.2.1 (inW (outW n F i) F[i] x.1).length x.2.2 (Lib.byteCells (inW (outW n F i) F[i] x.1))]) (fun x => x.1 ≤ F[i].length) (fun x => F[i].length - x.1) (0, a, cap) (Nat.zero_le _) (by (repeat (first | exact trivial | refine ⟨by rfl, ?_⟩)); done) (by repeat' (first | exact Cover.nil | exact Take.here | apply Cover.cons | apply Take.there)) ?_
      rintro ⟨j, a', cap'⟩ hj
      dsimp only at hj ⊢
      have hW := inW_le n F (i := i) (j := j) hil
      refine g_seq ?_
      refine g_seq ?_
      refine g_region ?_
      refine g_pure (p_move rfl) rfl ?_
      refine g_pure (p_fieldAddr rfl) rfl ?_
      refine g_pure (p_load (by rfl) rfl (by first | (apply Has.own; (repeat' (first | exact Take.here | apply Take.there)); done) | exact Has.ro (by assumption)) (by first | rfl | assumption)) rfl ?_
      refine g_pure (p_move rfl) rfl ?_
      refine g_pure (p_indexAddr rfl rfl (by omega) (fun _ => rfl)) rfl ?_
      refine g_pure (p_load (by rfl) rfl (Has.ro hro) hx1) rfl ?_
      refine g_pure (p_len (by rfl) rfl) rfl ?_
      refine g_pure (p_lss rfl rfl) rfl ?_
      refine g_nil ?_
      refine g_qt ?_
      refine g_ifd rfl (fun r => ?_) (fun r => ?_)
      · have hjl : j < F[i].length := by omega
        have hxl := hlits F[i] (List.getElem_mem hil) F[i][j] (List.getElem_mem hjl)
        have hil64 := itoa_len64 (n := F[i][j]) (by unfold I64; omega)
        obtain ⟨_, b3, off3, cs3, T3, fz3, hcs3⟩ := hrow
        obtain ⟨s1, s2, s3⟩ := hcs3 (by omega)
        have hx : cs3[off3 + (j : Int).toNat * 1]? = some (.int .i64 F[i][j]) := by simpa [encI, List.getElem?_eq_getElem hjl] using s3 j (.int .i64 F[i][j]) (by simp [List.getElem?_eq_getElem hjl, encI])
        have e2 : strOf (Lib.itoa F[i][j]) ++ ⟨#[32]⟩ = strOf (Lib.itoa F[i][j] ++ [32]) := strOf_app _ [32]
        refine g_skip ?_
        refine g_qt ?_
        refine g_seq ?_
        refine g_block ?_
        refine g_region ?_
        refine g_pure (p_move rfl) rfl ?_
        refine g_pure (p_fieldAddr rfl) rfl ?_
        refine g_pure (p_load (by rfl) rfl (by first | (apply Has.own; (repeat' (first | exact Take.here | apply Take.there)); done) | exact Has.ro (by assumption)) (by first | rfl | assumption)) rfl ?_
        refine g_pure (p_move rfl) rfl ?_
        refine g_pure (p_indexAddr rfl rfl (by omega) (fun _ => rfl)) rfl ?_
        refine g_pure (p_load (by rfl) rfl (Has.ro hro) hx1) rfl ?_
        refine g_pure (p_move rfl) rfl ?_
        refine g_pure (p_indexAddr rfl rfl (by omega) (fun _ => s1)) rfl ?_
        refine g_pure (p_load (by rfl) rfl (Has.ro s2) hx) rfl ?_
        refine g_call (Hin := []) (Hr := ?hr4) (R := ?rr4) rfl rfl rfl ?hin4 ?hc4 ?hk4
        case hin4 => repeat' (first | exact Cover.nil | exact Take.here | apply Cover.cons | apply Take.there)
        case hc4 => intro ρ' hρ hR; exact dnum_ok F[i][j] (by omega)
        rintro _ _ ⟨rfl, rfl⟩
        refine g_pure (p_adds (by rfl) rfl rfl (by simp only [ByteArray.size_append, strOf_size, lit_size, List.size_toArray, List.length_cons, List.length_nil]; omega)) rfl ?_
        refine g_eff (e_appStrB (by rfl) (by rfl) (by rfl) (by rfl) rfl rfl (by repeat' (first | exact Take.here | apply Take.there)) (by simp only [ByteArray.size_append, strOf_size, lit_size, List.size_toArray, List.length_cons, List.length_nil]; omega)) rfl (fun _ _ => ?_)
        rintro ⟨a53, c53, rfl, rfl⟩
        refine g_pure (p_assign rfl) rfl ?_
        refine g_nil ?_
        refine g_qb ?_
        refine g_qt ?_
        refine g_region ?_
        refine g_pure (p_move rfl) rfl ?_
        first | refine g_pure (p_addi rfl rfl (by omega)) rfl ?_ | refine g_pure (p_add rfl rfl) rfl ?_
        refine g_pure (p_assign rfl) rfl ?_
        refine g_nil ?_
        refine g_qn ?_
        rw [e2, cells_app, size_app, ← inW_succ _ _ hjl]
        exact g_next (j + 1, a53, c53) (by (repeat (first | exact trivial | refine ⟨by rfl, ?_⟩)); done) (by repeat' (first | exact Cover.nil | exact Take.here | apply Cover.cons | apply Take.there)) (by dsimp only; omega) (by dsimp only; omega)
      · have hje : j = F[i].length := by omega
        subst hje
        refine g_exit ?_
        refine g_qt_exit ?_
        refine g_qn_exit ?_
        refine g_qb_exit ?_
        refine g_qt ?_
        refine g_region ?_
        refine g_pure (p_move rfl) rfl ?_
        refine g_eff (e_appStrB (by rfl) (by rfl) (by rfl) (by rfl) rfl rfl (by repeat' (first | exact Take.here | apply Take.there)) (by simp only [lit_size, List.size_toArray, List.length_cons, List.length_nil]; omega)) rfl (fun _ _ => ?_)
        rintro ⟨a55, c55, rfl, rfl⟩
        refine g_pure (p_assign rfl) rfl ?_
        refine g_nil ?_
        refine g_qb ?_
        refine g_qt ?_
        refine g_region ?_
        refine g_pure (p_move rfl) rfl ?_
        first | refine g_pure (p_addi rfl rfl (by omega)) rfl ?_ | refine g_pure (p_add rfl rfl) rfl ?_
        refine g_pure (p_assign rfl) rfl ?_
        refine g_nil ?_
        refine g_qn ?_
        rw [show (⟨#[48, 10]⟩ : ByteArray) = strOf [48, 10] from rfl, cells_app, size_app, ← outW_succ n F hil]
        exact g_next (i + 1, a55, c55) (by (repeat (first | exact trivial | refine ⟨by rfl, ?_⟩)); done) (by repeat' (first | exact Cover.nil | exact Take.here | apply Cover.cons | apply Take.there)) (by dsimp only; omega) (by dsimp only; omega)
    · have hie : i = F.length := by omega
      subst hie
      rw [outW_all]
      refine g_exit ?_
      refine g_qt_exit ?_
      refine g_qn_exit ?_
      refine g_qb_exit ?_
      refine g_qt ?_
      refine g_seq ?_
      refine g_region ?_
      refine g_pure (p_move rfl) rfl ?_
      refine g_pure (p_btsB (by rfl) (by rfl) rfl (by repeat' (first | exact Take.here | apply Take.there))) rfl ?_
      refine g_pure (p_assign rfl) rfl ?_
      refine g_pure (p_assign rfl) rfl ?_
      refine g_nil ?_
      refine g_qt ?_
      refine g_ret ?_
      exact g_post (Ho := []) (rs := [.tmp 2, .tmp 3]) rfl (.tmp rfl (.tmp rfl .nil)) ⟨by rw [if_pos hc]; rfl, rfl⟩ (by repeat' (first | exact Cover.nil | exact Take.here | apply Cover.cons | apply Take.there))
end Go.Proofs.YtopgbgnmjogeeaaGreatDoor
/- Chapter 36: the document's numbers, clauses and first line. Conditions: none. -/
namespace Go.Z.Txt
set_option maxRecDepth 8000
set_option linter.unusedVariables false
set_option linter.unusedSimpArgs false
set_option linter.unusedSectionVars false
open Go Go.Lib Go.Z.Val
theorem fold_snoc {l : List UInt8} {k : Nat} (hk : k < l.length) : (l.take (k + 1)).foldl digF 0 = 10 * (l.take k).foldl digF 0 + (l[k].toNat : Int) - 48 := by
  rw [List.take_add_one, List.getElem?_eq_getElem hk, List.foldl_append]; rfl
/-- so far the document has the numbers out of the first i words -/
structure PD (W : List (List UInt8)) (i : Nat) (out : List Int) : Prop where
  le : i ≤ W.length
  len : out.length ≤ i
  mid : i < W.length → wordsV W = (wordsV (W.drop i)).map (out ++ ·)
  fin : i = W.length → W ≠ [] → wordsV W = some out
theorem PD.start (W : List (List UInt8)) : PD W 0 [] := ⟨Nat.zero_le _, Nat.zero_le _, fun _ => by rw [List.drop_zero]; cases wordsV W <;> rfl, fun h0 h => absurd (List.eq_nil_of_length_eq_zero h0.symm) h⟩
theorem PD.bad {W : List (List UInt8)} {i : Nat} {out : List Int} (h : PD W i out) (hi : i < W.length) (hn : numV W[i] = none) : wordsV W = none := by
  rw [h.mid hi, List.drop_eq_getElem_cons hi, words_bad hn]; rfl
theorem PD.odd {W : List (List UInt8)} {i : Nat} {out : List Int} (h : PD W i out) (hi : i < W.length) {n : Int} (hn : numV W[i] = some n) (hd : ¬ (n = 0 ↔ i + 1 = W.length)) : wordsV W = none := by
  rw [h.mid hi, List.drop_eq_getElem_cons hi]
  by_cases h1 : i + 1 = W.length
  · have h0 : n ≠ 0 := fun e => hd ⟨fun _ => h1, fun _ => e⟩
    rw [List.drop_of_length_le (by omega)]
    simp [wordsV, hn, h0]
  · have h0 : n = 0 := Classical.byContradiction fun e => hd ⟨fun e' => absurd e' e, fun e' => absurd e' h1⟩
    rw [List.drop_eq_getElem_cons (show i + 1 < W.length by omega)]
    simp [wordsV, hn, h0]
theorem PD.more {W : List (List UInt8)} {i : Nat} {out : List Int} (h : PD W i out) (hi : i < W.length) {n : Int} (hn : numV W[i] = some n) (h0 : n ≠ 0) (h1 : i + 1 ≠ W.length) : PD W (i + 1) (out ++ [n]) := by
  refine ⟨by omega, by have := h.len; simp; omega, fun h2 => ?_, fun h2 => absurd h2 h1⟩
  rw [h.mid hi, List.drop_eq_getElem_cons hi, List.drop_eq_getElem_cons h2]
  simp only [wordsV, hn, if_neg h0]
  rw [Option.map_map]
  congr 1
  funext c
  simp
theorem PD.last {W : List (List UInt8)} {i : Nat} {out : List Int} (h : PD W i out) (hi : i < W.length) (hn : numV W[i] = some 0) (h1 : i + 1 = W.length) : PD W (i + 1) out := by
  refine ⟨by omega, by have := h.len; omega, fun h2 => by omega, fun _ _ => ?_⟩
  rw [h.mid hi, List.drop_eq_getElem_cons hi, List.drop_of_length_le (by omega)]
  simp [wordsV, hn]
theorem headD_doc (s : List UInt8) : headD s = match wordsD s with
  | [p, q, a, b] =>
    if p = [112] ∧ q = [99, 110, 102] then
      match numV a, numV b with
      | some x, some y => if x < 0 ∨ y < 0 then none else some (x, y)
      | _, _ => none
    else none
  | _ => none := by
  unfold headD wordsD
  by_cases h : s = []
  · subst h; rfl
  · rw [if_neg h] <;> rfl
end Go.Z.Txt
namespace Go.Proofs.YtopgbgnmjogeeaaGreatDoor
set_option maxRecDepth 8000
set_option linter.unusedVariables false
set_option linter.unusedSimpArgs false
set_option linter.unusedSectionVars false
open Go Go.Z Go.Z.Txt Go.Z.Sat Go.Z.Val Go.Z.Aig Go.Z.Tse

theorem dread_ok {ρ : Nat → Obj → Prop} (wd : List UInt8) (hw : wd.length ≤ 1000000) : Con Tryz.prog ρ 71 #[.string (strOf wd)] [] (fun v H => ∃ n b, v = .tuple #[.int .i64 n, .bool b] ∧ (b = true → numV wd = some n) ∧ (b = false → numV wd = none) ∧ H = []) := by
  have hss : (strOf wd).size = wd.length := rfl
  have hsl := sgn_le (l := wd)
  have hs2 := sgn_two wd
  have hno : ∀ P : Prop, ¬ (wd.length ≤ 11 ∧ sgn wd ≠ wd.length ∧ (∀ c ∈ wd.drop (sgn wd), 48 ≤ c.toNat ∧ c.toNat ≤ 57)) → numV wd = none := fun _ h => num_none h
  refine con_intro Tryz.func71 Tryz.call71 rfl Tryz.ntmps71 rfl (L := [(0, _)]) rfl fun w hh => ?_
  refine g_seq ?_
  refine g_region ?_
  refine g_pure (p_assign rfl) rfl ?_
  refine g_pure (p_assign rfl) rfl ?_
  refine g_nil ?_
  refine g_qt ?_
  refine g_seq ?_
  refine g_region ?_
  refine g_pure (p_assign rfl) rfl ?_
  refine g_nil ?_
  refine g_qt ?_
  refine g_seq ?_
  refine g_region ?_
  refine g_pure (p_assign rfl) rfl ?_
  refine g_nil ?_
  refine g_qt ?_
  refine g_seq ?_
  refine g_seq ?_
  refine g_join (fun _ : Unit => [(0, .string (strOf wd)), (4, .int .i64 0), (5, .int .i64 0), (14, .bool (decide (sgn wd = 1)))]) (fun _ => []) (fun _ => True) ?_ ?_
  · refine g_region ?_
    refine g_pure (p_move rfl) rfl ?_
    refine g_pure (p_lens (by rfl) rfl) rfl ?_
    refine g_pure (p_gtr rfl rfl) rfl ?_
    refine g_pure (p_move rfl) rfl ?_
    refine g_splitd rfl rfl (fun h => ?_) (fun h => ?_)
    · rw [hss] at h
      have h0 : 0 < wd.length := by omega
      have hb : (strOf wd).data.toList[(0 : Int).toNat]? = some wd[0] := by rw [strOf_list]; exact List.getElem?_eq_getElem h0
      refine g_yes rfl rfl ?_
      refine g_pure (p_move rfl) rfl ?_
      refine g_yes rfl rfl ?_
      refine g_pure (p_indexs (by rfl) rfl rfl (Int.le_refl 0) hb) rfl ?_
      refine g_yes rfl rfl ?_
      refine g_pure (p_eql rfl rfl) rfl ?_
      first | refine g_pure (p_pickt rfl rfl) rfl ?_ | refine g_pure (p_pickf rfl rfl) rfl ?_
      refine g_nil ?_
      refine g_qn ?_
      have e : decide ((wd[0].toNat : Int) = 45) = decide (sgn wd = 1) := by
        rw [decide_eq_decide]
        unfold sgn
        rw [List.head?_eq_getElem?, List.getElem?_eq_getElem h0]
        constructor
        · intro e
          have : wd[0] = 45 := UInt8.toNat_inj.1 (by show wd[0].toNat = 45; omega)
          rw [this]; rfl
        · intro e
          split at e
          · rename_i e2; injection e2 with e2; rw [e2]; rfl
          · cases e
      rw [e]
      exact g_joined () (by (repeat (first | exact trivial | refine ⟨by rfl, ?_⟩)); done) (by repeat' (first | exact Cover.nil | exact Take.here | apply Cover.cons | apply Take.there)) trivial
    · rw [hss] at h
      have hw0 : wd = [] := List.eq_nil_of_length_eq_zero (by omega)
      have e : decide (sgn wd = 1) = false := by rw [hw0]; rfl
      refine g_no rfl rfl rfl rfl ?_
      refine g_no rfl rfl rfl rfl ?_
      refine g_no rfl rfl rfl rfl ?_
      first | refine g_pure (p_pickt rfl rfl) rfl ?_ | refine g_pure (p_pickf rfl rfl) rfl ?_
      refine g_nil ?_
      refine g_qn ?_
      rw [e]
      exact g_joined () (by (repeat (first | exact trivial | refine ⟨by rfl, ?_⟩)); done) (by repeat' (first | exact Cover.nil | exact Take.here | apply Cover.cons | apply Take.there)) trivial
  rintro _ _
  refine g_qt ?_
  refine g_join (fun _ : Unit => [(0, .string (strOf wd)), (4, .int .i64 0), (5, .int .i64 (sgn wd : Nat))]) (fun _ => []) (fun _ => True) ?_ ?_
  · refine g_ifd rfl (fun h => ?_) (fun h => ?_)
    · refine g_region ?_
      refine g_pure (p_assign rfl) rfl ?_
      refine g_nil ?_
      refine g_qn ?_
      rw [h]
      exact g_joined () (by (repeat (first | exact trivial | refine ⟨by rfl, ?_⟩)); done) (by repeat' (first | exact Cover.nil | exact Take.here | apply Cover.cons | apply Take.there)) trivial
    · have e : sgn wd = 0 := by omega
      refine g_skip ?_
      refine g_qn ?_
      rw [e]
      exact g_joined () (by (repeat (first | exact trivial | refine ⟨by rfl, ?_⟩)); done) (by repeat' (first | exact Cover.nil | exact Take.here | apply Cover.cons | apply Take.there)) trivial
  rintro _ _
  refine g_qt ?_
  refine g_seq ?_
  refine g_seq ?_
  refine g_region ?_
  refine g_pure (p_move rfl) rfl ?_
  refine g_pure (p_lens (by rfl) rfl) rfl ?_
  refine g_pure (p_gtr rfl rfl) rfl ?_
  refine g_pure (p_move rfl) rfl ?_
  refine g_splitd rfl rfl (fun h1 => ?_) (fun h1 => ?_)
  · rw [hss] at h1
    refine g_no rfl rfl rfl rfl ?_
    refine g_no rfl rfl rfl rfl ?_
    refine g_no rfl rfl rfl rfl ?_
    refine g_no rfl rfl rfl rfl ?_
    first | refine g_pure (p_pickt rfl rfl) rfl ?_ | refine g_pure (p_pickf rfl rfl) rfl ?_
    refine g_nil ?_
    refine g_qt ?_
    refine g_ift rfl ?_
    refine g_seq ?_
    refine g_region ?_
    refine g_pure (p_assign rfl) rfl ?_
    refine g_pure (p_assign rfl) rfl ?_
    refine g_nil ?_
    refine g_qt ?_
    refine g_ret ?_
    refine g_qt_ret ?_
    exact g_post (Ho := []) (rs := [.tmp 2, .tmp 3]) rfl (.tmp rfl (.tmp rfl .nil)) ⟨0, false, rfl, fun h => (by cases h), fun _ => num_none fun hh => by omega, rfl⟩ (by repeat' (first | exact Cover.nil | exact Take.here | apply Cover.cons | apply Take.there))
  · rw [hss] at h1
    refine g_yes rfl rfl ?_
    refine g_pure (p_move rfl) rfl ?_
    refine g_yes rfl rfl ?_
    refine g_pure (p_move rfl) rfl ?_
    refine g_yes rfl rfl ?_
    refine g_pure (p_lens (by rfl) rfl) rfl ?_
    refine g_yes rfl rfl ?_
    refine g_pure (p_eql rfl rfl) rfl ?_
    first | refine g_pure (p_pickt rfl rfl) rfl ?_ | refine g_pure (p_pickf rfl rfl) rfl ?_
    refine g_nil ?_
    refine g_qt ?_
    refine g_ifd rfl (fun h2 => ?_) (fun h2 => ?_)
    · rw [hss] at h2
      refine g_seq ?_
      refine g_region ?_
      refine g_pure (p_assign rfl) rfl ?_
      refine g_pure (p_assign rfl) rfl ?_
      refine g_nil ?_
      refine g_qt ?_
      refine g_ret ?_
      refine g_qt_ret ?_
      exact g_post (Ho := []) (rs := [.tmp 2, .tmp 3]) rfl (.tmp rfl (.tmp rfl .nil)) ⟨0, false, rfl, fun h => (by cases h), fun _ => num_none fun hh => by omega, rfl⟩ (by repeat' (first | exact Cover.nil | exact Take.here | apply Cover.cons | apply Take.there))
    · rw [hss] at h2
      obtain ⟨D, hD⟩ : ∃ D, wd.drop (sgn wd) = D := ⟨_, rfl⟩
      have hDl : D.length = wd.length - sgn wd := by rw [← hD, List.length_drop]
      refine g_skip ?_
      refine g_qt ?_
      refine g_seq ?_
      refine g_seq ?_
      refine g_region ?_
      refine g_pure (p_move rfl) rfl ?_
      refine g_pure (p_assign rfl) rfl ?_
      refine g_nil ?_
      refine g_qt ?_
      refine g_block ?_
      refine g_loop (fun k : Nat => [(0, .string (strOf wd)), (4, .int .i64 ((D.take k).foldl digF 0)), (5, .int .i64 (sgn wd : Nat)), (6, .int .i64 ((sgn wd + k : Nat) : Int))]) (fun _ => [])
        (fun k => k ≤ D.length ∧ ∀ c ∈ D.take k, 48 ≤ c.toNat ∧ c.toNat ≤ 57) (fun k => D.length - k) 0 ⟨Nat.zero_le _, by simp⟩ (by (repeat (first | exact trivial | refine ⟨by rfl, ?_⟩)); done) (by repeat' (first | exact Cover.nil | exact Take.here | apply Cover.cons | apply Take.there)) ?_
      rintro k ⟨hk, hall⟩
      have hfb := fold_le (l := D.take k) (by rw [List.length_take]; omega) hall
      refine g_seq ?_
      refine g_seq ?_
      refine g_region ?_
      refine g_pure (p_move rfl) rfl ?_
      refine g_pure (p_move rfl) rfl ?_
      refine g_pure (p_lens (by rfl) rfl) rfl ?_
      refine g_pure (p_lss rfl rfl) rfl ?_
      refine g_nil ?_
      refine g_qt ?_
      refine g_ifd rfl (fun q => ?_) (fun q => ?_)
      · rw [hss] at q
        have hkl : k < D.length := by omega
        have hwl : sgn wd + k < wd.length := by omega
        have hDk : D[k] = wd[sgn wd + k] := by subst hD; rw [List.getElem_drop]
        have hb : (strOf wd).data.toList[((sgn wd + k : Nat) : Int).toNat]? = some D[k] := by rw [strOf_list, Int.toNat_natCast, List.getElem?_eq_getElem hwl, hDk]
        have hbad : ¬ (48 ≤ D[k].toNat ∧ D[k].toNat ≤ 57) → numV wd = none := fun h => num_none fun hh => h (hh.2.2 D[k] (by rw [hD]; exact List.getElem_mem hkl))
        have hsn := fold_snoc hkl
        have hgood : (48 ≤ D[k].toNat ∧ D[k].toNat ≤ 57) → ∀ c ∈ D.take (k + 1), 48 ≤ c.toNat ∧ c.toNat ≤ 57 := fun h c hc => by
          rw [List.take_add_one, List.getElem?_eq_getElem hkl] at hc
          rcases List.mem_append.1 hc with hc | hc
          · exact hall c hc
          · simp at hc; subst hc; exact h
        refine g_skip ?_
        refine g_qt ?_
        refine g_seq ?_
        refine g_block ?_
        refine g_seq ?_
        refine g_seq ?_
        refine g_region ?_
        refine g_pure (p_move rfl) rfl ?_
        refine g_pure (p_move rfl) rfl ?_
        refine g_pure (p_indexs (by rfl) rfl rfl (by omega) hb) rfl ?_
        refine g_pure (p_lss rfl rfl) rfl ?_
        refine g_pure (p_move rfl) rfl ?_
        refine g_splitd rfl rfl (fun h3 => ?_) (fun h3 => ?_)
        · refine g_no rfl rfl rfl rfl ?_
          refine g_no rfl rfl rfl rfl ?_
          refine g_no rfl rfl rfl rfl ?_
          refine g_no rfl rfl rfl rfl ?_
          first | refine g_pure (p_pickt rfl rfl) rfl ?_ | refine g_pure (p_pickf rfl rfl) rfl ?_
          refine g_nil ?_
          refine g_qt ?_
          refine g_ift rfl ?_
          refine g_seq ?_
          refine g_region ?_
          refine g_pure (p_assign rfl) rfl ?_
          refine g_pure (p_assign rfl) rfl ?_
          refine g_nil ?_
          refine g_qt ?_
          refine g_ret ?_
          refine g_qt_ret ?_
          refine g_qb_ret ?_
          refine g_qt_ret ?_
          refine g_qn_ret ?_
          refine g_qb_ret ?_
          refine g_qt_ret ?_
          exact g_post (Ho := []) (rs := [.tmp 2, .tmp 3]) rfl (.tmp rfl (.tmp rfl .nil)) ⟨0, false, rfl, fun h => (by cases h), fun _ => hbad (by omega), rfl⟩ (by repeat' (first | exact Cover.nil | exact Take.here | apply Cover.cons | apply Take.there))
        · refine g_yes rfl rfl ?_
          refine g_pure (p_move rfl) rfl ?_
          refine g_yes rfl rfl ?_
          refine g_pure (p_move rfl) rfl ?_
          refine g_yes rfl rfl ?_
          refine g_pure (p_indexs (by rfl) rfl rfl (by omega) hb) rfl ?_
          refine g_yes rfl rfl ?_
          refine g_pure (p_gtr rfl rfl) rfl ?_
          first | refine g_pure (p_pickt rfl rfl) rfl ?_ | refine g_pure (p_pickf rfl rfl) rfl ?_
          refine g_nil ?_
          refine g_qt ?_
          refine g_ifd rfl (fun h4 => ?_) (fun h4 => ?_)
          · refine g_seq ?_
            refine g_region ?_
            refine g_pure (p_assign rfl) rfl ?_
            refine g_pure (p_assign rfl) rfl ?_
            refine g_nil ?_
            refine g_qt ?_
            refine g_ret ?_
            refine g_qt_ret ?_
            refine g_qb_ret ?_
            refine g_qt_ret ?_
            refine g_qn_ret ?_
            refine g_qb_ret ?_
            refine g_qt_ret ?_
            exact g_post (Ho := []) (rs := [.tmp 2, .tmp 3]) rfl (.tmp rfl (.tmp rfl .nil)) ⟨0, false, rfl, fun h => (by cases h), fun _ => hbad (by omega), rfl⟩ (by repeat' (first | exact Cover.nil | exact Take.here | apply Cover.cons | apply Take.there))
          · refine g_skip ?_
            refine g_qt ?_
            refine g_region ?_
            refine g_pure (p_move rfl) rfl ?_
            first | refine g_pure (p_muli rfl rfl (by omega)) rfl ?_ | refine g_pure (p_mul rfl rfl) rfl ?_
            refine g_pure (p_move rfl) rfl ?_
            refine g_pure (p_move rfl) rfl ?_
            refine g_pure (p_indexs (by rfl) rfl rfl (by omega) hb) rfl ?_
            refine g_pure (p_convi (by rfl) rfl (by omega)) rfl ?_
            first | refine g_pure (p_addi rfl rfl (by omega)) rfl ?_ | refine g_pure (p_add rfl rfl) rfl ?_
            first | refine g_pure (p_subi rfl rfl (by omega)) rfl ?_ | refine g_pure (p_sub rfl rfl) rfl ?_
            refine g_pure (p_assign rfl) rfl ?_
            refine g_nil ?_
            refine g_qb ?_
            refine g_qt ?_
            refine g_region ?_
            refine g_pure (p_move rfl) rfl ?_
            first | refine g_pure (p_addi rfl rfl (by omega)) rfl ?_ | refine g_pure (p_add rfl rfl) rfl ?_
            refine g_pure (p_assign rfl) rfl ?_
            refine g_nil ?_
            refine g_qn ?_
            rw [← hsn]
            exact g_next (k + 1) (by (repeat (first | exact trivial | refine ⟨by rfl, ?_⟩)); done) (by repeat' (first | exact Cover.nil | exact Take.here | apply Cover.cons | apply Take.there)) ⟨by omega, hgood (by omega)⟩ (by omega)
      · rw [hss] at q
        have hke : k = D.length := by omega
        subst hke
        rw [List.take_length] at hfb ⊢
        refine g_exit ?_
        refine g_qt_exit ?_
        refine g_qn_exit ?_
        refine g_qb_exit ?_
        refine g_qt ?_
        refine g_seq ?_
        refine g_seq ?_
        refine g_region ?_
        refine g_pure (p_move rfl) rfl ?_
        refine g_pure (p_eql rfl rfl) rfl ?_
        refine g_nil ?_
        refine g_qt ?_
        refine g_join (fun _ : Unit => [(0, .string (strOf wd)), (4, .int .i64 (readN wd))]) (fun _ => []) (fun _ => True) ?_ ?_
        · refine g_ifd rfl (fun h5 => ?_) (fun h5 => ?_)
          · have e : -(D.foldl digF 0) = readN wd := by
              have hs : sgn wd = 1 := by omega
              unfold readN; rw [if_pos hs, ← hD, hs]
            refine g_region ?_
            refine g_pure (p_move rfl) rfl ?_
            first | refine g_pure (p_negi rfl (by omega)) rfl ?_ | refine g_pure (p_neg rfl) rfl ?_
            refine g_pure (p_assign rfl) rfl ?_
            refine g_nil ?_
            refine g_qn ?_
            rw [e]
            exact g_joined () (by (repeat (first | exact trivial | refine ⟨by rfl, ?_⟩)); done) (by repeat' (first | exact Cover.nil | exact Take.here | apply Cover.cons | apply Take.there)) trivial
          · have e : D.foldl digF 0 = readN wd := by
              have hs : sgn wd = 0 := by omega
              unfold readN; rw [if_neg (by omega), ← hD, hs, List.drop_zero]
            refine g_skip ?_
            refine g_qn ?_
            rw [e]
            exact g_joined () (by (repeat (first | exact trivial | refine ⟨by rfl, ?_⟩)); done) (by repeat' (first | exact Cover.nil | exact Take.here | apply Cover.cons | apply Take.there)) trivial
        have hrb : -100000000000 < readN wd ∧ readN wd < 100000000000 := by
          rcases hs2 with hs | hs
          · have e : readN wd = D.foldl digF 0 := by unfold readN; rw [if_neg (by omega), ← hD, hs, List.drop_zero]
            omega
          · have e : readN wd = -(D.foldl digF 0) := by unfold readN; rw [if_pos hs, ← hD, hs]
            omega
        rintro _ _
        refine g_qt ?_
        obtain ⟨m, hm⟩ : ∃ m, readN wd = m := ⟨_, rfl⟩
        have hnr := num_read wd
        rw [hm] at hnr hrb ⊢
        refine g_seq ?_
        refine g_region ?_
        refine g_pure (p_move rfl) rfl ?_
        refine g_pure (p_move rfl) rfl ?_
        refine g_pure (p_geq rfl rfl) rfl ?_
        refine g_pure (p_move rfl) rfl ?_
        refine g_splitd rfl rfl (fun h1 => ?_) (fun h1 => ?_)
        · refine g_yes rfl rfl ?_
          refine g_pure (p_move rfl) rfl ?_
          refine g_yes rfl rfl ?_
          refine g_pure (p_leq rfl rfl) rfl ?_
          first | refine g_pure (p_pickt rfl rfl) rfl ?_ | refine g_pure (p_pickf rfl rfl) rfl ?_
          refine g_pure (p_move rfl) rfl ?_
          refine g_splitd rfl rfl (fun h2 => ?_) (fun h2 => ?_)
          · refine g_yes rfl rfl ?_
            refine g_pure (p_move rfl) rfl ?_
            refine g_yes rfl rfl ?_
            refine g_call (Hin := []) (Hr := ?hr1) (R := ?rr1) rfl rfl rfl ?hin1 ?hc1 ?hk1
            case hin1 => repeat' (first | exact Cover.nil | exact Take.here | apply Cover.cons | apply Take.there)
            case hc1 => intro ρ' hρ hR; exact dnum_ok m (by omega)
            rintro _ _ ⟨rfl, rfl⟩
            refine g_yes rfl rfl ?_
            refine g_pure (p_move rfl) rfl ?_
            refine g_yes rfl rfl ?_
            refine g_pure (p_eqls (by rfl) rfl rfl) rfl ?_
            first | refine g_pure (p_pickt rfl rfl) rfl ?_ | refine g_pure (p_pickf rfl rfl) rfl ?_
            refine g_pure (p_assign rfl) rfl ?_
            refine g_pure (p_assign rfl) rfl ?_
            refine g_nil ?_
            refine g_qt ?_
            refine g_ret ?_
            first | exact g_post (Ho := []) (rs := [.tmp 2, .tmp 3]) rfl (.tmp rfl (.tmp rfl .nil)) ⟨m, false, rfl, fun h => (by cases h), fun _ => (by rw [hnr, if_neg (fun hh => by have h1 := hh.1; have h2 := hh.2.1; omega)]; done), rfl⟩ (by repeat' (first | exact Cover.nil | exact Take.here | apply Cover.cons | apply Take.there)) | exact g_post (Ho := []) (rs := [.tmp 2, .tmp 3]) rfl (.tmp rfl (.tmp rfl .nil)) ⟨m, decide (strOf (Lib.itoa m) = strOf wd), rfl, fun h => (by rw [hnr, if_pos ⟨by omega, by omega, strOf_inj.1 (of_decide_eq_true h)⟩]; done), fun h => (by rw [hnr, if_neg (fun hh => absurd (strOf_inj.2 hh.2.2) (of_decide_eq_false h))]; done), rfl⟩ (by repeat' (first | exact Cover.nil | exact Take.here | apply Cover.cons | apply Take.there))
          · refine g_no rfl rfl rfl rfl ?_
            refine g_no rfl rfl rfl rfl ?_
            refine g_no rfl rfl rfl rfl ?_
            refine g_no rfl rfl rfl rfl ?_
            first | refine g_pure (p_pickt rfl rfl) rfl ?_ | refine g_pure (p_pickf rfl rfl) rfl ?_
            refine g_pure (p_assign rfl) rfl ?_
            refine g_pure (p_assign rfl) rfl ?_
            refine g_nil ?_
            refine g_qt ?_
            refine g_ret ?_
            first | exact g_post (Ho := []) (rs := [.tmp 2, .tmp 3]) rfl (.tmp rfl (.tmp rfl .nil)) ⟨m, false, rfl, fun h => (by cases h), fun _ => (by rw [hnr, if_neg (fun hh => by have h1 := hh.1; have h2 := hh.2.1; omega)]; done), rfl⟩ (by repeat' (first | exact Cover.nil | exact Take.here | apply Cover.cons | apply Take.there)) | exact g_post (Ho := []) (rs := [.tmp 2, .tmp 3]) rfl (.tmp rfl (.tmp rfl .nil)) ⟨m, decide (strOf (Lib.itoa m) = strOf wd), rfl, fun h => (by rw [hnr, if_pos ⟨by omega, by omega, strOf_inj.1 (of_decide_eq_true h)⟩]; done), fun h => (by rw [hnr, if_neg (fun hh => absurd (strOf_inj.2 hh.2.2) (of_decide_eq_false h))]; done), rfl⟩ (by repeat' (first | exact Cover.nil | exact Take.here | apply Cover.cons | apply Take.there))
        · refine g_no rfl rfl rfl rfl ?_
          refine g_no rfl rfl rfl rfl ?_
          first | refine g_pure (p_pickt rfl rfl) rfl ?_ | refine g_pure (p_pickf rfl rfl) rfl ?_
          refine g_pure (p_move rfl) rfl ?_
          refine g_no rfl rfl rfl rfl ?_
          refine g_no rfl rfl rfl rfl ?_
          refine g_no rfl rfl rfl rfl ?_
          refine g_no rfl rfl rfl rfl ?_
          first | refine g_pure (p_pickt rfl rfl) rfl ?_ | refine g_pure (p_pickf rfl rfl) rfl ?_
          refine g_pure (p_assign rfl) rfl ?_
          refine g_pure (p_assign rfl) rfl ?_
          refine g_nil ?_
          refine g_qt ?_
          refine g_ret ?_
          first | exact g_post (Ho := []) (rs := [.tmp 2, .tmp 3]) rfl (.tmp rfl (.tmp rfl .nil)) ⟨m, false, rfl, fun h => (by cases h), fun _ => (by rw [hnr, if_neg (fun hh => by have h1 := hh.1; have h2 := hh.2.1; omega)]; done), rfl⟩ (by repeat' (first | exact Cover.nil | exact Take.here | apply Cover.cons | apply Take.there)) | exact g_post (Ho := []) (rs := [.tmp 2, .tmp 3]) rfl (.tmp rfl (.tmp rfl .nil)) ⟨m, decide (strOf (Lib.itoa m) = strOf wd), rfl, fun h => (by rw [hnr, if_pos ⟨by omega, by omega, strOf_inj.1 (of_decide_eq_true h)⟩]; done), fun h => (by rw [hnr, if_neg (fun hh => absurd (strOf_inj.2 hh.2.2) (of_decide_eq_false h))]; done), rfl⟩ (by repeat' (first | exact Cover.nil | exact Take.here | apply Cover.cons | apply Take.there))
end Go.Proofs.YtopgbgnmjogeeaaGreatDoor
/- Chapter 36: the document's clauses and first line. Conditions: none. -/
namespace Go.Proofs.YtopgbgnmjogeeaaGreatDoor
set_option maxRecDepth 8000
set_option linter.unusedVariables false
set_option linter.unusedSimpArgs false
set_option linter.unusedSectionVars false
open Go Go.Z Go.Z.Txt Go.Z.Sat Go.Z.Val Go.Z.Aig Go.Z.Tse

theorem dread_no {ρ : Nat → Obj → Prop} (wd : List UInt8) (hw : wd.length ≤ 1000000) (h : numV wd = none) : Con Tryz.prog ρ 71 #[.string (strOf wd)] [] (fun v H => ∃ n, v = .tuple #[.int .i64 n, .bool false] ∧ H = []) :=
  (dread_ok wd hw).mono fun v H ⟨n, b, e, h1, h2, e2⟩ => by
    cases b with
    | false => exact ⟨n, e, e2⟩
    | true => rw [h1 rfl] at h; cases h
theorem dread_yes {ρ : Nat → Obj → Prop} (wd : List UInt8) (hw : wd.length ≤ 1000000) {n : Int} (h : numV wd = some n) : Con Tryz.prog ρ 71 #[.string (strOf wd)] [] (fun v H => v = .tuple #[.int .i64 n, .bool true] ∧ H = []) :=
  (dread_ok wd hw).mono fun v H ⟨m, b, e, h1, h2, e2⟩ => by
    cases b with
    | false => rw [h2 rfl] at h; cases h
    | true =>
      have := h1 rfl
      rw [h] at this
      injection this with this
      subst this
      exact ⟨e, e2⟩
/-- what the document says of the words of a line -/
def ClD (W : List (List UInt8)) (v : Value) (H : List Assn) : Prop := match wordsV W with
  | some c => ∃ a cap, v = .tuple #[.slice a c.length cap, .bool true] ∧ H = [OwnSl 3 1 a c.length cap (c.map encI)]
  | none => (∃ a k cap, v = .tuple #[.slice a k cap, .bool false]) ∧ H = []
theorem dclause_ok {ρ : Nat → Obj → Prop} (s : List UInt8) (hs : s.length ≤ 1000000) : Con Tryz.prog ρ 50 #[.string (strOf s)] [] (ClD (wordsD s)) := by
  have hWl := wordsD_len s
  have hmem : ∀ x ∈ wordsD s, x.length ≤ s.length := fun x hx => by
    unfold wordsD at hx
    split at hx
    · cases hx
    · exact (pieces_mem hx).2
  refine con_intro Tryz.func50 Tryz.call50 rfl Tryz.ntmps50 rfl (L := [(0, _)]) rfl fun w hh => ?_
  refine g_seq ?_
  refine g_region ?_
  refine g_pure (p_assign rfl) rfl ?_
  refine g_pure (p_assign rfl) rfl ?_
  refine g_nil ?_
  refine g_qt ?_
  refine g_seq ?_
  refine g_region ?_
  refine g_pure (p_move rfl) rfl ?_
  refine g_call (Hin := []) (Hr := ?hr1) (R := ?rr1) rfl rfl rfl ?hin1 ?hc1 ?hk1
  case hin1 => repeat' (first | exact Cover.nil | exact Take.here | apply Cover.cons | apply Take.there)
  case hc1 => intro ρ' hρ hR; exact words_ok s hs
  rintro _ _ ⟨wa, wc, rfl, rfl⟩
  refine g_pure (p_assign rfl) rfl ?_
  refine g_nil ?_
  refine g_qt ?_
  refine g_seq ?_
  refine g_region ?_
  refine g_pure (p_assign rfl) rfl ?_
  refine g_nil ?_
  refine g_qt ?_
  refine g_seq ?_
  refine g_seq ?_
  refine g_region ?_
  refine g_pure (p_assign rfl) rfl ?_
  refine g_nil ?_
  refine g_qt ?_
  refine g_block ?_
  generalize wordsD s = W at hmem hWl ⊢
  refine g_ownnil (e := 3) (size := 1) ?_
  by_cases hW0 : W = []
  · subst hW0
    have hwv : wordsV [] = none := by simp [wordsV]
    refine g_loop (fun _ : Unit => [(4, .slice wa 0 wc), (5, .slice none 0 0), (6, .int .i64 0)]) (fun _ => [OwnSl 3 1 none 0 0 []]) (fun _ => True) (fun _ => 0) () trivial (by (repeat (first | exact trivial | refine ⟨by rfl, ?_⟩)); done) (by repeat' (first | exact Cover.nil | exact Take.here | apply Cover.cons | apply Take.there)) ?_
    rintro _ _
    refine g_seq ?_
    refine g_seq ?_
    refine g_region ?_
    refine g_pure (p_move rfl) rfl ?_
    refine g_pure (p_move rfl) rfl ?_
    refine g_pure (p_len (by rfl) rfl) rfl ?_
    refine g_pure (p_lss rfl rfl) rfl ?_
    refine g_nil ?_
    refine g_qt ?_
    refine g_ifd rfl (fun q => ?_) (fun q => ?_)
    · exfalso; omega
    · refine g_exit ?_
      refine g_qt_exit ?_
      refine g_qn_exit ?_
      refine g_qb_exit ?_
      refine g_qt ?_
      refine g_seq ?_
      refine g_region ?_
      refine g_pure (p_move rfl) rfl ?_
      refine g_pure (p_move rfl) rfl ?_
      refine g_pure (p_len (by rfl) rfl) rfl ?_
      refine g_pure (p_gtr rfl rfl) rfl ?_
      refine g_pure (p_assign rfl) rfl ?_
      refine g_pure (p_assign rfl) rfl ?_
      refine g_nil ?_
      refine g_qt ?_
      refine g_ret ?_
      exact g_post (Ho := []) (rs := [.tmp 2, .tmp 3]) rfl (.tmp rfl (.tmp rfl .nil)) (by unfold ClD; rw [hwv]; exact ⟨⟨none, 0, 0, rfl⟩, rfl⟩) (by repeat' (first | exact Cover.nil | exact Take.here | apply Cover.cons | apply Take.there))
  · have hpos : 0 < W.length := List.length_pos_iff.2 hW0
    refine g_own (e := 9) (xs := W.map encS) (by repeat' (first | exact Take.here | apply Take.there)) (fun _ h _ _ => absurd h (by omega)) (fun g cur r1 r2 r3 r4 r5 r6 => ?_)
    subst r1
    have hcur : ∀ (i : Nat) (hi : i < W.length), cur[0 + (i : Int).toNat * 1]? = some (.string (strOf W[i])) := fun i hi => own_at (k := i) r5 (by simp) (by simp [List.getElem?_eq_getElem hi, encS])
    refine g_loop (fun x : Nat × List Int × Option Addr × Nat => [(4, .slice (some ⟨g, 0, none⟩) W.length wc), (5, .slice x.2.2.1 x.2.1.length x.2.2.2), (6, .int .i64 x.1)])
      (fun x => [Blk g (.cells cur.toArray 9 (0, 0)), OwnSl 3 1 x.2.2.1 x.2.1.length x.2.2.2 (x.2.1.map encI)])
      (fun x => PD W x.1 x.2.1) (fun x => W.length - x.1) (0, [], none, 0) (PD.start W) (by (repeat (first | exact trivial | refine ⟨by rfl, ?_⟩)); done) (by repeat' (first | exact Cover.nil | exact Take.here | apply Cover.cons | apply Take.there)) ?_
    rintro ⟨i, out, a, cap⟩ hP
    dsimp only at hP ⊢
    have hcl := hP.len
    have hil := hP.le
    refine g_seq ?_
    refine g_seq ?_
    refine g_region ?_
    refine g_pure (p_move rfl) rfl ?_
    refine g_pure (p_move rfl) rfl ?_
    refine g_pure (p_len (by rfl) rfl) rfl ?_
    refine g_pure (p_lss rfl rfl) rfl ?_
    refine g_nil ?_
    refine g_qt ?_
    refine g_ifd rfl (fun q => ?_) (fun q => ?_)
    · have hi : i < W.length := by omega
      have hw := hmem W[i] (List.getElem_mem hi)
      refine g_skip ?_
      refine g_qt ?_
      refine g_seq ?_
      refine g_block ?_
      refine g_seq ?_
      refine g_region ?_
      refine g_pure (p_move rfl) rfl ?_
      refine g_pure (p_move rfl) rfl ?_
      refine g_pure (p_indexAddr rfl rfl (by omega) (fun _ => rfl)) rfl ?_
      refine g_pure (p_load (by rfl) rfl (Has.own (by repeat' (first | exact Take.here | apply Take.there))) (hcur i hi)) rfl ?_
      cases hA : numV W[i] with
      | none =>
        refine g_call (Hin := []) (Hr := ?hr2) (R := ?rr2) rfl rfl rfl ?hin2 ?hc2 ?hk2
        case hin2 => repeat' (first | exact Cover.nil | exact Take.here | apply Cover.cons | apply Take.there)
        case hc2 => intro ρ' hρ hR; exact dread_no W[i] (by omega) hA
        rintro _ _ ⟨n, rfl, rfl⟩
        refine g_pure (p_move rfl) rfl ?_
        refine g_pure (p_extract rfl rfl) rfl ?_
        refine g_pure (p_extract rfl rfl) rfl ?_
        refine g_pure (p_assign rfl) rfl ?_
        refine g_pure (p_assign rfl) rfl ?_
        refine g_nil ?_
        refine g_qt ?_
        refine g_seq ?_
        refine g_seq ?_
        refine g_region ?_
        refine g_pure (p_move rfl) rfl ?_
        refine g_pure (p_not rfl) rfl ?_
        refine g_pure (p_move rfl) rfl ?_
        refine g_no rfl rfl rfl rfl ?_
        refine g_no rfl rfl rfl rfl ?_
        refine g_no rfl rfl rfl rfl ?_
        refine g_no rfl rfl rfl rfl ?_
        refine g_no rfl rfl rfl rfl ?_
        refine g_no rfl rfl rfl rfl ?_
        refine g_no rfl rfl rfl rfl ?_
        refine g_no rfl rfl rfl rfl ?_
        first | refine g_pure (p_pickt rfl rfl) rfl ?_ | refine g_pure (p_pickf rfl rfl) rfl ?_
        refine g_nil ?_
        refine g_qt ?_
        refine g_ift rfl ?_
        refine g_seq ?_
        refine g_region ?_
        refine g_pure (p_assign rfl) rfl ?_
        refine g_pure (p_assign rfl) rfl ?_
        refine g_nil ?_
        refine g_qt ?_
        refine g_ret ?_
        refine g_qt_ret ?_
        refine g_qb_ret ?_
        refine g_qt_ret ?_
        refine g_qn_ret ?_
        refine g_qb_ret ?_
        refine g_qt_ret ?_
        exact g_post (Ho := []) (rs := [.tmp 2, .tmp 3]) rfl (.tmp rfl (.tmp rfl .nil)) (by unfold ClD; rw [hP.bad hi hA]; exact ⟨⟨none, 0, 0, rfl⟩, rfl⟩) (by repeat' (first | exact Cover.nil | exact Take.here | apply Cover.cons | apply Take.there))
      | some x =>
        refine g_call (Hin := []) (Hr := ?hr3) (R := ?rr3) rfl rfl rfl ?hin3 ?hc3 ?hk3
        case hin3 => repeat' (first | exact Cover.nil | exact Take.here | apply Cover.cons | apply Take.there)
        case hc3 => intro ρ' hρ hR; exact dread_yes W[i] (by omega) hA
        rintro _ _ ⟨rfl, rfl⟩
        refine g_pure (p_move rfl) rfl ?_
        refine g_pure (p_extract rfl rfl) rfl ?_
        refine g_pure (p_extract rfl rfl) rfl ?_
        refine g_pure (p_assign rfl) rfl ?_
        refine g_pure (p_assign rfl) rfl ?_
        refine g_nil ?_
        refine g_qt ?_
        refine g_seq ?_
        refine g_seq ?_
        refine g_region ?_
        refine g_pure (p_move rfl) rfl ?_
        refine g_pure (p_not rfl) rfl ?_
        refine g_pure (p_move rfl) rfl ?_
        refine g_yes rfl rfl ?_
        refine g_pure (p_move rfl) rfl ?_
        refine g_yes rfl rfl ?_
        refine g_pure (p_eql rfl rfl) rfl ?_
        refine g_yes rfl rfl ?_
        refine g_pure (p_move rfl) rfl ?_
        refine g_yes rfl rfl ?_
        refine g_pure (p_move rfl) rfl ?_
        refine g_yes rfl rfl ?_
        refine g_pure (p_len (by rfl) rfl) rfl ?_
        refine g_yes rfl rfl ?_
        first | refine g_pure (p_subi rfl rfl (by omega)) rfl ?_ | refine g_pure (p_sub rfl rfl) rfl ?_
        refine g_yes rfl rfl ?_
        refine g_pure (p_eql rfl rfl) rfl ?_
        refine g_yes rfl rfl ?_
        refine g_pure (p_neqb (by rfl) rfl rfl) rfl ?_
        first | refine g_pure (p_pickt rfl rfl) rfl ?_ | refine g_pure (p_pickf rfl rfl) rfl ?_
        refine g_nil ?_
        refine g_qt ?_
        refine g_if rfl (fun c => ?_) (fun c => ?_)
        · refine g_seq ?_
          refine g_region ?_
          refine g_pure (p_assign rfl) rfl ?_
          refine g_pure (p_assign rfl) rfl ?_
          refine g_nil ?_
          refine g_qt ?_
          refine g_ret ?_
          refine g_qt_ret ?_
          refine g_qb_ret ?_
          refine g_qt_ret ?_
          refine g_qn_ret ?_
          refine g_qb_ret ?_
          refine g_qt_ret ?_
          have hd : ¬ (x = 0 ↔ i + 1 = W.length) := fun hh => by
            have e : decide (x = 0) = decide ((i : Int) = (W.length : Int) - 1) := by
              rw [decide_eq_decide]; omega
            simp_all
          exact g_post (Ho := []) (rs := [.tmp 2, .tmp 3]) rfl (.tmp rfl (.tmp rfl .nil)) (by unfold ClD; rw [hP.odd hi hA hd]; exact ⟨⟨none, 0, 0, rfl⟩, rfl⟩) (by repeat' (first | exact Cover.nil | exact Take.here | apply Cover.cons | apply Take.there))
        · have hd : x = 0 ↔ i + 1 = W.length := by
            have e : decide (x = 0) = decide ((i : Int) = (W.length : Int) - 1) := by simpa using c
            rw [decide_eq_decide] at e; omega
          refine g_skip ?_
          refine g_qt ?_
          refine g_seq ?_
          refine g_region ?_
          refine g_pure (p_move rfl) rfl ?_
          refine g_pure (p_neq rfl rfl) rfl ?_
          refine g_nil ?_
          refine g_qt ?_
          refine g_ifnd rfl (fun h0 => ?_) (fun h0 => ?_)
          · refine g_region ?_
            refine g_pure (p_move rfl) rfl ?_
            refine g_pure (p_move rfl) rfl ?_
            refine g_eff (e_bs (xs := [.tmp 40]) rfl rfl rfl (by rfl) (by rfl) rfl (by rfl)) rfl (fun _ _ => ?_)
            rintro ⟨b41, rfl, rfl⟩
            refine g_eff (e_appendO (by rfl) (by rfl) rfl rfl (by first | (apply Has.own; (repeat' (first | exact Take.here | apply Take.there)); done) | exact Has.ro (by assumption)) (by rfl) (by rfl) (by repeat' (first | exact Take.here | apply Take.there)) (by omega) (by first | omega | (dsimp only; omega) | (simp <;> omega)) (by omega)) rfl (fun _ _ => ?_)
            rintro ⟨a42, c42, rfl, rfl⟩
            refine g_pure (p_assign rfl) rfl ?_
            refine g_nil ?_
            refine g_qb ?_
            refine g_qt ?_
            refine g_region ?_
            refine g_pure (p_move rfl) rfl ?_
            first | refine g_pure (p_addi rfl rfl (by omega)) rfl ?_ | refine g_pure (p_add rfl rfl) rfl ?_
            refine g_pure (p_assign rfl) rfl ?_
            refine g_nil ?_
            refine g_qn ?_
            rw [show out.length + 1 = (out ++ [x]).length by simp]
            refine g_weak (A := OwnSl 3 1 a42 (out ++ [x]).length c42 (List.map encI out ++ [.int .i64 x])) (B := OwnSl 3 1 a42 (out ++ [x]).length c42 ((out ++ [x]).map encI)) (by repeat' (first | exact Take.here | apply Take.there)) (fun h hh => by rw [List.map_append]; exact hh) ?_
            exact g_next (i + 1, out ++ [x], a42, c42) (by (repeat (first | exact trivial | refine ⟨by rfl, ?_⟩)); done) (by repeat' (first | exact Cover.nil | exact Take.here | apply Cover.cons | apply Take.there)) (hP.more hi hA h0 (fun e => h0 (hd.2 e))) (by dsimp only; omega)
          · subst h0
            refine g_skip ?_
            refine g_qb ?_
            refine g_qt ?_
            refine g_region ?_
            refine g_pure (p_move rfl) rfl ?_
            first | refine g_pure (p_addi rfl rfl (by omega)) rfl ?_ | refine g_pure (p_add rfl rfl) rfl ?_
            refine g_pure (p_assign rfl) rfl ?_
            refine g_nil ?_
            refine g_qn ?_
            exact g_next (i + 1, out, a, cap) (by (repeat (first | exact trivial | refine ⟨by rfl, ?_⟩)); done) (by repeat' (first | exact Cover.nil | exact Take.here | apply Cover.cons | apply Take.there)) (hP.last hi hA (hd.1 rfl)) (by dsimp only; omega)
    · have hie : i = W.length := by omega
      subst hie
      have hf := hP.fin rfl hW0
      have hp2 : decide (0 < (W.length : Int)) = true := decide_eq_true (by omega)
      refine g_exit ?_
      refine g_qt_exit ?_
      refine g_qn_exit ?_
      refine g_qb_exit ?_
      refine g_qt ?_
      refine g_seq ?_
      refine g_region ?_
      refine g_pure (p_move rfl) rfl ?_
      refine g_pure (p_move rfl) rfl ?_
      refine g_pure (p_len (by rfl) rfl) rfl ?_
      refine g_pure (p_gtr rfl rfl) rfl ?_
      refine g_pure (p_assign rfl) rfl ?_
      refine g_pure (p_assign rfl) rfl ?_
      refine g_nil ?_
      refine g_qt ?_
      refine g_ret ?_
      exact g_post (Ho := [OwnSl 3 1 a out.length cap (out.map encI)]) (rs := [.tmp 2, .tmp 3]) rfl (.tmp rfl (.tmp rfl .nil)) (by unfold ClD; rw [hf]; exact ⟨a, cap, by rw [hp2]; rfl, rfl⟩) (by repeat' (first | exact Cover.nil | exact Take.here | apply Cover.cons | apply Take.there))
/-- what the document says of the first line -/
def HeD (s : List UInt8) (v : Value) (H : List Assn) : Prop := match headD s with
  | some (x, y) => v = .tuple #[.int .i64 x, .int .i64 y, .bool true] ∧ H = []
  | none => (∃ x y, v = .tuple #[.int .i64 x, .int .i64 y, .bool false]) ∧ H = []
theorem HeD.no {s : List UInt8} (h : headD s = none) (x y : Int) : HeD s (.tuple #[.int .i64 x, .int .i64 y, .bool false]) [] := by unfold HeD; rw [h]; exact ⟨⟨x, y, rfl⟩, rfl⟩
theorem HeD.yes {s : List UInt8} {x y : Int} (h : headD s = some (x, y)) : HeD s (.tuple #[.int .i64 x, .int .i64 y, .bool true]) [] := by unfold HeD; rw [h]; exact ⟨rfl, rfl⟩
theorem dhead_ok {ρ : Nat → Obj → Prop} (s : List UInt8) (hs : s.length ≤ 1000000) : Con Tryz.prog ρ 49 #[.string (strOf s)] [] (HeD s) := by
  have hWl := wordsD_len s
  have hdoc := headD_doc s
  have hmem : ∀ x ∈ wordsD s, x.length ≤ s.length := fun x hx => by
    unfold wordsD at hx
    split at hx
    · cases hx
    · exact (pieces_mem hx).2
  refine con_intro Tryz.func49 Tryz.call49 rfl Tryz.ntmps49 rfl (L := [(0, _)]) rfl fun w hh => ?_
  refine g_seq ?_
  refine g_region ?_
  refine g_pure (p_assign rfl) rfl ?_
  refine g_pure (p_assign rfl) rfl ?_
  refine g_pure (p_assign rfl) rfl ?_
  refine g_nil ?_
  refine g_qt ?_
  refine g_seq ?_
  refine g_region ?_
  refine g_pure (p_move rfl) rfl ?_
  refine g_call (Hin := []) (Hr := ?hr4) (R := ?rr4) rfl rfl rfl ?hin4 ?hc4 ?hk4
  case hin4 => repeat' (first | exact Cover.nil | exact Take.here | apply Cover.cons | apply Take.there)
  case hc4 => intro ρ' hρ hR; exact words_ok s hs
  rintro _ _ ⟨wa, wc, rfl, rfl⟩
  generalize wordsD s = W at hmem hWl hdoc ⊢
  refine g_pure (p_assign rfl) rfl ?_
  refine g_nil ?_
  refine g_qt ?_
  refine g_seq ?_
  refine g_seq ?_
  refine g_region ?_
  refine g_pure (p_move rfl) rfl ?_
  refine g_pure (p_len (by rfl) rfl) rfl ?_
  refine g_pure (p_neq rfl rfl) rfl ?_
  refine g_pure (p_move rfl) rfl ?_
  refine g_splitnd rfl rfl (fun c => ?_) (fun c => ?_)
  · have hno : headD s = none := by
      rw [hdoc]
      match W, c with
      | [], _ => rfl
      | [_], _ => rfl
      | [_, _], _ => rfl
      | [_, _, _], _ => rfl
      | [_, _, _, _], c => exact absurd rfl c
      | _ :: _ :: _ :: _ :: _ :: _, _ => rfl
    refine g_no rfl rfl rfl rfl ?_
    refine g_no rfl rfl rfl rfl ?_
    refine g_no rfl rfl rfl rfl ?_
    refine g_no rfl rfl rfl rfl ?_
    first | refine g_pure (p_pickt rfl rfl) rfl ?_ | refine g_pure (p_pickf rfl rfl) rfl ?_
    refine g_pure (p_move rfl) rfl ?_
    refine g_no rfl rfl rfl rfl ?_
    refine g_no rfl rfl rfl rfl ?_
    refine g_no rfl rfl rfl rfl ?_
    refine g_no rfl rfl rfl rfl ?_
    first | refine g_pure (p_pickt rfl rfl) rfl ?_ | refine g_pure (p_pickf rfl rfl) rfl ?_
    refine g_nil ?_
    refine g_qt ?_
    refine g_ift rfl ?_
    refine g_seq ?_
    refine g_region ?_
    refine g_pure (p_assign rfl) rfl ?_
    refine g_pure (p_assign rfl) rfl ?_
    refine g_pure (p_assign rfl) rfl ?_
    refine g_nil ?_
    refine g_qt ?_
    refine g_ret ?_
    refine g_qt_ret ?_
    exact g_post (Ho := []) (rs := [.tmp 2, .tmp 3, .tmp 4]) rfl (.tmp rfl (.tmp rfl (.tmp rfl .nil))) (HeD.no hno 0 0) (by repeat' (first | exact Cover.nil | exact Take.here | apply Cover.cons | apply Take.there))
  · obtain ⟨w0, w1, w2, w3, rfl⟩ : ∃ w0 w1 w2 w3, W = [w0, w1, w2, w3] := by
      match W, c with
      | [a, b, d, e], _ => exact ⟨a, b, d, e, rfl⟩
      | [], c => simp at c
      | [_], c => simp at c
      | [_, _], c => simp at c
      | [_, _, _], c => simp at c
      | _ :: _ :: _ :: _ :: _ :: _, c => simp at c; omega
    have hm2 := hmem w2 (by simp)
    have hm3 := hmem w3 (by simp)
    refine g_own (e := 9) (k := 4) (xs := [w0, w1, w2, w3].map encS) (by repeat' (first | exact Take.here | apply Take.there)) (fun _ h _ _ => absurd h (by decide)) (fun g cur r1 r2 r3 r4 r5 r6 => ?_)
    subst r1
    have x0 : cur[0 + (0 : Int).toNat * 1]? = some (.string (strOf w0)) := own_at (k := 0) r5 rfl rfl
    have x1 : cur[0 + (1 : Int).toNat * 1]? = some (.string (strOf w1)) := own_at (k := 1) r5 rfl rfl
    have x2 : cur[0 + (2 : Int).toNat * 1]? = some (.string (strOf w2)) := own_at (k := 2) r5 rfl rfl
    have x3 : cur[0 + (3 : Int).toNat * 1]? = some (.string (strOf w3)) := own_at (k := 3) r5 rfl rfl
    have h4 : (([w0, w1, w2, w3] : List (List UInt8)).length : Int) = 4 := rfl
    by_cases hp : w0 = [112]
    · by_cases hq : w1 = [99, 110, 102]
      · have hh : headD s = match numV w2, numV w3 with
            | some x, some y => if x < 0 ∨ y < 0 then none else some (x, y)
            | _, _ => none := by rw [hdoc]; dsimp only; rw [if_pos ⟨hp, hq⟩] <;> rfl
        refine g_yes rfl rfl ?_
        refine g_pure (p_move rfl) rfl ?_
        refine g_yes rfl rfl ?_
        refine g_pure (p_indexAddr rfl rfl (by omega) (fun _ => rfl)) rfl ?_
        refine g_yes rfl rfl ?_
        refine g_pure (p_load (by rfl) rfl (Has.own (by repeat' (first | exact Take.here | apply Take.there))) x0) rfl ?_
        refine g_yes rfl rfl ?_
        refine g_pure (p_neqsF (by rfl) rfl rfl (strOf_inj.2 hp)) rfl ?_
        first | refine g_pure (p_pickt rfl rfl) rfl ?_ | refine g_pure (p_pickf rfl rfl) rfl ?_
        refine g_pure (p_move rfl) rfl ?_
        refine g_yes rfl rfl ?_
        refine g_pure (p_move rfl) rfl ?_
        refine g_yes rfl rfl ?_
        refine g_pure (p_indexAddr rfl rfl (by omega) (fun _ => rfl)) rfl ?_
        refine g_yes rfl rfl ?_
        refine g_pure (p_load (by rfl) rfl (Has.own (by repeat' (first | exact Take.here | apply Take.there))) x1) rfl ?_
        refine g_yes rfl rfl ?_
        refine g_pure (p_neqsF (by rfl) rfl rfl (strOf_inj.2 hq)) rfl ?_
        first | refine g_pure (p_pickt rfl rfl) rfl ?_ | refine g_pure (p_pickf rfl rfl) rfl ?_
        refine g_nil ?_
        refine g_qt ?_
        refine g_iff rfl ?_
        refine g_skip ?_
        refine g_qt ?_
        refine g_seq ?_
        refine g_region ?_
        refine g_pure (p_move rfl) rfl ?_
        refine g_pure (p_indexAddr rfl rfl (by omega) (fun _ => rfl)) rfl ?_
        refine g_pure (p_load (by rfl) rfl (Has.own (by repeat' (first | exact Take.here | apply Take.there))) x2) rfl ?_
        refine g_call (Hin := []) (Hr := ?hr5) (R := ?rr5) rfl rfl rfl ?hin5 ?hc5 ?hk5
        case hin5 => repeat' (first | exact Cover.nil | exact Take.here | apply Cover.cons | apply Take.there)
        case hc5 => intro ρ' hρ hR; exact dread_ok w2 (by omega)
        rintro _ _ ⟨x, bx, rfl, hx1, hx2, rfl⟩
        refine g_pure (p_move rfl) rfl ?_
        refine g_pure (p_extract rfl rfl) rfl ?_
        refine g_pure (p_extract rfl rfl) rfl ?_
        refine g_pure (p_assign rfl) rfl ?_
        refine g_pure (p_assign rfl) rfl ?_
        refine g_nil ?_
        refine g_qt ?_
        refine g_seq ?_
        refine g_region ?_
        refine g_pure (p_move rfl) rfl ?_
        refine g_pure (p_indexAddr rfl rfl (by omega) (fun _ => rfl)) rfl ?_
        refine g_pure (p_load (by rfl) rfl (Has.own (by repeat' (first | exact Take.here | apply Take.there))) x3) rfl ?_
        refine g_call (Hin := []) (Hr := ?hr6) (R := ?rr6) rfl rfl rfl ?hin6 ?hc6 ?hk6
        case hin6 => repeat' (first | exact Cover.nil | exact Take.here | apply Cover.cons | apply Take.there)
        case hc6 => intro ρ' hρ hR; exact dread_ok w3 (by omega)
        rintro _ _ ⟨y, by', rfl, hy1, hy2, rfl⟩
        have k1 : bx = false → headD s = none := fun h => by rw [hh, hx2 h]
        have k2 : by' = false → headD s = none := fun h => by rw [hh, hy2 h]; split <;> simp_all
        have k3 : bx = true → by' = true → ¬ (0 ≤ x ∧ 0 ≤ y) → headD s = none := fun h h' h2 => by rw [hh, hx1 h, hy1 h']; dsimp only; rw [if_pos (by omega)]
        have k4 : bx = true → by' = true → (0 ≤ x ∧ 0 ≤ y) → headD s = some (x, y) := fun h h' h2 => by rw [hh, hx1 h, hy1 h']; dsimp only; rw [if_neg (by omega)]
        refine g_pure (p_move rfl) rfl ?_
        refine g_pure (p_extract rfl rfl) rfl ?_
        refine g_pure (p_extract rfl rfl) rfl ?_
        refine g_pure (p_assign rfl) rfl ?_
        refine g_pure (p_assign rfl) rfl ?_
        refine g_nil ?_
        refine g_qt ?_
        refine g_seq ?_
        refine g_region ?_
        refine g_pure (p_move rfl) rfl ?_
        refine g_pure (p_move rfl) rfl ?_
        refine g_pure (p_move rfl) rfl ?_
        refine g_pure (p_move rfl) rfl ?_
        refine g_split rfl rfl (fun h1 => ?_) (fun h1 => ?_)
        · refine g_yes rfl rfl ?_
          refine g_pure (p_move rfl) rfl ?_
          first | refine g_pure (p_pickt rfl rfl) rfl ?_ | refine g_pure (p_pickf rfl rfl) rfl ?_
          refine g_pure (p_move rfl) rfl ?_
          refine g_split rfl rfl (fun h2 => ?_) (fun h2 => ?_)
          · refine g_yes rfl rfl ?_
            refine g_pure (p_move rfl) rfl ?_
            refine g_yes rfl rfl ?_
            refine g_pure (p_geq rfl rfl) rfl ?_
            first | refine g_pure (p_pickt rfl rfl) rfl ?_ | refine g_pure (p_pickf rfl rfl) rfl ?_
            refine g_pure (p_move rfl) rfl ?_
            refine g_splitd rfl rfl (fun h3 => ?_) (fun h3 => ?_)
            · refine g_yes rfl rfl ?_
              refine g_pure (p_move rfl) rfl ?_
              refine g_yes rfl rfl ?_
              refine g_pure (p_geq rfl rfl) rfl ?_
              first | refine g_pure (p_pickt rfl rfl) rfl ?_ | refine g_pure (p_pickf rfl rfl) rfl ?_
              refine g_pure (p_assign rfl) rfl ?_
              refine g_pure (p_assign rfl) rfl ?_
              refine g_pure (p_assign rfl) rfl ?_
              refine g_nil ?_
              refine g_qt ?_
              refine g_ret ?_
              first | exact g_post (Ho := []) (rs := [.tmp 2, .tmp 3, .tmp 4]) rfl (.tmp rfl (.tmp rfl (.tmp rfl .nil))) (HeD.no (k1 (by assumption)) x y) (by repeat' (first | exact Cover.nil | exact Take.here | apply Cover.cons | apply Take.there)) | exact g_post (Ho := []) (rs := [.tmp 2, .tmp 3, .tmp 4]) rfl (.tmp rfl (.tmp rfl (.tmp rfl .nil))) (HeD.no (k2 (by assumption)) x y) (by repeat' (first | exact Cover.nil | exact Take.here | apply Cover.cons | apply Take.there)) | exact g_post (Ho := []) (rs := [.tmp 2, .tmp 3, .tmp 4]) rfl (.tmp rfl (.tmp rfl (.tmp rfl .nil))) (HeD.no (k3 (by assumption) (by assumption) (by omega)) x y) (by repeat' (first | exact Cover.nil | exact Take.here | apply Cover.cons | apply Take.there)) | (by_cases hy0 : 0 ≤ y; (rw [decide_eq_true hy0]; exact g_post (Ho := []) (rs := [.tmp 2, .tmp 3, .tmp 4]) rfl (.tmp rfl (.tmp rfl (.tmp rfl .nil))) (HeD.yes (k4 (by assumption) (by assumption) ⟨by omega, hy0⟩)) (by repeat' (first | exact Cover.nil | exact Take.here | apply Cover.cons | apply Take.there))); (rw [decide_eq_false hy0]; exact g_post (Ho := []) (rs := [.tmp 2, .tmp 3, .tmp 4]) rfl (.tmp rfl (.tmp rfl (.tmp rfl .nil))) (HeD.no (k3 (by assumption) (by assumption) (by omega)) x y) (by repeat' (first | exact Cover.nil | exact Take.here | apply Cover.cons | apply Take.there))))
            · refine g_no rfl rfl rfl rfl ?_
              refine g_no rfl rfl rfl rfl ?_
              first | refine g_pure (p_pickt rfl rfl) rfl ?_ | refine g_pure (p_pickf rfl rfl) rfl ?_
              refine g_pure (p_assign rfl) rfl ?_
              refine g_pure (p_assign rfl) rfl ?_
              refine g_pure (p_assign rfl) rfl ?_
              refine g_nil ?_
              refine g_qt ?_
              refine g_ret ?_
              first | exact g_post (Ho := []) (rs := [.tmp 2, .tmp 3, .tmp 4]) rfl (.tmp rfl (.tmp rfl (.tmp rfl .nil))) (HeD.no (k1 (by assumption)) x y) (by repeat' (first | exact Cover.nil | exact Take.here | apply Cover.cons | apply Take.there)) | exact g_post (Ho := []) (rs := [.tmp 2, .tmp 3, .tmp 4]) rfl (.tmp rfl (.tmp rfl (.tmp rfl .nil))) (HeD.no (k2 (by assumption)) x y) (by repeat' (first | exact Cover.nil | exact Take.here | apply Cover.cons | apply Take.there)) | exact g_post (Ho := []) (rs := [.tmp 2, .tmp 3, .tmp 4]) rfl (.tmp rfl (.tmp rfl (.tmp rfl .nil))) (HeD.no (k3 (by assumption) (by assumption) (by omega)) x y) (by repeat' (first | exact Cover.nil | exact Take.here | apply Cover.cons | apply Take.there)) | (by_cases hy0 : 0 ≤ y; (rw [decide_eq_true hy0]; exact g_post (Ho := []) (rs := [.tmp 2, .tmp 3, .tmp 4]) rfl (.tmp rfl (.tmp rfl (.tmp rfl .nil))) (HeD.yes (k4 (by assumption) (by assumption) ⟨by omega, hy0⟩)) (by repeat' (first | exact Cover.nil | exact Take.here | apply Cover.cons | apply Take.there))); (rw [decide_eq_false hy0]; exact g_post (Ho := []) (rs := [.tmp 2, .tmp 3, .tmp 4]) rfl (.tmp rfl (.tmp rfl (.tmp rfl .nil))) (HeD.no (k3 (by assumption) (by assumption) (by omega)) x y) (by repeat' (first | exact Cover.nil | exact Take.here | apply Cover.cons | apply Take.there))))
          · refine g_no rfl rfl rfl rfl ?_
            refine g_no rfl rfl rfl rfl ?_
            first | refine g_pure (p_pickt rfl rfl) rfl ?_ | refine g_pure (p_pickf rfl rfl) rfl ?_
            refine g_pure (p_move rfl) rfl ?_
            refine g_no rfl rfl rfl rfl ?_
            refine g_no rfl rfl rfl rfl ?_
            first | refine g_pure (p_pickt rfl rfl) rfl ?_ | refine g_pure (p_pickf rfl rfl) rfl ?_
            refine g_pure (p_assign rfl) rfl ?_
            refine g_pure (p_assign rfl) rfl ?_
            refine g_pure (p_assign rfl) rfl ?_
            refine g_nil ?_
            refine g_qt ?_
            refine g_ret ?_
            first | exact g_post (Ho := []) (rs := [.tmp 2, .tmp 3, .tmp 4]) rfl (.tmp rfl (.tmp rfl (.tmp rfl .nil))) (HeD.no (k1 (by assumption)) x y) (by repeat' (first | exact Cover.nil | exact Take.here | apply Cover.cons | apply Take.there)) | exact g_post (Ho := []) (rs := [.tmp 2, .tmp 3, .tmp 4]) rfl (.tmp rfl (.tmp rfl (.tmp rfl .nil))) (HeD.no (k2 (by assumption)) x y) (by repeat' (first | exact Cover.nil | exact Take.here | apply Cover.cons | apply Take.there)) | exact g_post (Ho := []) (rs := [.tmp 2, .tmp 3, .tmp 4]) rfl (.tmp rfl (.tmp rfl (.tmp rfl .nil))) (HeD.no (k3 (by assumption) (by assumption) (by omega)) x y) (by repeat' (first | exact Cover.nil | exact Take.here | apply Cover.cons | apply Take.there)) | (by_cases hy0 : 0 ≤ y; (rw [decide_eq_true hy0]; exact g_post (Ho := []) (rs := [.tmp 2, .tmp 3, .tmp 4]) rfl (.tmp rfl (.tmp rfl (.tmp rfl .nil))) (HeD.yes (k4 (by assumption) (by assumption) ⟨by omega, hy0⟩)) (by repeat' (first | exact Cover.nil | exact Take.here | apply Cover.cons | apply Take.there))); (rw [decide_eq_false hy0]; exact g_post (Ho := []) (rs := [.tmp 2, .tmp 3, .tmp 4]) rfl (.tmp rfl (.tmp rfl (.tmp rfl .nil))) (HeD.no (k3 (by assumption) (by assumption) (by omega)) x y) (by repeat' (first | exact Cover.nil | exact Take.here | apply Cover.cons | apply Take.there))))
        · refine g_no rfl rfl rfl rfl ?_
          first | refine g_pure (p_pickt rfl rfl) rfl ?_ | refine g_pure (p_pickf rfl rfl) rfl ?_
          refine g_pure (p_move rfl) rfl ?_
          refine g_no rfl rfl rfl rfl ?_
          refine g_no rfl rfl rfl rfl ?_
          first | refine g_pure (p_pickt rfl rfl) rfl ?_ | refine g_pure (p_pickf rfl rfl) rfl ?_
          refine g_pure (p_move rfl) rfl ?_
          refine g_no rfl rfl rfl rfl ?_
          refine g_no rfl rfl rfl rfl ?_
          first | refine g_pure (p_pickt rfl rfl) rfl ?_ | refine g_pure (p_pickf rfl rfl) rfl ?_
          refine g_pure (p_assign rfl) rfl ?_
          refine g_pure (p_assign rfl) rfl ?_
          refine g_pure (p_assign rfl) rfl ?_
          refine g_nil ?_
          refine g_qt ?_
          refine g_ret ?_
          first | exact g_post (Ho := []) (rs := [.tmp 2, .tmp 3, .tmp 4]) rfl (.tmp rfl (.tmp rfl (.tmp rfl .nil))) (HeD.no (k1 (by assumption)) x y) (by repeat' (first | exact Cover.nil | exact Take.here | apply Cover.cons | apply Take.there)) | exact g_post (Ho := []) (rs := [.tmp 2, .tmp 3, .tmp 4]) rfl (.tmp rfl (.tmp rfl (.tmp rfl .nil))) (HeD.no (k2 (by assumption)) x y) (by repeat' (first | exact Cover.nil | exact Take.here | apply Cover.cons | apply Take.there)) | exact g_post (Ho := []) (rs := [.tmp 2, .tmp 3, .tmp 4]) rfl (.tmp rfl (.tmp rfl (.tmp rfl .nil))) (HeD.no (k3 (by assumption) (by assumption) (by omega)) x y) (by repeat' (first | exact Cover.nil | exact Take.here | apply Cover.cons | apply Take.there)) | (by_cases hy0 : 0 ≤ y; (rw [decide_eq_true hy0]; exact g_post (Ho := []) (rs := [.tmp 2, .tmp 3, .tmp 4]) rfl (.tmp rfl (.tmp rfl (.tmp rfl .nil))) (HeD.yes (k4 (by assumption) (by assumption) ⟨by omega, hy0⟩)) (by repeat' (first | exact Cover.nil | exact Take.here | apply Cover.cons | apply Take.there))); (rw [decide_eq_false hy0]; exact g_post (Ho := []) (rs := [.tmp 2, .tmp 3, .tmp 4]) rfl (.tmp rfl (.tmp rfl (.tmp rfl .nil))) (HeD.no (k3 (by assumption) (by assumption) (by omega)) x y) (by repeat' (first | exact Cover.nil | exact Take.here | apply Cover.cons | apply Take.there))))
      · have hno : headD s = none := by rw [hdoc]; dsimp only; rw [if_neg (fun h => hq h.2)]
        refine g_yes rfl rfl ?_
        refine g_pure (p_move rfl) rfl ?_
        refine g_yes rfl rfl ?_
        refine g_pure (p_indexAddr rfl rfl (by omega) (fun _ => rfl)) rfl ?_
        refine g_yes rfl rfl ?_
        refine g_pure (p_load (by rfl) rfl (Has.own (by repeat' (first | exact Take.here | apply Take.there))) x0) rfl ?_
        refine g_yes rfl rfl ?_
        refine g_pure (p_neqsF (by rfl) rfl rfl (strOf_inj.2 hp)) rfl ?_
        first | refine g_pure (p_pickt rfl rfl) rfl ?_ | refine g_pure (p_pickf rfl rfl) rfl ?_
        refine g_pure (p_move rfl) rfl ?_
        refine g_yes rfl rfl ?_
        refine g_pure (p_move rfl) rfl ?_
        refine g_yes rfl rfl ?_
        refine g_pure (p_indexAddr rfl rfl (by omega) (fun _ => rfl)) rfl ?_
        refine g_yes rfl rfl ?_
        refine g_pure (p_load (by rfl) rfl (Has.own (by repeat' (first | exact Take.here | apply Take.there))) x1) rfl ?_
        refine g_yes rfl rfl ?_
        refine g_pure (p_neqsT (by rfl) rfl rfl (fun e => hq (strOf_inj.1 e))) rfl ?_
        first | refine g_pure (p_pickt rfl rfl) rfl ?_ | refine g_pure (p_pickf rfl rfl) rfl ?_
        refine g_nil ?_
        refine g_qt ?_
        refine g_ift rfl ?_
        refine g_seq ?_
        refine g_region ?_
        refine g_pure (p_assign rfl) rfl ?_
        refine g_pure (p_assign rfl) rfl ?_
        refine g_pure (p_assign rfl) rfl ?_
        refine g_nil ?_
        refine g_qt ?_
        refine g_ret ?_
        refine g_qt_ret ?_
        exact g_post (Ho := []) (rs := [.tmp 2, .tmp 3, .tmp 4]) rfl (.tmp rfl (.tmp rfl (.tmp rfl .nil))) (HeD.no hno 0 0) (by repeat' (first | exact Cover.nil | exact Take.here | apply Cover.cons | apply Take.there))
    · have hno : headD s = none := by rw [hdoc]; dsimp only; rw [if_neg (fun h => hp h.1)]
      refine g_yes rfl rfl ?_
      refine g_pure (p_move rfl) rfl ?_
      refine g_yes rfl rfl ?_
      refine g_pure (p_indexAddr rfl rfl (by omega) (fun _ => rfl)) rfl ?_
      refine g_yes rfl rfl ?_
      refine g_pure (p_load (by rfl) rfl (Has.own (by repeat' (first | exact Take.here | apply Take.there))) x0) rfl ?_
      refine g_yes rfl rfl ?_
      refine g_pure (p_neqsT (by rfl) rfl rfl (fun e => hp (strOf_inj.1 e))) rfl ?_
      first | refine g_pure (p_pickt rfl rfl) rfl ?_ | refine g_pure (p_pickf rfl rfl) rfl ?_
      refine g_pure (p_move rfl) rfl ?_
      refine g_no rfl rfl rfl rfl ?_
      refine g_no rfl rfl rfl rfl ?_
      refine g_no rfl rfl rfl rfl ?_
      refine g_no rfl rfl rfl rfl ?_
      first | refine g_pure (p_pickt rfl rfl) rfl ?_ | refine g_pure (p_pickf rfl rfl) rfl ?_
      refine g_nil ?_
      refine g_qt ?_
      refine g_ift rfl ?_
      refine g_seq ?_
      refine g_region ?_
      refine g_pure (p_assign rfl) rfl ?_
      refine g_pure (p_assign rfl) rfl ?_
      refine g_pure (p_assign rfl) rfl ?_
      refine g_nil ?_
      refine g_qt ?_
      refine g_ret ?_
      refine g_qt_ret ?_
      exact g_post (Ho := []) (rs := [.tmp 2, .tmp 3, .tmp 4]) rfl (.tmp rfl (.tmp rfl (.tmp rfl .nil))) (HeD.no hno 0 0) (by repeat' (first | exact Cover.nil | exact Take.here | apply Cover.cons | apply Take.there))
end Go.Proofs.YtopgbgnmjogeeaaGreatDoor
/- Chapter 36, plain: the graph that any calls build. No program in sight. Conditions: none. -/
namespace Go.Z.Tse
set_option maxRecDepth 8000
set_option linter.unusedVariables false
set_option linter.unusedSimpArgs false
set_option linter.unusedSectionVars false
open Go Go.Z Go.Z.Aig Go.Proofs.YtopgbgnmjogeeaaGreatDoor

structure Ac where
  kind : Int
  a : Int
  b : Int
  c : Int
def encA (x : Ac) : List Value := [.int .i64 x.kind, .int .i64 x.a, .int .i64 x.b, .int .i64 x.c]
theorem encA_len (x : Ac) : (encA x).length = 4 := rfl
def Ac.ok (x : Ac) : Prop := I64 x.kind ∧ I64 x.a ∧ I64 x.b ∧ I64 x.c
def callA (S : St) (x : Ac) : St :=
  if x.kind = 0 then (input1 S).2.2 else if x.kind = 1 then (and1 S x.a x.b).2.2 else if x.kind = 2 then (or1 S x.a x.b).2.2 else if x.kind = 3 then (xor1 S x.a x.b).2.2 else if x.kind = 4 then (mux1 S x.c x.a x.b).2.2 else S
def afterA (l : List Ac) : St := l.foldl callA L0
theorem afterA_snoc (l : List Ac) (k : Nat) (hk : k < l.length) : afterA (l.take (k + 1)) = callA (afterA (l.take k)) l[k] := by
  unfold afterA; rw [List.take_add_one, List.getElem?_eq_getElem hk, Option.toList_some, List.foldl_append]; rfl
theorem two_le (S : St) (a b c d : Int) : (two S a b c d).2.2.length ≤ S.length + 3 := by
  unfold two
  simp only
  have h1 := (and0_len (S := S) a b).1
  have h2 := (and0_len (S := (and0 S a b).2.2) c d).1
  split
  · dsimp only; omega
  · split
    · dsimp only; omega
    · have h3 := (and0_len (S := (and0 (and0 S a b).2.2 c d).2.2) (nt (and0 S a b).1) (nt (and0 (and0 S a b).2.2 c d).1)).1
      split <;> dsimp only <;> omega
theorem callA_len (S : St) (x : Ac) : (callA S x).length ≤ S.length + 3 := by
  have h0 := fun a b => (and0_len (S := S) a b).1
  unfold callA
  split
  · unfold input1 add; split <;> simp
  · split
    · unfold and1; split
      · have := h0 x.a x.b; omega
      · simp
    · split
      · unfold or1; split
        · have := h0 (nt x.a) (nt x.b); dsimp only; split <;> dsimp only <;> omega
        · simp
      · split
        · unfold xor1; split
          · exact two_le ..
          · simp
        · split
          · unfold mux1; split
            · exact two_le ..
            · simp
          · omega
theorem afterA_le (l : List Ac) : (afterA l).length ≤ 1 + 3 * l.length := by
  have : ∀ (l : List Ac) (S : St), (l.foldl callA S).length ≤ S.length + 3 * l.length := by
    intro l
    induction l with
    | nil => intro S; simp
    | cons x l ih => intro S; have := ih (callA S x); have := callA_len S x; simp only [List.foldl_cons, List.length_cons]; omega
  have := this l L0
  simpa [afterA, L0] using this
theorem callA_gate {S : St} (hw : WF S) (hl : S.length + 2 < 131072) {x : Ac} (h : x.kind ≠ 0) : Ext S (callA S x) := by
  have hB : ∀ a, hasB S a = true → has S a := fun a => hasB_iff.1
  unfold callA
  rw [if_neg h]
  split
  · by_cases h1 : (hasB S x.a && hasB S x.b) = true
    · obtain ⟨ha, hb⟩ := Bool.and_eq_true_iff.1 h1
      exact (good_and hw (by omega) (hB _ ha) (hB _ hb)).ext
    · unfold and1; rw [if_neg h1]; exact Ext.refl S
  · split
    · by_cases h1 : (hasB S x.a && hasB S x.b) = true
      · obtain ⟨ha, hb⟩ := Bool.and_eq_true_iff.1 h1
        exact (good_or hw (by omega) (hB _ ha) (hB _ hb)).ext
      · unfold or1; rw [if_neg h1]; exact Ext.refl S
    · split
      · by_cases h1 : (hasB S x.a && hasB S x.b) = true
        · obtain ⟨ha, hb⟩ := Bool.and_eq_true_iff.1 h1
          exact (good_xor hw (by omega) (hB _ ha) (hB _ hb)).ext
        · unfold xor1; rw [if_neg h1]; exact Ext.refl S
      · split
        · by_cases h1 : (hasB S x.c && (hasB S x.a && hasB S x.b)) = true
          · obtain ⟨hc, h2⟩ := Bool.and_eq_true_iff.1 h1
            obtain ⟨ha, hb⟩ := Bool.and_eq_true_iff.1 h2
            exact (good_mux hw (by omega) (hB _ hc) (hB _ ha) (hB _ hb)).ext
          · unfold mux1; rw [if_neg h1]; exact Ext.refl S
        · exact Ext.refl S
theorem callA_ins {S : St} (hw : WF S) (hl : S.length + 2 < 131072) {x : Ac} (h : x.kind ≠ 0) : ins 0 (callA S x) = ins 0 S := (callA_gate hw hl h).cut.2.1
theorem input1_eq {S : St} (hl : S.length < 131072) : input1 S = (2 * (S.length : Int), (0 : Int), S ++ [((0 : Int), (0 : Int), true)]) := by unfold input1 add; rw [if_neg (by omega)]
theorem callA_in {S : St} (hl : S.length < 131072) {x : Ac} (h : x.kind = 0) : (ins 0 (callA S x)).length = (ins 0 S).length + 1 := by
  unfold callA
  rw [if_pos h, input1_eq hl, ins_append, List.length_append]
  rfl
end Go.Z.Tse
/- Chapter 36: the graph that any calls build; refused roots; equality of formulas. Conditions: none. -/
namespace Go.Proofs.YtopgbgnmjogeeaaGreatDoor
set_option maxRecDepth 8000
set_option linter.unusedVariables false
set_option linter.unusedSimpArgs false
set_option linter.unusedSectionVars false
open Go Go.Z Go.Z.Aig Go.Z.Tse Go.Z.Sat

theorem built36_ok {ρ : Nat → Obj → Prop} (a : Option Addr) (c : Nat) (l : List Ac) (hl : RSl ρ 4 a l.length (l.flatMap encA)) (hlen : l.length ≤ 9223372036854775806) (hx : ∀ x ∈ l, x.ok) : Con Tryz.prog ρ 8 #[.slice a l.length c] []
    (fun v H => ∃ p, v = .tuple #[.pointer (some ⟨p, 0, none⟩), .int .i64 ((ins 0 (afterA (l.take 60))).length)] ∧ H = [Gr p (afterA (l.take 60))]) := by
  obtain ⟨b, off, cs, T, fz, hr⟩ := RSl.row encA_len hl
  refine con_intro Tryz.func8 Tryz.call8 rfl Tryz.ntmps8 rfl (L := [(0, _)]) rfl fun w hh => ?_
  refine g_seq ?_
  refine g_region ?_
  refine g_pure (p_assign rfl) rfl ?_
  refine g_pure (p_assign rfl) rfl ?_
  refine g_nil ?_
  refine g_qt ?_
  refine g_seq ?_
  refine g_region ?_
  refine g_call (Hin := []) (Hr := ?hr1) (R := ?rr1) rfl rfl rfl ?hin1 ?hc1 ?hk1
  case hin1 => repeat' (first | exact Cover.nil | exact Take.here | apply Cover.cons | apply Take.there)
  case hc1 => intro ρ' hρ hR; exact new_ok
  rintro _ _ ⟨p, rfl, rfl⟩
  refine g_pure (p_assign rfl) rfl ?_
  refine g_nil ?_
  refine g_qt ?_
  refine g_seq ?_
  refine g_region ?_
  refine g_pure (p_assign rfl) rfl ?_
  refine g_nil ?_
  refine g_qt ?_
  refine g_seq ?_
  refine g_seq ?_
  refine g_region ?_
  refine g_pure (p_assign rfl) rfl ?_
  refine g_nil ?_
  refine g_qt ?_
  refine g_block ?_
  refine g_loop (fun k : Nat => [(0, .slice a l.length c), (4, .pointer (some ⟨p, 0, none⟩)), (5, .int .i64 (ins 0 (afterA (l.take k))).length), (6, .int .i64 k)])
    (fun k => [Gr p (afterA (l.take k))]) (fun k => k ≤ l.length ∧ k ≤ 60) (fun k => 60 - k) 0 ⟨Nat.zero_le _, Nat.zero_le _⟩ (by (repeat (first | exact trivial | refine ⟨by rfl, ?_⟩)); done) (by repeat' (first | exact Cover.nil | exact Take.here | apply Cover.cons | apply Take.there)) ?_
  rintro k ⟨hk, hk60⟩
  have hS3 := afterA_le (l.take k)
  have hTl : (l.take k).length ≤ k := by rw [List.length_take]; omega
  have hS2 := ins_le (afterA (l.take k)) 0
  have hlast : k = l.length ∨ k = 60 → afterA (l.take k) = afterA (l.take 60) := fun h => by
    rcases h with rfl | rfl
    · rw [List.take_of_length_le (Nat.le_refl _), List.take_of_length_le hk60]
    · rfl
  have hnext : ∀ hkl : k < l.length, afterA (l.take (k + 1)) = callA (afterA (l.take k)) l[k] := fun hkl => afterA_snoc l k hkl
  obtain ⟨S, hS⟩ : ∃ S, afterA (l.take k) = S := ⟨_, rfl⟩
  rw [hS] at hS3 hS2 hlast hnext ⊢
  refine g_seq ?_
  refine g_seq ?_
  refine g_region ?_
  refine g_pure (p_move rfl) rfl ?_
  refine g_pure (p_move rfl) rfl ?_
  refine g_pure (p_len (by rfl) rfl) rfl ?_
  refine g_pure (p_lss rfl rfl) rfl ?_
  refine g_pure (p_move rfl) rfl ?_
  refine g_splitd rfl rfl (fun h1 => ?_) (fun h1 => ?_)
  · have hkl : k < l.length := by omega
    refine g_yes rfl rfl ?_
    refine g_pure (p_move rfl) rfl ?_
    refine g_yes rfl rfl ?_
    refine g_pure (p_lss rfl rfl) rfl ?_
    first | refine g_pure (p_pickt rfl rfl) rfl ?_ | refine g_pure (p_pickf rfl rfl) rfl ?_
    refine g_nil ?_
    refine g_qt ?_
    refine g_ifd rfl (fun h2 => ?_) (fun h2 => ?_)
    · obtain ⟨r1, r2, r3⟩ := hr (by omega)
      obtain ⟨q1, q2⟩ := r3 k hkl
      obtain ⟨ok0, ok1, ok2, ok3⟩ := hx l[k] (List.getElem_mem hkl)
      have q3 : sub cs (off + (k : Int).toNat * 4) 4 = some (encA l[k]) := by rw [Int.toNat_natCast]; exact q1 (by decide)
      have hn := hnext hkl
      generalize l[k] = x at q1 q2 q3 ok0 ok1 ok2 ok3 hn
      refine gr_wf (p := p) (S := S) (by repeat' (first | exact Take.here | apply Take.there)) fun hw => ?_
      have hgate : x.kind ≠ 0 → (ins 0 S).length = (ins 0 (afterA (l.take (k + 1)))).length := fun h0 => by rw [hn, callA_ins hw (by omega) h0]
      refine g_skip ?_
      refine g_qt ?_
      refine g_seq ?_
      refine g_block ?_
      refine g_seq ?_
      refine g_region ?_
      refine g_pure (p_move rfl) rfl ?_
      refine g_pure (p_move rfl) rfl ?_
      refine g_pure (p_indexAddr rfl rfl (by omega) (fun _ => r1)) rfl ?_
      refine g_pure (p_loadN (by rfl) rfl (Has.ro r2) q3) rfl ?_
      refine g_eff (e_alloc (by rfl)) rfl (fun _ _ => ?_)
      rintro ⟨b7, rfl, rfl⟩
      first | refine g_eff0 (e_storeO rfl rfl (by rfl) (by rfl) (by rfl) (by repeat' (first | exact Take.here | apply Take.there)) (by rfl)) (fun _ _ => ?_) | refine g_eff0 (e_storeN rfl rfl (by rfl) (by rfl) (by rfl) (by repeat' (first | exact Take.here | apply Take.there)) (by simp)) (fun _ _ => ?_)
      rintro rfl
      refine g_nil ?_
      refine g_qt ?_
      refine g_seq ?_
      refine g_region ?_
      refine g_pure (p_fieldAddr rfl) rfl ?_
      refine g_pure (p_load (by rfl) rfl (by first | (apply Has.own; (repeat' (first | exact Take.here | apply Take.there)); done) | exact Has.ro (by assumption)) (by first | rfl | assumption)) rfl ?_
      refine g_nil ?_
      refine g_qt ?_
      refine g_block ?_
      refine g_seq ?_
      refine g_region ?_
      refine g_pure (p_eql rfl rfl) rfl ?_
      refine g_pure (p_assign rfl) rfl ?_
      refine g_nil ?_
      refine g_qt ?_
      refine g_ifd rfl (fun c0 => ?_) (fun c0 => ?_)
      · have e := input1_eq (S := S) (by omega)
        have e2 : afterA (l.take (k + 1)) = S ++ [(0, 0, true)] := by rw [hn]; unfold callA; rw [if_pos c0, e]
        have e3 : ((ins 0 S).length : Int) + 1 = ((ins 0 (afterA (l.take (k + 1)))).length : Int) := by rw [hn, callA_in (by omega) c0]; rfl
        refine g_seq ?_
        refine g_region ?_
        refine g_pure (p_move rfl) rfl ?_
        refine g_call (Hin := ?hi2) (Hr := ?hr2) (R := ?rr2) rfl rfl rfl ?hin2 ?hc2 ?hk2
        case hc2 => intro ρ' hρ hR; exact input_at e
        case hin2 => repeat' (first | exact Cover.nil | exact Take.here | apply Cover.cons | apply Take.there)
        rintro _ _ ⟨rfl, rfl⟩
        refine g_pure (p_move rfl) rfl ?_
        refine g_pure (p_extract rfl rfl) rfl ?_
        refine g_pure (p_extract rfl rfl) rfl ?_
        refine g_pure (p_assign rfl) rfl ?_
        refine g_pure (p_assign rfl) rfl ?_
        refine g_nil ?_
        refine g_qt ?_
        refine g_seq ?_
        refine g_region ?_
        refine g_pure (p_move rfl) rfl ?_
        refine g_pure (p_eqlT rfl rfl rfl) rfl ?_
        refine g_nil ?_
        refine g_qt ?_
        refine g_ift rfl ?_
        refine g_region ?_
        refine g_pure (p_move rfl) rfl ?_
        first | refine g_pure (p_addi rfl rfl (by omega)) rfl ?_ | refine g_pure (p_add rfl rfl) rfl ?_
        refine g_pure (p_assign rfl) rfl ?_
        refine g_nil ?_
        refine g_qb ?_
        refine g_qb ?_
        refine g_qt ?_
        refine g_region ?_
        refine g_pure (p_move rfl) rfl ?_
        first | refine g_pure (p_addi rfl rfl (by omega)) rfl ?_ | refine g_pure (p_add rfl rfl) rfl ?_
        refine g_pure (p_assign rfl) rfl ?_
        refine g_nil ?_
        refine g_qn ?_
        rw [e3, ← e2]
        exact g_next (k + 1) (by (repeat (first | exact trivial | refine ⟨by rfl, ?_⟩)); done) (by repeat' (first | exact Cover.nil | exact Take.here | apply Cover.cons | apply Take.there)) ⟨by omega, by omega⟩ (by omega)
      · refine g_seq ?_
        refine g_region ?_
        refine g_pure (p_eql rfl rfl) rfl ?_
        refine g_pure (p_assign rfl) rfl ?_
        refine g_nil ?_
        refine g_qt ?_
        refine g_ifd rfl (fun c1 => ?_) (fun c1 => ?_)
        · have e : afterA (l.take (k + 1)) = (and1 S x.a x.b).2.2 := by rw [hn]; unfold callA; rw [if_neg c0, if_pos c1]
          refine g_region ?_
          refine g_pure (p_move rfl) rfl ?_
          refine g_pure (p_fieldAddr rfl) rfl ?_
          refine g_pure (p_load (by rfl) rfl (by first | (apply Has.own; (repeat' (first | exact Take.here | apply Take.there)); done) | exact Has.ro (by assumption)) (by first | rfl | assumption)) rfl ?_
          refine g_pure (p_fieldAddr rfl) rfl ?_
          refine g_pure (p_load (by rfl) rfl (by first | (apply Has.own; (repeat' (first | exact Take.here | apply Take.there)); done) | exact Has.ro (by assumption)) (by first | rfl | assumption)) rfl ?_
          refine g_call (Hin := ?hi3) (Hr := ?hr3) (R := ?rr3) rfl rfl rfl ?hin3 ?hc3 ?hk3
          case hc3 => intro ρ' hρ hR; exact and_ok p S x.a x.b ok1 ok2
          case hin3 => repeat' (first | exact Cover.nil | exact Take.here | apply Cover.cons | apply Take.there)
          rintro _ _ ⟨rfl, rfl⟩
          refine g_nil ?_
          refine g_qb ?_
          refine g_qb ?_
          refine g_qt ?_
          refine g_region ?_
          refine g_pure (p_move rfl) rfl ?_
          first | refine g_pure (p_addi rfl rfl (by omega)) rfl ?_ | refine g_pure (p_add rfl rfl) rfl ?_
          refine g_pure (p_assign rfl) rfl ?_
          refine g_nil ?_
          refine g_qn ?_
          rw [hgate c0, ← e]
          exact g_next (k + 1) (by (repeat (first | exact trivial | refine ⟨by rfl, ?_⟩)); done) (by repeat' (first | exact Cover.nil | exact Take.here | apply Cover.cons | apply Take.there)) ⟨by omega, by omega⟩ (by omega)
        · refine g_seq ?_
          refine g_region ?_
          refine g_pure (p_eql rfl rfl) rfl ?_
          refine g_pure (p_assign rfl) rfl ?_
          refine g_nil ?_
          refine g_qt ?_
          refine g_ifd rfl (fun c2 => ?_) (fun c2 => ?_)
          · have e : afterA (l.take (k + 1)) = (or1 S x.a x.b).2.2 := by rw [hn]; unfold callA; rw [if_neg c0, if_neg c1, if_pos c2]
            refine g_region ?_
            refine g_pure (p_move rfl) rfl ?_
            refine g_pure (p_fieldAddr rfl) rfl ?_
            refine g_pure (p_load (by rfl) rfl (by first | (apply Has.own; (repeat' (first | exact Take.here | apply Take.there)); done) | exact Has.ro (by assumption)) (by first | rfl | assumption)) rfl ?_
            refine g_pure (p_fieldAddr rfl) rfl ?_
            refine g_pure (p_load (by rfl) rfl (by first | (apply Has.own; (repeat' (first | exact Take.here | apply Take.there)); done) | exact Has.ro (by assumption)) (by first | rfl | assumption)) rfl ?_
            refine g_call (Hin := ?hi4) (Hr := ?hr4) (R := ?rr4) rfl rfl rfl ?hin4 ?hc4 ?hk4
            case hc4 => intro ρ' hρ hR; exact or_ok p S x.a x.b ok1 ok2
            case hin4 => repeat' (first | exact Cover.nil | exact Take.here | apply Cover.cons | apply Take.there)
            rintro _ _ ⟨rfl, rfl⟩
            refine g_nil ?_
            refine g_qb ?_
            refine g_qb ?_
            refine g_qt ?_
            refine g_region ?_
            refine g_pure (p_move rfl) rfl ?_
            first | refine g_pure (p_addi rfl rfl (by omega)) rfl ?_ | refine g_pure (p_add rfl rfl) rfl ?_
            refine g_pure (p_assign rfl) rfl ?_
            refine g_nil ?_
            refine g_qn ?_
            rw [hgate c0, ← e]
            exact g_next (k + 1) (by (repeat (first | exact trivial | refine ⟨by rfl, ?_⟩)); done) (by repeat' (first | exact Cover.nil | exact Take.here | apply Cover.cons | apply Take.there)) ⟨by omega, by omega⟩ (by omega)
          · refine g_seq ?_
            refine g_region ?_
            refine g_pure (p_eql rfl rfl) rfl ?_
            refine g_pure (p_assign rfl) rfl ?_
            refine g_nil ?_
            refine g_qt ?_
            refine g_ifd rfl (fun c3 => ?_) (fun c3 => ?_)
            · have e : afterA (l.take (k + 1)) = (xor1 S x.a x.b).2.2 := by rw [hn]; unfold callA; rw [if_neg c0, if_neg c1, if_neg c2, if_pos c3]
              refine g_region ?_
              refine g_pure (p_move rfl) rfl ?_
              refine g_pure (p_fieldAddr rfl) rfl ?_
              refine g_pure (p_load (by rfl) rfl (by first | (apply Has.own; (repeat' (first | exact Take.here | apply Take.there)); done) | exact Has.ro (by assumption)) (by first | rfl | assumption)) rfl ?_
              refine g_pure (p_fieldAddr rfl) rfl ?_
              refine g_pure (p_load (by rfl) rfl (by first | (apply Has.own; (repeat' (first | exact Take.here | apply Take.there)); done) | exact Has.ro (by assumption)) (by first | rfl | assumption)) rfl ?_
              refine g_call (Hin := ?hi5) (Hr := ?hr5) (R := ?rr5) rfl rfl rfl ?hin5 ?hc5 ?hk5
              case hc5 => intro ρ' hρ hR; exact xor_ok p S x.a x.b ok1 ok2
              case hin5 => repeat' (first | exact Cover.nil | exact Take.here | apply Cover.cons | apply Take.there)
              rintro _ _ ⟨rfl, rfl⟩
              refine g_nil ?_
              refine g_qb ?_
              refine g_qb ?_
              refine g_qt ?_
              refine g_region ?_
              refine g_pure (p_move rfl) rfl ?_
              first | refine g_pure (p_addi rfl rfl (by omega)) rfl ?_ | refine g_pure (p_add rfl rfl) rfl ?_
              refine g_pure (p_assign rfl) rfl ?_
              refine g_nil ?_
              refine g_qn ?_
              rw [hgate c0, ← e]
              exact g_next (k + 1) (by (repeat (first | exact trivial | refine ⟨by rfl, ?_⟩)); done) (by repeat' (first | exact Cover.nil | exact Take.here | apply Cover.cons | apply Take.there)) ⟨by omega, by omega⟩ (by omega)
            · refine g_seq ?_
              refine g_region ?_
              refine g_pure (p_eql rfl rfl) rfl ?_
              refine g_pure (p_assign rfl) rfl ?_
              refine g_nil ?_
              refine g_qt ?_
              refine g_ifd rfl (fun c4 => ?_) (fun c4 => ?_)
              · have e : afterA (l.take (k + 1)) = (mux1 S x.c x.a x.b).2.2 := by rw [hn]; unfold callA; rw [if_neg c0, if_neg c1, if_neg c2, if_neg c3, if_pos c4]
                refine g_region ?_
                refine g_pure (p_move rfl) rfl ?_
                refine g_pure (p_fieldAddr rfl) rfl ?_
                refine g_pure (p_load (by rfl) rfl (by first | (apply Has.own; (repeat' (first | exact Take.here | apply Take.there)); done) | exact Has.ro (by assumption)) (by first | rfl | assumption)) rfl ?_
                refine g_pure (p_fieldAddr rfl) rfl ?_
                refine g_pure (p_load (by rfl) rfl (by first | (apply Has.own; (repeat' (first | exact Take.here | apply Take.there)); done) | exact Has.ro (by assumption)) (by first | rfl | assumption)) rfl ?_
                refine g_pure (p_fieldAddr rfl) rfl ?_
                refine g_pure (p_load (by rfl) rfl (by first | (apply Has.own; (repeat' (first | exact Take.here | apply Take.there)); done) | exact Has.ro (by assumption)) (by first | rfl | assumption)) rfl ?_
                refine g_call (Hin := ?hi6) (Hr := ?hr6) (R := ?rr6) rfl rfl rfl ?hin6 ?hc6 ?hk6
                case hc6 => intro ρ' hρ hR; exact mux_ok p S x.c x.a x.b ok3 ok1 ok2
                case hin6 => repeat' (first | exact Cover.nil | exact Take.here | apply Cover.cons | apply Take.there)
                rintro _ _ ⟨rfl, rfl⟩
                refine g_nil ?_
                refine g_qb ?_
                refine g_qb ?_
                refine g_qt ?_
                refine g_region ?_
                refine g_pure (p_move rfl) rfl ?_
                first | refine g_pure (p_addi rfl rfl (by omega)) rfl ?_ | refine g_pure (p_add rfl rfl) rfl ?_
                refine g_pure (p_assign rfl) rfl ?_
                refine g_nil ?_
                refine g_qn ?_
                rw [hgate c0, ← e]
                exact g_next (k + 1) (by (repeat (first | exact trivial | refine ⟨by rfl, ?_⟩)); done) (by repeat' (first | exact Cover.nil | exact Take.here | apply Cover.cons | apply Take.there)) ⟨by omega, by omega⟩ (by omega)
              · have e : afterA (l.take (k + 1)) = S := by rw [hn]; unfold callA; rw [if_neg c0, if_neg c1, if_neg c2, if_neg c3, if_neg c4]
                refine g_skip ?_
                refine g_qb ?_
                refine g_qb ?_
                refine g_qt ?_
                refine g_region ?_
                refine g_pure (p_move rfl) rfl ?_
                first | refine g_pure (p_addi rfl rfl (by omega)) rfl ?_ | refine g_pure (p_add rfl rfl) rfl ?_
                refine g_pure (p_assign rfl) rfl ?_
                refine g_nil ?_
                refine g_qn ?_
                rw [← e]
                exact g_next (k + 1) (by (repeat (first | exact trivial | refine ⟨by rfl, ?_⟩)); done) (by repeat' (first | exact Cover.nil | exact Take.here | apply Cover.cons | apply Take.there)) ⟨by omega, by omega⟩ (by omega)
    · refine g_exit ?_
      refine g_qt_exit ?_
      refine g_qn_exit ?_
      refine g_qb_exit ?_
      refine g_qt ?_
      refine g_seq ?_
      refine g_region ?_
      refine g_pure (p_move rfl) rfl ?_
      refine g_pure (p_move rfl) rfl ?_
      refine g_pure (p_assign rfl) rfl ?_
      refine g_pure (p_assign rfl) rfl ?_
      refine g_nil ?_
      refine g_qt ?_
      refine g_ret ?_
      rw [hlast (.inr (by omega))]
      exact g_post (rs := [.tmp 2, .tmp 3]) rfl (.tmp rfl (.tmp rfl .nil)) ⟨p, rfl, rfl⟩ (by repeat' (first | exact Cover.nil | exact Take.here | apply Cover.cons | apply Take.there))
  · refine g_no rfl rfl rfl rfl ?_
    refine g_no rfl rfl rfl rfl ?_
    first | refine g_pure (p_pickt rfl rfl) rfl ?_ | refine g_pure (p_pickf rfl rfl) rfl ?_
    refine g_nil ?_
    refine g_qt ?_
    refine g_iff rfl ?_
    refine g_exit ?_
    refine g_qt_exit ?_
    refine g_qn_exit ?_
    refine g_qb_exit ?_
    refine g_qt ?_
    refine g_seq ?_
    refine g_region ?_
    refine g_pure (p_move rfl) rfl ?_
    refine g_pure (p_move rfl) rfl ?_
    refine g_pure (p_assign rfl) rfl ?_
    refine g_pure (p_assign rfl) rfl ?_
    refine g_nil ?_
    refine g_qt ?_
    refine g_ret ?_
    rw [hlast (.inl (by omega))]
    exact g_post (rs := [.tmp 2, .tmp 3]) rfl (.tmp rfl (.tmp rfl .nil)) ⟨p, rfl, rfl⟩ (by repeat' (first | exact Cover.nil | exact Take.here | apply Cover.cons | apply Take.there))

theorem of_nil {ρ : Nat → Obj → Prop} (al : Option Addr) (k cl : Nat) : Con Tryz.prog ρ 10 #[.pointer none, .slice al k cl] [] (fun v H => v = .tuple #[.agg #[.int .i64 0, .slice none 0 0], .int .i64 1] ∧ H = []) := by
  refine con_intro Tryz.func10 Tryz.call10 rfl Tryz.ntmps10 rfl (L := [(0, _), (1, _)]) rfl fun w hh => ?_
  refine g_seq ?_
  refine g_region ?_
  refine g_eff (e_alloc (by rfl)) rfl (fun _ _ => ?_)
  rintro ⟨b4, rfl, rfl⟩
  refine g_pure (p_assign rfl) rfl ?_
  refine g_nil ?_
  refine g_qt ?_
  refine g_seq ?_
  refine g_seq ?_
  refine g_region ?_
  refine g_pure (p_move rfl) rfl ?_
  refine g_pure (p_eqnil (by rfl) rfl rfl) rfl ?_
  refine g_nil ?_
  refine g_qt ?_
  refine g_ift rfl ?_
  refine g_seq ?_
  refine g_region ?_
  refine g_pure (p_build (by rfl) rfl (by rfl)) rfl ?_
  first | refine g_eff0 (e_storeO rfl rfl (by rfl) (by rfl) (by rfl) (by repeat' (first | exact Take.here | apply Take.there)) (by rfl)) (fun _ _ => ?_) | refine g_eff0 (e_storeN rfl rfl (by rfl) (by rfl) (by rfl) (by repeat' (first | exact Take.here | apply Take.there)) (by simp)) (fun _ _ => ?_)
  rintro rfl
  refine g_pure (p_assign rfl) rfl ?_
  refine g_nil ?_
  refine g_qt ?_
  refine g_ret ?_
  refine g_qt_ret ?_
  exact g_post (Ho := []) (rs := [.cell 4 30, .tmp 5]) rfl (Res.cellN (by rfl) rfl (Has.own (by repeat' (first | exact Take.here | apply Take.there))) (by rfl) (.tmp rfl .nil)) ⟨rfl, rfl⟩ (by repeat' (first | exact Cover.nil | exact Take.here | apply Cover.cons | apply Take.there))
theorem of_no {ρ : Nat → Obj → Prop} (p : Nat) (S : St) (hw : WF S) (hg : Ro ρ (Gr p S)) (al : Option Addr) (cl : Nat) (rs : List Int) (hl : RSl ρ 1 al rs.length (rs.map encI)) (hlen : rs.length ≤ 1000000) (hI : ∀ r ∈ rs, I64 r) (hr : ¬ ∀ r ∈ rs, has S r) :
    Con Tryz.prog ρ 10 #[.pointer (some ⟨p, 0, none⟩), .slice al rs.length cl] [] (fun v H => v = .tuple #[.agg #[.int .i64 0, .slice none 0 0], .int .i64 14] ∧ H = []) := by
  have hlim := hw.lim
  obtain ⟨_, b, off, cs, T, fz, hcs⟩ := hl
  refine con_intro Tryz.func10 Tryz.call10 rfl Tryz.ntmps10 rfl (L := [(0, _), (1, _)]) rfl fun w hh => ?_
  refine g_seq ?_
  refine g_region ?_
  refine g_eff (e_alloc (by rfl)) rfl (fun _ _ => ?_)
  rintro ⟨b4, rfl, rfl⟩
  refine g_pure (p_assign rfl) rfl ?_
  refine g_nil ?_
  refine g_qt ?_
  refine g_seq ?_
  refine g_seq ?_
  refine g_region ?_
  refine g_pure (p_move rfl) rfl ?_
  refine g_pure (p_eqnil (by rfl) rfl rfl) rfl ?_
  refine g_nil ?_
  refine g_qt ?_
  refine g_iff rfl ?_
  refine g_skip ?_
  refine g_qt ?_
  refine g_seq ?_
  refine g_region ?_
  refine g_pure (p_move rfl) rfl ?_
  refine g_call (Hin := []) (Hr := ?hr7) (R := ?rr7) rfl rfl rfl ?hin7 ?hc7 ?hk7
  case hin7 => repeat' (first | exact Cover.nil | exact Take.here | apply Cover.cons | apply Take.there)
  case hc7 => intro ρ' hρ hR; exact glen_ok p S (hg.mono hρ)
  rintro _ _ ⟨rfl, rfl⟩
  refine g_pure (p_assign rfl) rfl ?_
  refine g_nil ?_
  refine g_qt ?_
  refine g_seq ?_
  refine g_seq ?_
  refine g_region ?_
  refine g_pure (p_move rfl) rfl ?_
  refine g_pure (p_len (by rfl) rfl) rfl ?_
  refine g_pure (p_move rfl) rfl ?_
  refine g_nil ?_
  refine g_qt ?_
  refine g_block ?_
  refine g_loop (fun i : Nat => [(0, .pointer (some ⟨p, 0, none⟩)), (1, .slice al rs.length cl), (4, .pointer (some ⟨b4, 0, none⟩)), (6, .int .i64 S.length), (23, .slice al rs.length cl), (24, .int .i64 rs.length), (25, .int .i64 i)])
    (fun _ => [Blk b4 (.cells [.int .i64 0, .slice none 0 0].toArray 30 (0, 0))]) (fun i => i ≤ rs.length ∧ ∀ r ∈ rs.take i, has S r) (fun i => rs.length - i) 0 ⟨Nat.zero_le _, by simp⟩ (by (repeat (first | exact trivial | refine ⟨by rfl, ?_⟩)); done) (by repeat' (first | exact Cover.nil | exact Take.here | apply Cover.cons | apply Take.there)) ?_
  rintro i ⟨hi, hall⟩
  refine g_seq ?_
  refine g_region ?_
  refine g_pure (p_lss rfl rfl) rfl ?_
  refine g_nil ?_
  refine g_qt ?_
  refine g_seq ?_
  refine g_ifd rfl (fun q => ?_) (fun q => ?_)
  · have hil : i < rs.length := by omega
    obtain ⟨r1, r2, r3⟩ := hcs (by omega)
    have hri := hI rs[i] (List.getElem_mem hil)
    have hri1 := hri.1
    have hri2 := hri.2
    have hx : cs[off + (i : Int).toNat * 1]? = some (.int .i64 rs[i]) := by simpa [encI, List.getElem?_eq_getElem hil] using r3 i (.int .i64 rs[i]) (by simp [List.getElem?_eq_getElem hil, encI])
    have hnx : has S rs[i] → ∀ r ∈ rs.take (i + 1), has S r := fun h r hrm => by
      rw [List.take_add_one, List.getElem?_eq_getElem hil] at hrm
      rcases List.mem_append.1 hrm with hrm | hrm
      · exact hall r hrm
      · simp at hrm; subst hrm; exact h
    generalize rs[i] = r at hri hri1 hri2 hx hnx
    refine g_skip ?_
    refine g_qt ?_
    refine g_seq ?_
    refine g_block ?_
    refine g_seq ?_
    refine g_region ?_
    refine g_pure (p_indexAddr rfl rfl (by omega) (fun _ => r1)) rfl ?_
    refine g_pure (p_load (by rfl) rfl (Has.ro r2) hx) rfl ?_
    refine g_pure (p_assign rfl) rfl ?_
    refine g_nil ?_
    refine g_qt ?_
    refine g_seq ?_
    refine g_region ?_
    refine g_pure (p_move rfl) rfl ?_
    refine g_pure (p_lss rfl rfl) rfl ?_
    refine g_pure (p_move rfl) rfl ?_
    refine g_splitd rfl rfl (fun z => ?_) (fun z => ?_)
    · refine g_no rfl rfl rfl rfl ?_
      refine g_no rfl rfl rfl rfl ?_
      refine g_no rfl rfl rfl rfl ?_
      refine g_no rfl rfl rfl rfl ?_
      first | refine g_pure (p_pickt rfl rfl) rfl ?_ | refine g_pure (p_pickf rfl rfl) rfl ?_
      refine g_nil ?_
      refine g_qt ?_
      refine g_ift rfl ?_
      refine g_seq ?_
      refine g_region ?_
      refine g_pure (p_build (by rfl) rfl (by rfl)) rfl ?_
      first | refine g_eff0 (e_storeO rfl rfl (by rfl) (by rfl) (by rfl) (by repeat' (first | exact Take.here | apply Take.there)) (by rfl)) (fun _ _ => ?_) | refine g_eff0 (e_storeN rfl rfl (by rfl) (by rfl) (by rfl) (by repeat' (first | exact Take.here | apply Take.there)) (by simp)) (fun _ _ => ?_)
      rintro rfl
      refine g_pure (p_assign rfl) rfl ?_
      refine g_nil ?_
      refine g_qt ?_
      refine g_ret ?_
      refine g_qb_ret ?_
      refine g_qt_ret ?_
      refine g_qn_ret ?_
      refine g_qb_ret ?_
      refine g_qt_ret ?_
      exact g_post (Ho := []) (rs := [.cell 4 30, .tmp 5]) rfl (Res.cellN (by rfl) rfl (Has.own (by repeat' (first | exact Take.here | apply Take.there))) (by rfl) (.tmp rfl .nil)) ⟨rfl, rfl⟩ (by repeat' (first | exact Cover.nil | exact Take.here | apply Cover.cons | apply Take.there))
    · refine g_yes rfl rfl ?_
      refine g_pure (p_move rfl) rfl ?_
      refine g_yes rfl rfl ?_
      first | refine g_pure (p_quon rfl rfl (by omega) (by omega)) rfl ?_ | refine g_pure (p_quoi rfl rfl (by omega) (by omega)) rfl ?_ | refine g_pure (p_quo rfl rfl (by omega)) rfl ?_
      refine g_yes rfl rfl ?_
      refine g_pure (p_move rfl) rfl ?_
      refine g_yes rfl rfl ?_
      refine g_pure (p_geq rfl rfl) rfl ?_
      first | refine g_pure (p_pickt rfl rfl) rfl ?_ | refine g_pure (p_pickf rfl rfl) rfl ?_
      refine g_nil ?_
      refine g_qt ?_
      refine g_ifd rfl (fun z2 => ?_) (fun z2 => ?_)
      · refine g_seq ?_
        refine g_region ?_
        refine g_pure (p_build (by rfl) rfl (by rfl)) rfl ?_
        first | refine g_eff0 (e_storeO rfl rfl (by rfl) (by rfl) (by rfl) (by repeat' (first | exact Take.here | apply Take.there)) (by rfl)) (fun _ _ => ?_) | refine g_eff0 (e_storeN rfl rfl (by rfl) (by rfl) (by rfl) (by repeat' (first | exact Take.here | apply Take.there)) (by simp)) (fun _ _ => ?_)
        rintro rfl
        refine g_pure (p_assign rfl) rfl ?_
        refine g_nil ?_
        refine g_qt ?_
        refine g_ret ?_
        refine g_qb_ret ?_
        refine g_qt_ret ?_
        refine g_qn_ret ?_
        refine g_qb_ret ?_
        refine g_qt_ret ?_
        exact g_post (Ho := []) (rs := [.cell 4 30, .tmp 5]) rfl (Res.cellN (by rfl) rfl (Has.own (by repeat' (first | exact Take.here | apply Take.there))) (by rfl) (.tmp rfl .nil)) ⟨rfl, rfl⟩ (by repeat' (first | exact Cover.nil | exact Take.here | apply Cover.cons | apply Take.there))
      · refine g_skip ?_
        refine g_qb ?_
        refine g_qt ?_
        refine g_region ?_
        first | refine g_pure (p_addi rfl rfl (by omega)) rfl ?_ | refine g_pure (p_add rfl rfl) rfl ?_
        refine g_pure (p_move rfl) rfl ?_
        refine g_nil ?_
        refine g_qn ?_
        exact g_next (i + 1) (by (repeat (first | exact trivial | refine ⟨by rfl, ?_⟩)); done) (by repeat' (first | exact Cover.nil | exact Take.here | apply Cover.cons | apply Take.there)) ⟨by omega, hnx ⟨by omega, by omega⟩⟩ (by omega)
  · have hie : i = rs.length := by omega
    subst hie
    rw [List.take_length] at hall
    exact absurd hall hr

theorem dsame_ok {ρ : Nat → Obj → Prop} (n : Int) (ca cb : Option Addr) (cc cd : Nat) (F : Fm) (hA : FmR ρ ca F) (hB : FmR ρ cb F) :
    Con Tryz.prog ρ 14 #[.agg #[.int .i64 n, .slice ca F.length cc], .agg #[.int .i64 n, .slice cb F.length cd]] [] (fun v H => v = .bool true ∧ H = []) := by
  have hlen := hA.len
  refine con_intro Tryz.func14 Tryz.call14 rfl Tryz.ntmps14 rfl (L := [(0, _), (1, _)]) rfl fun w hh => ?_
  refine g_seq ?_
  refine g_region ?_
  refine g_eff (e_box rfl (by rfl)) rfl (fun _ _ => ?_)
  rintro ⟨b2, rfl, rfl⟩
  refine g_eff (e_box rfl (by rfl)) rfl (fun _ _ => ?_)
  rintro ⟨b3, rfl, rfl⟩
  refine g_pure (p_assign rfl) rfl ?_
  refine g_nil ?_
  refine g_qt ?_
  refine g_seq ?_
  refine g_seq ?_
  refine g_region ?_
  refine g_pure (p_fieldAddr rfl) rfl ?_
  refine g_pure (p_load (by rfl) rfl (by first | (apply Has.own; (repeat' (first | exact Take.here | apply Take.there)); done) | exact Has.ro (by assumption)) (by first | rfl | assumption)) rfl ?_
  refine g_pure (p_fieldAddr rfl) rfl ?_
  refine g_pure (p_load (by rfl) rfl (by first | (apply Has.own; (repeat' (first | exact Take.here | apply Take.there)); done) | exact Has.ro (by assumption)) (by first | rfl | assumption)) rfl ?_
  refine g_pure (p_neqF rfl rfl rfl) rfl ?_
  refine g_pure (p_move rfl) rfl ?_
  refine g_yes rfl rfl ?_
  refine g_pure (p_fieldAddr rfl) rfl ?_
  refine g_yes rfl rfl ?_
  refine g_pure (p_load (by rfl) rfl (by first | (apply Has.own; (repeat' (first | exact Take.here | apply Take.there)); done) | exact Has.ro (by assumption)) (by first | rfl | assumption)) rfl ?_
  refine g_yes rfl rfl ?_
  refine g_pure (p_len (by rfl) rfl) rfl ?_
  refine g_yes rfl rfl ?_
  refine g_pure (p_fieldAddr rfl) rfl ?_
  refine g_yes rfl rfl ?_
  refine g_pure (p_load (by rfl) rfl (by first | (apply Has.own; (repeat' (first | exact Take.here | apply Take.there)); done) | exact Has.ro (by assumption)) (by first | rfl | assumption)) rfl ?_
  refine g_yes rfl rfl ?_
  refine g_pure (p_len (by rfl) rfl) rfl ?_
  refine g_yes rfl rfl ?_
  refine g_pure (p_neqF rfl rfl rfl) rfl ?_
  first | refine g_pure (p_pickt rfl rfl) rfl ?_ | refine g_pure (p_pickf rfl rfl) rfl ?_
  refine g_nil ?_
  refine g_qt ?_
  refine g_iff rfl ?_
  refine g_skip ?_
  refine g_qt ?_
  refine g_seq ?_
  refine g_seq ?_
  refine g_region ?_
  refine g_pure (p_assign rfl) rfl ?_
  refine g_nil ?_
  refine g_qt ?_
  refine g_block ?_
  refine g_loop (fun i : Nat => [(2, .pointer (some ⟨b2, 0, none⟩)), (3, .pointer (some ⟨b3, 0, none⟩)), (5, .int .i64 i)])
    (fun _ => [Blk b2 (.cells [.int .i64 n, .slice ca F.length cc].toArray 30 (0, 0)), Blk b3 (.cells [.int .i64 n, .slice cb F.length cd].toArray 30 (0, 0))]) (fun i => i ≤ F.length) (fun i => F.length - i) 0 (Nat.zero_le _) (by (repeat (first | exact trivial | refine ⟨by rfl, ?_⟩)); done) (by repeat' (first | exact Cover.nil | exact Take.here | apply Cover.cons | apply Take.there)) ?_
  intro i hi
  refine g_seq ?_
  refine g_seq ?_
  refine g_region ?_
  refine g_pure (p_move rfl) rfl ?_
  refine g_pure (p_fieldAddr rfl) rfl ?_
  refine g_pure (p_load (by rfl) rfl (by first | (apply Has.own; (repeat' (first | exact Take.here | apply Take.there)); done) | exact Has.ro (by assumption)) (by first | rfl | assumption)) rfl ?_
  refine g_pure (p_len (by rfl) rfl) rfl ?_
  refine g_pure (p_lss rfl rfl) rfl ?_
  refine g_nil ?_
  refine g_qt ?_
  refine g_ifd rfl (fun q => ?_) (fun q => ?_)
  · have hil : i < F.length := by omega
    obtain ⟨b, off, cs, T1, fz, r1, r2, r3⟩ := hA.at (by omega)
    obtain ⟨ai, ci, x1', hrow⟩ := r3 i hil
    have x1 : cs[off + (i : Int).toNat * 1]? = some (.slice ai F[i].length ci) := x1'
    obtain ⟨b', off', cs', T1', fz', s1, s2, s3⟩ := hB.at (by omega)
    obtain ⟨bi, di, y1', hrow2⟩ := s3 i hil
    have y1 : cs'[off' + (i : Int).toNat * 1]? = some (.slice bi F[i].length di) := y1'
    have hcl := hA.lens _ (List.getElem_mem hil)
    refine g_skip ?_
    refine g_qt ?_
    refine g_seq ?_
    refine g_block ?_
    refine g_seq ?_
    refine g_seq ?_
    refine m_begin0 (.fl 0 0 (.fl 1 1 (.fl 2 0 (.fl 3 0 (.fl 4 1 (.fl 5 0 (.fl 6 0 (.fl 7 1 (.fl 8 0 (.fl 9 0 (.fl 10 1 (.fl 11 0 (.fl 12 0 .done))))))))))))) (by kernel_rfl) (by kernel_rfl) ?_
    refine m_float0 rfl (fun _ _ => p_fieldAddr rfl) rfl ?_
    refine m_float rfl (p_load (by rfl) rfl (by first | (apply Has.own; (repeat' (first | exact Take.here | apply Take.there)); done) | exact Has.ro (by assumption)) (by first | rfl | assumption)) rfl ?_
    refine m_float0 rfl (fun _ _ => p_move rfl) rfl ?_
    refine m_float0 rfl (fun _ _ => p_indexAddr rfl rfl (by omega) (fun _ => r1)) rfl ?_
    refine m_float rfl (p_load (by rfl) rfl (Has.ro r2) x1) rfl ?_
    refine m_float0 rfl (fun _ _ => p_len (by rfl) rfl) rfl ?_
    refine m_float0 rfl (fun _ _ => p_fieldAddr rfl) rfl ?_
    refine m_float rfl (p_load (by rfl) rfl (by first | (apply Has.own; (repeat' (first | exact Take.here | apply Take.there)); done) | exact Has.ro (by assumption)) (by first | rfl | assumption)) rfl ?_
    refine m_float0 rfl (fun _ _ => p_move rfl) rfl ?_
    refine m_float0 rfl (fun _ _ => p_indexAddr rfl rfl (by omega) (fun _ => s1)) rfl ?_
    refine m_float rfl (p_load (by rfl) rfl (Has.ro s2) y1) rfl ?_
    refine m_float0 rfl (fun _ _ => p_len (by rfl) rfl) rfl ?_
    refine m_float0 rfl (fun _ _ => p_neqF rfl rfl rfl) rfl ?_
    refine m_nil ?_
    refine g_qt ?_
    refine g_iff rfl ?_
    refine g_skip ?_
    refine g_qt ?_
    refine g_seq ?_
    refine g_region ?_
    refine g_pure (p_assign rfl) rfl ?_
    refine g_nil ?_
    refine g_qt ?_
    refine g_block ?_
    refine g_loop (fun j : Nat => [(2, .pointer (some ⟨b2, 0, none⟩)), (3, .pointer (some ⟨b3, 0, none⟩)), (5, .int .i64 i), (6, .int .i64 j)])
      (fun _ => [Blk b2 (.cells [.int .i64 n, .slice ca F.length cc].toArray 30 (0, 0)), Blk b3 (.cells [.int .i64 n, .slice cb F.length cd].toArray 30 (0, 0))]) (fun j => j ≤ F[i].length) (fun j => F[i].length - j) 0 (Nat.zero_le _) (by (repeat (first | exact trivial | refine ⟨by rfl, ?_⟩)); done) (by repeat' (first | exact Cover.nil | exact Take.here | apply Cover.cons | apply Take.there)) ?_
    intro j hj
    refine g_seq ?_
    refine g_seq ?_
    refine g_region ?_
    refine g_pure (p_move rfl) rfl ?_
    refine g_pure (p_fieldAddr rfl) rfl ?_
    refine g_pure (p_load (by rfl) rfl (by first | (apply Has.own; (repeat' (first | exact Take.here | apply Take.there)); done) | exact Has.ro (by assumption)) (by first | rfl | assumption)) rfl ?_
    refine g_pure (p_move rfl) rfl ?_
    refine g_pure (p_indexAddr rfl rfl (by omega) (fun _ => r1)) rfl ?_
    refine g_pure (p_load (by rfl) rfl (Has.ro r2) x1) rfl ?_
    refine g_pure (p_len (by rfl) rfl) rfl ?_
    refine g_pure (p_lss rfl rfl) rfl ?_
    refine g_nil ?_
    refine g_qt ?_
    refine g_ifd rfl (fun q2 => ?_) (fun q2 => ?_)
    · have hjl : j < F[i].length := by omega
      obtain ⟨_, c1, o1, k1, T3, f3, hk1⟩ := hrow
      obtain ⟨t1, t2, t3⟩ := hk1 (by omega)
      obtain ⟨_, c2, o2, k2, T4, f4, hk2⟩ := hrow2
      obtain ⟨u1, u2, u3⟩ := hk2 (by omega)
      have e1 : k1[o1 + (j : Int).toNat * 1]? = some (.int .i64 F[i][j]) := by simpa [encI, List.getElem?_eq_getElem hjl] using t3 j (.int .i64 F[i][j]) (by simp [List.getElem?_eq_getElem hjl, encI])
      have e2 : k2[o2 + (j : Int).toNat * 1]? = some (.int .i64 F[i][j]) := by simpa [encI, List.getElem?_eq_getElem hjl] using u3 j (.int .i64 F[i][j]) (by simp [List.getElem?_eq_getElem hjl, encI])
      refine g_skip ?_
      refine g_qt ?_
      refine g_seq ?_
      refine g_block ?_
      refine g_seq ?_
      refine m_begin0 (.fl 0 0 (.fl 1 1 (.fl 2 0 (.fl 3 0 (.fl 4 1 (.fl 5 0 (.fl 6 0 (.fl 7 1 (.fl 8 0 (.fl 9 1 (.fl 10 0 (.fl 11 0 (.fl 12 1 (.fl 13 0 (.fl 14 0 (.fl 15 1 (.fl 16 0 .done))))))))))))))))) (by kernel_rfl) (by kernel_rfl) ?_
      refine m_float0 rfl (fun _ _ => p_fieldAddr rfl) rfl ?_
      refine m_float rfl (p_load (by rfl) rfl (by first | (apply Has.own; (repeat' (first | exact Take.here | apply Take.there)); done) | exact Has.ro (by assumption)) (by first | rfl | assumption)) rfl ?_
      refine m_float0 rfl (fun _ _ => p_move rfl) rfl ?_
      refine m_float0 rfl (fun _ _ => p_indexAddr rfl rfl (by omega) (fun _ => r1)) rfl ?_
      refine m_float rfl (p_load (by rfl) rfl (Has.ro r2) x1) rfl ?_
      refine m_float0 rfl (fun _ _ => p_move rfl) rfl ?_
      refine m_float0 rfl (fun _ _ => p_indexAddr rfl rfl (by omega) (fun _ => t1)) rfl ?_
      refine m_float rfl (p_load (by rfl) rfl (Has.ro t2) e1) rfl ?_
      refine m_float0 rfl (fun _ _ => p_fieldAddr rfl) rfl ?_
      refine m_float rfl (p_load (by rfl) rfl (by first | (apply Has.own; (repeat' (first | exact Take.here | apply Take.there)); done) | exact Has.ro (by assumption)) (by first | rfl | assumption)) rfl ?_
      refine m_float0 rfl (fun _ _ => p_move rfl) rfl ?_
      refine m_float0 rfl (fun _ _ => p_indexAddr rfl rfl (by omega) (fun _ => s1)) rfl ?_
      refine m_float rfl (p_load (by rfl) rfl (Has.ro s2) y1) rfl ?_
      refine m_float0 rfl (fun _ _ => p_move rfl) rfl ?_
      refine m_float0 rfl (fun _ _ => p_indexAddr rfl rfl (by omega) (fun _ => u1)) rfl ?_
      refine m_float rfl (p_load (by rfl) rfl (Has.ro u2) e2) rfl ?_
      refine m_float0 rfl (fun _ _ => p_neqF rfl rfl rfl) rfl ?_
      refine m_nil ?_
      refine g_qt ?_
      refine g_iff rfl ?_
      refine g_skip ?_
      refine g_qb ?_
      refine g_qt ?_
      refine g_region ?_
      refine g_pure (p_move rfl) rfl ?_
      first | refine g_pure (p_addi rfl rfl (by omega)) rfl ?_ | refine g_pure (p_add rfl rfl) rfl ?_
      refine g_pure (p_assign rfl) rfl ?_
      refine g_nil ?_
      refine g_qn ?_
      exact g_next (j + 1) (by (repeat (first | exact trivial | refine ⟨by rfl, ?_⟩)); done) (by repeat' (first | exact Cover.nil | exact Take.here | apply Cover.cons | apply Take.there)) (by omega) (by omega)
    · refine g_exit ?_
      refine g_qt_exit ?_
      refine g_qn_exit ?_
      refine g_qb_exit ?_
      refine g_qb ?_
      refine g_qt ?_
      refine g_region ?_
      refine g_pure (p_move rfl) rfl ?_
      first | refine g_pure (p_addi rfl rfl (by omega)) rfl ?_ | refine g_pure (p_add rfl rfl) rfl ?_
      refine g_pure (p_assign rfl) rfl ?_
      refine g_nil ?_
      refine g_qn ?_
      exact g_next (i + 1) (by (repeat (first | exact trivial | refine ⟨by rfl, ?_⟩)); done) (by repeat' (first | exact Cover.nil | exact Take.here | apply Cover.cons | apply Take.there)) (by omega) (by omega)
  · refine g_exit ?_
    refine g_qt_exit ?_
    refine g_qn_exit ?_
    refine g_qb_exit ?_
    refine g_qt ?_
    refine g_seq ?_
    refine g_region ?_
    refine g_pure (p_assign rfl) rfl ?_
    refine g_nil ?_
    refine g_qt ?_
    refine g_ret ?_
    exact g_post (Ho := []) (rs := [.tmp 4]) rfl (.tmp rfl .nil) ⟨rfl, rfl⟩ (by repeat' (first | exact Cover.nil | exact Take.here | apply Cover.cons | apply Take.there))
end Go.Proofs.YtopgbgnmjogeeaaGreatDoor
/- Chapter 36: the page's examples. Conditions: what the library's variables hold (LibC). -/
namespace Go.Z.Tse
set_option maxRecDepth 8000
set_option linter.unusedVariables false
set_option linter.unusedSimpArgs false
set_option linter.unusedSectionVars false
open Go Go.Z Go.Z.Aig Go.Z.Sat Go.Z.Txt Go.Lib Go.Proofs.YtopgbgnmjogeeaaGreatDoor

def SA : St := [(0, 0, false), (0, 0, true), (0, 0, true), (2, 4, false)]
def actsA : List Ac := [⟨0, 0, 0, 0⟩, ⟨0, 0, 0, 0⟩, ⟨1, 2, 4, 0⟩]
theorem exA_st : afterA (actsA.take 60) = SA := by decide
theorem exA_ok : ∀ x ∈ actsA, x.ok := by
  intro x hx
  simp only [actsA, List.mem_cons, List.not_mem_nil, or_false] at hx
  rcases hx with rfl | rfl | rfl <;> exact ⟨⟨by decide, by decide⟩, ⟨by decide, by decide⟩, ⟨by decide, by decide⟩, ⟨by decide, by decide⟩⟩
def FA : List (List Int) := [[-3, 1], [-3, 2], [3, -1, -2], [3]]
theorem exA_cnf {nd : Nat → Bool} (h : ∀ u, nd u = true ↔ Nd SA [6] u) : cnfF SA nd [6] = FA := by
  have h3 : nd 3 = true := (h 3).2 (Nd.root (S := SA) (r := 6) (by simp))
  unfold cnfF
  rw [show SA.length = 4 from rfl, gates_succ, gates_succ, gates_succ, gates_succ, h3]
  have g0 : gcls SA 0 = [] := rfl
  have g1 : gcls SA 1 = [] := rfl
  have g2 : gcls SA 2 = [] := rfl
  have g3 : gcls SA 3 = [[-3, 1], [-3, 2], [3, -1, -2]] := rfl
  have gz : gates SA nd 0 = [] := rfl
  rw [g0, g1, g2, g3, gz, ite_self, ite_self, ite_self, if_pos rfl]
  rfl
theorem exA_fm : check1 3 FA = 0 := by decide
theorem exA_lits : ∀ c ∈ FA, ∀ x ∈ c, I64 x := by
  intro c hc x hx
  simp only [FA, List.mem_cons, List.not_mem_nil, or_false] at hc
  rcases hc with rfl | rfl | rfl | rfl <;> simp only [List.mem_cons, List.not_mem_nil, or_false] at hx <;> rcases hx with rfl | rfl | rfl <;> exact ⟨by decide, by decide⟩
theorem exA_lens : ∀ c ∈ FA, c.length ≤ 1000 := by
  intro c hc
  simp only [FA, List.mem_cons, List.not_mem_nil, or_false] at hc
  rcases hc with rfl | rfl | rfl | rfl <;> decide
/-- what a small formula must bear -/
theorem small_Ok {n : Int} {F : Fm} (hl : F.length ≤ 2000) (ht : total F ≤ 2000) (hc : check1 n F = 0) : Ok n.toNat F := by
  have hnn := check1_nonneg hc
  have hv : n ≤ 262144 := by
    unfold check1 at hc
    split at hc
    · cases hc
    · omega
  have hall : allB n F = true := by
    unfold check1 at hc
    rw [if_neg (by omega), if_neg (by omega)] at hc
    split at hc
    · assumption
    · cases hc
  refine ⟨fun c hcm l hl => ?_, by omega, by omega, fun c hcm => by have := mem_total hcm; omega, fun k => by have := useRow_total F k; omega⟩
  have h1 := List.all_eq_true.1 hall c hcm
  have h2 := List.all_eq_true.1 h1 l hl
  refine okB_okL ?_
  rw [Int.toNat_of_nonneg hnn.1]; exact h2
theorem itoa_dig {n : Int} (h : 0 ≤ n ∧ n < 10) : itoa n = [UInt8.ofNat (48 + n.toNat)] := by rw [Val.itoa_pos (by omega)]; exact Val.dec_small (by omega)
theorem itoa_ndig {n : Int} (h : n < 0 ∧ -10 < n) : itoa n = [45, UInt8.ofNat (48 + n.natAbs)] := by rw [Val.itoa_neg h.1, Val.dec_small (by omega)]
theorem exB_text : textV 2 [[1, -2], []] = [112, 32, 99, 110, 102, 32, 50, 32, 50, 10, 49, 32, 45, 50, 32, 48, 10, 48, 10] := by
  unfold textV headT lineT
  simp only [List.map_cons, List.map_nil, List.length_cons, List.length_nil]
  rw [itoa_dig (n := 2) (by decide), itoa_dig (n := ((0 + 1 + 1 : Nat) : Int)) (by decide), itoa_dig (n := 1) (by decide), itoa_ndig (n := -2) (by decide)]
  rfl
theorem exB_check : check1 2 [[1, -2], []] = 0 := by decide
def txC : List UInt8 := [112, 32, 99, 110, 102, 32, 49, 32, 49, 10, 50, 32, 48, 10]
theorem numV_dig {n : Int} (h : 0 ≤ n ∧ n < 10) : numV [UInt8.ofNat (48 + n.toNat)] = some n := by rw [← itoa_dig h]; exact numV_itoa (by omega)
theorem exC_parse : parseV txC = .error (2, 14) := by
  have e1 : numV [49] = some 1 := numV_dig (n := 1) (by decide)
  have e2 : numV [50] = some 2 := numV_dig (n := 2) (by decide)
  have e0 : numV [48] = some 0 := numV_dig (n := 0) (by decide)
  have h : headV [112, 32, 99, 110, 102, 32, 49, 32, 49] = .ok (1, 1) := by
    unfold headV
    rw [show pieces 32 [112, 32, 99, 110, 102, 32, 49, 32, 49] = [[112], [99, 110, 102], [49], [49]] from rfl]
    dsimp only
    rw [if_pos ⟨rfl, rfl⟩, e1]
    rfl
  have hw : wordsV (pieces 32 [50, 32, 48]) = some [2] := by
    rw [show pieces 32 [50, 32, 48] = [[50], [48]] from rfl]
    show (match numV [50] with | some n => if n = 0 then none else (wordsV [[48]]).map (n :: ·) | none => none) = _
    rw [e2]
    show (wordsV [[48]]).map ((2 : Int) :: ·) = _
    show (match numV [48] with | some n => if n = 0 then some [] else none | none => none).map ((2 : Int) :: ·) = some [2]
    rw [e0]
    rfl
  unfold parseV
  rw [show txC = [112, 32, 99, 110, 102, 32, 49, 32, 49] ++ 10 :: [50, 32, 48, 10] from rfl, cut_hit _ (by decide)]
  dsimp only
  rw [h]
  dsimp only
  rw [show (1 : Int).toNat = 0 + 1 from rfl, bodyV, show [50, 32, 48, 10] = [50, 32, 48] ++ 10 :: ([] : List UInt8) from rfl, cut_hit _ (by decide)]
  dsimp only
  rw [hw]
  rfl
end Go.Z.Tse
namespace Go.Proofs.YtopgbgnmjogeeaaGreatDoor
set_option maxRecDepth 8000
set_option linter.unusedVariables false
set_option linter.unusedSimpArgs false
set_option linter.unusedSectionVars false
open Go Go.Z Go.Z.Aig Go.Z.Tse Go.Z.Sat Go.Z.Txt

theorem cons_ro {ρ : Nat → Obj → Prop} {b : Nat} {cs : List Value} {T : TypeId} {f : Nat × Nat} {F : Fm} (r0 : ρ b (.cells cs.toArray T f)) (hl : F.length ≤ 1000000) (hlen : cs.length = F.length) (hlens : ∀ c ∈ F, c.length ≤ 1000) (hI : ∀ c ∈ F, ∀ x ∈ c, I64 x)
    (hr : ∀ j (hj : j < F.length), ∃ a c, cs[j]? = some (.slice a F[j].length c) ∧ RSl ρ 1 a F[j].length (F[j].map encI)) : FmR ρ (some ⟨b, 0, none⟩) F := by
  refine ⟨⟨cs, ⟨by rw [List.length_map]; exact hlen, fun j hj => ?_⟩, ?_⟩, by omega, fun c hc => by have := hlens c hc; omega, hI⟩
  · rw [List.length_map] at hj
    obtain ⟨a, c, h1, h2⟩ := hr j hj
    exact ⟨a, c, by rw [List.getElem_map, List.length_map]; exact h1, by rw [List.getElem_map, List.length_map]; exact h2⟩
  · have h := RSl.of_blk (size := 1) (k := cs.length) r0 (by omega)
    rw [Nat.mul_one, List.take_length] at h
    rw [List.length_map, ← hlen]; exact h
theorem exA_ro {ρ : Nat → Obj → Prop} {b b1 b2 b3 b4 : Nat} {T T1 T2 T3 T4 : TypeId} {f f1 f2 f3 f4 : Nat × Nat} (r0 : ρ b (.cells [.slice (some ⟨b1, 0, none⟩) 2 2, .slice (some ⟨b2, 0, none⟩) 2 2, .slice (some ⟨b3, 0, none⟩) 3 3, .slice (some ⟨b4, 0, none⟩) 1 1].toArray T f))
    (r1 : ρ b1 (.cells [encI (-3), encI 1].toArray T1 f1)) (r2 : ρ b2 (.cells [encI (-3), encI 2].toArray T2 f2)) (r3 : ρ b3 (.cells [encI 3, encI (-1), encI (-2)].toArray T3 f3)) (r4 : ρ b4 (.cells [encI 3].toArray T4 f4)) : FmR ρ (some ⟨b, 0, none⟩) FA :=
  cons_ro r0 (by decide) rfl exA_lens exA_lits fun j hj => match j, hj with
    | 0, _ => ⟨_, 2, rfl, RSl.of_blk (k := 2) r1 (by simp)⟩
    | 1, _ => ⟨_, 2, rfl, RSl.of_blk (k := 2) r2 (by simp)⟩
    | 2, _ => ⟨_, 3, rfl, RSl.of_blk (k := 3) r3 (by simp)⟩
    | 3, _ => ⟨_, 1, rfl, RSl.of_blk (k := 1) r4 (by simp)⟩
theorem exB_ro {ρ : Nat → Obj → Prop} {b b1 b2 : Nat} {T T1 T2 : TypeId} {f f1 f2 : Nat × Nat} (r0 : ρ b (.cells [.slice (some ⟨b1, 0, none⟩) 2 2, .slice (some ⟨b2, 0, none⟩) 0 0].toArray T f))
    (r1 : ρ b1 (.cells [encI 1, encI (-2)].toArray T1 f1)) (r2 : ρ b2 (.cells ([] : List Value).toArray T2 f2)) : FmR ρ (some ⟨b, 0, none⟩) [[1, -2], []] :=
  cons_ro r0 (by decide) rfl (by decide) (by
    intro c hc x hx
    simp only [List.mem_cons, List.not_mem_nil, or_false] at hc
    rcases hc with rfl | rfl
    · simp only [List.mem_cons, List.not_mem_nil, or_false] at hx
      rcases hx with rfl | rfl <;> exact ⟨by decide, by decide⟩
    · cases hx) fun j hj => match j, hj with
    | 0, _ => ⟨_, 2, rfl, RSl.of_blk (k := 2) r1 (by simp)⟩
    | 1, _ => ⟨_, 0, rfl, RSl.of_blk (k := 0) r2 (by simp)⟩
theorem exA_wf : WF SA := by
  have h1 : WF (L0 ++ [(0, 0, true)]) := WF.new.input (by decide)
  have h2 : WF (L0 ++ [(0, 0, true)] ++ [(0, 0, true)]) := h1.input (by decide)
  have h3 := h2.gate' (by decide) (x := 2) (y := 4) (by decide) (by decide) (by decide) (by decide)
  exact h3
theorem of_exA {ρ : Nat → Obj → Prop} {p : Nat} (hg : Ro ρ (Gr p SA)) {al : Option Addr} {cl : Nat} (hl : RSl ρ 1 al 1 [encI 6]) : Con Tryz.prog ρ 10 #[.pointer (some ⟨p, 0, none⟩), .slice al 1 cl] []
    (fun v H => ∃ ca cc, v = .tuple #[.agg #[.int .i64 3, .slice ca FA.length cc], .int .i64 0] ∧ H = [Own2 79 3 ca cc (FA.map encCl)]) :=
  (of_ok p SA exA_wf hg al cl [6] hl (by decide) (fun r hr => by rw [List.mem_singleton.1 hr]; exact ⟨by decide, by decide⟩)).mono fun v H ⟨ca, cc, nd, hnd, e1, e2⟩ => by
    rw [exA_cnf hnd] at e1 e2
    exact ⟨ca, cc, e1, e2⟩
theorem of_exE {ρ : Nat → Obj → Prop} {p : Nat} (hg : Ro ρ (Gr p SA)) {al : Option Addr} {cl : Nat} (hl : RSl ρ 1 al 1 [encI 8]) : Con Tryz.prog ρ 10 #[.pointer (some ⟨p, 0, none⟩), .slice al 1 cl] []
    (fun v H => v = .tuple #[.agg #[.int .i64 0, .slice none 0 0], .int .i64 14] ∧ H = []) :=
  of_no p SA exA_wf hg al cl [8] hl (by decide) (fun r hr => by rw [List.mem_singleton.1 hr]; exact ⟨by decide, by decide⟩) (fun h => by have := (h 8 (by simp)).2; revert this; decide)
theorem built_exA {ρ : Nat → Obj → Prop} {a : Option Addr} {c : Nat} (hl : RSl ρ 4 a 3 (actsA.flatMap encA)) : Con Tryz.prog ρ 8 #[.slice a 3 c] []
    (fun v H => ∃ p, v = .tuple #[.pointer (some ⟨p, 0, none⟩), .int .i64 2] ∧ H = [Gr p SA]) :=
  (built36_ok a c actsA hl (by decide) exA_ok).mono fun v H ⟨p, e1, e2⟩ => by
    rw [exA_st] at e1 e2
    exact ⟨p, e1, e2⟩

theorem text_exB {ρ : Nat → Obj → Prop} (hk : LibC ρ) {ca : Option Addr} {cc : Nat} (hF : FmR ρ ca [[1, -2], []]) : Con Tryz.prog ρ 17 #[.agg #[.int .i64 2, .slice ca 2 cc]] []
    (fun v H => v = .tuple #[.string ⟨#[112, 32, 99, 110, 102, 32, 50, 32, 50, 10, 49, 32, 45, 50, 32, 48, 10, 48, 10]⟩, .int .i64 0] ∧ H = []) :=
  (text_ok hk 2 ⟨by decide, by decide⟩ ca cc _ hF (by rw [exB_text]; decide)).mono fun v H h => by
    rw [if_pos exB_check, exB_text] at h
    exact h
theorem parse_exC {ρ : Nat → Obj → Prop} (hk : LibC ρ) : Con Tryz.prog ρ 21 #[.string ⟨#[112, 32, 99, 110, 102, 32, 49, 32, 49, 10, 50, 32, 48, 10]⟩] []
    (fun v H => v = .tuple #[.agg #[.int .i64 0, .slice none 0 0], .int .i64 2, .int .i64 14] ∧ H = []) :=
  (parse_ok hk txC (by decide)).mono fun v H h => by
    unfold ParR at h
    rw [exC_parse] at h
    exact h
theorem right_exA {ρ : Nat → Obj → Prop} {ca : Option Addr} {cc : Nat} (hF : FmR ρ ca FA) {xs : List Bool} (hx : xs.length = 3) {ma : Option Addr} {mc : Nat} (hm : RSl ρ 1 ma 3 (xs.map encB)) : Con Tryz.prog ρ 26 #[.agg #[.int .i64 3, .slice ca FA.length cc], .slice ma 3 mc] [] (fun v H => v = .bool (rightB 3 FA xs) ∧ H = []) := by
  have hm' : RSl ρ 1 ma xs.length (xs.map encB) := by rw [hx]; exact hm
  have := right_ok (cc := cc) (mc := mc) (n := 3) ⟨hF, ⟨by decide, by decide⟩, fun c hc => by have := exA_lens c hc; omega⟩ (fun h => small_Ok (by decide) (by decide) h) hm' (by omega)
  rwa [hx] at this

theorem awake36_ok {ρ : Nat → Obj → Prop} (hk : LibC ρ) : Con Tryz.prog ρ 15 #[] [] (fun v H => v = .bool true ∧ H = []) := by
  refine con_intro Tryz.func15 Tryz.call15 rfl Tryz.ntmps15 rfl (L := []) rfl fun w hh => ?_
  refine g_seq ?_
  refine g_region ?_
  refine g_pure (p_assign rfl) rfl ?_
  refine g_nil ?_
  refine g_qt ?_
  refine g_seq ?_
  refine g_region ?_
  refine g_pure (p_build (by rfl) rfl (by rfl)) rfl ?_
  refine g_pure (p_build (by rfl) rfl (by rfl)) rfl ?_
  refine g_pure (p_build (by rfl) rfl (by rfl)) rfl ?_
  refine g_eff (e_bs (xs := [.tmp 16, .tmp 17, .tmp 18]) rfl rfl rfl (by rfl) (by rfl) rfl (by rfl)) rfl (fun _ _ => ?_)
  rintro ⟨b19, rfl, rfl⟩
  refine g_call (Hin := []) (Hr := ?hr1) (R := ?rr1) rfl rfl rfl ?hin1 ?hc1 ?hk1
  case hin1 => repeat' (first | exact Cover.nil | exact Take.here | apply Cover.cons | apply Take.there)
  case hc1 => intro ρ' hρ hR; exact built_exA (RSl.of_blk (k := 3) hR.1.blk (by simp))
  rintro _ _ ⟨p, rfl, rfl⟩
  refine g_pure (p_move rfl) rfl ?_
  refine g_pure (p_extract rfl rfl) rfl ?_
  refine g_pure (p_extract rfl rfl) rfl ?_
  refine g_pure (p_assign rfl) rfl ?_
  refine g_pure (p_assign rfl) rfl ?_
  refine g_nil ?_
  refine g_qt ?_
  refine g_seq ?_
  refine g_region ?_
  refine g_pure (p_move rfl) rfl ?_
  refine g_eff (e_bs (xs := [.const (.int .i64 6)]) rfl rfl rfl (by rfl) (by rfl) rfl (by rfl)) rfl (fun _ _ => ?_)
  rintro ⟨b25, rfl, rfl⟩
  refine g_call (Hin := []) (Hr := ?hr2) (R := ?rr2) rfl rfl rfl ?hin2 ?hc2 ?hk2
  case hin2 => repeat' (first | exact Cover.nil | exact Take.here | apply Cover.cons | apply Take.there)
  case hc2 => intro ρ' hρ hR; exact of_exA (Take.ro (A := Gr p SA) (by repeat' (first | exact Take.here | apply Take.there)) hR) (RSl.of_blk (Take.ro (A := Blk b25 (.cells [encI 6].toArray 59 (0, 0))) (by repeat' (first | exact Take.here | apply Take.there)) hR).blk (Nat.le_refl _))
  rintro _ _ ⟨ca, cc, rfl, rfl⟩
  refine g_pure (p_move rfl) rfl ?_
  refine g_pure (p_extract rfl rfl) rfl ?_
  refine g_pure (p_extract rfl rfl) rfl ?_
  refine g_eff (e_alloc (by rfl)) rfl (fun _ _ => ?_)
  rintro ⟨b3, rfl, rfl⟩
  first | refine g_eff0 (e_storeO rfl rfl (by rfl) (by rfl) (by rfl) (by repeat' (first | exact Take.here | apply Take.there)) (by rfl)) (fun _ _ => ?_) | refine g_eff0 (e_storeN rfl rfl (by rfl) (by rfl) (by rfl) (by repeat' (first | exact Take.here | apply Take.there)) (by simp)) (fun _ _ => ?_)
  rintro rfl
  refine g_pure (p_assign rfl) rfl ?_
  refine g_nil ?_
  refine g_qt ?_
  refine g_seq ?_
  refine g_region ?_
  refine g_eff (e_bs (xs := [.const (.int .i64 6)]) rfl rfl rfl (by rfl) (by rfl) rfl (by rfl)) rfl (fun _ _ => ?_)
  rintro ⟨b30, rfl, rfl⟩
  refine g_call (Hin := []) (Hr := ?hr3) (R := ?rr3) rfl rfl rfl ?hin3 ?hc3 ?hk3
  case hin3 => repeat' (first | exact Cover.nil | exact Take.here | apply Cover.cons | apply Take.there)
  case hc3 => intro ρ' hρ hR; exact of_nil _ _ _
  rintro _ _ ⟨rfl, rfl⟩
  refine g_pure (p_move rfl) rfl ?_
  refine g_pure (p_extract rfl rfl) rfl ?_
  refine g_pure (p_extract rfl rfl) rfl ?_
  refine g_eff (e_alloc (by rfl)) rfl (fun _ _ => ?_)
  rintro ⟨b5, rfl, rfl⟩
  first | refine g_eff0 (e_storeO rfl rfl (by rfl) (by rfl) (by rfl) (by repeat' (first | exact Take.here | apply Take.there)) (by rfl)) (fun _ _ => ?_) | refine g_eff0 (e_storeN rfl rfl (by rfl) (by rfl) (by rfl) (by repeat' (first | exact Take.here | apply Take.there)) (by simp)) (fun _ _ => ?_)
  rintro rfl
  refine g_pure (p_assign rfl) rfl ?_
  refine g_nil ?_
  refine g_qt ?_
  refine g_seq ?_
  refine g_region ?_
  refine g_pure (p_move rfl) rfl ?_
  refine g_eff (e_bs (xs := [.const (.int .i64 8)]) rfl rfl rfl (by rfl) (by rfl) rfl (by rfl)) rfl (fun _ _ => ?_)
  rintro ⟨b36, rfl, rfl⟩
  refine g_call (Hin := []) (Hr := ?hr4) (R := ?rr4) rfl rfl rfl ?hin4 ?hc4 ?hk4
  case hin4 => repeat' (first | exact Cover.nil | exact Take.here | apply Cover.cons | apply Take.there)
  case hc4 => intro ρ' hρ hR; exact of_exE (Take.ro (A := Gr p SA) (by repeat' (first | exact Take.here | apply Take.there)) hR) (RSl.of_blk (Take.ro (A := Blk b36 (.cells [encI 8].toArray 59 (0, 0))) (by repeat' (first | exact Take.here | apply Take.there)) hR).blk (Nat.le_refl _))
  rintro _ _ ⟨rfl, rfl⟩
  refine g_pure (p_move rfl) rfl ?_
  refine g_pure (p_extract rfl rfl) rfl ?_
  refine g_pure (p_extract rfl rfl) rfl ?_
  refine g_eff (e_alloc (by rfl)) rfl (fun _ _ => ?_)
  rintro ⟨b7, rfl, rfl⟩
  first | refine g_eff0 (e_storeO rfl rfl (by rfl) (by rfl) (by rfl) (by repeat' (first | exact Take.here | apply Take.there)) (by rfl)) (fun _ _ => ?_) | refine g_eff0 (e_storeN rfl rfl (by rfl) (by rfl) (by rfl) (by repeat' (first | exact Take.here | apply Take.there)) (by simp)) (fun _ _ => ?_)
  rintro rfl
  refine g_pure (p_assign rfl) rfl ?_
  refine g_nil ?_
  refine g_qt ?_
  refine g_seq ?_
  refine g_region ?_
  refine g_eff (e_bs (xs := [.const (.int .i64 1), .const (.int .i64 (-2))]) rfl rfl rfl (by rfl) (by rfl) rfl (by rfl)) rfl (fun _ _ => ?_)
  rintro ⟨b41, rfl, rfl⟩
  refine g_eff (e_bs (xs := []) rfl rfl rfl (by rfl) (by rfl) rfl (by rfl)) rfl (fun _ _ => ?_)
  rintro ⟨b42, rfl, rfl⟩
  refine g_eff (e_bs (xs := [.tmp 41, .tmp 42]) rfl rfl rfl (by rfl) (by rfl) rfl (by rfl)) rfl (fun _ _ => ?_)
  rintro ⟨b43, rfl, rfl⟩
  refine g_pure (p_build (by rfl) rfl (by rfl)) rfl ?_
  refine g_call (Hin := []) (Hr := ?hr5) (R := ?rr5) rfl rfl rfl ?hin5 ?hc5 ?hk5
  case hin5 => repeat' (first | exact Cover.nil | exact Take.here | apply Cover.cons | apply Take.there)
  case hc5 => intro ρ' hρ hR; exact text_exB (hk.mono hρ) (exB_ro hR.1.blk (Take.ro (A := Blk b41 (.cells [encI 1, encI (-2)].toArray 3 (0, 0))) (by repeat' (first | exact Take.here | apply Take.there)) hR).blk (Take.ro (A := Blk b42 (.cells ([] : List Value).toArray 3 (0, 0))) (by repeat' (first | exact Take.here | apply Take.there)) hR).blk)
  rintro _ _ ⟨rfl, rfl⟩
  refine g_pure (p_move rfl) rfl ?_
  refine g_pure (p_extract rfl rfl) rfl ?_
  refine g_pure (p_extract rfl rfl) rfl ?_
  refine g_pure (p_assign rfl) rfl ?_
  refine g_pure (p_assign rfl) rfl ?_
  refine g_nil ?_
  refine g_qt ?_
  refine g_seq ?_
  refine g_region ?_
  refine g_call (Hin := []) (Hr := ?hr6) (R := ?rr6) rfl rfl rfl ?hin6 ?hc6 ?hk6
  case hin6 => repeat' (first | exact Cover.nil | exact Take.here | apply Cover.cons | apply Take.there)
  case hc6 => intro ρ' hρ hR; exact parse_exC (hk.mono hρ)
  rintro _ _ ⟨rfl, rfl⟩
  refine g_pure (p_move rfl) rfl ?_
  refine g_pure (p_extract rfl rfl) rfl ?_
  refine g_pure (p_extract rfl rfl) rfl ?_
  refine g_pure (p_extract rfl rfl) rfl ?_
  refine g_eff (e_alloc (by rfl)) rfl (fun _ _ => ?_)
  rintro ⟨b11, rfl, rfl⟩
  first | refine g_eff0 (e_storeO rfl rfl (by rfl) (by rfl) (by rfl) (by repeat' (first | exact Take.here | apply Take.there)) (by rfl)) (fun _ _ => ?_) | refine g_eff0 (e_storeN rfl rfl (by rfl) (by rfl) (by rfl) (by repeat' (first | exact Take.here | apply Take.there)) (by simp)) (fun _ _ => ?_)
  rintro rfl
  refine g_pure (p_assign rfl) rfl ?_
  refine g_pure (p_assign rfl) rfl ?_
  refine g_nil ?_
  refine g_qt ?_
  refine g_seq ?_
  refine g_region ?_
  refine g_eff (e_bs (xs := [.const (.int .i64 (-3)), .const (.int .i64 1)]) rfl rfl rfl (by rfl) (by rfl) rfl (by rfl)) rfl (fun _ _ => ?_)
  rintro ⟨b53, rfl, rfl⟩
  refine g_eff (e_bs (xs := [.const (.int .i64 (-3)), .const (.int .i64 2)]) rfl rfl rfl (by rfl) (by rfl) rfl (by rfl)) rfl (fun _ _ => ?_)
  rintro ⟨b54, rfl, rfl⟩
  refine g_eff (e_bs (xs := [.const (.int .i64 3), .const (.int .i64 (-1)), .const (.int .i64 (-2))]) rfl rfl rfl (by rfl) (by rfl) rfl (by rfl)) rfl (fun _ _ => ?_)
  rintro ⟨b55, rfl, rfl⟩
  refine g_eff (e_bs (xs := [.const (.int .i64 3)]) rfl rfl rfl (by rfl) (by rfl) rfl (by rfl)) rfl (fun _ _ => ?_)
  rintro ⟨b56, rfl, rfl⟩
  refine g_eff (e_bs (xs := [.tmp 53, .tmp 54, .tmp 55, .tmp 56]) rfl rfl rfl (by rfl) (by rfl) rfl (by rfl)) rfl (fun _ _ => ?_)
  rintro ⟨b57, rfl, rfl⟩
  refine g_pure (p_build (by rfl) rfl (by rfl)) rfl ?_
  refine g_eff (e_alloc (by rfl)) rfl (fun _ _ => ?_)
  rintro ⟨b14, rfl, rfl⟩
  first | refine g_eff0 (e_storeO rfl rfl (by rfl) (by rfl) (by rfl) (by repeat' (first | exact Take.here | apply Take.there)) (by rfl)) (fun _ _ => ?_) | refine g_eff0 (e_storeN rfl rfl (by rfl) (by rfl) (by rfl) (by repeat' (first | exact Take.here | apply Take.there)) (by simp)) (fun _ _ => ?_)
  rintro rfl
  refine g_nil ?_
  refine g_qt ?_
  refine g_seq ?_
  refine g_region ?_
  refine g_pure (p_move rfl) rfl ?_
  refine g_pure (p_eql rfl rfl) rfl ?_
  refine g_pure (p_move rfl) rfl ?_
  refine g_yes rfl rfl ?_
  refine g_pure (p_move rfl) rfl ?_
  refine g_yes rfl rfl ?_
  refine g_pure (p_eqlT rfl rfl rfl) rfl ?_
  first | refine g_pure (p_pickt rfl rfl) rfl ?_ | refine g_pure (p_pickf rfl rfl) rfl ?_
  refine g_pure (p_move rfl) rfl ?_
  refine g_yes rfl rfl ?_
  refine g_pure (p_move rfl) rfl ?_
  refine g_yes rfl rfl ?_
  refine g_pure (p_eqlT rfl rfl rfl) rfl ?_
  first | refine g_pure (p_pickt rfl rfl) rfl ?_ | refine g_pure (p_pickf rfl rfl) rfl ?_
  refine g_pure (p_move rfl) rfl ?_
  refine g_yes rfl rfl ?_
  refine g_pure (p_move rfl) rfl ?_
  refine g_yes rfl rfl ?_
  refine g_pure (p_eqlT rfl rfl rfl) rfl ?_
  first | refine g_pure (p_pickt rfl rfl) rfl ?_ | refine g_pure (p_pickf rfl rfl) rfl ?_
  refine g_pure (p_move rfl) rfl ?_
  refine g_yes rfl rfl ?_
  refine g_pure (p_move rfl) rfl ?_
  refine g_yes rfl rfl ?_
  refine g_pure (p_eqlT rfl rfl rfl) rfl ?_
  first | refine g_pure (p_pickt rfl rfl) rfl ?_ | refine g_pure (p_pickf rfl rfl) rfl ?_
  refine g_pure (p_move rfl) rfl ?_
  refine g_yes rfl rfl ?_
  refine g_pure (p_move rfl) rfl ?_
  refine g_yes rfl rfl ?_
  refine g_pure (p_eqlT rfl rfl rfl) rfl ?_
  first | refine g_pure (p_pickt rfl rfl) rfl ?_ | refine g_pure (p_pickf rfl rfl) rfl ?_
  refine g_pure (p_move rfl) rfl ?_
  refine g_yes rfl rfl ?_
  refine g_pure (p_move rfl) rfl ?_
  refine g_yes rfl rfl ?_
  refine g_pure (p_eqlsT (by rfl) rfl rfl rfl) rfl ?_
  first | refine g_pure (p_pickt rfl rfl) rfl ?_ | refine g_pure (p_pickf rfl rfl) rfl ?_
  refine g_pure (p_move rfl) rfl ?_
  refine g_yes rfl rfl ?_
  first | refine g_pure (p_loadO (by rfl) rfl (by first | (apply Has.own; (repeat' (first | exact Take.here | apply Take.there)); done) | exact Has.ro (by assumption)) (by rfl)) rfl ?_ | refine g_pure (p_loadN (by rfl) rfl (by first | (apply Has.own; (repeat' (first | exact Take.here | apply Take.there)); done) | exact Has.ro (by assumption)) (by first | rfl | assumption)) rfl ?_
  refine g_yes rfl rfl ?_
  first | refine g_pure (p_loadO (by rfl) rfl (by first | (apply Has.own; (repeat' (first | exact Take.here | apply Take.there)); done) | exact Has.ro (by assumption)) (by rfl)) rfl ?_ | refine g_pure (p_loadN (by rfl) rfl (by first | (apply Has.own; (repeat' (first | exact Take.here | apply Take.there)); done) | exact Has.ro (by assumption)) (by first | rfl | assumption)) rfl ?_
  refine g_yes rfl rfl ?_
  refine g_call (Hin := []) (Hr := ?hr7) (R := ?rr7) rfl rfl rfl ?hin7 ?hc7 ?hk7
  case hin7 => repeat' (first | exact Cover.nil | exact Take.here | apply Cover.cons | apply Take.there)
  case hc7 => intro ρ' hρ hR; exact dsame_ok 3 ca (some ⟨b57, 0, none⟩) cc 4 FA ⟨Own2.ro (Take.ro (A := Own2 79 3 ca cc (FA.map encCl)) (by repeat' (first | exact Take.here | apply Take.there)) hR), by decide, fun c hc => by (have := exA_lens c hc; omega), exA_lits⟩ (exA_ro (Take.ro (A := Blk b57 (.cells [.slice (some ⟨b53, 0, none⟩) 2 2, .slice (some ⟨b54, 0, none⟩) 2 2, .slice (some ⟨b55, 0, none⟩) 3 3, .slice (some ⟨b56, 0, none⟩) 1 1].toArray 79 (0, 0))) (by repeat' (first | exact Take.here | apply Take.there)) hR).blk (Take.ro (A := Blk b53 (.cells [encI (-3), encI 1].toArray 3 (0, 0))) (by repeat' (first | exact Take.here | apply Take.there)) hR).blk (Take.ro (A := Blk b54 (.cells [encI (-3), encI 2].toArray 3 (0, 0))) (by repeat' (first | exact Take.here | apply Take.there)) hR).blk (Take.ro (A := Blk b55 (.cells [encI 3, encI (-1), encI (-2)].toArray 3 (0, 0))) (by repeat' (first | exact Take.here | apply Take.there)) hR).blk (Take.ro (A := Blk b56 (.cells [encI 3].toArray 3 (0, 0))) (by repeat' (first | exact Take.here | apply Take.there)) hR).blk)
  rintro _ _ ⟨rfl, rfl⟩
  first | refine g_pure (p_pickt rfl rfl) rfl ?_ | refine g_pure (p_pickf rfl rfl) rfl ?_
  refine g_pure (p_move rfl) rfl ?_
  refine g_yes rfl rfl ?_
  first | refine g_pure (p_loadO (by rfl) rfl (by first | (apply Has.own; (repeat' (first | exact Take.here | apply Take.there)); done) | exact Has.ro (by assumption)) (by rfl)) rfl ?_ | refine g_pure (p_loadN (by rfl) rfl (by first | (apply Has.own; (repeat' (first | exact Take.here | apply Take.there)); done) | exact Has.ro (by assumption)) (by first | rfl | assumption)) rfl ?_
  refine g_yes rfl rfl ?_
  refine g_eff (e_bs (xs := [.const (.bool true), .const (.bool true), .const (.bool true)]) rfl rfl rfl (by rfl) (by rfl) rfl (by rfl)) rfl (fun _ _ => ?_)
  rintro ⟨b92, rfl, rfl⟩
  refine g_yes rfl rfl ?_
  refine g_call (Hin := []) (Hr := ?hr8) (R := ?rr8) rfl rfl rfl ?hin8 ?hc8 ?hk8
  case hin8 => repeat' (first | exact Cover.nil | exact Take.here | apply Cover.cons | apply Take.there)
  case hc8 => intro ρ' hρ hR; exact right_exA (cc := cc) ⟨Own2.ro (Take.ro (A := Own2 79 3 ca cc (FA.map encCl)) (by repeat' (first | exact Take.here | apply Take.there)) hR), by decide, fun c hc => by (have := exA_lens c hc; omega), exA_lits⟩ (xs := [true, true, true]) rfl (.of_blk (Take.ro (A := Blk b92 (.cells ([true, true, true].map encB).toArray 4 (0, 0))) (by repeat' (first | exact Take.here | apply Take.there)) hR).blk (Nat.le_refl _))
  rintro _ _ ⟨rfl, rfl⟩
  first | refine g_pure (p_pickt rfl rfl) rfl ?_ | refine g_pure (p_pickf rfl rfl) rfl ?_
  refine g_pure (p_move rfl) rfl ?_
  refine g_yes rfl rfl ?_
  first | refine g_pure (p_loadO (by rfl) rfl (by first | (apply Has.own; (repeat' (first | exact Take.here | apply Take.there)); done) | exact Has.ro (by assumption)) (by rfl)) rfl ?_ | refine g_pure (p_loadN (by rfl) rfl (by first | (apply Has.own; (repeat' (first | exact Take.here | apply Take.there)); done) | exact Has.ro (by assumption)) (by first | rfl | assumption)) rfl ?_
  refine g_yes rfl rfl ?_
  refine g_eff (e_bs (xs := [.const (.bool true), .const (.bool true), .const (.bool false)]) rfl rfl rfl (by rfl) (by rfl) rfl (by rfl)) rfl (fun _ _ => ?_)
  rintro ⟨b97, rfl, rfl⟩
  refine g_yes rfl rfl ?_
  refine g_call (Hin := []) (Hr := ?hr9) (R := ?rr9) rfl rfl rfl ?hin9 ?hc9 ?hk9
  case hin9 => repeat' (first | exact Cover.nil | exact Take.here | apply Cover.cons | apply Take.there)
  case hc9 => intro ρ' hρ hR; exact right_exA (cc := cc) ⟨Own2.ro (Take.ro (A := Own2 79 3 ca cc (FA.map encCl)) (by repeat' (first | exact Take.here | apply Take.there)) hR), by decide, fun c hc => by (have := exA_lens c hc; omega), exA_lits⟩ (xs := [true, true, false]) rfl (.of_blk (Take.ro (A := Blk b97 (.cells ([true, true, false].map encB).toArray 4 (0, 0))) (by repeat' (first | exact Take.here | apply Take.there)) hR).blk (Nat.le_refl _))
  rintro _ _ ⟨rfl, rfl⟩
  refine g_yes rfl rfl ?_
  refine g_pure (p_not rfl) rfl ?_
  first | refine g_pure (p_pickt rfl rfl) rfl ?_ | refine g_pure (p_pickf rfl rfl) rfl ?_
  refine g_pure (p_move rfl) rfl ?_
  refine g_yes rfl rfl ?_
  first | refine g_pure (p_loadO (by rfl) rfl (by first | (apply Has.own; (repeat' (first | exact Take.here | apply Take.there)); done) | exact Has.ro (by assumption)) (by rfl)) rfl ?_ | refine g_pure (p_loadN (by rfl) rfl (by first | (apply Has.own; (repeat' (first | exact Take.here | apply Take.there)); done) | exact Has.ro (by assumption)) (by first | rfl | assumption)) rfl ?_
  refine g_yes rfl rfl ?_
  refine g_call (Hin := []) (Hr := ?hr10) (R := ?rr10) rfl rfl rfl ?hin10 ?hc10 ?hk10
  case hin10 => repeat' (first | exact Cover.nil | exact Take.here | apply Cover.cons | apply Take.there)
  case hc10 => intro ρ' hρ hR; exact check_ok 3 ⟨by decide, by decide⟩ ca cc FA ⟨Own2.ro (Take.ro (A := Own2 79 3 ca cc (FA.map encCl)) (by repeat' (first | exact Take.here | apply Take.there)) hR), by decide, fun c hc => by (have := exA_lens c hc; omega), exA_lits⟩
  rintro _ _ ⟨rfl, rfl⟩
  refine g_yes rfl rfl ?_
  refine g_pure (p_eqlT rfl rfl rfl) rfl ?_
  first | refine g_pure (p_pickt rfl rfl) rfl ?_ | refine g_pure (p_pickf rfl rfl) rfl ?_
  refine g_pure (p_assign rfl) rfl ?_
  refine g_nil ?_
  refine g_qt ?_
  refine g_ret ?_
  exact g_post (Ho := []) (rs := [.tmp 0]) rfl (.tmp rfl .nil) ⟨rfl, rfl⟩ .nil
end Go.Proofs.YtopgbgnmjogeeaaGreatDoor
/- Chapter 36: the document's reading of a text; CnfParses. Conditions: what the library's variables hold (LibC). -/
namespace Go.Z.Txt
set_option maxRecDepth 8000
set_option linter.unusedVariables false
set_option linter.unusedSimpArgs false
set_option linter.unusedSectionVars false
open Go Go.Lib Go.Z.Val Go.Z.Sat Go.Proofs.YtopgbgnmjogeeaaGreatDoor
theorem body_err {vars : Int} : ∀ (k : Nat) (rest : List UInt8) (line : Int) {a e : Int}, bodyV vars k rest line = .error (a, e) → e ≠ 0
  | 0, rest, line, a, e, h => by
    rw [bodyV] at h
    split at h
    · cases h
    · injection h with h; injection h with h1 h2; omega
  | k + 1, rest, line, a, e, h => by
    rw [bodyV] at h
    rcases cut_or 10 rest with hf | ⟨s, r, rfl, hf⟩
    · rw [cut_free hf] at h; injection h with h; injection h with h1 h2; omega
    · rw [cut_hit r hf] at h
      dsimp only at h
      cases hW : wordsV (pieces 32 s) with
      | none => rw [hW] at h; injection h with h; injection h with h1 h2; omega
      | some c =>
        rw [hW] at h
        dsimp only at h
        split at h
        · injection h with h; injection h with h1 h2; omega
        · cases hb : bodyV vars k r (line + 1) with
          | error p =>
            obtain ⟨a', e'⟩ := p
            rw [hb] at h
            simp only [Except.map] at h
            injection h with h
            injection h with h1 h2
            subst h2
            exact body_err k r (line + 1) hb
          | ok G => rw [hb] at h; cases h
theorem parse_err {t : List UInt8} {a e : Int} (h : parseV t = .error (a, e)) : e ≠ 0 := by
  unfold parseV at h
  rcases cut_or 10 t with hf | ⟨s, r, rfl, hf⟩
  · rw [cut_free hf] at h; injection h with h; injection h with h1 h2; omega
  · rw [cut_hit r hf] at h
    dsimp only at h
    cases hH : headV s with
    | error e' => rw [hH] at h; injection h with h; injection h with h1 h2; subst h2; exact headV_err hH
    | ok p =>
      obtain ⟨x, y⟩ := p
      rw [hH] at h
      dsimp only at h
      cases hB : bodyV x y.toNat r 1 with
      | error p =>
        obtain ⟨a', e'⟩ := p
        rw [hB] at h
        simp only [Except.map] at h
        injection h with h
        injection h with h1 h2
        subst h2
        exact body_err _ _ _ hB
      | ok G => rw [hB] at h; cases h
theorem line_ge : ∀ c : List Int, c.length ≤ (lineT c).length
  | [] => by simp
  | x :: c => by
    have ih := line_ge c
    simp only [lineT, List.map_cons, List.flatten_cons, List.length_append, List.length_cons, List.length_nil] at ih ⊢
    omega
theorem body_ge : ∀ (F : List (List Int)) (c : List Int), c ∈ F → c.length ≤ ((F.map fun c => lineT c ++ [10]).flatten).length
  | d :: F, c, h => by
    rw [List.map_cons, List.flatten_cons, List.length_append, List.length_append]
    rcases List.mem_cons.1 h with rfl | h
    · have := line_ge c; omega
    · have := body_ge F c h; omega
theorem text_ge {n : Int} {F : List (List Int)} {c : List Int} (h : c ∈ F) : c.length ≤ (textV n F).length := by
  have := body_ge F c h
  unfold textV
  rw [List.length_append]; omega
theorem check_one {n : Int} (h0 : 0 ≤ n) (h1 : n ≤ 262144) {c : List Int} (hc : ∀ x ∈ c, x ≠ 0) : check1 n [c] = if farV n c = true then 14 else 0 := by
  unfold check1
  rw [if_neg (by omega), if_neg (by omega)]
  have e : allB n [c] = !farV n c := by
    unfold allB farV
    simp only [List.all_cons, List.all_nil, Bool.and_true]
    induction c with
    | nil => rfl
    | cons x c ih =>
      rw [List.all_cons, List.any_cons, ih fun y hy => hc y (by simp [hy])]
      have := hc x (by simp)
      unfold okB
      rw [decide_eq_false this, Bool.false_or, Bool.not_or]
      cases decide (n < x) <;> cases decide (x < -n) <;> rfl
  rw [e]
  cases farV n c <;> rfl
theorem check_zero {n : Int} (h0 : 0 ≤ n) (h1 : n ≤ 262144) {F : List (List Int)} (hc : ∀ c ∈ F, ∀ x ∈ c, x ≠ 0 ∧ -n ≤ x ∧ x ≤ n) : check1 n F = 0 := by
  unfold check1
  rw [if_neg (by omega), if_neg (by omega), if_pos]
  unfold allB
  rw [List.all_eq_true]
  intro c hcm
  rw [List.all_eq_true]
  intro x hx
  have := hc c hcm x hx
  unfold okB
  rw [decide_eq_false (by omega), decide_eq_false (by omega), decide_eq_false (by omega)]; rfl
end Go.Z.Txt
namespace Go.Proofs.YtopgbgnmjogeeaaGreatDoor
set_option maxRecDepth 8000
set_option linter.unusedVariables false
set_option linter.unusedSimpArgs false
set_option linter.unusedSectionVars false
open Go Go.Z Go.Z.Txt Go.Z.Sat Go.Z.Val Go.Z.Aig Go.Z.Tse

theorem one_ro {ρ : Nat → Obj → Prop} {b cap : Nat} {a : Option Addr} {T : TypeId} {f : Nat × Nat} {c : List Int} (r0 : ρ b (.cells [.slice a c.length cap].toArray T f)) (hl : c.length ≤ 1000000) (hI : ∀ x ∈ c, I64 x) (hr : RSl ρ 1 a c.length (c.map encI)) : FmR ρ (some ⟨b, 0, none⟩) [c] := by
  refine ⟨⟨[.slice a c.length cap], ⟨rfl, fun j hj => ?_⟩, ?_⟩, by simp, fun d hd => by rw [List.mem_singleton.1 hd]; omega, fun d hd => by rw [List.mem_singleton.1 hd]; exact hI⟩
  · match j, hj with
    | 0, _ =>
      refine ⟨a, cap, ?_, ?_⟩
      · show some _ = some (Value.slice a (c.map encI).length cap)
        rw [List.length_map]
      · show RSl ρ 1 a (c.map encI).length (c.map encI)
        rw [List.length_map]; exact hr
  · exact RSl.of_blk (k := 1) r0 (by simp)
theorem nil_ro {ρ : Nat → Obj → Prop} : FmR ρ none [] := ⟨⟨[], ⟨rfl, fun j hj => absurd hj (Nat.not_lt_zero j)⟩, rfl, 0, 0, [], 0, (0, 0), fun h => absurd h (by decide)⟩, by decide, fun c hc => absurd hc List.not_mem_nil, fun c hc => absurd hc List.not_mem_nil⟩

theorem dparse36_ok {ρ : Nat → Obj → Prop} (t : List UInt8) (hs : t.length ≤ 100000) : Con Tryz.prog ρ 22 #[.string (strOf t)] [] (ParR t) := by
  have hPL := parse_lines t
  have hpl := pieces_len 10 t
  have hne := pieces_ne 10 t
  have hmem : ∀ x ∈ pieces 10 t, x.length ≤ t.length := fun x hx => (pieces_mem hx).2
  refine con_intro Tryz.func22 Tryz.call22 rfl Tryz.ntmps22 rfl (L := [(0, _)]) rfl fun w hh => ?_
  refine g_seq ?_
  refine g_region ?_
  refine g_eff (e_alloc (by rfl)) rfl (fun _ _ => ?_)
  rintro ⟨b2, rfl, rfl⟩
  refine g_pure (p_assign rfl) rfl ?_
  refine g_pure (p_assign rfl) rfl ?_
  refine g_nil ?_
  refine g_qt ?_
  refine g_seq ?_
  refine g_region ?_
  refine g_pure (p_move rfl) rfl ?_
  refine g_call (Hin := []) (Hr := ?hr1) (R := ?rr1) rfl rfl rfl ?hin1 ?hc1 ?hk1
  case hin1 => repeat' (first | exact Cover.nil | exact Take.here | apply Cover.cons | apply Take.there)
  case hc1 => intro ρ' hρ hR; exact lines_ok t (by omega)
  rintro _ _ ⟨wa, wc, rfl, rfl⟩
  generalize pieces 10 t = W at hPL hpl hne hmem ⊢
  have hpos : 0 < W.length := List.length_pos_iff.2 hne
  refine g_pure (p_assign rfl) rfl ?_
  refine g_nil ?_
  refine g_qt ?_
  refine g_seq ?_
  refine g_region ?_
  refine g_pure (p_move rfl) rfl ?_
  refine g_pure (p_len (by rfl) rfl) rfl ?_
  first | refine g_pure (p_subi rfl rfl (by omega)) rfl ?_ | refine g_pure (p_sub rfl rfl) rfl ?_
  refine g_pure (p_assign rfl) rfl ?_
  refine g_nil ?_
  refine g_qt ?_
  refine g_seq ?_
  refine g_seq ?_
  refine g_region ?_
  refine g_pure (p_move rfl) rfl ?_
  refine g_pure (p_lss rfl rfl) rfl ?_
  refine g_nil ?_
  refine g_qt ?_
  refine g_ifd rfl (fun h1 => ?_) (fun h1 => ?_)
  · obtain ⟨x0, rfl⟩ : ∃ x0, W = [x0] := by
      match W, hpos, h1 with
      | [a], _, _ => exact ⟨a, rfl⟩
      | _ :: _ :: _, _, h1 => simp at h1; omega
    refine g_seq ?_
    refine g_region ?_
    refine g_pure (p_build (by rfl) rfl (by rfl)) rfl ?_
    first | refine g_eff0 (e_storeO rfl rfl (by rfl) (by rfl) (by rfl) (by repeat' (first | exact Take.here | apply Take.there)) (by rfl)) (fun _ _ => ?_) | refine g_eff0 (e_storeN rfl rfl (by rfl) (by rfl) (by rfl) (by repeat' (first | exact Take.here | apply Take.there)) (by simp)) (fun _ _ => ?_)
    rintro rfl
    refine g_pure (p_assign rfl) rfl ?_
    refine g_pure (p_assign rfl) rfl ?_
    refine g_nil ?_
    refine g_qt ?_
    refine g_ret ?_
    refine g_qt_ret ?_
    exact g_post (Ho := []) (rs := [.cell 2 30, .tmp 3, .tmp 4]) rfl (Res.cellN (by rfl) rfl (Has.own (by repeat' (first | exact Take.here | apply Take.there))) (by rfl) (.tmp rfl (.tmp rfl .nil))) (ParR.err hPL) (by repeat' (first | exact Cover.nil | exact Take.here | apply Cover.cons | apply Take.there))
  · obtain ⟨L0, L1, R, hW⟩ : ∃ L0 L1 R, W = L0 :: L1 :: R := by
      match W, hpos, h1 with
      | [_], _, h1 => simp at h1
      | a :: b :: r, _, _ => exact ⟨a, b, r, rfl⟩
    have hPL2 := hPL
    rw [hW] at hPL2
    dsimp only at hPL2
    have hW1 : W.drop 1 = L1 :: R := by rw [hW]; rfl
    have hl0 := hmem L0 (by rw [hW]; simp)
    refine g_own (e := 9) (xs := W.map encS) (by repeat' (first | exact Take.here | apply Take.there)) (fun _ h _ _ => absurd h (by omega)) (fun g cur r1 r2 r3 r4 r5 r6 => ?_)
    subst r1
    have hcur : ∀ (i : Nat) (hi : i < W.length), cur[0 + (i : Int).toNat * 1]? = some (.string (strOf W[i])) := fun i hi => own_at (k := i) r5 (by simp) (by simp [List.getElem?_eq_getElem hi, encS])
    have hc0 : cur[0 + (0 : Int).toNat * 1]? = some (.string (strOf L0)) := by
      have := hcur 0 hpos
      simpa [hW] using this
    refine g_skip ?_
    refine g_qt ?_
    refine g_seq ?_
    refine g_region ?_
    refine g_pure (p_move rfl) rfl ?_
    refine g_pure (p_indexAddr rfl rfl (by omega) (fun _ => rfl)) rfl ?_
    refine g_pure (p_load (by rfl) rfl (Has.own (by repeat' (first | exact Take.here | apply Take.there))) hc0) rfl ?_
    cases hH : headD L0 with
    | none =>
      rw [hH] at hPL2
      refine g_call (Hin := []) (Hr := ?hr2) (R := ?rr2) rfl rfl rfl ?hin2 ?hc2 ?hk2
      case hin2 => repeat' (first | exact Cover.nil | exact Take.here | apply Cover.cons | apply Take.there)
      case hc2 => intro ρ' hρ hR; exact (dhead_ok L0 (by omega)).mono (R' := fun v H => (∃ x y, v = .tuple #[.int .i64 x, .int .i64 y, .bool false]) ∧ H = []) (fun v H h => by unfold HeD at h; rw [hH] at h; exact h)
      rintro _ _ ⟨⟨x, y, rfl⟩, rfl⟩
      refine g_pure (p_move rfl) rfl ?_
      refine g_pure (p_extract rfl rfl) rfl ?_
      refine g_pure (p_extract rfl rfl) rfl ?_
      refine g_pure (p_extract rfl rfl) rfl ?_
      refine g_pure (p_assign rfl) rfl ?_
      refine g_pure (p_assign rfl) rfl ?_
      refine g_pure (p_assign rfl) rfl ?_
      refine g_nil ?_
      refine g_qt ?_
      refine g_seq ?_
      refine g_seq ?_
      refine g_region ?_
      refine g_pure (p_move rfl) rfl ?_
      refine g_pure (p_not rfl) rfl ?_
      refine g_nil ?_
      refine g_qt ?_
      refine g_ift rfl ?_
      refine g_seq ?_
      refine g_region ?_
      refine g_pure (p_build (by rfl) rfl (by rfl)) rfl ?_
      first | refine g_eff0 (e_storeO rfl rfl (by rfl) (by rfl) (by rfl) (by repeat' (first | exact Take.here | apply Take.there)) (by rfl)) (fun _ _ => ?_) | refine g_eff0 (e_storeN rfl rfl (by rfl) (by rfl) (by rfl) (by repeat' (first | exact Take.here | apply Take.there)) (by simp)) (fun _ _ => ?_)
      rintro rfl
      refine g_pure (p_assign rfl) rfl ?_
      refine g_pure (p_assign rfl) rfl ?_
      refine g_nil ?_
      refine g_qt ?_
      refine g_ret ?_
      refine g_qt_ret ?_
      exact g_post (Ho := []) (rs := [.cell 2 30, .tmp 3, .tmp 4]) rfl (Res.cellN (by rfl) rfl (Has.own (by repeat' (first | exact Take.here | apply Take.there))) (by rfl) (.tmp rfl (.tmp rfl .nil))) (ParR.err hPL2) (by repeat' (first | exact Cover.nil | exact Take.here | apply Cover.cons | apply Take.there))
    | some p =>
      obtain ⟨x, y⟩ := p
      obtain ⟨hx0, hy0, hx1, hy1⟩ := headD_some hH
      rw [hH] at hPL2
      dsimp only at hPL2
      refine g_call (Hin := []) (Hr := ?hr3) (R := ?rr3) rfl rfl rfl ?hin3 ?hc3 ?hk3
      case hin3 => repeat' (first | exact Cover.nil | exact Take.here | apply Cover.cons | apply Take.there)
      case hc3 => intro ρ' hρ hR; exact (dhead_ok L0 (by omega)).mono (R' := fun v H => v = .tuple #[.int .i64 x, .int .i64 y, .bool true] ∧ H = []) (fun v H h => by unfold HeD at h; rw [hH] at h; exact h)
      rintro _ _ ⟨rfl, rfl⟩
      refine g_pure (p_move rfl) rfl ?_
      refine g_pure (p_extract rfl rfl) rfl ?_
      refine g_pure (p_extract rfl rfl) rfl ?_
      refine g_pure (p_extract rfl rfl) rfl ?_
      refine g_pure (p_assign rfl) rfl ?_
      refine g_pure (p_assign rfl) rfl ?_
      refine g_pure (p_assign rfl) rfl ?_
      refine g_nil ?_
      refine g_qt ?_
      refine g_seq ?_
      refine g_seq ?_
      refine g_region ?_
      refine g_pure (p_move rfl) rfl ?_
      refine g_pure (p_not rfl) rfl ?_
      refine g_nil ?_
      refine g_qt ?_
      refine g_iff rfl ?_
      refine g_skip ?_
      refine g_qt ?_
      refine g_seq ?_
      refine g_seq ?_
      refine g_region ?_
      refine g_pure (p_move rfl) rfl ?_
      refine g_pure (p_gtr rfl rfl) rfl ?_
      refine g_nil ?_
      refine g_qt ?_
      refine g_ifd rfl (fun h2 => ?_) (fun h2 => ?_)
      · rw [if_pos (by omega)] at hPL2
        refine g_seq ?_
        refine g_region ?_
        refine g_pure (p_build (by rfl) rfl (by rfl)) rfl ?_
        first | refine g_eff0 (e_storeO rfl rfl (by rfl) (by rfl) (by rfl) (by repeat' (first | exact Take.here | apply Take.there)) (by rfl)) (fun _ _ => ?_) | refine g_eff0 (e_storeN rfl rfl (by rfl) (by rfl) (by rfl) (by repeat' (first | exact Take.here | apply Take.there)) (by simp)) (fun _ _ => ?_)
        rintro rfl
        refine g_pure (p_assign rfl) rfl ?_
        refine g_pure (p_assign rfl) rfl ?_
        refine g_nil ?_
        refine g_qt ?_
        refine g_ret ?_
        refine g_qt_ret ?_
        exact g_post (Ho := []) (rs := [.cell 2 30, .tmp 3, .tmp 4]) rfl (Res.cellN (by rfl) rfl (Has.own (by repeat' (first | exact Take.here | apply Take.there))) (by rfl) (.tmp rfl (.tmp rfl .nil))) (ParR.err hPL2) (by repeat' (first | exact Cover.nil | exact Take.here | apply Cover.cons | apply Take.there))
      · rw [if_neg (by omega), ← hW1] at hPL2
        refine g_skip ?_
        refine g_qt ?_
        refine g_seq ?_
        refine g_region ?_
        refine g_pure (p_move rfl) rfl ?_
        refine g_pure (p_build (by rfl) rfl (by rfl)) rfl ?_
        refine g_eff (e_alloc (by rfl)) rfl (fun _ _ => ?_)
        rintro ⟨b10, rfl, rfl⟩
        first | refine g_eff0 (e_storeO rfl rfl (by rfl) (by rfl) (by rfl) (by repeat' (first | exact Take.here | apply Take.there)) (by rfl)) (fun _ _ => ?_) | refine g_eff0 (e_storeN rfl rfl (by rfl) (by rfl) (by rfl) (by repeat' (first | exact Take.here | apply Take.there)) (by simp)) (fun _ _ => ?_)
        rintro rfl
        refine g_nil ?_
        refine g_qt ?_
        refine g_seq ?_
        refine g_seq ?_
        refine g_region ?_
        refine g_pure (p_assign rfl) rfl ?_
        refine g_nil ?_
        refine g_qt ?_
        refine g_block ?_
        refine g_ownnil (e := 79) (size := 1) ?_
        refine g_nils (eo := 79) (ei := 3) (a := none) (k := 0) (cap := 0) .here ?_
        refine g_loop (fun q : Nat × List (List Int) × Option Addr × Nat => [(2, .pointer (some ⟨b2, 0, none⟩)), (5, .slice (some ⟨g, 0, none⟩) W.length wc), (6, .int .i64 ((W.length : Int) - 1)), (7, .int .i64 x), (8, .int .i64 y), (10, .pointer (some ⟨b10, 0, none⟩)), (11, .int .i64 q.1)])
          (fun q => [Blk b2 (.cells [.int .i64 0, .slice none 0 0].toArray 30 (0, 0)), Blk b10 (.cells [.int .i64 x, .slice q.2.2.1 q.2.1.length q.2.2.2].toArray 30 (0, 0)), Blk g (.cells cur.toArray 9 (0, 0)), Own2 79 3 q.2.2.1 q.2.2.2 (q.2.1.map encCl)])
          (fun q => q.1 + 1 ≤ W.length ∧ q.1 ≤ y.toNat + 1 ∧ q.2.1.length + 1 = q.1 ∧ parseV t = ((bodyL x (y.toNat + 1 - q.1) (W.drop q.1) q.1).map (q.2.1 ++ ·)).map (x, ·))
          (fun q => W.length - q.1) (1, [], none, 0) ⟨by dsimp only; omega, by dsimp only; omega, rfl, by dsimp only; rw [hPL2]; exact congrArg _ (map_nila _).symm⟩ (by (repeat (first | exact trivial | refine ⟨by rfl, ?_⟩)); done) (by repeat' (first | exact Cover.nil | exact Take.here | apply Cover.cons | apply Take.there)) ?_
        rintro ⟨i, F, ca, cc⟩ ⟨hi, hiy, hFi, hI⟩
        dsimp only at hi hiy hFi hI ⊢
        have hil : i < W.length := by omega
        refine g_seq ?_
        refine g_seq ?_
        refine g_region ?_
        refine g_pure (p_move rfl) rfl ?_
        refine g_pure (p_move rfl) rfl ?_
        refine g_pure (p_leq rfl rfl) rfl ?_
        refine g_nil ?_
        refine g_qt ?_
        refine g_ifd rfl (fun q => ?_) (fun q => ?_)
        · obtain ⟨k, hk1⟩ : ∃ k, y.toNat + 1 - i = k + 1 := ⟨y.toNat - i, by omega⟩
          rw [hk1, List.drop_eq_getElem_cons hil] at hI
          have hwl := hmem W[i] (List.getElem_mem hil)
          refine g_skip ?_
          refine g_qt ?_
          refine g_seq ?_
          refine g_block ?_
          refine g_seq ?_
          refine g_seq ?_
          refine g_region ?_
          refine g_pure (p_move rfl) rfl ?_
          refine g_pure (p_move rfl) rfl ?_
          refine g_pure (p_geq rfl rfl) rfl ?_
          refine g_nil ?_
          refine g_qt ?_
          refine g_ifd rfl (fun q2 => ?_) (fun q2 => ?_)
          · rw [List.drop_of_length_le (by omega), bodyL_one] at hI
            refine g_seq ?_
            refine g_region ?_
            refine g_pure (p_build (by rfl) rfl (by rfl)) rfl ?_
            refine g_pure (p_move rfl) rfl ?_
            first | refine g_pure (p_addi rfl rfl (by omega)) rfl ?_ | refine g_pure (p_add rfl rfl) rfl ?_
            first | refine g_eff0 (e_storeO rfl rfl (by rfl) (by rfl) (by rfl) (by repeat' (first | exact Take.here | apply Take.there)) (by rfl)) (fun _ _ => ?_) | refine g_eff0 (e_storeN rfl rfl (by rfl) (by rfl) (by rfl) (by repeat' (first | exact Take.here | apply Take.there)) (by simp)) (fun _ _ => ?_)
            rintro rfl
            refine g_pure (p_assign rfl) rfl ?_
            refine g_pure (p_assign rfl) rfl ?_
            refine g_nil ?_
            refine g_qt ?_
            refine g_ret ?_
            refine g_qt_ret ?_
            refine g_qb_ret ?_
            refine g_qt_ret ?_
            refine g_qn_ret ?_
            refine g_qb_ret ?_
            refine g_qt_ret ?_
            exact g_post (Ho := []) (rs := [.cell 2 30, .tmp 3, .tmp 4]) rfl (Res.cellN (by rfl) rfl (Has.own (by repeat' (first | exact Take.here | apply Take.there))) (by rfl) (.tmp rfl (.tmp rfl .nil))) (ParR.err (by rw [hI]; rfl)) (by repeat' (first | exact Cover.nil | exact Take.here | apply Cover.cons | apply Take.there))
          · have hil1 : i + 1 < W.length := by omega
            rw [List.drop_eq_getElem_cons hil1, bodyL_two, ← List.drop_eq_getElem_cons hil1, ← words_doc] at hI
            refine g_skip ?_
            refine g_qt ?_
            refine g_seq ?_
            refine g_region ?_
            refine g_pure (p_move rfl) rfl ?_
            refine g_pure (p_move rfl) rfl ?_
            refine g_pure (p_indexAddr rfl rfl (by omega) (fun _ => rfl)) rfl ?_
            refine g_pure (p_load (by rfl) rfl (Has.own (by repeat' (first | exact Take.here | apply Take.there))) (hcur i hil)) rfl ?_
            cases hV : wordsV (wordsD W[i]) with
            | none =>
              rw [hV] at hI
              dsimp only at hI
              refine g_call (Hin := []) (Hr := ?hr4) (R := ?rr4) rfl rfl rfl ?hin4 ?hc4 ?hk4
              case hin4 => repeat' (first | exact Cover.nil | exact Take.here | apply Cover.cons | apply Take.there)
              case hc4 => intro ρ' hρ hR; exact (dclause_ok W[i] (by omega)).mono (R' := fun v H => (∃ a k cap, v = .tuple #[.slice a k cap, .bool false]) ∧ H = []) (fun v H h => by unfold ClD at h; rw [hV] at h; exact h)
              rintro _ _ ⟨⟨a0, k0, cap0, rfl⟩, rfl⟩
              refine g_pure (p_move rfl) rfl ?_
              refine g_pure (p_extract rfl rfl) rfl ?_
              refine g_pure (p_extract rfl rfl) rfl ?_
              refine g_pure (p_assign rfl) rfl ?_
              refine g_pure (p_assign rfl) rfl ?_
              refine g_nil ?_
              refine g_qt ?_
              refine g_seq ?_
              refine g_seq ?_
              refine g_region ?_
              refine g_pure (p_move rfl) rfl ?_
              refine g_pure (p_not rfl) rfl ?_
              refine g_nil ?_
              refine g_qt ?_
              refine g_ift rfl ?_
              refine g_seq ?_
              refine g_region ?_
              refine g_pure (p_build (by rfl) rfl (by rfl)) rfl ?_
              refine g_pure (p_move rfl) rfl ?_
              first | refine g_pure (p_addi rfl rfl (by omega)) rfl ?_ | refine g_pure (p_add rfl rfl) rfl ?_
              first | refine g_eff0 (e_storeO rfl rfl (by rfl) (by rfl) (by rfl) (by repeat' (first | exact Take.here | apply Take.there)) (by rfl)) (fun _ _ => ?_) | refine g_eff0 (e_storeN rfl rfl (by rfl) (by rfl) (by rfl) (by repeat' (first | exact Take.here | apply Take.there)) (by simp)) (fun _ _ => ?_)
              rintro rfl
              refine g_pure (p_assign rfl) rfl ?_
              refine g_pure (p_assign rfl) rfl ?_
              refine g_nil ?_
              refine g_qt ?_
              refine g_ret ?_
              refine g_qt_ret ?_
              refine g_qb_ret ?_
              refine g_qt_ret ?_
              refine g_qn_ret ?_
              refine g_qb_ret ?_
              refine g_qt_ret ?_
              exact g_post (Ho := []) (rs := [.cell 2 30, .tmp 3, .tmp 4]) rfl (Res.cellN (by rfl) rfl (Has.own (by repeat' (first | exact Take.here | apply Take.there))) (by rfl) (.tmp rfl (.tmp rfl .nil))) (ParR.err (by rw [hI]; rfl)) (by repeat' (first | exact Cover.nil | exact Take.here | apply Cover.cons | apply Take.there))
            | some c =>
              rw [hV] at hI
              dsimp only at hI
              have hcw := (words_some hV).2
              have hcl : c.length ≤ 1000000 := by
                have h1 := congrArg List.length (words_some hV).1
                have h2 := wordsD_len W[i]
                simp at h1; omega
              have hck := check_one hx0 (show x ≤ 262144 by omega) (c := c) fun z hz => (hcw z hz).1
              refine g_call (Hin := []) (Hr := ?hr5) (R := ?rr5) rfl rfl rfl ?hin5 ?hc5 ?hk5
              case hin5 => repeat' (first | exact Cover.nil | exact Take.here | apply Cover.cons | apply Take.there)
              case hc5 => intro ρ' hρ hR; exact (dclause_ok W[i] (by omega)).mono (R' := fun v H => ∃ a cap, v = .tuple #[.slice a c.length cap, .bool true] ∧ H = [OwnSl 3 1 a c.length cap (c.map encI)]) (fun v H h => by unfold ClD at h; rw [hV] at h; exact h)
              rintro _ _ ⟨ra, rc, rfl, rfl⟩
              refine g_pure (p_move rfl) rfl ?_
              refine g_pure (p_extract rfl rfl) rfl ?_
              refine g_pure (p_extract rfl rfl) rfl ?_
              refine g_pure (p_assign rfl) rfl ?_
              refine g_pure (p_assign rfl) rfl ?_
              refine g_nil ?_
              refine g_qt ?_
              refine g_seq ?_
              refine g_seq ?_
              refine g_region ?_
              refine g_pure (p_move rfl) rfl ?_
              refine g_pure (p_not rfl) rfl ?_
              refine g_nil ?_
              refine g_qt ?_
              refine g_iff rfl ?_
              refine g_skip ?_
              refine g_qt ?_
              refine g_seq ?_
              refine g_seq ?_
              refine g_region ?_
              refine g_pure (p_move rfl) rfl ?_
              refine g_pure (p_move rfl) rfl ?_
              refine g_eff (e_bs (xs := [.tmp 63]) rfl rfl rfl (by rfl) (by rfl) rfl (by rfl)) rfl (fun _ _ => ?_)
              rintro ⟨b64, rfl, rfl⟩
              refine g_pure (p_build (by rfl) rfl (by rfl)) rfl ?_
              cases hfar : farV x c with
              | true =>
                rw [if_pos hfar] at hI
                rw [if_pos hfar] at hck
                refine g_call (Hin := []) (Hr := ?hr6) (R := ?rr6) rfl rfl rfl ?hin6 ?hc6 ?hk6
                case hin6 => repeat' (first | exact Cover.nil | exact Take.here | apply Cover.cons | apply Take.there)
                case hc6 => intro ρ' hρ hR; exact (rcheck_ok x (by unfold I64; omega) (some ⟨b64, 0, none⟩) 1 [c] (one_ro hR.1.blk hcl (fun z hz => by have := hcw z hz; unfold I64; omega) (RSl.of_own (Take.ro (A := OwnSl 3 1 ra c.length rc (c.map encI)) (by repeat' (first | exact Take.here | apply Take.there)) hR)))).mono (R' := fun v H => v = .int .i64 14 ∧ H = []) (fun v H h => by rw [hck] at h; exact h)
                rintro _ _ ⟨rfl, rfl⟩
                refine g_pure (p_neqT rfl rfl (by decide)) rfl ?_
                refine g_nil ?_
                refine g_qt ?_
                refine g_ift rfl ?_
                refine g_seq ?_
                refine g_region ?_
                refine g_pure (p_build (by rfl) rfl (by rfl)) rfl ?_
                refine g_pure (p_move rfl) rfl ?_
                first | refine g_pure (p_addi rfl rfl (by omega)) rfl ?_ | refine g_pure (p_add rfl rfl) rfl ?_
                first | refine g_eff0 (e_storeO rfl rfl (by rfl) (by rfl) (by rfl) (by repeat' (first | exact Take.here | apply Take.there)) (by rfl)) (fun _ _ => ?_) | refine g_eff0 (e_storeN rfl rfl (by rfl) (by rfl) (by rfl) (by repeat' (first | exact Take.here | apply Take.there)) (by simp)) (fun _ _ => ?_)
                rintro rfl
                refine g_pure (p_assign rfl) rfl ?_
                refine g_pure (p_assign rfl) rfl ?_
                refine g_nil ?_
                refine g_qt ?_
                refine g_ret ?_
                refine g_qt_ret ?_
                refine g_qb_ret ?_
                refine g_qt_ret ?_
                refine g_qn_ret ?_
                refine g_qb_ret ?_
                refine g_qt_ret ?_
                exact g_post (Ho := []) (rs := [.cell 2 30, .tmp 3, .tmp 4]) rfl (Res.cellN (by rfl) rfl (Has.own (by repeat' (first | exact Take.here | apply Take.there))) (by rfl) (.tmp rfl (.tmp rfl .nil))) (ParR.err (by rw [hI]; rfl)) (by repeat' (first | exact Cover.nil | exact Take.here | apply Cover.cons | apply Take.there))
              | false =>
                rw [if_neg (by rw [hfar]; decide), map_app] at hI
                rw [if_neg (by rw [hfar]; decide)] at hck
                refine g_call (Hin := []) (Hr := ?hr7) (R := ?rr7) rfl rfl rfl ?hin7 ?hc7 ?hk7
                case hin7 => repeat' (first | exact Cover.nil | exact Take.here | apply Cover.cons | apply Take.there)
                case hc7 => intro ρ' hρ hR; exact (rcheck_ok x (by unfold I64; omega) (some ⟨b64, 0, none⟩) 1 [c] (one_ro hR.1.blk hcl (fun z hz => by have := hcw z hz; unfold I64; omega) (RSl.of_own (Take.ro (A := OwnSl 3 1 ra c.length rc (c.map encI)) (by repeat' (first | exact Take.here | apply Take.there)) hR)))).mono (R' := fun v H => v = .int .i64 0 ∧ H = []) (fun v H h => by rw [hck] at h; exact h)
                rintro _ _ ⟨rfl, rfl⟩
                refine g_pure (p_neqF rfl rfl rfl) rfl ?_
                refine g_nil ?_
                refine g_qt ?_
                rw [show c.length = (encCl c).length by simp [encCl]]
                refine g_open2 (H' := _) (eo := 79) (ei := 3) (a := ca) (cap := cc) (rows := F.map encCl) (by repeat' (first | exact Take.here | apply Take.there)) ?_
                rintro hs2 hhs
                rw [List.length_map] at hhs ⊢
                refine g_iff rfl ?_
                refine g_skip ?_
                refine g_qt ?_
                refine g_region ?_
                refine g_pure (p_fieldAddr rfl) rfl ?_
                refine g_pure (p_load (by rfl) rfl (by first | (apply Has.own; (repeat' (first | exact Take.here | apply Take.there)); done) | exact Has.ro (by assumption)) (by first | rfl | assumption)) rfl ?_
                refine g_pure (p_move rfl) rfl ?_
                refine g_eff (e_bs (xs := [.tmp 73]) rfl rfl rfl (by rfl) (by rfl) rfl (by rfl)) rfl (fun _ _ => ?_)
                rintro ⟨b74, rfl, rfl⟩
                refine g_eff (e_appendO (by rfl) (by rfl) rfl rfl (by first | (apply Has.own; (repeat' (first | exact Take.here | apply Take.there)); done) | exact Has.ro (by assumption)) (by rfl) (by rfl) (by repeat' (first | exact Take.here | apply Take.there)) (by omega) (by first | omega | (dsimp only; omega) | (simp <;> omega)) (by omega)) rfl (fun _ _ => ?_)
                rintro ⟨a75, c75, rfl, rfl⟩
                refine g_pure (p_fieldAddr rfl) rfl ?_
                first | refine g_eff0 (e_storeO rfl rfl (by rfl) (by rfl) (by rfl) (by repeat' (first | exact Take.here | apply Take.there)) (by rfl)) (fun _ _ => ?_) | refine g_eff0 (e_store1 (by rfl) rfl rfl rfl (by repeat' (first | exact Take.here | apply Take.there)) (by first | decide | (simp <;> omega) | omega)) (fun _ _ => ?_)
                rintro rfl
                refine g_nil ?_
                refine g_qb ?_
                refine g_qt ?_
                refine g_region ?_
                refine g_pure (p_move rfl) rfl ?_
                first | refine g_pure (p_addi rfl rfl (by omega)) rfl ?_ | refine g_pure (p_add rfl rfl) rfl ?_
                refine g_pure (p_assign rfl) rfl ?_
                refine g_nil ?_
                refine g_qn ?_
                refine g_push1 (rows := F.map encCl) (hs := hs2) (ei := 3) (by rw [List.length_map]; exact hhs) (g := (ra, rc)) (r := encCl c) (by rw [List.length_map]) rfl (by repeat' (first | exact Take.here | apply Take.there)) (by repeat' (first | exact Take.here | apply Take.there)) (by repeat' (first | exact Take.here | apply Take.there)) ?_
                rw [show F.map encCl ++ [encCl c] = (F ++ [c]).map encCl by simp, show F.length + 1 = (F ++ [c]).length by simp]
                exact g_next (i + 1, F ++ [c], a75, c75) (by (repeat (first | exact trivial | refine ⟨by rfl, ?_⟩)); done) (by repeat' (first | exact Cover.nil | exact Take.here | apply Cover.cons | apply Take.there)) ⟨by dsimp only; omega, by dsimp only; omega, by dsimp only; rw [List.length_append]; simp; omega, by dsimp only; rw [hI, show y.toNat + 1 - (i + 1) = k by omega]; rfl⟩ (by dsimp only; omega)
        · have hie : i = y.toNat + 1 := by omega
          rw [show y.toNat + 1 - i = 0 by omega, bodyL] at hI
          have hret : y + 2 = (i : Int) + 1 := by omega
          refine g_exit ?_
          refine g_qt_exit ?_
          refine g_qn_exit ?_
          refine g_qb_exit ?_
          refine g_qt ?_
          refine g_seq ?_
          refine g_seq ?_
          refine g_region ?_
          refine g_pure (p_move rfl) rfl ?_
          refine g_pure (p_move rfl) rfl ?_
          first | refine g_pure (p_addi rfl rfl (by omega)) rfl ?_ | refine g_pure (p_add rfl rfl) rfl ?_
          refine g_pure (p_gtr rfl rfl) rfl ?_
          refine g_pure (p_move rfl) rfl ?_
          refine g_splitd rfl rfl (fun z => ?_) (fun z => ?_)
          · rw [if_neg (fun e => by have := congrArg List.length e; simp at this; omega)] at hI
            refine g_no rfl rfl rfl rfl ?_
            refine g_no rfl rfl rfl rfl ?_
            refine g_no rfl rfl rfl rfl ?_
            refine g_no rfl rfl rfl rfl ?_
            refine g_no rfl rfl rfl rfl ?_
            first | refine g_pure (p_pickt rfl rfl) rfl ?_ | refine g_pure (p_pickf rfl rfl) rfl ?_
            refine g_nil ?_
            refine g_qt ?_
            refine g_ift rfl ?_
            refine g_seq ?_
            refine g_region ?_
            refine g_pure (p_build (by rfl) rfl (by rfl)) rfl ?_
            refine g_pure (p_move rfl) rfl ?_
            first | refine g_pure (p_addi rfl rfl (by omega)) rfl ?_ | refine g_pure (p_add rfl rfl) rfl ?_
            first | refine g_eff0 (e_storeO rfl rfl (by rfl) (by rfl) (by rfl) (by repeat' (first | exact Take.here | apply Take.there)) (by rfl)) (fun _ _ => ?_) | refine g_eff0 (e_storeN rfl rfl (by rfl) (by rfl) (by rfl) (by repeat' (first | exact Take.here | apply Take.there)) (by simp)) (fun _ _ => ?_)
            rintro rfl
            refine g_pure (p_assign rfl) rfl ?_
            refine g_pure (p_assign rfl) rfl ?_
            refine g_nil ?_
            refine g_qt ?_
            refine g_ret ?_
            refine g_qt_ret ?_
            rw [hret]
            exact g_post (Ho := []) (rs := [.cell 2 30, .tmp 3, .tmp 4]) rfl (Res.cellN (by rfl) rfl (Has.own (by repeat' (first | exact Take.here | apply Take.there))) (by rfl) (.tmp rfl (.tmp rfl .nil))) (ParR.err (by rw [hI]; rfl)) (by repeat' (first | exact Cover.nil | exact Take.here | apply Cover.cons | apply Take.there))
          · have hlast : (i : Int) = (W.length : Int) - 1 := by omega
            rw [List.drop_eq_getElem_cons hil, List.drop_of_length_le (by omega)] at hI
            have hcl2 := hcur i hil
            rw [hlast] at hcl2
            by_cases hle : W[i] = []
            · rw [if_pos (by rw [hle])] at hI
              have hI2 : parseV t = .ok (x, F) := by rw [hI]; simp [Except.map]
              refine g_yes rfl rfl ?_
              refine g_pure (p_move rfl) rfl ?_
              refine g_yes rfl rfl ?_
              refine g_pure (p_move rfl) rfl ?_
              refine g_yes rfl rfl ?_
              refine g_pure (p_indexAddr rfl rfl (by omega) (fun _ => rfl)) rfl ?_
              refine g_yes rfl rfl ?_
              refine g_pure (p_load (by rfl) rfl (Has.own (by repeat' (first | exact Take.here | apply Take.there))) hcl2) rfl ?_
              refine g_yes rfl rfl ?_
              refine g_pure (p_neqsF (by rfl) rfl rfl (strOf_inj.2 hle)) rfl ?_
              first | refine g_pure (p_pickt rfl rfl) rfl ?_ | refine g_pure (p_pickf rfl rfl) rfl ?_
              refine g_nil ?_
              refine g_qt ?_
              refine g_iff rfl ?_
              refine g_skip ?_
              refine g_qt ?_
              refine g_seq ?_
              refine g_region ?_
              first | refine g_pure (p_loadO (by rfl) rfl (by first | (apply Has.own; (repeat' (first | exact Take.here | apply Take.there)); done) | exact Has.ro (by assumption)) (by rfl)) rfl ?_ | refine g_pure (p_loadN (by rfl) rfl (by first | (apply Has.own; (repeat' (first | exact Take.here | apply Take.there)); done) | exact Has.ro (by assumption)) (by first | rfl | assumption)) rfl ?_
              first | refine g_eff0 (e_storeO rfl rfl (by rfl) (by rfl) (by rfl) (by repeat' (first | exact Take.here | apply Take.there)) (by rfl)) (fun _ _ => ?_) | refine g_eff0 (e_storeN rfl rfl (by rfl) (by rfl) (by rfl) (by repeat' (first | exact Take.here | apply Take.there)) (by simp)) (fun _ _ => ?_)
              rintro rfl
              refine g_pure (p_assign rfl) rfl ?_
              refine g_pure (p_assign rfl) rfl ?_
              refine g_nil ?_
              refine g_qt ?_
              refine g_ret ?_
              exact g_post (Ho := [Own2 79 3 ca cc (F.map encCl)]) (rs := [.cell 2 30, .tmp 3, .tmp 4]) rfl (Res.cellN (by rfl) rfl (Has.own (by repeat' (first | exact Take.here | apply Take.there))) (by rfl) (.tmp rfl (.tmp rfl .nil))) (by unfold ParR; rw [hI2]; exact ⟨ca, cc, rfl, rfl⟩) (by repeat' (first | exact Cover.nil | exact Take.here | apply Cover.cons | apply Take.there))
            · rw [if_neg (fun e => by injection e with e; exact hle e)] at hI
              refine g_yes rfl rfl ?_
              refine g_pure (p_move rfl) rfl ?_
              refine g_yes rfl rfl ?_
              refine g_pure (p_move rfl) rfl ?_
              refine g_yes rfl rfl ?_
              refine g_pure (p_indexAddr rfl rfl (by omega) (fun _ => rfl)) rfl ?_
              refine g_yes rfl rfl ?_
              refine g_pure (p_load (by rfl) rfl (Has.own (by repeat' (first | exact Take.here | apply Take.there))) hcl2) rfl ?_
              refine g_yes rfl rfl ?_
              refine g_pure (p_neqsT (by rfl) rfl rfl (fun e => hle (strOf_inj.1 e))) rfl ?_
              first | refine g_pure (p_pickt rfl rfl) rfl ?_ | refine g_pure (p_pickf rfl rfl) rfl ?_
              refine g_nil ?_
              refine g_qt ?_
              refine g_ift rfl ?_
              refine g_seq ?_
              refine g_region ?_
              refine g_pure (p_build (by rfl) rfl (by rfl)) rfl ?_
              refine g_pure (p_move rfl) rfl ?_
              first | refine g_pure (p_addi rfl rfl (by omega)) rfl ?_ | refine g_pure (p_add rfl rfl) rfl ?_
              first | refine g_eff0 (e_storeO rfl rfl (by rfl) (by rfl) (by rfl) (by repeat' (first | exact Take.here | apply Take.there)) (by rfl)) (fun _ _ => ?_) | refine g_eff0 (e_storeN rfl rfl (by rfl) (by rfl) (by rfl) (by repeat' (first | exact Take.here | apply Take.there)) (by simp)) (fun _ _ => ?_)
              rintro rfl
              refine g_pure (p_assign rfl) rfl ?_
              refine g_pure (p_assign rfl) rfl ?_
              refine g_nil ?_
              refine g_qt ?_
              refine g_ret ?_
              refine g_qt_ret ?_
              rw [hret]
              exact g_post (Ho := []) (rs := [.cell 2 30, .tmp 3, .tmp 4]) rfl (Res.cellN (by rfl) rfl (Has.own (by repeat' (first | exact Take.here | apply Take.there))) (by rfl) (.tmp rfl (.tmp rfl .nil))) (ParR.err (by rw [hI]; rfl)) (by repeat' (first | exact Cover.nil | exact Take.here | apply Cover.cons | apply Take.there))

theorem cparses_ok {ρ : Nat → Obj → Prop} (hk : LibC ρ) (s : ByteArray) (hsz : s.size ≤ 9223372036854775807) :
    Con Tryz.prog ρ 5 #[.string s] [] (fun v _ => v = .bool true) := by
  obtain ⟨t, rfl⟩ : ∃ t, s = strOf t := ⟨s.data.toList, by apply ByteArray.ext; apply Array.ext'; rfl⟩
  have hss : (strOf t).size = t.length := rfl
  refine con_intro Tryz.func5 Tryz.call5 rfl Tryz.ntmps5 rfl (L := [(0, _)]) rfl fun w hh => ?_
  refine g_seq ?_
  refine g_region ?_
  refine g_pure (p_assign rfl) rfl ?_
  refine g_nil ?_
  refine g_qt ?_
  refine g_seq ?_
  refine g_seq ?_
  refine g_region ?_
  refine g_pure (p_move rfl) rfl ?_
  refine g_pure (p_lens (by rfl) rfl) rfl ?_
  refine g_pure (p_gtr rfl rfl) rfl ?_
  refine g_nil ?_
  refine g_qt ?_
  refine g_ifd rfl (fun h => ?_) (fun h => ?_)
  · refine g_seq ?_
    refine g_region ?_
    refine g_call (Hin := []) (Hr := ?hr8) (R := ?rr8) rfl rfl rfl ?hin8 ?hc8 ?hk8
    case hin8 => repeat' (first | exact Cover.nil | exact Take.here | apply Cover.cons | apply Take.there)
    case hc8 => intro ρ' hρ hR; exact awake36_ok (hk.mono hρ)
    rintro _ _ ⟨rfl, rfl⟩
    refine g_pure (p_assign rfl) rfl ?_
    refine g_nil ?_
    refine g_qt ?_
    refine g_ret ?_
    refine g_qt_ret ?_
    exact g_post (Ho := []) (rs := [.tmp 2]) rfl (.tmp rfl .nil) rfl .nil
  · rw [hss] at h
    refine g_skip ?_
    refine g_qt ?_
    refine g_seq ?_
    refine g_region ?_
    refine g_pure (p_move rfl) rfl ?_
    cases hP : parseV t with
    | error p =>
      obtain ⟨k, e⟩ := p
      have he := parse_err hP
      refine g_call (Hin := []) (Hr := ?hr9) (R := ?rr9) rfl rfl rfl ?hin9 ?hc9 ?hk9
      case hin9 => repeat' (first | exact Cover.nil | exact Take.here | apply Cover.cons | apply Take.there)
      case hc9 => intro ρ' hρ hR; exact (parse_ok (hk.mono hρ) t (by omega)).mono (R' := fun v H => v = .tuple #[.agg #[.int .i64 0, .slice none 0 0], .int .i64 k, .int .i64 e] ∧ H = []) (fun v H h => by unfold ParR at h; rw [hP] at h; exact h)
      rintro _ _ ⟨rfl, rfl⟩
      refine g_pure (p_move rfl) rfl ?_
      refine g_pure (p_extract rfl rfl) rfl ?_
      refine g_pure (p_extract rfl rfl) rfl ?_
      refine g_pure (p_extract rfl rfl) rfl ?_
      refine g_eff (e_alloc (by rfl)) rfl (fun _ _ => ?_)
      rintro ⟨b3, rfl, rfl⟩
      first | refine g_eff0 (e_storeO rfl rfl (by rfl) (by rfl) (by rfl) (by repeat' (first | exact Take.here | apply Take.there)) (by rfl)) (fun _ _ => ?_) | refine g_eff0 (e_storeN rfl rfl (by rfl) (by rfl) (by rfl) (by repeat' (first | exact Take.here | apply Take.there)) (by simp)) (fun _ _ => ?_)
      rintro rfl
      refine g_pure (p_assign rfl) rfl ?_
      refine g_pure (p_assign rfl) rfl ?_
      refine g_nil ?_
      refine g_qt ?_
      refine g_seq ?_
      refine g_region ?_
      refine g_pure (p_move rfl) rfl ?_
      refine g_call (Hin := []) (Hr := ?hr10) (R := ?rr10) rfl rfl rfl ?hin10 ?hc10 ?hk10
      case hin10 => repeat' (first | exact Cover.nil | exact Take.here | apply Cover.cons | apply Take.there)
      case hc10 => intro ρ' hρ hR; exact (dparse36_ok t (by omega)).mono (R' := fun v H => v = .tuple #[.agg #[.int .i64 0, .slice none 0 0], .int .i64 k, .int .i64 e] ∧ H = []) (fun v H h => by unfold ParR at h; rw [hP] at h; exact h)
      rintro _ _ ⟨rfl, rfl⟩
      refine g_pure (p_move rfl) rfl ?_
      refine g_pure (p_extract rfl rfl) rfl ?_
      refine g_pure (p_extract rfl rfl) rfl ?_
      refine g_pure (p_extract rfl rfl) rfl ?_
      refine g_eff (e_alloc (by rfl)) rfl (fun _ _ => ?_)
      rintro ⟨b6, rfl, rfl⟩
      first | refine g_eff0 (e_storeO rfl rfl (by rfl) (by rfl) (by rfl) (by repeat' (first | exact Take.here | apply Take.there)) (by rfl)) (fun _ _ => ?_) | refine g_eff0 (e_storeN rfl rfl (by rfl) (by rfl) (by rfl) (by repeat' (first | exact Take.here | apply Take.there)) (by simp)) (fun _ _ => ?_)
      rintro rfl
      refine g_pure (p_assign rfl) rfl ?_
      refine g_pure (p_assign rfl) rfl ?_
      refine g_nil ?_
      refine g_qt ?_
      refine g_seq ?_
      refine g_seq ?_
      refine g_region ?_
      refine g_pure (p_move rfl) rfl ?_
      refine g_pure (p_move rfl) rfl ?_
      refine g_pure (p_neqF rfl rfl rfl) rfl ?_
      refine g_pure (p_move rfl) rfl ?_
      refine g_yes rfl rfl ?_
      refine g_pure (p_move rfl) rfl ?_
      refine g_yes rfl rfl ?_
      refine g_pure (p_move rfl) rfl ?_
      refine g_yes rfl rfl ?_
      refine g_pure (p_neqF rfl rfl rfl) rfl ?_
      first | refine g_pure (p_pickt rfl rfl) rfl ?_ | refine g_pure (p_pickf rfl rfl) rfl ?_
      refine g_pure (p_move rfl) rfl ?_
      refine g_yes rfl rfl ?_
      first | refine g_pure (p_loadO (by rfl) rfl (by first | (apply Has.own; (repeat' (first | exact Take.here | apply Take.there)); done) | exact Has.ro (by assumption)) (by rfl)) rfl ?_ | refine g_pure (p_loadN (by rfl) rfl (by first | (apply Has.own; (repeat' (first | exact Take.here | apply Take.there)); done) | exact Has.ro (by assumption)) (by first | rfl | assumption)) rfl ?_
      refine g_yes rfl rfl ?_
      first | refine g_pure (p_loadO (by rfl) rfl (by first | (apply Has.own; (repeat' (first | exact Take.here | apply Take.there)); done) | exact Has.ro (by assumption)) (by rfl)) rfl ?_ | refine g_pure (p_loadN (by rfl) rfl (by first | (apply Has.own; (repeat' (first | exact Take.here | apply Take.there)); done) | exact Has.ro (by assumption)) (by first | rfl | assumption)) rfl ?_
      refine g_yes rfl rfl ?_
      refine g_call (Hin := []) (Hr := ?hr11) (R := ?rr11) rfl rfl rfl ?hin11 ?hc11 ?hk11
      case hin11 => repeat' (first | exact Cover.nil | exact Take.here | apply Cover.cons | apply Take.there)
      case hc11 => intro ρ' hρ hR; exact dsame_ok 0 none none 0 0 [] nil_ro nil_ro
      rintro _ _ ⟨rfl, rfl⟩
      refine g_yes rfl rfl ?_
      refine g_pure (p_not rfl) rfl ?_
      first | refine g_pure (p_pickt rfl rfl) rfl ?_ | refine g_pure (p_pickf rfl rfl) rfl ?_
      refine g_nil ?_
      refine g_qt ?_
      refine g_iff rfl ?_
      refine g_skip ?_
      refine g_qt ?_
      refine g_seq ?_
      refine g_seq ?_
      refine g_region ?_
      refine g_pure (p_move rfl) rfl ?_
      refine g_pure (p_neqT rfl rfl he) rfl ?_
      refine g_nil ?_
      refine g_qt ?_
      refine g_ift rfl ?_
      refine g_seq ?_
      refine g_region ?_
      refine g_call (Hin := []) (Hr := ?hr12) (R := ?rr12) rfl rfl rfl ?hin12 ?hc12 ?hk12
      case hin12 => repeat' (first | exact Cover.nil | exact Take.here | apply Cover.cons | apply Take.there)
      case hc12 => intro ρ' hρ hR; exact awake36_ok (hk.mono hρ)
      rintro _ _ ⟨rfl, rfl⟩
      refine g_pure (p_assign rfl) rfl ?_
      refine g_nil ?_
      refine g_qt ?_
      refine g_ret ?_
      refine g_qt_ret ?_
      exact g_post (Ho := []) (rs := [.tmp 2]) rfl (.tmp rfl .nil) rfl .nil
    | ok p =>
      obtain ⟨n, F⟩ := p
      obtain ⟨hT, hn0, hn1, hFl, hlits⟩ := parse_some hP
      have hc := check_zero hn0 hn1 hlits
      have hlens : ∀ c ∈ F, c.length ≤ 9223372036854775807 := fun c hc => by have := text_ge (n := n) hc; rw [hT] at this; omega
      have hI : ∀ c ∈ F, ∀ x ∈ c, I64 x := fun c hc x hx => by have := hlits c hc x hx; unfold I64; omega
      refine g_call (Hin := []) (Hr := ?hr13) (R := ?rr13) rfl rfl rfl ?hin13 ?hc13 ?hk13
      case hin13 => repeat' (first | exact Cover.nil | exact Take.here | apply Cover.cons | apply Take.there)
      case hc13 => intro ρ' hρ hR; exact (parse_ok (hk.mono hρ) t (by omega)).mono (R' := fun v H => ∃ ca cc, v = .tuple #[.agg #[.int .i64 n, .slice ca F.length cc], .int .i64 0, .int .i64 0] ∧ H = [Own2 79 3 ca cc (F.map encCl)]) (fun v H h => by unfold ParR at h; rw [hP] at h; exact h)
      rintro _ _ ⟨ca, cc, rfl, rfl⟩
      refine g_pure (p_move rfl) rfl ?_
      refine g_pure (p_extract rfl rfl) rfl ?_
      refine g_pure (p_extract rfl rfl) rfl ?_
      refine g_pure (p_extract rfl rfl) rfl ?_
      refine g_eff (e_alloc (by rfl)) rfl (fun _ _ => ?_)
      rintro ⟨b3, rfl, rfl⟩
      first | refine g_eff0 (e_storeO rfl rfl (by rfl) (by rfl) (by rfl) (by repeat' (first | exact Take.here | apply Take.there)) (by rfl)) (fun _ _ => ?_) | refine g_eff0 (e_storeN rfl rfl (by rfl) (by rfl) (by rfl) (by repeat' (first | exact Take.here | apply Take.there)) (by simp)) (fun _ _ => ?_)
      rintro rfl
      refine g_pure (p_assign rfl) rfl ?_
      refine g_pure (p_assign rfl) rfl ?_
      refine g_nil ?_
      refine g_qt ?_
      refine g_seq ?_
      refine g_region ?_
      refine g_pure (p_move rfl) rfl ?_
      refine g_call (Hin := []) (Hr := ?hr14) (R := ?rr14) rfl rfl rfl ?hin14 ?hc14 ?hk14
      case hin14 => repeat' (first | exact Cover.nil | exact Take.here | apply Cover.cons | apply Take.there)
      case hc14 => intro ρ' hρ hR; exact (dparse36_ok t (by omega)).mono (R' := fun v H => ∃ ca cc, v = .tuple #[.agg #[.int .i64 n, .slice ca F.length cc], .int .i64 0, .int .i64 0] ∧ H = [Own2 79 3 ca cc (F.map encCl)]) (fun v H h => by unfold ParR at h; rw [hP] at h; exact h)
      rintro _ _ ⟨ca2, cc2, rfl, rfl⟩
      refine g_pure (p_move rfl) rfl ?_
      refine g_pure (p_extract rfl rfl) rfl ?_
      refine g_pure (p_extract rfl rfl) rfl ?_
      refine g_pure (p_extract rfl rfl) rfl ?_
      refine g_eff (e_alloc (by rfl)) rfl (fun _ _ => ?_)
      rintro ⟨b6, rfl, rfl⟩
      first | refine g_eff0 (e_storeO rfl rfl (by rfl) (by rfl) (by rfl) (by repeat' (first | exact Take.here | apply Take.there)) (by rfl)) (fun _ _ => ?_) | refine g_eff0 (e_storeN rfl rfl (by rfl) (by rfl) (by rfl) (by repeat' (first | exact Take.here | apply Take.there)) (by simp)) (fun _ _ => ?_)
      rintro rfl
      refine g_pure (p_assign rfl) rfl ?_
      refine g_pure (p_assign rfl) rfl ?_
      refine g_nil ?_
      refine g_qt ?_
      refine g_seq ?_
      refine g_seq ?_
      refine g_region ?_
      refine g_pure (p_move rfl) rfl ?_
      refine g_pure (p_move rfl) rfl ?_
      refine g_pure (p_neqF rfl rfl rfl) rfl ?_
      refine g_pure (p_move rfl) rfl ?_
      refine g_yes rfl rfl ?_
      refine g_pure (p_move rfl) rfl ?_
      refine g_yes rfl rfl ?_
      refine g_pure (p_move rfl) rfl ?_
      refine g_yes rfl rfl ?_
      refine g_pure (p_neqF rfl rfl rfl) rfl ?_
      first | refine g_pure (p_pickt rfl rfl) rfl ?_ | refine g_pure (p_pickf rfl rfl) rfl ?_
      refine g_pure (p_move rfl) rfl ?_
      refine g_yes rfl rfl ?_
      first | refine g_pure (p_loadO (by rfl) rfl (by first | (apply Has.own; (repeat' (first | exact Take.here | apply Take.there)); done) | exact Has.ro (by assumption)) (by rfl)) rfl ?_ | refine g_pure (p_loadN (by rfl) rfl (by first | (apply Has.own; (repeat' (first | exact Take.here | apply Take.there)); done) | exact Has.ro (by assumption)) (by first | rfl | assumption)) rfl ?_
      refine g_yes rfl rfl ?_
      first | refine g_pure (p_loadO (by rfl) rfl (by first | (apply Has.own; (repeat' (first | exact Take.here | apply Take.there)); done) | exact Has.ro (by assumption)) (by rfl)) rfl ?_ | refine g_pure (p_loadN (by rfl) rfl (by first | (apply Has.own; (repeat' (first | exact Take.here | apply Take.there)); done) | exact Has.ro (by assumption)) (by first | rfl | assumption)) rfl ?_
      refine g_yes rfl rfl ?_
      refine g_call (Hin := []) (Hr := ?hr15) (R := ?rr15) rfl rfl rfl ?hin15 ?hc15 ?hk15
      case hin15 => repeat' (first | exact Cover.nil | exact Take.here | apply Cover.cons | apply Take.there)
      case hc15 => intro ρ' hρ hR; exact dsame_ok n ca ca2 cc cc2 F ⟨Own2.ro (Take.ro (A := Own2 79 3 ca cc (F.map encCl)) (by repeat' (first | exact Take.here | apply Take.there)) hR), by omega, hlens, hI⟩ ⟨Own2.ro (Take.ro (A := Own2 79 3 ca2 cc2 (F.map encCl)) (by repeat' (first | exact Take.here | apply Take.there)) hR), by omega, hlens, hI⟩
      rintro _ _ ⟨rfl, rfl⟩
      refine g_yes rfl rfl ?_
      refine g_pure (p_not rfl) rfl ?_
      first | refine g_pure (p_pickt rfl rfl) rfl ?_ | refine g_pure (p_pickf rfl rfl) rfl ?_
      refine g_nil ?_
      refine g_qt ?_
      refine g_iff rfl ?_
      refine g_skip ?_
      refine g_qt ?_
      refine g_seq ?_
      refine g_seq ?_
      refine g_region ?_
      refine g_pure (p_move rfl) rfl ?_
      refine g_pure (p_neqF rfl rfl rfl) rfl ?_
      refine g_nil ?_
      refine g_qt ?_
      refine g_iff rfl ?_
      refine g_skip ?_
      refine g_qt ?_
      refine g_seq ?_
      refine g_region ?_
      first | refine g_pure (p_loadO (by rfl) rfl (by first | (apply Has.own; (repeat' (first | exact Take.here | apply Take.there)); done) | exact Has.ro (by assumption)) (by rfl)) rfl ?_ | refine g_pure (p_loadN (by rfl) rfl (by first | (apply Has.own; (repeat' (first | exact Take.here | apply Take.there)); done) | exact Has.ro (by assumption)) (by first | rfl | assumption)) rfl ?_
      refine g_call (Hin := []) (Hr := ?hr16) (R := ?rr16) rfl rfl rfl ?hin16 ?hc16 ?hk16
      case hin16 => repeat' (first | exact Cover.nil | exact Take.here | apply Cover.cons | apply Take.there)
      case hc16 => intro ρ' hρ hR; exact (text_ok (hk.mono hρ) n (by unfold I64; omega) ca cc F ⟨Own2.ro (Take.ro (A := Own2 79 3 ca cc (F.map encCl)) (by repeat' (first | exact Take.here | apply Take.there)) hR), by omega, hlens, hI⟩ (by rw [hT]; omega)).mono (R' := fun v H => v = .tuple #[.string (strOf t), .int .i64 0] ∧ H = []) (fun v H h => by rw [if_pos hc, hT] at h; exact h)
      rintro _ _ ⟨rfl, rfl⟩
      refine g_pure (p_move rfl) rfl ?_
      refine g_pure (p_extract rfl rfl) rfl ?_
      refine g_pure (p_extract rfl rfl) rfl ?_
      refine g_pure (p_assign rfl) rfl ?_
      refine g_pure (p_assign rfl) rfl ?_
      refine g_nil ?_
      refine g_qt ?_
      refine g_seq ?_
      refine g_region ?_
      refine g_pure (p_move rfl) rfl ?_
      refine g_pure (p_eqlT rfl rfl rfl) rfl ?_
      refine g_pure (p_move rfl) rfl ?_
      refine g_yes rfl rfl ?_
      refine g_pure (p_move rfl) rfl ?_
      refine g_yes rfl rfl ?_
      refine g_pure (p_move rfl) rfl ?_
      refine g_yes rfl rfl ?_
      refine g_pure (p_eqlsT (by rfl) rfl rfl rfl) rfl ?_
      first | refine g_pure (p_pickt rfl rfl) rfl ?_ | refine g_pure (p_pickf rfl rfl) rfl ?_
      refine g_pure (p_move rfl) rfl ?_
      refine g_yes rfl rfl ?_
      refine g_call (Hin := []) (Hr := ?hr17) (R := ?rr17) rfl rfl rfl ?hin17 ?hc17 ?hk17
      case hin17 => repeat' (first | exact Cover.nil | exact Take.here | apply Cover.cons | apply Take.there)
      case hc17 => intro ρ' hρ hR; exact awake36_ok (hk.mono hρ)
      rintro _ _ ⟨rfl, rfl⟩
      first | refine g_pure (p_pickt rfl rfl) rfl ?_ | refine g_pure (p_pickf rfl rfl) rfl ?_
      refine g_pure (p_assign rfl) rfl ?_
      refine g_nil ?_
      refine g_qt ?_
      refine g_ret ?_
      exact g_post (Ho := []) (rs := [.tmp 2]) rfl (.tmp rfl .nil) rfl .nil
end Go.Proofs.YtopgbgnmjogeeaaGreatDoor
