/- Chapter 35: the law of shared gates. Conditions: none. -/
import Derived.Test.YtmdmffpfnijahaaB7
import Derived.ChangeKeysEq
namespace Go.Z
set_option linter.unusedVariables false
set_option linter.unusedSimpArgs false
set_option linter.unusedSectionVars false
open Go
section
variable {P : Program} {M : Mx} {n : Nat} {L : Fr} {H : List Assn} {x y : Operand} {t ty tz : TypeId} {ps : String} {af : Array Edge} {gd : Option (Nat × Bool)} {dd : Option Tmp}
theorem p_buildA {yt ye : Ty} {e k : Nat} {parts : Array (Nat × Operand)} {pv : List (Nat × Value)} {z l : List Value} [ht : TyC P t yt] (hd : yt.d = .array k e) [he : TyC P e ye] (hz : yt.zero.cells = z.toArray) (hp : evP L parts.toList = some pv) (hf : fillL (fun i => some (i * ye.size, ye.size)) z pv = some l) :
    Pur P M n L H ⟨dd, .build t parts, ty, ps, af, gd⟩ (.agg l.toArray) := fun a w ha _ => by
  have e1 : (parts.map fun (i, x) => (i, a.eval x)).toList = pv := by
    have key : ∀ (l : List (Nat × Operand)) (pv : List (Nat × Value)), evP L l = some pv → l.map (fun (i, x) => (i, a.eval x)) = pv := by
      intro l
      induction l with
      | nil => intro pv h; simp [evP] at h; subst h; rfl
      | cons p l ih =>
        intro pv h
        obtain ⟨i, x⟩ := p
        unfold evP at h
        cases e1 : ev L x with
        | none => rw [e1] at h; cases h
        | some v =>
          cases e2 : evP L l with
          | none => rw [e1, e2] at h; cases h
          | some vs => rw [e1, e2] at h; simp at h; subst h; simp [ha.ev e1, ih _ e2]
    rw [Array.toList_map]; exact key _ _ hp
  have e2 := fillL_eq _ _ _ _ hf
  have hrun : ∀ PA : Array (Nat × Value), PA.toList = pv → (Instr.build t PA).run P w = .ok (.agg l.toArray) w := by
    intro PA hPA
    unfold Instr.build
    simp only [Sem.run_bind, ht.run_zero, ht.run_u, hd, he.run_size, Result.andThen_ok, hz, hPA]
    simp only [e2, Sem.run_pure]
  simp only [execOp, Sem.run_bind, hrun _ e1, Result.andThen_ok, Sem.run_pure]
end
end Go.Z
namespace Go.Z.Aig
open Go Go.Z Go.Proofs.Ytmdmffpfnijahaa
theorem fold_more : ∀ (l : List Gt) (i : Nat) (acc inp ex : List Bool), (ins i l).length ≤ inp.length → (l.foldl stepV (acc, inp ++ ex)).1 = (l.foldl stepV (acc, inp)).1 ∧ (l.foldl stepV (acc, inp ++ ex)).2 = (l.foldl stepV (acc, inp)).2 ++ ex
  | [], i, acc, inp, ex, _ => ⟨rfl, rfl⟩
  | g :: l, i, acc, inp, ex, h => by
    simp only [List.foldl_cons]
    by_cases hg : g.2.2 = true
    · simp only [ins, hg, if_true, List.length_cons] at h
      cases inp with
      | nil => simp at h
      | cons b inp =>
        have e : stepV (acc, b :: inp ++ ex) g = (acc ++ [b], inp ++ ex) := by simp [stepV, hg]
        have e' : stepV (acc, b :: inp) g = (acc ++ [b], inp) := by simp [stepV, hg]
        rw [e, e']
        exact fold_more l (i + 1) _ _ _ (by simp at h; exact h)
    · simp only [ins, hg] at h
      have e : ∀ r, stepV (acc, r) g = (acc ++ [litv acc g.1 && litv acc g.2.1], r) := fun r => by simp [stepV, hg]
      rw [e, e]
      exact fold_more l (i + 1) _ _ _ h

theorem vals_more {S : St} (hw : WF S) {V : List Bool} (hV : V.length = (ins 0 S).length) (b : Bool) : ∃ t, vals (S ++ [(0, 0, true)]) (V ++ [b]) = vals S V ++ t := by
  have hd : (S ++ [((0 : Int), (0 : Int), true)]).drop 1 = S.drop 1 ++ [(0, 0, true)] := by
    have := hw.pos
    cases S with
    | nil => simp at this
    | cons g l => rfl
  have hi : (ins 1 (S.drop 1)).length ≤ V.length := by
    have := hw.hd
    cases S with
    | nil => exact absurd this (by simp)
    | cons g l => simp at this; subst this; rw [hV]; simp [ins]
  unfold vals
  rw [hd, valsF_snoc]
  obtain ⟨t, ht⟩ := stepV_pre (valsF (S.drop 1) (V ++ [b])) (0, 0, true)
  refine ⟨[t], ?_⟩
  rw [ht]
  congr 1
  exact (fold_more _ 1 _ _ _ hi).1
end Go.Z.Aig
namespace Go.Proofs.Ytmdmffpfnijahaa
open Go Go.Z Go.Z.Aig

theorem eqPair (d : Nat) (a b c e : Int) (w : World) : (Op.equalIn (d + 2) 53 (.agg #[.int .i64 a, .int .i64 b]) (.agg #[.int .i64 c, .int .i64 e])).run Try.prog w = .ok (decide (a = c) && decide (b = e)) w := by
  obtain ⟨i, _, _, _, hi, _⟩ := TyC.run_info (ty22)
  have hg : ∀ w, (isAgg 22).run Try.prog w = .ok false w := fun w => TyC.run_agg (ty22) w
  have hu : Try.prog.underlying 22 = some (.int .i64) := Try.underlying22
  rw [run_equalIn_array w (d + 1) (n := 2) (e := 22) _ _ Try.underlying53 hi]
  have hr : List.range 2 = [0, 1] := rfl
  have hc : Try.prog.cellsOf 22 = 1 := by kernel_rfl
  have e1 : ∀ i j : Int, (i == j) = decide (i = j) := fun i j => rfl
  rw [hr, hc]
  simp only [Op.eqItems, part, Sem.run_bind, hg, Result.andThen_ok]
  by_cases h1 : a = c <;> by_cases h2 : b = e <;> simp [run_equalIn_int, hu, hg, h1, h2]

def encP (q : Int × Int) : List Value := [.int .i64 q.1, .int .i64 q.2]
theorem encP_len (q : Int × Int) : (encP q).length = 2 := rfl
theorem gate1_at {S : St} {k : Nat} {x y : Int} {z : Bool} (hk : 0 < k) (h : S[k]? = some (x, y, z)) : gate1 S (k : Int) = (if z then (0, 0, false) else (x, y, true)) := by
  unfold gate1; rw [if_pos (by omega), Int.toNat_natCast, h]; cases z <;> rfl

theorem gate_at {ρ : Nat → Obj → Prop} {p : Nat} {S : St} {v x y : Int} {z : Bool} (h : gate1 S v = (x, y, z)) (hv : I64 v) (hg : Ro ρ (Gr p S)) :
    Con Try.prog ρ 21 #[.pointer (some ⟨p, 0, none⟩), .int .i64 v] [] (fun u H => u = .tuple #[.int .i64 x, .int .i64 y, .bool z] ∧ H = []) := by
  have := gate_ok (ρ := ρ) p S v hv hg; rw [h] at this; exact this

theorem shares_ok {ρ : Nat → Obj → Prop} (a : Option Addr) (c : Nat) (l : List Call) (hl : RSl ρ 4 a l.length (l.flatMap encC)) (hlc : l.length ≤ c) (hx : ∀ x ∈ l, x.ok) (i : Int) :
    Con Try.prog ρ 6 #[.slice a l.length c, .int .u64 i] [] (fun v _ => v = .bool true) := by
  refine con_intro Try.func6 Try.call6 rfl Try.ntmps6 rfl (L := [(0, _), (1, _)]) rfl fun w hh => ?_
  refine g_seq ?_
  refine g_region ?_
  refine g_pure (p_assign rfl) rfl ?_
  refine g_nil ?_
  refine g_qt ?_
  refine g_seq ?_
  refine g_seq ?_
  refine g_region ?_
  refine g_pure (p_move rfl) rfl ?_
  refine g_pure (p_len (by rfl) rfl) rfl ?_
  refine g_pure (p_gtr rfl rfl) rfl ?_
  refine g_nil ?_
  refine g_qt ?_
  refine g_join (fun s : List Call × Nat => [(0, .slice a s.1.length s.2), (1, .int .u64 i)]) (fun _ => []) (fun s => RSl ρ 4 a s.1.length (s.1.flatMap encC) ∧ (∀ x ∈ s.1, x.ok) ∧ s.1.length ≤ 60) ?_ ?_
  · refine g_ifd rfl (fun h => ?_) (fun h => ?_)
    · refine g_region ?_
      refine g_pure (p_move rfl) rfl ?_
      refine g_pure (p_sliceh rfl rfl (by omega)) rfl ?_
      refine g_pure (p_assign rfl) rfl ?_
      refine g_nil ?_
      refine g_qn ?_
      have e60 : ((60 : Int)).toNat = (l.take 60).length := by rw [List.length_take]; omega
      rw [e60]
      exact g_joined (l.take 60, c) (by repeat (first | exact trivial | refine ⟨by rfl, ?_⟩)) (by repeat' (first | exact Cover.nil | exact Take.here | apply Cover.cons | apply Take.there)) ⟨hl.pre encC_len (by omega), fun x hx' => hx x (List.mem_of_mem_take hx'), by rw [List.length_take]; omega⟩
    · refine g_skip ?_
      refine g_qn ?_
      exact g_joined (l, c) (by repeat (first | exact trivial | refine ⟨by rfl, ?_⟩)) (by repeat' (first | exact Cover.nil | exact Take.here | apply Cover.cons | apply Take.there)) ⟨hl, hx, by dsimp only; omega⟩
  rintro ⟨l', c'⟩ ⟨hl', hx', h60⟩
  dsimp only at hl' hx' h60 ⊢
  refine g_qt ?_
  refine g_seq ?_
  refine g_region ?_
  refine g_pure (p_move rfl) rfl ?_
  refine g_call (Hin := []) (Hr := ?hr1) (R := ?rr1) rfl rfl rfl ?hin1 ?hc1 ?hk1
  case hin1 => repeat' (first | exact Cover.nil | exact Take.here | apply Cover.cons | apply Take.there)
  case hc1 => intro ρ' hρ hR; exact built_ok a c' l' (hl'.mono hρ) (by omega) hx'
  rintro _ _ ⟨p, m, rfl, rfl⟩
  refine g_pure (p_move rfl) rfl ?_
  refine g_pure (p_extract rfl rfl) rfl ?_
  refine g_pure (p_extract rfl rfl) rfl ?_
  refine g_pure (p_extract rfl rfl) rfl ?_
  refine g_pure (p_assign rfl) rfl ?_
  refine g_pure (p_assign rfl) rfl ?_
  refine g_pure (p_assign rfl) rfl ?_
  refine g_nil ?_
  refine g_qt ?_
  refine g_seq ?_
  refine g_seq ?_
  refine g_region ?_
  refine g_pure (p_move rfl) rfl ?_
  refine g_pure (p_not rfl) rfl ?_
  refine g_nil ?_
  refine g_qt ?_
  refine g_iff rfl ?_
  refine g_skip ?_
  refine g_qt ?_
  refine g_seq ?_
  refine g_region ?_
  refine g_pure (p_assign rfl) rfl ?_
  refine g_nil ?_
  refine g_qt ?_
  refine g_seq ?_
  refine g_seq ?_
  refine g_region ?_
  refine g_pure (p_assign rfl) rfl ?_
  refine g_nil ?_
  refine g_qt ?_
  refine g_block ?_
  have hal := after_le l'
  refine gr_wf .here fun hw => ?_
  generalize after l' = S at *
  have hpos := hw.pos
  have hil := ins_le S 0
  refine g_ownnil (e := 53) (size := 2) ?_
  refine g_loop (fun s : Nat × Option Addr × Nat × List (Int × Int) => [(1, .int .u64 i), (5, .pointer (some ⟨p, 0, none⟩)), (6, .pointer (some ⟨m, 0, none⟩)), (8, .slice s.2.1 s.2.2.2.length s.2.2.1), (9, .int .i64 s.1)])
    (fun s => [OwnSl 53 2 s.2.1 s.2.2.2.length s.2.2.1 (s.2.2.2.flatMap encP), Gr p S, Rf m S]) (fun s => 0 < s.1 ∧ s.1 ≤ S.length ∧ s.2.2.2.length ≤ s.1 ∧ ∀ q ∈ s.2.2.2, ∃ u, 0 < u ∧ u < s.1 ∧ S[u]? = some (q.1, q.2, false)) (fun s => S.length - s.1) (1, none, 0, []) ⟨Nat.one_pos, hpos, Nat.zero_le _, fun q hq => absurd hq List.not_mem_nil⟩ (by repeat (first | exact trivial | refine ⟨by rfl, ?_⟩)) (by repeat' (first | exact Cover.nil | exact Take.here | apply Cover.cons | apply Take.there)) ?_
  rintro ⟨k, pa, pc, PL⟩ ⟨hk0, hk, hpl, hq⟩
  dsimp only at hk0 hk hpl hq ⊢
  refine g_seq ?_
  refine g_seq ?_
  refine g_region ?_
  refine g_pure (p_move rfl) rfl ?_
  refine g_pure (p_move rfl) rfl ?_
  refine g_call (Hin := []) (Hr := ?hr2) (R := ?rr2) rfl rfl rfl ?hin2 ?hc2 ?hk2
  case hin2 => repeat' (first | exact Cover.nil | exact Take.here | apply Cover.cons | apply Take.there)
  case hc2 => intro ρ' hρ hR; exact glen_ok p S hR.2.1
  rintro _ _ ⟨rfl, rfl⟩
  refine g_pure (p_lss rfl rfl) rfl ?_
  refine g_nil ?_
  refine g_qt ?_
  refine g_ifd rfl (fun h => ?_) (fun h => ?_)
  · have hkl : k < S.length := by omega
    obtain ⟨⟨x, y, z⟩, hsq⟩ : ∃ q, S[k] = q := ⟨_, rfl⟩
    have hsk : S[k]? = some (x, y, z) := by rw [List.getElem?_eq_getElem hkl, hsq]
    have hg := gate1_at hk0 hsk
    refine g_skip ?_
    refine g_qt ?_
    refine g_seq ?_
    refine g_block ?_
    refine g_seq ?_
    refine g_region ?_
    refine g_pure (p_move rfl) rfl ?_
    refine g_pure (p_move rfl) rfl ?_
    cases z with
    | true =>
      rw [if_pos rfl] at hg
      refine g_call (Hin := []) (Hr := ?hr3) (R := ?rr3) rfl rfl rfl ?hin3 ?hc3 ?hk3
      case hin3 => repeat' (first | exact Cover.nil | exact Take.here | apply Cover.cons | apply Take.there)
      case hc3 => intro ρ' hρ hR; exact gate_at hg (by unfold I64; omega) hR.2.1
      rintro _ _ ⟨rfl, rfl⟩
      refine g_pure (p_move rfl) rfl ?_
      refine g_pure (p_extract rfl rfl) rfl ?_
      refine g_pure (p_extract rfl rfl) rfl ?_
      refine g_pure (p_extract rfl rfl) rfl ?_
      refine g_pure (p_assign rfl) rfl ?_
      refine g_pure (p_assign rfl) rfl ?_
      refine g_pure (p_assign rfl) rfl ?_
      refine g_nil ?_
      refine g_qt ?_
      refine g_seq ?_
      refine g_seq ?_
      refine g_region ?_
      refine g_pure (p_move rfl) rfl ?_
      refine g_pure (p_not rfl) rfl ?_
      refine g_nil ?_
      refine g_qt ?_
      refine g_ift rfl ?_
      refine g_exit ?_
      refine g_qt_exit ?_
      refine g_qb_exit ?_
      refine g_qt ?_
      refine g_region ?_
      refine g_pure (p_move rfl) rfl ?_
      first | refine g_pure (p_addi rfl rfl (by omega)) rfl ?_ | refine g_pure (p_add rfl rfl) rfl ?_
      refine g_pure (p_assign rfl) rfl ?_
      refine g_nil ?_
      refine g_qn ?_
      exact g_next (k + 1, pa, pc, PL) (by repeat (first | exact trivial | refine ⟨by rfl, ?_⟩)) (by repeat' (first | exact Cover.nil | exact Take.here | apply Cover.cons | apply Take.there)) ⟨by dsimp only; omega, by dsimp only; omega, by dsimp only; omega, fun q hq' => by obtain ⟨u, u1, u2, u3⟩ := hq q hq'; exact ⟨u, u1, by dsimp only; omega, u3⟩⟩ (by dsimp only; omega)
    | false =>
      rw [if_neg (by simp)] at hg
      refine g_call (Hin := []) (Hr := ?hr4) (R := ?rr4) rfl rfl rfl ?hin4 ?hc4 ?hk4
      case hin4 => repeat' (first | exact Cover.nil | exact Take.here | apply Cover.cons | apply Take.there)
      case hc4 => intro ρ' hρ hR; exact gate_at hg (by unfold I64; omega) hR.2.1
      rintro _ _ ⟨rfl, rfl⟩
      refine g_pure (p_move rfl) rfl ?_
      refine g_pure (p_extract rfl rfl) rfl ?_
      refine g_pure (p_extract rfl rfl) rfl ?_
      refine g_pure (p_extract rfl rfl) rfl ?_
      refine g_pure (p_assign rfl) rfl ?_
      refine g_pure (p_assign rfl) rfl ?_
      refine g_pure (p_assign rfl) rfl ?_
      refine g_nil ?_
      refine g_qt ?_
      refine g_seq ?_
      refine g_seq ?_
      refine g_region ?_
      refine g_pure (p_move rfl) rfl ?_
      refine g_pure (p_not rfl) rfl ?_
      refine g_nil ?_
      refine g_qt ?_
      refine g_iff rfl ?_
      refine g_skip ?_
      refine g_qt ?_
      refine g_seq ?_
      refine g_seq ?_
      refine g_region ?_
      refine g_pure (p_move rfl) rfl ?_
      refine g_pure (p_lss rfl rfl) rfl ?_
      refine g_pure (p_move rfl) rfl ?_
      obtain ⟨g1, g2, g3⟩ := hw.gate k x y hk0 hsk
      rw [decide_eq_false (show ¬ x < 2 by omega)]
      refine g_yes rfl rfl ?_
      refine g_pure (p_move rfl) rfl ?_
      refine g_yes rfl rfl ?_
      refine g_pure (p_move rfl) rfl ?_
      refine g_yes rfl rfl ?_
      refine g_pure (p_geq rfl rfl) rfl ?_
      first | refine g_pure (p_pickt rfl rfl) rfl ?_ | refine g_pure (p_pickf rfl rfl) rfl ?_
      refine g_pure (p_move rfl) rfl ?_
      rw [decide_eq_false (show ¬ y ≤ x by omega)]
      refine g_yes rfl rfl ?_
      refine g_pure (p_move rfl) rfl ?_
      refine g_yes rfl rfl ?_
      refine g_pure (p_move rfl) rfl ?_
      refine g_yes rfl rfl ?_
      first | refine g_pure (p_muli rfl rfl (by omega)) rfl ?_ | refine g_pure (p_mul rfl rfl) rfl ?_
      refine g_yes rfl rfl ?_
      refine g_pure (p_geq rfl rfl) rfl ?_
      first | refine g_pure (p_pickt rfl rfl) rfl ?_ | refine g_pure (p_pickf rfl rfl) rfl ?_
      refine g_nil ?_
      refine g_qt ?_
      rw [decide_eq_false (show ¬ 2 * (k : Int) ≤ y by omega)]
      refine g_iff rfl ?_
      refine g_skip ?_
      refine g_qt ?_
      refine g_seq ?_
      refine g_seq ?_
      refine g_region ?_
      refine g_pure (p_assign rfl) rfl ?_
      refine g_nil ?_
      refine g_qt ?_
      refine g_block ?_
      refine g_loop (fun j : Nat => [(1, .int .u64 i), (5, .pointer (some ⟨p, 0, none⟩)), (6, .pointer (some ⟨m, 0, none⟩)), (8, .slice pa PL.length pc), (9, .int .i64 k), (10, .int .i64 x), (11, .int .i64 y), (13, .int .i64 j)])
        (fun _ => [OwnSl 53 2 pa PL.length pc (PL.flatMap encP), Gr p S, Rf m S]) (fun j => j ≤ PL.length) (fun j => PL.length - j) 0 (Nat.zero_le _) (by repeat (first | exact trivial | refine ⟨by rfl, ?_⟩)) (by repeat' (first | exact Cover.nil | exact Take.here | apply Cover.cons | apply Take.there)) fun j hj => ?_
      refine g_seq ?_
      refine g_seq ?_
      refine g_region ?_
      refine g_pure (p_move rfl) rfl ?_
      refine g_pure (p_move rfl) rfl ?_
      refine g_pure (p_len (by rfl) rfl) rfl ?_
      refine g_pure (p_lss rfl rfl) rfl ?_
      refine g_nil ?_
      refine g_qt ?_
      refine g_ifd rfl (fun r => ?_) (fun r => ?_)
      · have hjl : j < PL.length := by omega
        refine g_own .here (fun _ h _ _ => absurd h (by omega)) ?_
        rintro gp cur rfl o1 o2 o3 o4 o5
        obtain ⟨q1, q2⟩ := rows_at encP 2 encP_len PL j hjl
        rw [← o4] at q1 q2
        obtain ⟨u, u1, u2, u3⟩ := hq PL[j] (List.getElem_mem hjl)
        obtain ⟨⟨x', y'⟩, hpq⟩ : ∃ q, PL[j] = q := ⟨_, rfl⟩
        rw [hpq] at q1 u3
        have hsub : sub cur (0 + (j : Int).toNat * 2) 2 = some [.int .i64 x', .int .i64 y'] := by
          refine sub_take (N := PL.length * 2) ?_
          unfold sub
          rw [if_pos (by rw [Int.toNat_natCast, Nat.zero_add]; exact q2), Int.toNat_natCast, Nat.zero_add, q1]; rfl
        have hne : (decide (x' = x) && decide (y' = y)) = false := by
          cases hd : (decide (x' = x) && decide (y' = y)) with
          | false => rfl
          | true =>
            simp at hd
            rw [hd.1, hd.2] at u3
            have := hw.one u k x y u1 hk0 u3 hsk
            omega
        refine g_skip ?_
        refine g_qt ?_
        refine g_seq ?_
        refine g_block ?_
        refine g_seq ?_
        refine g_region ?_
        refine g_pure (p_move rfl) rfl ?_
        refine g_pure (p_move rfl) rfl ?_
        refine g_pure (p_indexAddr rfl rfl (by omega) (fun _ => rfl)) rfl ?_
        refine g_pure (p_loadN (by rfl) rfl (Has.own (by repeat' (first | exact Take.here | apply Take.there))) hsub) rfl ?_
        refine g_pure (p_move rfl) rfl ?_
        refine g_pure (p_move rfl) rfl ?_
        refine g_pure (p_buildA (he := ty22) (by rfl) (by rfl) rfl (by rfl)) rfl ?_
        refine g_pure (p_eqagg (eqPair 9998 x' y' x y) (by kernel_rfl) rfl rfl) rfl ?_
        refine g_nil ?_
        refine g_qt ?_
        rw [hne]
        refine g_iff rfl ?_
        refine g_skip ?_
        refine g_qb ?_
        refine g_qt ?_
        refine g_region ?_
        refine g_pure (p_move rfl) rfl ?_
        first | refine g_pure (p_addi rfl rfl (by omega)) rfl ?_ | refine g_pure (p_add rfl rfl) rfl ?_
        refine g_pure (p_assign rfl) rfl ?_
        refine g_nil ?_
        refine g_qn ?_
        refine g_fold (k := PL.length) (cap := pc) (size := 2) .here o1 o2 o3 o4 ?_
        exact g_next (j + 1) (by repeat (first | exact trivial | refine ⟨by rfl, ?_⟩)) (by repeat' (first | exact Cover.nil | exact Take.here | apply Cover.cons | apply Take.there)) (by omega) (by omega)
      · refine g_exit ?_
        refine g_qt_exit ?_
        refine g_qn_exit ?_
        refine g_qb_exit ?_
        refine g_qt ?_
        refine g_region ?_
        refine g_pure (p_move rfl) rfl ?_
        refine g_pure (p_move rfl) rfl ?_
        refine g_pure (p_move rfl) rfl ?_
        refine g_pure (p_buildA (he := ty22) (by rfl) (by rfl) rfl (by rfl)) rfl ?_
        refine g_eff (e_bs (xs := [.tmp 81]) rfl rfl rfl (by rfl) (by rfl) rfl (by rfl)) rfl (fun _ _ => ?_)
        rintro ⟨b82, rfl, rfl⟩
        refine g_eff (e_appendO (by rfl) (by rfl) rfl rfl (by first | (apply Has.own; (repeat' (first | exact Take.here | apply Take.there)); done) | exact Has.ro (by assumption)) (by rfl) (by rfl) (by repeat' (first | exact Take.here | apply Take.there)) (by omega) (by first | omega | (dsimp only; omega) | (simp <;> omega)) (by omega)) rfl (fun _ _ => ?_)
        rintro ⟨a83, c83, rfl, rfl⟩
        refine g_pure (p_assign rfl) rfl ?_
        refine g_nil ?_
        refine g_qb ?_
        refine g_qt ?_
        refine g_region ?_
        refine g_pure (p_move rfl) rfl ?_
        first | refine g_pure (p_addi rfl rfl (by omega)) rfl ?_ | refine g_pure (p_add rfl rfl) rfl ?_
        refine g_pure (p_assign rfl) rfl ?_
        refine g_nil ?_
        refine g_qn ?_
        have e1 : PL.flatMap encP ++ [Value.int .i64 x, Value.int .i64 y] = (PL ++ [(x, y)]).flatMap encP := by simp [encP]
        have e2 : PL.length + 1 = (PL ++ [(x, y)]).length := by simp
        rw [e1, e2]
        exact g_next (k + 1, _, _, PL ++ [(x, y)]) (by repeat (first | exact trivial | refine ⟨by rfl, ?_⟩)) (by repeat' (first | exact Cover.nil | exact Take.here | apply Cover.cons | apply Take.there)) ⟨by dsimp only; omega, by dsimp only; omega, by simp; omega, fun q hq' => by
          rcases List.mem_append.1 hq' with h | h
          · obtain ⟨u, u1, u2, u3⟩ := hq q h; exact ⟨u, u1, by dsimp only; omega, u3⟩
          · rw [List.mem_singleton.1 h]; exact ⟨k, hk0, by dsimp only; omega, hsk⟩⟩ (by dsimp only; omega)
  · refine g_ownnil (e := 4) (size := 1) ?_
    refine g_exit ?_
    refine g_qt_exit ?_
    refine g_qn_exit ?_
    refine g_qb_exit ?_
    refine g_qt ?_
    refine g_seq ?_
    refine g_region ?_
    refine g_pure (p_assign rfl) rfl ?_
    refine g_nil ?_
    refine g_qt ?_
    refine g_seq ?_
    refine g_seq ?_
    refine g_region ?_
    refine g_pure (p_assign rfl) rfl ?_
    refine g_nil ?_
    refine g_qt ?_
    refine g_block ?_
    refine g_loop (fun s : Nat × Option Addr × Nat × List Bool => [(1, .int .u64 i), (5, .pointer (some ⟨p, 0, none⟩)), (6, .pointer (some ⟨m, 0, none⟩)), (14, .slice s.2.1 s.1 s.2.2.1), (15, .int .i64 s.1)])
      (fun s => [OwnSl 4 1 s.2.1 s.1 s.2.2.1 (s.2.2.2.map encB), Gr p S, Rf m S]) (fun s => s.1 ≤ (ins 0 S).length ∧ s.2.2.2.length = s.1) (fun s => (ins 0 S).length - s.1) (0, none, 0, []) ⟨Nat.zero_le _, rfl⟩ (by repeat (first | exact trivial | refine ⟨by rfl, ?_⟩)) (by repeat' (first | exact Cover.nil | exact Take.here | apply Cover.cons | apply Take.there)) ?_
    rintro ⟨k2, va, vc, V⟩ ⟨hk2, hV⟩
    dsimp only at hk2 hV ⊢
    refine g_seq ?_
    refine g_seq ?_
    refine g_region ?_
    refine g_pure (p_move rfl) rfl ?_
    refine g_pure (p_move rfl) rfl ?_
    refine g_call (Hin := []) (Hr := ?hr5) (R := ?rr5) rfl rfl rfl ?hin5 ?hc5 ?hk5
    case hin5 => repeat' (first | exact Cover.nil | exact Take.here | apply Cover.cons | apply Take.there)
    case hc5 => intro ρ' hρ hR; exact rinputs_ok m S hw hR.2.2.1
    rintro _ _ ⟨ia, ic, rfl, rfl⟩
    refine g_pure (p_len (by rfl) rfl) rfl ?_
    refine g_pure (p_lss rfl rfl) rfl ?_
    refine g_nil ?_
    refine g_qt ?_
    refine g_ifd rfl (fun q => ?_) (fun q => ?_)
    · have hkl : k2 < (ins 0 S).length := by omega
      refine g_skip ?_
      refine g_qt ?_
      refine g_seq ?_
      refine g_block ?_
      refine g_region ?_
      refine g_pure (p_move rfl) rfl ?_
      refine g_pure (p_move rfl) rfl ?_
      refine g_pure (p_move rfl) rfl ?_
      first | refine g_pure (p_remn rfl rfl (by omega) (by omega)) rfl ?_ | refine g_pure (p_rem rfl rfl (by omega)) rfl ?_
      refine g_pure (p_conv (by rfl) rfl) rfl ?_
      refine g_pure (p_shr rfl rfl (u64_pos _)) rfl ?_
      refine g_pure (p_and rfl rfl) rfl ?_
      refine g_pure (p_eql rfl rfl) rfl ?_
      refine g_eff (e_bs (xs := [.tmp 98]) rfl rfl rfl (by rfl) (by rfl) rfl (by rfl)) rfl (fun _ _ => ?_)
      rintro ⟨b99, rfl, rfl⟩
      refine g_eff (e_appendO (by rfl) (by rfl) rfl rfl (by first | (apply Has.own; (repeat' (first | exact Take.here | apply Take.there)); done) | exact Has.ro (by assumption)) (by rfl) (by rfl) (by repeat' (first | exact Take.here | apply Take.there)) (by omega) (by first | omega | (dsimp only; omega) | (simp <;> omega)) (by omega)) rfl (fun _ _ => ?_)
      rintro ⟨a100, c100, rfl, rfl⟩
      refine g_pure (p_assign rfl) rfl ?_
      refine g_nil ?_
      refine g_qb ?_
      refine g_qt ?_
      refine g_region ?_
      refine g_pure (p_move rfl) rfl ?_
      first | refine g_pure (p_addi rfl rfl (by omega)) rfl ?_ | refine g_pure (p_add rfl rfl) rfl ?_
      refine g_pure (p_assign rfl) rfl ?_
      refine g_nil ?_
      refine g_qn ?_
      rw [snocB]
      exact g_next (k2 + 1, _, _, V ++ [_]) (by repeat (first | exact trivial | refine ⟨by rfl, ?_⟩)) (by repeat' (first | exact Cover.nil | exact Take.here | apply Cover.cons | apply Take.there)) ⟨by dsimp only; omega, by simp [hV]⟩ (by dsimp only; omega)
    · have hke : k2 = (ins 0 S).length := by omega
      subst hke
      rw [← hV]
      refine g_exit ?_
      refine g_qt_exit ?_
      refine g_qn_exit ?_
      refine g_qb_exit ?_
      refine g_qt ?_
      refine g_seq ?_
      refine g_region ?_
      refine g_pure (p_move rfl) rfl ?_
      refine g_call (Hin := []) (Hr := ?hr6) (R := ?rr6) rfl rfl rfl ?hin6 ?hc6 ?hk6
      case hin6 => repeat' (first | exact Cover.nil | exact Take.here | apply Cover.cons | apply Take.there)
      case hc6 => intro ρ' hρ hR; exact rlen_ok m S hR.2.2.2.1
      rintro _ _ ⟨rfl, rfl⟩
      first | refine g_pure (p_muli rfl rfl (by omega)) rfl ?_ | refine g_pure (p_mul rfl rfl) rfl ?_
      first | refine g_pure (p_subi rfl rfl (by omega)) rfl ?_ | refine g_pure (p_sub rfl rfl) rfl ?_
      refine g_pure (p_assign rfl) rfl ?_
      refine g_nil ?_
      refine g_qt ?_
      refine g_seq ?_
      refine g_region ?_
      refine g_pure (p_move rfl) rfl ?_
      refine g_pure (p_move rfl) rfl ?_
      refine g_pure (p_move rfl) rfl ?_
      refine g_eff (e_bs (xs := [.tmp 108]) rfl rfl rfl (by rfl) (by rfl) rfl (by rfl)) rfl (fun _ _ => ?_)
      rintro ⟨b109, rfl, rfl⟩
      have hT : has S (2 * (S.length : Int) - 2) := ⟨by omega, by omega⟩
      have iT : I64 (2 * (S.length : Int) - 2) := has_i64 hw hT
      have hS2 : has (S ++ [((0 : Int), (0 : Int), true)]) (2 * (S.length : Int) - 2) := has_snoc hT
      have ein : input1 S = (2 * (S.length : Int), 0, S ++ [(0, 0, true)]) := by unfold input1 add; rw [if_neg (by omega)]
      obtain ⟨t, ht⟩ := vals_more hw hV true
      have ev1 : eval1 S V [2 * (S.length : Int) - 2] = ([litv (vals S V) (2 * (S.length : Int) - 2)], 0) := by
        unfold eval1
        rw [if_neg (by rw [hV]; simp), if_pos (by simp [hasB_iff.2 hT])]; rfl
      have ev2 : eval1 (S ++ [(0, 0, true)]) (V ++ [true]) [2 * (S.length : Int) - 2] = ([litv (vals S V) (2 * (S.length : Int) - 2)], 0) := by
        unfold eval1
        rw [if_neg (by rw [ins_append, List.length_append, List.length_append, hV]; simp [ins]), if_pos (by simp [hasB_iff.2 hS2])]
        show ([litv _ _], (0 : Int)) = _
        rw [ht, litv_pre (by rw [vals_len hw]; omega)]
      generalize 2 * (S.length : Int) - 2 = top at *
      generalize litv (vals S V) top = B at *
      refine g_call (Hin := []) (Hr := ?hr7) (R := ?rr7) rfl rfl rfl ?hin7 ?hc7 ?hk7
      case hin7 => repeat' (first | exact Cover.nil | exact Take.here | apply Cover.cons | apply Take.there)
      case hc7 => intro ρ' hρ hR; exact eval_at (inp := V) (ls := [top]) ev1 (.of_own hR.2.2.1) (.of_blk hR.1.blk (by simp)) (by simp) (by omega) (by simpa [I64] using iT) hR.2.2.2.1
      rintro _ _ ⟨ra, rc, rfl, rfl⟩
      refine g_pure (p_move rfl) rfl ?_
      refine g_pure (p_extract rfl rfl) rfl ?_
      refine g_pure (p_extract rfl rfl) rfl ?_
      refine g_pure (p_assign rfl) rfl ?_
      refine g_pure (p_assign rfl) rfl ?_
      refine g_nil ?_
      refine g_qt ?_
      refine g_seq ?_
      refine g_region ?_
      refine g_pure (p_move rfl) rfl ?_
      refine g_call (Hin := ?hi8) (Hr := ?hr8) (R := ?rr8) rfl rfl rfl ?hin8 ?hc8 ?hk8
      case hc8 => intro ρ' hρ hR; exact input_at ein
      case hin8 => repeat' (first | exact Cover.nil | exact Take.here | apply Cover.cons | apply Take.there)
      rintro _ _ ⟨rfl, rfl⟩
      refine g_pure (p_move rfl) rfl ?_
      refine g_pure (p_extract rfl rfl) rfl ?_
      refine g_pure (p_extract rfl rfl) rfl ?_
      refine g_pure (p_assign rfl) rfl ?_
      refine g_pure (p_assign rfl) rfl ?_
      refine g_nil ?_
      refine g_qt ?_
      refine g_seq ?_
      refine g_region ?_
      refine g_pure (p_move rfl) rfl ?_
      refine g_pure (p_move rfl) rfl ?_
      refine g_eff (e_bs (xs := [.const (.bool true)]) rfl rfl rfl (by rfl) (by rfl) rfl (by rfl)) rfl (fun _ _ => ?_)
      rintro ⟨b121, rfl, rfl⟩
      refine g_eff (e_appendO (by rfl) (by rfl) rfl rfl (by first | (apply Has.own; (repeat' (first | exact Take.here | apply Take.there)); done) | exact Has.ro (by assumption)) (by rfl) (by rfl) (by repeat' (first | exact Take.here | apply Take.there)) (by omega) (by first | omega | (dsimp only; omega) | (simp <;> omega)) (by omega)) rfl (fun _ _ => ?_)
      rintro ⟨a122, c122, rfl, rfl⟩
      refine g_pure (p_move rfl) rfl ?_
      refine g_eff (e_bs (xs := [.tmp 123]) rfl rfl rfl (by rfl) (by rfl) rfl (by rfl)) rfl (fun _ _ => ?_)
      rintro ⟨b124, rfl, rfl⟩
      rw [snocB, show V.length + 1 = (V ++ [true]).length by simp]
      refine g_call (Hin := []) (Hr := ?hr9) (R := ?rr9) rfl rfl rfl ?hin9 ?hc9 ?hk9
      case hin9 => repeat' (first | exact Cover.nil | exact Take.here | apply Cover.cons | apply Take.there)
      case hc9 => intro ρ' hρ hR; exact eval_at (inp := V ++ [true]) (ls := [top]) ev2 (.of_own hR.2.1) (.of_blk hR.1.blk (by simp)) (by simp) (by simp; omega) (by simpa [I64] using iT) hR.2.2.2.1
      rintro _ _ ⟨rb, rd, rfl, rfl⟩
      refine g_pure (p_move rfl) rfl ?_
      refine g_pure (p_extract rfl rfl) rfl ?_
      refine g_pure (p_extract rfl rfl) rfl ?_
      refine g_pure (p_assign rfl) rfl ?_
      refine g_own .here (fun _ h _ _ => absurd h (by simp)) (fun gb cb e5 _ _ _ htb _ => ?_)
      subst e5
      refine g_own (.there (.there (.there (.there (.there .here))))) (fun _ h _ _ => absurd h (by simp)) (fun ga ca e6 _ _ _ hta _ => ?_)
      subst e6
      have xb : cb[0 + (0 : Int).toNat * 1]? = some (encB B) := own_at (k := 0) htb (by simp) rfl
      have xa : ca[0 + (0 : Int).toNat * 1]? = some (encB B) := own_at (k := 0) hta (by simp) rfl
      have eb : (B == B) = true := by simp
      refine g_pure (p_assign rfl) rfl ?_
      refine g_nil ?_
      refine g_qt ?_
      refine g_seq ?_
      refine m_begin0 [(0, 0), (1, 0), (2, 0), (3, 0), (4, 0), (5, 0), (6, 0), (7, 0), (8, 0), (9, 0), (10, 0), (11, 0), (12, 0), (13, 0), (14, 0), (15, 0), (16, 0), (17, 0), (18, 0), (19, 0), (20, 0), (21, 0), (22, 0), (23, 1), (24, 0), (25, 0), (26, 1), (27, 0), (28, 0), (29, 0), (30, 2), (31, 0), (32, 0)] (by kernel_rfl) (by kernel_rfl) ?_
      refine m_float0 rfl (fun _ _ => p_move rfl) rfl ?_
      refine m_float0 rfl (fun _ _ => p_eql rfl rfl) rfl ?_
      refine m_float0 rfl (fun _ _ => p_move rfl) rfl ?_
      refine m_yes0 rfl rfl rfl (fun _ _ => p_move rfl) rfl ?_
      refine m_yes0 rfl rfl rfl (fun _ _ => p_eql rfl rfl) rfl ?_
      first | refine m_float0 rfl (fun _ _ => p_pickt rfl rfl) rfl ?_ | refine m_float0 rfl (fun _ _ => p_pickf rfl rfl) rfl ?_
      refine m_float0 rfl (fun _ _ => p_move rfl) rfl ?_
      refine m_yes0 rfl rfl rfl (fun _ _ => p_move rfl) rfl ?_
      refine m_yes0 rfl rfl rfl (fun _ _ => p_eql rfl rfl) rfl ?_
      first | refine m_float0 rfl (fun _ _ => p_pickt rfl rfl) rfl ?_ | refine m_float0 rfl (fun _ _ => p_pickf rfl rfl) rfl ?_
      refine m_float0 rfl (fun _ _ => p_move rfl) rfl ?_
      refine m_yes0 rfl rfl rfl (fun _ _ => p_move rfl) rfl ?_
      refine m_yes0 rfl rfl rfl (fun _ _ => p_len (by rfl) rfl) rfl ?_
      refine m_yes0 rfl rfl rfl (fun _ _ => p_eql rfl rfl) rfl ?_
      first | refine m_float0 rfl (fun _ _ => p_pickt rfl rfl) rfl ?_ | refine m_float0 rfl (fun _ _ => p_pickf rfl rfl) rfl ?_
      refine m_float0 rfl (fun _ _ => p_move rfl) rfl ?_
      refine m_yes0 rfl rfl rfl (fun _ _ => p_move rfl) rfl ?_
      refine m_yes0 rfl rfl rfl (fun _ _ => p_len (by rfl) rfl) rfl ?_
      refine m_yes0 rfl rfl rfl (fun _ _ => p_eql rfl rfl) rfl ?_
      first | refine m_float0 rfl (fun _ _ => p_pickt rfl rfl) rfl ?_ | refine m_float0 rfl (fun _ _ => p_pickf rfl rfl) rfl ?_
      refine m_float0 rfl (fun _ _ => p_move rfl) rfl ?_
      refine m_yes0 rfl rfl rfl (fun _ _ => p_move rfl) rfl ?_
      refine m_yes0 rfl rfl rfl (fun _ _ => p_indexAddr rfl rfl (by simp) (fun _ => rfl)) rfl ?_
      refine m_yes rfl rfl rfl (p_load (by rfl) rfl (Has.own (by repeat' (first | exact Take.here | apply Take.there))) xa) rfl ?_
      refine m_yes0 rfl rfl rfl (fun _ _ => p_move rfl) rfl ?_
      refine m_yes0 rfl rfl rfl (fun _ _ => p_indexAddr rfl rfl (by simp) (fun _ => rfl)) rfl ?_
      refine m_yes rfl rfl rfl (p_load (by rfl) rfl (Has.own (by repeat' (first | exact Take.here | apply Take.there))) xb) rfl ?_
      refine m_yes0 rfl rfl rfl (fun _ _ => p_eqlb (by rfl) rfl rfl) rfl ?_
      first | refine m_float0 rfl (fun _ _ => p_pickt rfl rfl) rfl ?_ | refine m_float0 rfl (fun _ _ => p_pickf rfl rfl) rfl ?_
      refine m_float0 rfl (fun _ _ => p_move rfl) rfl ?_
      rw [eb]
      refine m_call (Hin := []) (Hr := ?hr10) (R := ?rr10) rfl (wantedY rfl rfl) rfl rfl rfl ?hin10 ?hc10 ?hk10
      case hin10 => repeat' (first | exact Cover.nil | exact Take.here | apply Cover.cons | apply Take.there)
      case hc10 => intro ρ' hρ hR; exact lives_ok
      rintro _ _ ⟨rfl, rfl⟩
      refine ⟨.none (by kernel_rfl), ?_⟩
      first | refine m_float0 rfl (fun _ _ => p_pickt rfl rfl) rfl ?_ | refine m_float0 rfl (fun _ _ => p_pickf rfl rfl) rfl ?_
      refine m_float0 rfl (fun _ _ => p_assign rfl) rfl ?_
      refine m_nil ?_
      refine g_qt ?_
      refine g_ret ?_
      exact g_post (rs := [.tmp 4]) rfl (.tmp rfl .nil) rfl .nil
end Go.Proofs.Ytmdmffpfnijahaa
