/- Chapter 37, the document: propagation, models. Conditions: none. -/
import Derived.Test.YtbpgblbhikeglaaU0
namespace Go.Proofs.Ytbpgblbhikeglaa
set_option linter.unusedVariables false
set_option linter.unusedSimpArgs false
set_option linter.unusedSectionVars false
open Go Go.Z Go.Z.Sat

theorem dprop_ok {ρ : Nat → Obj → Prop} {n : Nat} {F : Fm} (hO : Ok n F) (ca : Option Addr) (cc : Nat) (hF : FmR ρ ca F) (A : As) (aa : Option Addr) (ac : Nat) :
    Con Try.prog ρ 24 #[.agg #[.int .i64 n, .slice ca F.length cc], .slice aa (n + 1) ac] [OwnSl 3 1 aa (n + 1) ac (dcells n A)] (fun v H => ∃ b A', v = .bool b ∧ H = [OwnSl 3 1 aa (n + 1) ac (dcells n A')] ∧ (b = false → PR F A none) ∧ (b = true → PR F A (some A'))) := by
  have hvars := hO.vars
  have hlen := hO.len
  refine con_intro Try.func24 Try.call24 rfl Try.ntmps24 rfl (L := [(0, _), (1, _)]) rfl fun w hh => ?_
  refine g_seq ?_
  refine g_region ?_
  refine g_eff (e_box rfl (by rfl)) rfl (fun _ _ => ?_)
  rintro ⟨b2, rfl, rfl⟩
  refine g_pure (p_assign rfl) rfl ?_
  refine g_nil ?_
  refine g_qt ?_
  refine g_seq ?_
  refine g_seq ?_
  refine g_region ?_
  refine g_pure (p_assign rfl) rfl ?_
  refine g_nil ?_
  refine g_qt ?_
  refine g_block ?_
  refine g_loop (fun q : Bool × As => [(1, .slice aa (n + 1) ac), (2, .pointer (some ⟨b2, 0, none⟩)), (5, .bool q.1)])
    (fun q => [OwnSl 3 1 aa (n + 1) ac (dcells n q.2), Blk b2 (.cells [.int .i64 n, .slice ca F.length cc].toArray 24 (0, 0))]) (fun q => Snd F A q.2 ∧ (q.1 = false → Fix F q.2)) (fun q => cnt n q.2 * 2 + if q.1 then 1 else 0) (true, A) ⟨Snd.refl F A, fun h => by cases h⟩ (by repeat (first | exact trivial | refine ⟨by rfl, ?_⟩)) (by repeat' (first | exact Cover.nil | exact Take.here | apply Cover.cons | apply Take.there)) ?_
  rintro ⟨mo, A0⟩ ⟨hS0, hfx⟩
  dsimp only at hS0 hfx ⊢
  refine g_seq ?_
  refine g_seq ?_
  refine g_region ?_
  refine g_pure (p_move rfl) rfl ?_
  refine g_nil ?_
  refine g_qt ?_
  cases mo with
  | false =>
    refine g_iff rfl ?_
    refine g_exit ?_
    refine g_qt_exit ?_
    refine g_qn_exit ?_
    refine g_qb_exit ?_
    refine g_qt ?_
    refine g_seq ?_
    refine g_region ?_
    refine g_pure (p_assign rfl) rfl ?_
    refine g_nil ?_
    refine g_qt ?_
    refine g_ret ?_
    exact g_post (rs := [.tmp 4]) rfl (.tmp rfl .nil) ⟨true, A0, rfl, rfl, (fun h => by cases h), fun _ => hS0.done (hfx rfl)⟩ (by repeat' (first | exact Cover.nil | exact Take.here | apply Cover.cons | apply Take.there))
  | true =>
    refine g_ift rfl ?_
    refine g_skip ?_
    refine g_qt ?_
    refine g_block ?_
    refine g_seq ?_
    refine g_region ?_
    refine g_pure (p_assign rfl) rfl ?_
    refine g_nil ?_
    refine g_qt ?_
    refine g_seq ?_
    refine g_region ?_
    refine g_pure (p_assign rfl) rfl ?_
    refine g_nil ?_
    refine g_qt ?_
    refine g_block ?_
    refine g_loop (fun q : Nat × Bool × As => [(1, .slice aa (n + 1) ac), (2, .pointer (some ⟨b2, 0, none⟩)), (5, .bool q.2.1), (6, .int .i64 q.1)])
      (fun q => [OwnSl 3 1 aa (n + 1) ac (dcells n q.2.2), Blk b2 (.cells [.int .i64 n, .slice ca F.length cc].toArray 24 (0, 0))]) (fun q => q.1 ≤ F.length ∧ Snd F A q.2.2 ∧ (q.2.1 = true → cnt n q.2.2 < cnt n A0) ∧ (q.2.1 = false → cnt n q.2.2 = cnt n A0 ∧ ∀ c ∈ F.take q.1, okc q.2.2 c)) (fun q => F.length - q.1) (0, false, A0) ⟨Nat.zero_le _, hS0, (fun h => by cases h), fun _ => ⟨rfl, fun c h => by simp at h⟩⟩ (by repeat (first | exact trivial | refine ⟨by rfl, ?_⟩)) (by repeat' (first | exact Cover.nil | exact Take.here | apply Cover.cons | apply Take.there)) ?_
    rintro ⟨i, mo, A1⟩ ⟨hi, hS1, hm1, hm2⟩
    dsimp only at hi hS1 hm1 hm2 ⊢
    refine g_seq ?_
    refine g_seq ?_
    refine g_region ?_
    refine g_pure (p_move rfl) rfl ?_
    refine g_pure (p_fieldAddr rfl) rfl ?_
    refine g_pure (p_load (by rfl) rfl (by first | (apply Has.own; (repeat' (first | exact Take.here | apply Take.there)); done) | exact Has.ro (by assumption)) (by first | rfl | assumption)) rfl ?_
    refine g_pure (p_len (by rfl) rfl) rfl ?_
    refine g_pure (p_lss rfl rfl) rfl ?_
    refine g_nil ?_
    refine g_qt ?_
    refine g_ifd rfl (fun q => ?_) (fun q => ?_)
    · have hil : i < F.length := by omega
      obtain ⟨b, off, cs, T1, fz, r1, r2, r3⟩ := hF.at (by omega)
      obtain ⟨ai, ci, x1', hrow⟩ := r3 i hil
      have x1 : cs[off + (i : Int).toNat * 1]? = some (.slice ai F[i].length ci) := x1'
      have hlits := hO.lits _ (List.getElem_mem hil)
      have hcl := hO.lens _ (List.getElem_mem hil)
      have hmem := List.getElem_mem hil
      have hta := fun h => all_take (p := okc A1) hil h
      refine g_skip ?_
      refine g_qt ?_
      refine g_seq ?_
      refine g_block ?_
      refine g_seq ?_
      refine g_region ?_
      refine g_pure (p_move rfl) rfl ?_
      refine g_pure (p_fieldAddr rfl) rfl ?_
      refine g_pure (p_load (by rfl) rfl (by first | (apply Has.own; (repeat' (first | exact Take.here | apply Take.there)); done) | exact Has.ro (by assumption)) (by first | rfl | assumption)) rfl ?_
      refine g_pure (p_move rfl) rfl ?_
      refine g_pure (p_indexAddr rfl rfl (by omega) (fun _ => r1)) rfl ?_
      refine g_pure (p_load (by rfl) rfl (Has.ro r2) x1) rfl ?_
      refine g_call (Hin := []) (Hr := ?hr1) (R := ?rr1) rfl rfl rfl ?hin1 ?hc1 ?hk1
      case hin1 => repeat' (first | exact Cover.nil | exact Take.here | apply Cover.cons | apply Take.there)
      case hc1 => intro ρ' hρ hR; exact look_ok hvars ai ci F[i] (hrow.mono hρ) hcl hlits (.of_own hR.1)
      rintro _ _ ⟨done, k, last, rfl, rfl, hlk⟩
      refine g_pure (p_move rfl) rfl ?_
      refine g_pure (p_extract rfl rfl) rfl ?_
      refine g_pure (p_extract rfl rfl) rfl ?_
      refine g_pure (p_extract rfl rfl) rfl ?_
      refine g_pure (p_assign rfl) rfl ?_
      refine g_pure (p_assign rfl) rfl ?_
      refine g_pure (p_assign rfl) rfl ?_
      refine g_nil ?_
      refine g_qt ?_
      refine g_seq ?_
      refine g_seq ?_
      refine g_region ?_
      refine g_pure (p_move rfl) rfl ?_
      refine g_nil ?_
      refine g_qt ?_
      rcases hlk with ⟨rfl, h⟩ | ⟨rfl, h, h2⟩
      · refine g_ift rfl ?_
        refine g_exit ?_
        refine g_qt_exit ?_
        refine g_qb_exit ?_
        refine g_qt ?_
        refine g_region ?_
        refine g_pure (p_move rfl) rfl ?_
        first | refine g_pure (p_addi rfl rfl (by omega)) rfl ?_ | refine g_pure (p_add rfl rfl) rfl ?_
        refine g_pure (p_assign rfl) rfl ?_
        refine g_nil ?_
        refine g_qn ?_
        exact g_next (i + 1, mo, A1) (by repeat (first | exact trivial | refine ⟨by rfl, ?_⟩)) (by repeat' (first | exact Cover.nil | exact Take.here | apply Cover.cons | apply Take.there)) ⟨by dsimp only; omega, hS1, hm1, fun h' => ⟨(hm2 h').1, hta (hm2 h').2 (.inl h)⟩⟩ (by dsimp only; omega)
      · refine g_iff rfl ?_
        refine g_skip ?_
        refine g_qt ?_
        refine g_seq ?_
        refine g_seq ?_
        refine g_region ?_
        refine g_pure (p_move rfl) rfl ?_
        refine g_pure (p_eql rfl rfl) rfl ?_
        refine g_nil ?_
        refine g_qt ?_
        refine g_ifd rfl (fun k0 => ?_) (fun k0 => ?_)
        · have hall : ∀ l ∈ F[i], lv A1 l = some false := by
            rcases h2 with ⟨_, h2⟩ | ⟨h2, _⟩
            · exact h2
            · exact absurd k0 h2
          refine g_seq ?_
          refine g_region ?_
          refine g_pure (p_assign rfl) rfl ?_
          refine g_nil ?_
          refine g_qt ?_
          refine g_ret ?_
          refine g_qt_ret ?_
          refine g_qb_ret ?_
          refine g_qt_ret ?_
          refine g_qn_ret ?_
          refine g_qb_ret ?_
          refine g_qb_ret ?_
          refine g_qn_ret ?_
          refine g_qb_ret ?_
          refine g_qt_ret ?_
          exact g_post (rs := [.tmp 4]) rfl (.tmp rfl .nil) ⟨false, A1, rfl, rfl, (fun _ => hS1.fail hO.lits hmem hall), fun h => by cases h⟩ (by repeat' (first | exact Cover.nil | exact Take.here | apply Cover.cons | apply Take.there))
        · have hlast : last ∈ F[i] ∧ lv A1 last = none := by
            rcases h2 with ⟨h2, _⟩ | ⟨_, h2⟩
            · exact absurd h2 k0
            · exact h2
          have hll := hlits _ hlast.1
          obtain ⟨h0, hl1, hl2⟩ := id hll
          refine g_skip ?_
          refine g_qt ?_
          refine g_seq ?_
          refine g_region ?_
          refine g_pure (p_move rfl) rfl ?_
          refine g_pure (p_fieldAddr rfl) rfl ?_
          refine g_pure (p_load (by rfl) rfl (by first | (apply Has.own; (repeat' (first | exact Take.here | apply Take.there)); done) | exact Has.ro (by assumption)) (by first | rfl | assumption)) rfl ?_
          refine g_pure (p_move rfl) rfl ?_
          refine g_pure (p_indexAddr rfl rfl (by omega) (fun _ => r1)) rfl ?_
          refine g_pure (p_load (by rfl) rfl (Has.ro r2) x1) rfl ?_
          refine g_pure (p_move rfl) rfl ?_
          refine g_call (Hin := []) (Hr := ?hr2) (R := ?rr2) rfl rfl rfl ?hin2 ?hc2 ?hk2
          case hin2 => repeat' (first | exact Cover.nil | exact Take.here | apply Cover.cons | apply Take.there)
          case hc2 => intro ρ' hρ hR; exact only_ok hvars ai ci F[i] (hrow.mono hρ) hcl hlits (.of_own hR.1) last
          rintro _ _ ⟨bo, rfl, rfl, ho1, ho2⟩
          refine g_nil ?_
          refine g_qt ?_
          cases bo with
          | false =>
            refine g_iff rfl ?_
            refine g_skip ?_
            refine g_qb ?_
            refine g_qt ?_
            refine g_region ?_
            refine g_pure (p_move rfl) rfl ?_
            first | refine g_pure (p_addi rfl rfl (by omega)) rfl ?_ | refine g_pure (p_add rfl rfl) rfl ?_
            refine g_pure (p_assign rfl) rfl ?_
            refine g_nil ?_
            refine g_qn ?_
            obtain ⟨m, hm3, hm4, hm5⟩ := ho2 rfl
            exact g_next (i + 1, mo, A1) (by repeat (first | exact trivial | refine ⟨by rfl, ?_⟩)) (by repeat' (first | exact Cover.nil | exact Take.here | apply Cover.cons | apply Take.there)) ⟨by dsimp only; omega, hS1, hm1, fun h' => ⟨(hm2 h').1, hta (hm2 h').2 (.inr ⟨m, hm3, last, hlast.1, hm5, hm4, hlast.2⟩)⟩⟩ (by dsimp only; omega)
          | true =>
            have honly := ho1 rfl
            have hS2 := hS1.unit hO.lits hmem hlast.1 hlast.2 fun m hm hne => by
              cases hv : lv A1 m with
              | none => exact absurd (honly m hm hv) hne
              | some y => cases y with
                | true => exact absurd hv (h m hm)
                | false => rfl
            have hcp := cnt_put hll hlast.2
            have hle : cnt n A1 ≤ cnt n A0 := by
              cases mo with
              | true => exact Nat.le_of_lt (hm1 rfl)
              | false => exact Nat.le_of_eq (hm2 rfl).1
            refine g_own (a1 := aa) (k := n + 1) .here (fun _ h _ _ => absurd h (by omega)) ?_
            rintro gv curv rfl v1 v2 v3 v4 v5
            refine g_ift rfl ?_
            refine g_seq ?_
            refine g_region ?_
            refine g_pure (p_assign rfl) rfl ?_
            refine g_nil ?_
            refine g_qt ?_
            refine g_seq ?_
            refine g_region ?_
            refine g_pure (p_move rfl) rfl ?_
            refine g_pure (p_gtr rfl rfl) rfl ?_
            refine g_nil ?_
            refine g_qt ?_
            refine g_ifd rfl (fun p => ?_) (fun p => ?_)
            · refine g_region ?_
              refine g_pure (p_move rfl) rfl ?_
              refine g_pure (p_move rfl) rfl ?_
              refine g_pure (p_indexAddr rfl rfl (by omega) (fun _ => rfl)) rfl ?_
              refine g_eff0 (e_store1 (by rfl) rfl rfl rfl (by repeat' (first | exact Take.here | apply Take.there)) (by simp; omega)) (fun _ _ => ?_)
              rintro rfl
              refine g_nil ?_
              refine g_qb ?_
              refine g_qt ?_
              refine g_region ?_
              refine g_pure (p_move rfl) rfl ?_
              first | refine g_pure (p_addi rfl rfl (by omega)) rfl ?_ | refine g_pure (p_add rfl rfl) rfl ?_
              refine g_pure (p_assign rfl) rfl ?_
              refine g_nil ?_
              refine g_qn ?_
              refine g_fold (k := n + 1) (cap := ac) (size := 1) (g := gv) (xs := dcells n (put A1 last)) .here v1 v2 (by simp; omega) (set_take v4 (by rw [← dcells_put hll, if_pos p]; show List.set _ (0 + last.toNat * 1) _ = _; rw [show 0 + last.toNat * 1 = last.natAbs by omega])) ?_
              exact g_next (i + 1, true, put A1 last) (by repeat (first | exact trivial | refine ⟨by rfl, ?_⟩)) (by repeat' (first | exact Cover.nil | exact Take.here | apply Cover.cons | apply Take.there)) ⟨by dsimp only; omega, hS2, (fun _ => by dsimp only; omega), fun h => by cases h⟩ (by dsimp only; omega)
            · refine g_region ?_
              refine g_pure (p_move rfl) rfl ?_
              refine g_pure (p_move rfl) rfl ?_
              first | refine g_pure (p_negi rfl (by omega)) rfl ?_ | refine g_pure (p_neg rfl) rfl ?_
              refine g_pure (p_indexAddr rfl rfl (by omega) (fun _ => rfl)) rfl ?_
              refine g_eff0 (e_store1 (by rfl) rfl rfl rfl (by repeat' (first | exact Take.here | apply Take.there)) (by simp; omega)) (fun _ _ => ?_)
              rintro rfl
              refine g_nil ?_
              refine g_qb ?_
              refine g_qt ?_
              refine g_region ?_
              refine g_pure (p_move rfl) rfl ?_
              first | refine g_pure (p_addi rfl rfl (by omega)) rfl ?_ | refine g_pure (p_add rfl rfl) rfl ?_
              refine g_pure (p_assign rfl) rfl ?_
              refine g_nil ?_
              refine g_qn ?_
              refine g_fold (k := n + 1) (cap := ac) (size := 1) (g := gv) (xs := dcells n (put A1 last)) .here v1 v2 (by simp; omega) (set_take v4 (by rw [← dcells_put hll, if_neg p]; show List.set _ (0 + (-last).toNat * 1) _ = _; rw [show 0 + (-last).toNat * 1 = last.natAbs by omega])) ?_
              exact g_next (i + 1, true, put A1 last) (by repeat (first | exact trivial | refine ⟨by rfl, ?_⟩)) (by repeat' (first | exact Cover.nil | exact Take.here | apply Cover.cons | apply Take.there)) ⟨by dsimp only; omega, hS2, (fun _ => by dsimp only; omega), fun h => by cases h⟩ (by dsimp only; omega)
    · have hie : i = F.length := by omega
      rw [hie, List.take_length] at hm2
      refine g_exit ?_
      refine g_qt_exit ?_
      refine g_qn_exit ?_
      refine g_qb_exit ?_
      refine g_qb ?_
      refine g_qn ?_
      refine g_next (mo, A1) (by repeat (first | exact trivial | refine ⟨by rfl, ?_⟩)) (by repeat' (first | exact Cover.nil | exact Take.here | apply Cover.cons | apply Take.there)) ⟨hS1, fun h => (hm2 h).2⟩ ?_
      dsimp only
      cases mo with
      | true => have := hm1 rfl; simp; omega
      | false => have := (hm2 rfl).1; simp; omega

theorem copied_ok {ρ : Nat → Obj → Prop} {n : Nat} (hn : n ≤ 262144) {A : As} {aa : Option Addr} {ac : Nat} (hs : RSl ρ 1 aa (n + 1) (dcells n A)) :
    Con Try.prog ρ 27 #[.slice aa (n + 1) ac] [] (fun v H => ∃ a c, v = .slice a (n + 1) c ∧ H = [OwnSl 3 1 a (n + 1) c (dcells n A)]) := by
  obtain ⟨e0, bv, ov, kv, Tv, fv, hv⟩ := hs
  obtain ⟨v1, v2, v3⟩ := hv (by omega)
  subst v1
  have hsub : sub kv ov ((n + 1) * 1) = some (dcells n A) := by
    have := sub_of (o := ov) (i := 0) (k := (n + 1) * 1) v3 (by omega) (by rw [dcells_len]; omega)
    rw [List.drop_zero, List.take_of_length_le (by rw [dcells_len]; omega), Nat.add_zero] at this
    exact this
  have hone : one1 (dcells n A) = true := by
    unfold one1 dcells
    rw [List.all_eq_true]
    intro x hx
    obtain ⟨i, _, rfl⟩ := List.mem_map.1 hx
    rfl
  refine con_intro Try.func27 Try.call27 rfl Try.ntmps27 rfl (L := [(0, _)]) rfl fun w hh => ?_
  refine g_seq ?_
  refine g_region ?_
  refine g_pure (p_assign rfl) rfl ?_
  refine g_nil ?_
  refine g_qt ?_
  refine g_seq ?_
  refine g_region ?_
  refine g_eff (e_bs (xs := []) rfl rfl rfl (by rfl) (by rfl) rfl (by rfl)) rfl (fun _ _ => ?_)
  rintro ⟨b3, rfl, rfl⟩
  refine g_pure (p_move rfl) rfl ?_
  refine g_fold (k := 0) (cap := 0) (size := 1) (xs := []) .here (Nat.le_refl _) (by omega) rfl rfl ?_
  refine g_eff (e_append (by rfl) (by rfl) rfl rfl (Has.ro v2) hsub hone .here (by omega) (by dsimp only; omega) (by omega)) rfl (fun _ _ => ?_)
  rintro ⟨a5, c5, rfl, rfl⟩
  refine g_pure (p_assign rfl) rfl ?_
  refine g_nil ?_
  refine g_qt ?_
  refine g_ret ?_
  rw [Nat.zero_add]
  exact g_post (rs := [.tmp 2]) rfl (.tmp rfl .nil) ⟨a5, c5, rfl, rfl⟩ (by repeat' (first | exact Cover.nil | exact Take.here | apply Cover.cons | apply Take.there))

theorem dmodel_ok {ρ : Nat → Obj → Prop} {n : Nat} (hn : n ≤ 262144) {A : As} {aa : Option Addr} {ac : Nat} (hs : RSl ρ 1 aa (n + 1) (dcells n A)) :
    Con Try.prog ρ 26 #[.slice aa (n + 1) ac] [] (fun v H => ∃ a c, v = .slice a n c ∧ H = [OwnSl 4 1 a n c (mcells n A)]) := by
  obtain ⟨_, bv, ov, kv, Tv, fv, hv⟩ := hs
  obtain ⟨v1, v2, v3⟩ := hv (by omega)
  refine con_intro Try.func26 Try.call26 rfl Try.ntmps26 rfl (L := [(0, _)]) rfl fun w hh => ?_
  refine g_seq ?_
  refine g_region ?_
  refine g_pure (p_assign rfl) rfl ?_
  refine g_nil ?_
  refine g_qt ?_
  refine g_seq ?_
  refine g_region ?_
  refine g_pure (p_assign rfl) rfl ?_
  refine g_nil ?_
  refine g_qt ?_
  refine g_seq ?_
  refine g_seq ?_
  refine g_region ?_
  refine g_pure (p_assign rfl) rfl ?_
  refine g_nil ?_
  refine g_qt ?_
  refine g_block ?_
  refine g_ownnil (e := 4) (size := 1) ?_
  refine g_loop (fun q : Nat × Option Addr × Nat => [(0, .slice aa (n + 1) ac), (3, .slice q.2.1 q.1 q.2.2), (4, .int .i64 ((q.1 : Int) + 1))])
    (fun q => [OwnSl 4 1 q.2.1 q.1 q.2.2 (mcells q.1 A)]) (fun q => q.1 ≤ n) (fun q => n - q.1) (0, none, 0) (Nat.zero_le _) (by repeat (first | exact trivial | refine ⟨by rfl, ?_⟩)) (by repeat' (first | exact Cover.nil | exact Take.here | apply Cover.cons | apply Take.there)) ?_
  rintro ⟨k, oa, oc⟩ hk
  dsimp only at hk ⊢
  refine g_seq ?_
  refine g_seq ?_
  refine g_region ?_
  refine g_pure (p_move rfl) rfl ?_
  refine g_pure (p_move rfl) rfl ?_
  refine g_pure (p_len (by rfl) rfl) rfl ?_
  refine g_pure (p_lss rfl rfl) rfl ?_
  refine g_nil ?_
  refine g_qt ?_
  refine g_ifd rfl (fun q => ?_) (fun q => ?_)
  · have x1 : kv[ov + ((k : Int) + 1).toNat * 1]? = some (.int .i64 (dcode (A (k + 1)))) := flat2 v3 (dcells_at A (i := k + 1) (by omega)) (by omega)
    have e2 : decide (0 ≤ dcode (A (k + 1))) = decide (A (k + 1) ≠ some false) := by
      cases A (k + 1) with
      | none => rfl
      | some x => cases x <;> rfl
    have e3 : mcells (k + 1) A = mcells k A ++ [.bool (decide (0 ≤ dcode (A (k + 1))))] := by rw [e2]; unfold mcells; rw [List.range_succ, List.map_append]; rfl
    refine g_skip ?_
    refine g_qt ?_
    refine g_seq ?_
    refine g_block ?_
    refine g_region ?_
    refine g_pure (p_move rfl) rfl ?_
    refine g_pure (p_move rfl) rfl ?_
    refine g_pure (p_move rfl) rfl ?_
    refine g_pure (p_indexAddr rfl rfl (by omega) (fun _ => v1)) rfl ?_
    refine g_pure (p_load (by rfl) rfl (Has.ro v2) x1) rfl ?_
    refine g_pure (p_geq rfl rfl) rfl ?_
    refine g_eff (e_bs (xs := [.tmp 16]) rfl rfl rfl (by rfl) (by rfl) rfl (by rfl)) rfl (fun _ _ => ?_)
    rintro ⟨b17, rfl, rfl⟩
    refine g_eff (e_appendO (by rfl) (by rfl) rfl rfl (by first | (apply Has.own; (repeat' (first | exact Take.here | apply Take.there)); done) | exact Has.ro (by assumption)) (by rfl) (by rfl) (by repeat' (first | exact Take.here | apply Take.there)) (by omega) (by first | omega | (dsimp only; omega) | (simp <;> omega)) (by omega)) rfl (fun _ _ => ?_)
    rintro ⟨a18, c18, rfl, rfl⟩
    refine g_pure (p_assign rfl) rfl ?_
    refine g_nil ?_
    refine g_qb ?_
    refine g_qt ?_
    refine g_region ?_
    refine g_pure (p_move rfl) rfl ?_
    first | refine g_pure (p_addi rfl rfl (by omega)) rfl ?_ | refine g_pure (p_add rfl rfl) rfl ?_
    refine g_pure (p_assign rfl) rfl ?_
    refine g_nil ?_
    refine g_qn ?_
    refine g_weak (A := OwnSl 4 1 a18 (k + 1) c18 (mcells k A ++ [.bool (decide (0 ≤ dcode (A (k + 1))))])) (B := OwnSl 4 1 a18 (k + 1) c18 (mcells (k + 1) A)) (by repeat' (first | exact Take.here | apply Take.there)) (fun h hh => by rw [e3]; exact hh) ?_
    exact g_next (k + 1, a18, c18) (by repeat (first | exact trivial | refine ⟨by rfl, ?_⟩)) (by repeat' (first | exact Cover.nil | exact Take.here | apply Cover.cons | apply Take.there)) (by dsimp only; omega) (by dsimp only; omega)
  · have hke : k = n := by omega
    subst hke
    refine g_exit ?_
    refine g_qt_exit ?_
    refine g_qn_exit ?_
    refine g_qb_exit ?_
    refine g_qt ?_
    refine g_seq ?_
    refine g_region ?_
    refine g_pure (p_move rfl) rfl ?_
    refine g_pure (p_assign rfl) rfl ?_
    refine g_nil ?_
    refine g_qt ?_
    refine g_ret ?_
    exact g_post (rs := [.tmp 2]) rfl (.tmp rfl .nil) ⟨oa, oc, rfl, rfl⟩ (by repeat' (first | exact Cover.nil | exact Take.here | apply Cover.cons | apply Take.there))
end Go.Proofs.Ytbpgblbhikeglaa
