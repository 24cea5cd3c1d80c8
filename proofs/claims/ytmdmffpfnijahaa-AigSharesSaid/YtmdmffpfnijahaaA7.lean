/- Chapter 35, the document's side: variables in three lists. Conditions: none. -/
import Derived.Test.YtmdmffpfnijahaaA6
namespace Go.Proofs.Ytmdmffpfnijahaa
set_option linter.unusedVariables false
set_option linter.unusedSimpArgs false
set_option linter.unusedSectionVars false
open Go Go.Z Go.Z.Aig

def RfK (m : Nat) (S : St) : List Assn → Prop := fun H => ∃ aa ca ab cb ai ci, H = [Blk m (.cells [.slice aa S.length ca, .slice ab S.length cb, .slice ai S.length ci].toArray 75 (0, 0)),
    OwnSl 35 1 aa S.length ca (S.map fun g => encI g.1), OwnSl 35 1 ab S.length cb (S.map fun g => encI g.2.1), OwnSl 4 1 ai S.length ci (S.map fun g => encB g.2.2)] ∧ 0 < S.length ∧ S.length ≤ 131072
def Rf (m : Nat) (S : St) : Assn := Pk (RfK m S)

theorem rf_ro {ρ : Nat → Obj → Prop} {m : Nat} {S : St} (h : Ro ρ (Rf m S)) : ∃ aa ca ab cb ai ci, ρ m (.cells [.slice aa S.length ca, .slice ab S.length cb, .slice ai S.length ci].toArray 75 (0, 0)) ∧
    RSl ρ 1 aa S.length (S.map fun g => encI g.1) ∧ RSl ρ 1 ab S.length (S.map fun g => encI g.2.1) ∧ RSl ρ 1 ai S.length (S.map fun g => encB g.2.2) ∧ 0 < S.length ∧ S.length ≤ 131072 := by
  obtain ⟨_, ⟨aa, ca, ab, cb, ai, ci, rfl, h0, hl⟩, r1, r2, r3, r4, _⟩ := h.unpack
  exact ⟨aa, ca, ab, cb, ai, ci, r1.blk, .of_own r2, .of_own r3, .of_own r4, h0, hl⟩

theorem rnot_ok {ρ : Nat → Obj → Prop} (a : Int) (ha : I64 a) : Con Try.prog ρ 44 #[.int .i64 a] [] (fun v H => v = .int .i64 (nt a) ∧ H = []) := by
  have hm : (a.tmod 2 = 0) = (a % 2 = 0) := by rw [Int.tmod_eq_emod]; split <;> simp <;> omega
  unfold I64 at ha
  refine con_intro Try.func44 Try.call44 rfl Try.ntmps44 rfl (L := [(0, _)]) rfl fun w hh => ?_
  refine g_seq ?_
  refine g_region ?_
  refine g_pure (p_assign rfl) rfl ?_
  refine g_nil ?_
  refine g_qt ?_
  refine g_seq ?_
  refine g_seq ?_
  refine g_region ?_
  refine g_pure (p_move rfl) rfl ?_
  first | refine g_pure (p_remn rfl rfl (by omega) (by omega)) rfl ?_ | refine g_pure (p_rem rfl rfl (by omega)) rfl ?_
  refine g_pure (p_eql rfl rfl) rfl ?_
  refine g_nil ?_
  refine g_qt ?_
  refine g_ifd rfl (fun h => ?_) (fun h => ?_)
  · rw [hm] at h
    refine g_seq ?_
    refine g_region ?_
    refine g_pure (p_move rfl) rfl ?_
    first | refine g_pure (p_addi rfl rfl (by omega)) rfl ?_ | refine g_pure (p_add rfl rfl) rfl ?_
    refine g_pure (p_assign rfl) rfl ?_
    refine g_nil ?_
    refine g_qt ?_
    refine g_ret ?_
    refine g_qt_ret ?_
    exact g_post (rs := [.tmp 2]) rfl (.tmp rfl .nil) ⟨by unfold nt; rw [if_pos h]; rfl, rfl⟩ .nil
  · rw [hm] at h
    refine g_skip ?_
    refine g_qt ?_
    refine g_seq ?_
    refine g_region ?_
    refine g_pure (p_move rfl) rfl ?_
    first | refine g_pure (p_subi rfl rfl (by omega)) rfl ?_ | refine g_pure (p_sub rfl rfl) rfl ?_
    refine g_pure (p_assign rfl) rfl ?_
    refine g_nil ?_
    refine g_qt ?_
    refine g_ret ?_
    exact g_post (rs := [.tmp 2]) rfl (.tmp rfl .nil) ⟨by unfold nt; rw [if_neg h]; rfl, rfl⟩ .nil

theorem rlen_ok {ρ : Nat → Obj → Prop} (m : Nat) (S : St) (hg : Ro ρ (Rf m S)) : Con Try.prog ρ 14 #[.pointer (some ⟨m, 0, none⟩)] [] (fun v H => v = .int .i64 S.length ∧ H = []) := by
  obtain ⟨aa, ca, ab, cb, ai, ci, hp, h1, h2, h3, h0, hl⟩ := rf_ro hg
  refine con_intro Try.func14 Try.call14 rfl Try.ntmps14 rfl (L := [(0, _)]) rfl fun w hh => ?_
  refine g_seq ?_
  refine g_region ?_
  refine g_pure (p_assign rfl) rfl ?_
  refine g_nil ?_
  refine g_qt ?_
  refine g_seq ?_
  refine g_region ?_
  refine g_pure (p_move rfl) rfl ?_
  refine g_pure (p_nilCheck rfl) rfl ?_
  refine g_pure (p_fieldAddr rfl) rfl ?_
  refine g_pure (p_load (by rfl) rfl (by first | (apply Has.own; (repeat' (first | exact Take.here | apply Take.there)); done) | exact Has.ro (by assumption)) (by first | rfl | assumption)) rfl ?_
  refine g_pure (p_len (by rfl) rfl) rfl ?_
  refine g_pure (p_assign rfl) rfl ?_
  refine g_nil ?_
  refine g_qt ?_
  refine g_ret ?_
  exact g_post (rs := [.tmp 2]) rfl (.tmp rfl .nil) ⟨rfl, rfl⟩ .nil

theorem rhas_ok {ρ : Nat → Obj → Prop} (m : Nat) (S : St) (a : Int) (hg : Ro ρ (Rf m S)) : Con Try.prog ρ 30 #[.pointer (some ⟨m, 0, none⟩), .int .i64 a] [] (fun v H => v = .bool (hasB S a) ∧ H = []) := by
  obtain ⟨aa, ca, ab, cb, ai, ci, hp, h1, h2, h3, h0, hl⟩ := rf_ro hg
  refine con_intro Try.func30 Try.call30 rfl Try.ntmps30 rfl (L := [(0, _), (1, _)]) rfl fun w hh => ?_
  refine g_seq ?_
  refine g_region ?_
  refine g_pure (p_assign rfl) rfl ?_
  refine g_nil ?_
  refine g_qt ?_
  refine g_seq ?_
  refine g_region ?_
  refine g_pure (p_move rfl) rfl ?_
  refine g_pure (p_geq rfl rfl) rfl ?_
  refine g_pure (p_move rfl) rfl ?_
  refine g_splitd rfl rfl (fun h => ?_) (fun h => ?_)
  · refine g_yes rfl rfl ?_
    refine g_pure (p_move rfl) rfl ?_
    refine g_yes rfl rfl ?_
    refine g_pure (p_move rfl) rfl ?_
    refine g_yes rfl rfl ?_
    refine g_pure (p_nilCheck rfl) rfl ?_
    refine g_yes rfl rfl ?_
    refine g_pure (p_fieldAddr rfl) rfl ?_
    refine g_yes rfl rfl ?_
    refine g_pure (p_load (by rfl) rfl (by first | (apply Has.own; (repeat' (first | exact Take.here | apply Take.there)); done) | exact Has.ro (by assumption)) (by first | rfl | assumption)) rfl ?_
    refine g_yes rfl rfl ?_
    refine g_pure (p_len (by rfl) rfl) rfl ?_
    refine g_yes rfl rfl ?_
    first | refine g_pure (p_muli rfl rfl (by omega)) rfl ?_ | refine g_pure (p_mul rfl rfl) rfl ?_
    refine g_yes rfl rfl ?_
    refine g_pure (p_lss rfl rfl) rfl ?_
    first | refine g_pure (p_pickt rfl rfl) rfl ?_ | refine g_pure (p_pickf rfl rfl) rfl ?_
    refine g_pure (p_assign rfl) rfl ?_
    refine g_nil ?_
    refine g_qt ?_
    refine g_ret ?_
    exact g_post (rs := [.tmp 4]) rfl (.tmp rfl .nil) ⟨by simp [hasB, h, tupled], rfl⟩ .nil
  · refine g_no rfl rfl rfl rfl ?_
    refine g_no rfl rfl rfl rfl ?_
    refine g_no rfl rfl rfl rfl ?_
    refine g_no rfl rfl rfl rfl ?_
    refine g_no rfl rfl rfl rfl ?_
    refine g_no rfl rfl rfl rfl ?_
    refine g_no rfl rfl rfl rfl ?_
    refine g_no rfl rfl rfl rfl ?_
    first | refine g_pure (p_pickt rfl rfl) rfl ?_ | refine g_pure (p_pickf rfl rfl) rfl ?_
    refine g_pure (p_assign rfl) rfl ?_
    refine g_nil ?_
    refine g_qt ?_
    refine g_ret ?_
    exact g_post (rs := [.tmp 4]) rfl (.tmp rfl .nil) ⟨by simp [hasB, h, tupled], rfl⟩ .nil

theorem rf_close {M : Mx} {n : Nat} {L : Fr} {H Hr : List Assn} {T : Act → World → Prop} {m : Nat} {S : St} {aa ab ai : Option Addr} {ca cb ci k1 k2 k3 : Nat} {xa xb xi : List Value} (h0 : 0 < S.length) (hl : S.length ≤ 131072)
    (hc : Cover H [Blk m (.cells [.slice aa k1 ca, .slice ab k2 cb, .slice ai k3 ci].toArray 75 (0, 0)), OwnSl 35 1 aa k1 ca xa, OwnSl 35 1 ab k2 cb xb, OwnSl 4 1 ai k3 ci xi] Hr)
    (e1 : k1 = S.length) (e2 : k2 = S.length) (e3 : k3 = S.length) (ea : xa = S.map fun g => encI g.1) (eb : xb = S.map fun g => encI g.2.1) (ei : xi = S.map fun g => encB g.2.2) (h : G M n L (Rf m S :: Hr) T) : G M n L H T := by
  subst e1 e2 e3 ea eb ei
  exact g_close ⟨_, _, _, _, _, _, rfl, h0, hl⟩ hc h

theorem rf_len {M : Mx} {n : Nat} {L : Fr} {H H' : List Assn} {T : Act → World → Prop} {m : Nat} {S : St} (tk : Take H (Rf m S) H') (h : 0 < S.length → S.length ≤ 131072 → G M n L H T) : G M n L H T := by
  intro a w ha hm
  obtain ⟨hh, s, su, d, r⟩ := hm.own
  obtain ⟨h1, h2, ⟨_, ⟨aa, ca, ab, cb, ai, ci, rfl, h0, hl⟩, _⟩, s2, dd, rfl⟩ := tk.sat s
  exact h h0 hl a w ha hm

theorem rnew_ok {ρ : Nat → Obj → Prop} : Con Try.prog ρ 26 #[] [] (fun v H => ∃ m, v = .pointer (some ⟨m, 0, none⟩) ∧ H = [Rf m [(0, 0, false)]]) := by
  refine con_intro Try.func26 Try.call26 rfl Try.ntmps26 rfl (L := []) rfl fun w hh => ?_
  refine g_seq ?_
  refine g_region ?_
  refine g_pure (p_assign rfl) rfl ?_
  refine g_nil ?_
  refine g_qt ?_
  refine g_seq ?_
  refine g_region ?_
  refine g_eff (e_bs (xs := [.const (.int .i64 0)]) rfl rfl rfl (by rfl) (by rfl) rfl (by rfl)) rfl (fun _ _ => ?_)
  rintro ⟨b1, rfl, rfl⟩
  refine g_eff (e_bs (xs := [.const (.int .i64 0)]) rfl rfl rfl (by rfl) (by rfl) rfl (by rfl)) rfl (fun _ _ => ?_)
  rintro ⟨b2, rfl, rfl⟩
  refine g_eff (e_bs (xs := [.const (.bool false)]) rfl rfl rfl (by rfl) (by rfl) rfl (by rfl)) rfl (fun _ _ => ?_)
  rintro ⟨b3, rfl, rfl⟩
  refine g_pure (p_build (by rfl) rfl (by rfl)) rfl ?_
  refine g_eff (e_box rfl (by rfl)) rfl (fun _ _ => ?_)
  rintro ⟨b5, rfl, rfl⟩
  refine g_pure (p_assign rfl) rfl ?_
  refine g_nil ?_
  refine g_qt ?_
  refine g_ret ?_
  refine g_fold (k := 1) (cap := 1) (size := 1) (xs := [.int .i64 0]) (.there (.there .here)) (by omega) (by omega) rfl rfl ?_
  refine g_fold (k := 1) (cap := 1) (size := 1) (xs := [.int .i64 0]) (.there (.there (.there .here))) (by omega) (by omega) rfl rfl ?_
  refine g_fold (k := 1) (cap := 1) (size := 1) (xs := [.bool false]) (.there (.there (.there .here))) (by omega) (by omega) rfl rfl ?_
  refine rf_close (m := b5) (S := [(0, 0, false)]) (by simp) (by simp) (by repeat' (first | exact Cover.nil | exact Take.here | apply Cover.cons | apply Take.there)) rfl rfl rfl rfl rfl rfl ?_
  exact g_post (rs := [.tmp 0]) rfl (.tmp rfl .nil) ⟨b5, rfl, rfl⟩ (by repeat' (first | exact Cover.nil | exact Take.here | apply Cover.cons | apply Take.there))

theorem radd_ok {ρ : Nat → Obj → Prop} (m : Nat) (S : St) (a b : Int) (z : Bool) : Con Try.prog ρ 43 #[.pointer (some ⟨m, 0, none⟩), .int .i64 a, .int .i64 b, .bool z] [Rf m S]
    (fun v H => v = .tuple #[.int .i64 (add S (a, b, z)).1, .int .i64 (add S (a, b, z)).2.1] ∧ H = [Rf m (add S (a, b, z)).2.2]) := by
  refine con_intro Try.func43 Try.call43 rfl Try.ntmps43 rfl (L := [(0, _), (1, _), (2, _), (3, _)]) rfl fun w hh => ?_
  refine g_open .here ?_
  rintro _ ⟨aa, ca, ab, cb, ai, ci, rfl, h0, hl⟩
  refine g_seq ?_
  refine g_region ?_
  refine g_pure (p_assign rfl) rfl ?_
  refine g_pure (p_assign rfl) rfl ?_
  refine g_nil ?_
  refine g_qt ?_
  refine g_seq ?_
  refine g_seq ?_
  refine g_region ?_
  refine g_pure (p_move rfl) rfl ?_
  refine g_pure (p_nilCheck rfl) rfl ?_
  refine g_pure (p_fieldAddr rfl) rfl ?_
  refine g_pure (p_load (by rfl) rfl (by first | (apply Has.own; (repeat' (first | exact Take.here | apply Take.there)); done) | exact Has.ro (by assumption)) (by first | rfl | assumption)) rfl ?_
  refine g_pure (p_len (by rfl) rfl) rfl ?_
  refine g_pure (p_geq rfl rfl) rfl ?_
  refine g_nil ?_
  refine g_qt ?_
  refine g_ifd rfl (fun h => ?_) (fun h => ?_)
  · refine g_seq ?_
    refine g_region ?_
    refine g_pure (p_assign rfl) rfl ?_
    refine g_pure (p_assign rfl) rfl ?_
    refine g_nil ?_
    refine g_qt ?_
    refine g_ret ?_
    refine g_qt_ret ?_
    have e : add S (a, b, z) = (0, 3, S) := if_pos (by omega)
    refine rf_close h0 hl (by repeat' (first | exact Cover.nil | exact Take.here | apply Cover.cons | apply Take.there)) rfl rfl rfl rfl rfl rfl ?_
    exact g_post (rs := [.tmp 8, .tmp 9]) rfl (.tmp rfl (.tmp rfl .nil)) ⟨by rw [e]; rfl, by rw [e]⟩ (by repeat' (first | exact Cover.nil | exact Take.here | apply Cover.cons | apply Take.there))
  · have e : add S (a, b, z) = (2 * (S.length : Int), 0, S ++ [(a, b, z)]) := if_neg (by omega)
    refine g_skip ?_
    refine g_qt ?_
    refine g_seq ?_
    refine g_region ?_
    refine g_pure (p_move rfl) rfl ?_
    refine g_pure (p_move rfl) rfl ?_
    refine g_pure (p_nilCheck rfl) rfl ?_
    refine g_pure (p_fieldAddr rfl) rfl ?_
    refine g_pure (p_load (by rfl) rfl (by first | (apply Has.own; (repeat' (first | exact Take.here | apply Take.there)); done) | exact Has.ro (by assumption)) (by first | rfl | assumption)) rfl ?_
    refine g_pure (p_move rfl) rfl ?_
    refine g_eff (e_bs (xs := [.tmp 21]) rfl rfl rfl (by rfl) (by rfl) rfl (by rfl)) rfl (fun _ _ => ?_)
    rintro ⟨b22, rfl, rfl⟩
    refine g_eff (e_appendO (by rfl) (by rfl) rfl rfl (by first | (apply Has.own; (repeat' (first | exact Take.here | apply Take.there)); done) | exact Has.ro (by assumption)) (by rfl) (by rfl) (by repeat' (first | exact Take.here | apply Take.there)) (by omega) (by first | omega | (dsimp only; omega) | (simp <;> omega)) (by omega)) rfl (fun _ _ => ?_)
    rintro ⟨a23, c23, rfl, rfl⟩
    refine g_pure (p_nilCheck rfl) rfl ?_
    refine g_pure (p_fieldAddr rfl) rfl ?_
    first | refine g_eff0 (e_storeO rfl rfl (by rfl) (by rfl) (by rfl) (by repeat' (first | exact Take.here | apply Take.there)) (by rfl)) (fun _ _ => ?_) | refine g_eff0 (e_store1 (by rfl) rfl rfl rfl (by repeat' (first | exact Take.here | apply Take.there)) (by first | decide | (simp <;> omega) | omega)) (fun _ _ => ?_)
    rintro rfl
    refine g_nil ?_
    refine g_qt ?_
    refine g_seq ?_
    refine g_region ?_
    refine g_pure (p_move rfl) rfl ?_
    refine g_pure (p_move rfl) rfl ?_
    refine g_pure (p_nilCheck rfl) rfl ?_
    refine g_pure (p_fieldAddr rfl) rfl ?_
    refine g_pure (p_load (by rfl) rfl (by first | (apply Has.own; (repeat' (first | exact Take.here | apply Take.there)); done) | exact Has.ro (by assumption)) (by first | rfl | assumption)) rfl ?_
    refine g_pure (p_move rfl) rfl ?_
    refine g_eff (e_bs (xs := [.tmp 31]) rfl rfl rfl (by rfl) (by rfl) rfl (by rfl)) rfl (fun _ _ => ?_)
    rintro ⟨b32, rfl, rfl⟩
    refine g_eff (e_appendO (by rfl) (by rfl) rfl rfl (by first | (apply Has.own; (repeat' (first | exact Take.here | apply Take.there)); done) | exact Has.ro (by assumption)) (by rfl) (by rfl) (by repeat' (first | exact Take.here | apply Take.there)) (by omega) (by first | omega | (dsimp only; omega) | (simp <;> omega)) (by omega)) rfl (fun _ _ => ?_)
    rintro ⟨a33, c33, rfl, rfl⟩
    refine g_pure (p_nilCheck rfl) rfl ?_
    refine g_pure (p_fieldAddr rfl) rfl ?_
    first | refine g_eff0 (e_storeO rfl rfl (by rfl) (by rfl) (by rfl) (by repeat' (first | exact Take.here | apply Take.there)) (by rfl)) (fun _ _ => ?_) | refine g_eff0 (e_store1 (by rfl) rfl rfl rfl (by repeat' (first | exact Take.here | apply Take.there)) (by first | decide | (simp <;> omega) | omega)) (fun _ _ => ?_)
    rintro rfl
    refine g_nil ?_
    refine g_qt ?_
    refine g_seq ?_
    refine g_region ?_
    refine g_pure (p_move rfl) rfl ?_
    refine g_pure (p_move rfl) rfl ?_
    refine g_pure (p_nilCheck rfl) rfl ?_
    refine g_pure (p_fieldAddr rfl) rfl ?_
    refine g_pure (p_load (by rfl) rfl (by first | (apply Has.own; (repeat' (first | exact Take.here | apply Take.there)); done) | exact Has.ro (by assumption)) (by first | rfl | assumption)) rfl ?_
    refine g_pure (p_move rfl) rfl ?_
    refine g_eff (e_bs (xs := [.tmp 41]) rfl rfl rfl (by rfl) (by rfl) rfl (by rfl)) rfl (fun _ _ => ?_)
    rintro ⟨b42, rfl, rfl⟩
    refine g_eff (e_appendO (by rfl) (by rfl) rfl rfl (by first | (apply Has.own; (repeat' (first | exact Take.here | apply Take.there)); done) | exact Has.ro (by assumption)) (by rfl) (by rfl) (by repeat' (first | exact Take.here | apply Take.there)) (by omega) (by first | omega | (dsimp only; omega) | (simp <;> omega)) (by omega)) rfl (fun _ _ => ?_)
    rintro ⟨a43, c43, rfl, rfl⟩
    refine g_pure (p_nilCheck rfl) rfl ?_
    refine g_pure (p_fieldAddr rfl) rfl ?_
    first | refine g_eff0 (e_storeO rfl rfl (by rfl) (by rfl) (by rfl) (by repeat' (first | exact Take.here | apply Take.there)) (by rfl)) (fun _ _ => ?_) | refine g_eff0 (e_store1 (by rfl) rfl rfl rfl (by repeat' (first | exact Take.here | apply Take.there)) (by first | decide | (simp <;> omega) | omega)) (fun _ _ => ?_)
    rintro rfl
    refine g_nil ?_
    refine g_qt ?_
    refine g_seq ?_
    refine g_region ?_
    refine g_pure (p_move rfl) rfl ?_
    refine g_pure (p_nilCheck rfl) rfl ?_
    refine g_pure (p_fieldAddr rfl) rfl ?_
    refine g_pure (p_load (by rfl) rfl (by first | (apply Has.own; (repeat' (first | exact Take.here | apply Take.there)); done) | exact Has.ro (by assumption)) (by first | rfl | assumption)) rfl ?_
    refine g_pure (p_len (by rfl) rfl) rfl ?_
    first | refine g_pure (p_subi rfl rfl (by omega)) rfl ?_ | refine g_pure (p_sub rfl rfl) rfl ?_
    first | refine g_pure (p_muli rfl rfl (by omega)) rfl ?_ | refine g_pure (p_mul rfl rfl) rfl ?_
    refine g_pure (p_assign rfl) rfl ?_
    refine g_pure (p_assign rfl) rfl ?_
    refine g_nil ?_
    refine g_qt ?_
    refine g_ret ?_
    refine rf_close (S := S ++ [(a, b, z)]) (by simp) (by simp; omega) (by repeat' (first | exact Cover.nil | exact Take.here | apply Cover.cons | apply Take.there)) (by simp) (by simp) (by simp) (by simp [encI]) (by simp [encI]) (by simp [encB]) ?_
    exact g_post (rs := [.tmp 8, .tmp 9]) rfl (.tmp rfl (.tmp rfl .nil)) ⟨by rw [e]; simp [tupled], by rw [e]⟩ (by repeat' (first | exact Cover.nil | exact Take.here | apply Cover.cons | apply Take.there))

theorem rin_ok {ρ : Nat → Obj → Prop} (m : Nat) (S : St) : Con Try.prog ρ 35 #[.pointer (some ⟨m, 0, none⟩)] [Rf m S]
    (fun v H => v = .tuple #[.int .i64 (input1 S).1, .int .i64 (input1 S).2.1] ∧ H = [Rf m (input1 S).2.2]) := by
  refine con_intro Try.func35 Try.call35 rfl Try.ntmps35 rfl (L := [(0, _)]) rfl fun w hh => ?_
  refine g_seq ?_
  refine g_region ?_
  refine g_pure (p_assign rfl) rfl ?_
  refine g_pure (p_assign rfl) rfl ?_
  refine g_nil ?_
  refine g_qt ?_
  refine g_seq ?_
  refine g_region ?_
  refine g_pure (p_move rfl) rfl ?_
  refine g_call (Hin := ?hi1) (Hr := ?hr1) (R := ?rr1) rfl rfl rfl ?hin1 ?hc1 ?hk1
  case hc1 => intro ρ' hρ hR; exact radd_ok m S 0 0 true
  case hin1 => repeat' (first | exact Cover.nil | exact Take.here | apply Cover.cons | apply Take.there)
  rintro _ _ ⟨rfl, rfl⟩
  refine g_pure (p_extract rfl rfl) rfl ?_
  refine g_pure (p_extract rfl rfl) rfl ?_
  refine g_pure (p_assign rfl) rfl ?_
  refine g_pure (p_assign rfl) rfl ?_
  refine g_nil ?_
  refine g_qt ?_
  refine g_ret ?_
  exact g_post (rs := [.tmp 2, .tmp 3]) rfl (.tmp rfl (.tmp rfl .nil)) ⟨rfl, rfl⟩ (by repeat' (first | exact Cover.nil | exact Take.here | apply Cover.cons | apply Take.there))

theorem own_at {cur xs : List Value} {N k i : Nat} {v : Value} (h : cur.take (N * 1) = xs) (hi : i = 0 + k * 1) (hv : xs[k]? = some v) : cur[i]? = some v := by
  subst hi
  rw [← h, List.getElem?_take] at hv
  split at hv
  · simpa using hv
  · cases hv

theorem g_cap {M : Mx} {n : Nat} {L : Fr} {H H' : List Assn} {T : Act → World → Prop} {e : TypeId} {size : Nat} {a1 : Option Addr} {k cap : Nat} {xs : List Value} (tk : Take H (OwnSl e size a1 k cap xs) H') (h : k ≤ cap → cap ≤ 9223372036854775807 → G M n L H T) : G M n L H T := by
  intro a w ha hm
  obtain ⟨e1, e2⟩ := OwnSl.cases tk hm
  rcases e2 with ⟨r1, r2, r3, hm'⟩ | ⟨g, cur, r1, r2, r3, r4, r5, hm'⟩
  · exact h (by omega) (by omega) a w ha hm
  · exact h r2 r3 a w ha hm

theorem rcut_ok {ρ : Nat → Obj → Prop} (m : Nat) (S : St) (k : Nat) (h1 : 0 < k) (h2 : k ≤ S.length) : Con Try.prog ρ 47 #[.pointer (some ⟨m, 0, none⟩), .int .i64 k] [Rf m S]
    (fun v H => v = .tuple #[] ∧ H = [Rf m (S.take k)]) := by
  refine con_intro Try.func47 Try.call47 rfl Try.ntmps47 rfl (L := [(0, _), (1, _)]) rfl fun w hh => ?_
  refine g_open .here ?_
  rintro _ ⟨aa, ca, ab, cb, ai, ci, rfl, h0, hl⟩
  refine g_cap (.there .here) fun k1 _ => ?_
  refine g_cap (.there (.there .here)) fun k2 _ => ?_
  refine g_cap (.there (.there (.there .here))) fun k3 _ => ?_
  refine g_seq ?_
  refine g_region ?_
  refine g_pure (p_move rfl) rfl ?_
  refine g_pure (p_move rfl) rfl ?_
  refine g_pure (p_nilCheck rfl) rfl ?_
  refine g_pure (p_fieldAddr rfl) rfl ?_
  refine g_pure (p_load (by rfl) rfl (by first | (apply Has.own; (repeat' (first | exact Take.here | apply Take.there)); done) | exact Has.ro (by assumption)) (by first | rfl | assumption)) rfl ?_
  refine g_pure (p_move rfl) rfl ?_
  refine g_pure (p_sliceh rfl rfl (by omega)) rfl ?_
  refine g_pure (p_nilCheck rfl) rfl ?_
  refine g_pure (p_fieldAddr rfl) rfl ?_
  first | refine g_eff0 (e_storeO rfl rfl (by rfl) (by rfl) (by rfl) (by repeat' (first | exact Take.here | apply Take.there)) (by rfl)) (fun _ _ => ?_) | refine g_eff0 (e_store1 (by rfl) rfl rfl rfl (by repeat' (first | exact Take.here | apply Take.there)) (by first | decide | (simp <;> omega) | omega)) (fun _ _ => ?_)
  rintro rfl
  refine g_nil ?_
  refine g_qt ?_
  refine g_seq ?_
  refine g_region ?_
  refine g_pure (p_move rfl) rfl ?_
  refine g_pure (p_move rfl) rfl ?_
  refine g_pure (p_nilCheck rfl) rfl ?_
  refine g_pure (p_fieldAddr rfl) rfl ?_
  refine g_pure (p_load (by rfl) rfl (by first | (apply Has.own; (repeat' (first | exact Take.here | apply Take.there)); done) | exact Has.ro (by assumption)) (by first | rfl | assumption)) rfl ?_
  refine g_pure (p_move rfl) rfl ?_
  refine g_pure (p_sliceh rfl rfl (by omega)) rfl ?_
  refine g_pure (p_nilCheck rfl) rfl ?_
  refine g_pure (p_fieldAddr rfl) rfl ?_
  first | refine g_eff0 (e_storeO rfl rfl (by rfl) (by rfl) (by rfl) (by repeat' (first | exact Take.here | apply Take.there)) (by rfl)) (fun _ _ => ?_) | refine g_eff0 (e_store1 (by rfl) rfl rfl rfl (by repeat' (first | exact Take.here | apply Take.there)) (by first | decide | (simp <;> omega) | omega)) (fun _ _ => ?_)
  rintro rfl
  refine g_nil ?_
  refine g_qt ?_
  refine g_region ?_
  refine g_pure (p_move rfl) rfl ?_
  refine g_pure (p_move rfl) rfl ?_
  refine g_pure (p_nilCheck rfl) rfl ?_
  refine g_pure (p_fieldAddr rfl) rfl ?_
  refine g_pure (p_load (by rfl) rfl (by first | (apply Has.own; (repeat' (first | exact Take.here | apply Take.there)); done) | exact Has.ro (by assumption)) (by first | rfl | assumption)) rfl ?_
  refine g_pure (p_move rfl) rfl ?_
  refine g_pure (p_sliceh rfl rfl (by omega)) rfl ?_
  refine g_pure (p_nilCheck rfl) rfl ?_
  refine g_pure (p_fieldAddr rfl) rfl ?_
  first | refine g_eff0 (e_storeO rfl rfl (by rfl) (by rfl) (by rfl) (by repeat' (first | exact Take.here | apply Take.there)) (by rfl)) (fun _ _ => ?_) | refine g_eff0 (e_store1 (by rfl) rfl rfl rfl (by repeat' (first | exact Take.here | apply Take.there)) (by first | decide | (simp <;> omega) | omega)) (fun _ _ => ?_)
  rintro rfl
  refine g_nil ?_
  refine g_weak (.there .here) (own_shrink h2) ?_
  refine g_weak (.there (.there .here)) (own_shrink h2) ?_
  refine g_weak (.there (.there (.there .here))) (own_shrink h2) ?_
  refine rf_close (m := m) (S := S.take k) (by rw [List.length_take]; omega) (by rw [List.length_take]; omega) (by repeat' (first | exact Cover.nil | exact Take.here | apply Cover.cons | apply Take.there)) (by simp; omega) (by simp; omega) (by simp; omega) (by simp) (by simp) (by simp) ?_
  exact g_postn (rs := []) rfl .nil ⟨rfl, rfl⟩ (by repeat' (first | exact Cover.nil | exact Take.here | apply Cover.cons | apply Take.there))

theorem hasB_nt (S : St) (a : Int) : hasB S (nt a) = hasB S a := by
  have h : hasB S (nt a) = true ↔ hasB S a = true := by
    rw [hasB_iff, hasB_iff]
    refine ⟨fun h => ?_, nt_has⟩
    have e : nt (nt a) = a := by unfold nt; split <;> split <;> omega
    rw [← e]; exact nt_has h
  cases h1 : hasB S (nt a) <;> cases h2 : hasB S a <;> simp_all

theorem I64.nt {a : Int} (h : I64 a) : I64 (Aig.nt a) := by unfold I64 Aig.nt at *; split <;> omega

theorem min_nt {a b : Int} (h : a = nt b) : min a b = nt (max a b) := by unfold nt at *; split at h <;> split <;> omega
theorem min_nt' {a b : Int} (h : ¬ a = nt b) : ¬ min a b = nt (max a b) := by
  intro e; apply h; unfold nt at *; split at e <;> split <;> omega

theorem find_step {S : St} {k : Nat} (hk : k < S.length) {x y : Int} : find (S.drop k) k x y = if S[k] = (x, y, false) then some k else find (S.drop (k + 1)) (k + 1) x y := by
  rw [List.drop_eq_getElem_cons hk]; rfl

theorem rand_ok {ρ : Nat → Obj → Prop} (m : Nat) (S : St) (a b : Int) (ha : I64 a) (hb : I64 b) : Con Try.prog ρ 36 #[.pointer (some ⟨m, 0, none⟩), .int .i64 a, .int .i64 b] [Rf m S]
    (fun v H => v = .tuple #[.int .i64 (and1 S a b).1, .int .i64 (and1 S a b).2.1] ∧ H = [Rf m (and1 S a b).2.2]) := by
  have hnb := hb.nt
  refine con_intro Try.func36 Try.call36 rfl Try.ntmps36 rfl (L := [(0, _), (1, _), (2, _)]) rfl fun w hh => ?_
  refine rf_len .here fun hz hl => ?_
  refine g_seq ?_
  refine g_region ?_
  refine g_pure (p_assign rfl) rfl ?_
  refine g_pure (p_assign rfl) rfl ?_
  refine g_nil ?_
  refine g_qt ?_
  refine g_seq ?_
  refine g_seq ?_
  refine g_region ?_
  refine g_pure (p_move rfl) rfl ?_
  refine g_pure (p_move rfl) rfl ?_
  refine g_call (Hin := []) (Hr := ?hr2) (R := ?rr2) rfl rfl rfl ?hin2 ?hc2 ?hk2
  case hin2 => repeat' (first | exact Cover.nil | exact Take.here | apply Cover.cons | apply Take.there)
  case hc2 => intro ρ' hρ hR; exact rhas_ok m S a hR.1
  rintro _ _ ⟨rfl, rfl⟩
  refine g_pure (p_not rfl) rfl ?_
  refine g_pure (p_move rfl) rfl ?_
  cases ea : hasB S a with
  | false =>
    refine g_no rfl rfl rfl rfl ?_
    refine g_no rfl rfl rfl rfl ?_
    refine g_no rfl rfl rfl rfl ?_
    refine g_no rfl rfl rfl rfl ?_
    first | refine g_pure (p_pickt rfl rfl) rfl ?_ | refine g_pure (p_pickf rfl rfl) rfl ?_
    refine g_nil ?_
    refine g_qt ?_
    refine g_ift rfl ?_
    refine g_seq ?_
    refine g_region ?_
    refine g_pure (p_assign rfl) rfl ?_
    refine g_pure (p_assign rfl) rfl ?_
    refine g_nil ?_
    refine g_qt ?_
    refine g_ret ?_
    refine g_qt_ret ?_
    have e : and1 S a b = (0, 14, S) := by unfold and1; rw [ea]; rfl
    exact g_post (rs := [.tmp 6, .tmp 7]) rfl (.tmp rfl (.tmp rfl .nil)) ⟨by rw [e]; rfl, by rw [e]⟩ (by repeat' (first | exact Cover.nil | exact Take.here | apply Cover.cons | apply Take.there))
  | true =>
    refine g_yes rfl rfl ?_
    refine g_pure (p_move rfl) rfl ?_
    refine g_yes rfl rfl ?_
    refine g_pure (p_move rfl) rfl ?_
    refine g_yes rfl rfl ?_
    refine g_call (Hin := []) (Hr := ?hr3) (R := ?rr3) rfl rfl rfl ?hin3 ?hc3 ?hk3
    case hin3 => repeat' (first | exact Cover.nil | exact Take.here | apply Cover.cons | apply Take.there)
    case hc3 => intro ρ' hρ hR; exact rhas_ok m S b hR.1
    rintro _ _ ⟨rfl, rfl⟩
    refine g_yes rfl rfl ?_
    refine g_pure (p_not rfl) rfl ?_
    first | refine g_pure (p_pickt rfl rfl) rfl ?_ | refine g_pure (p_pickf rfl rfl) rfl ?_
    refine g_nil ?_
    refine g_qt ?_
    cases eb : hasB S b with
    | false =>
      refine g_ift rfl ?_
      refine g_seq ?_
      refine g_region ?_
      refine g_pure (p_assign rfl) rfl ?_
      refine g_pure (p_assign rfl) rfl ?_
      refine g_nil ?_
      refine g_qt ?_
      refine g_ret ?_
      refine g_qt_ret ?_
      have e : and1 S a b = (0, 14, S) := by unfold and1; rw [ea, eb]; rfl
      exact g_post (rs := [.tmp 6, .tmp 7]) rfl (.tmp rfl (.tmp rfl .nil)) ⟨by rw [e]; rfl, by rw [e]⟩ (by repeat' (first | exact Cover.nil | exact Take.here | apply Cover.cons | apply Take.there))
    | true =>
      refine g_iff rfl ?_
      refine g_skip ?_
      refine g_qt ?_
      refine g_seq ?_
      refine g_seq ?_
      refine g_region ?_
      refine g_pure (p_move rfl) rfl ?_
      refine g_pure (p_eql rfl rfl) rfl ?_
      refine g_pure (p_move rfl) rfl ?_
      have hA : has S a := hasB_iff.1 ea
      have hB : has S b := hasB_iff.1 eb
      have hA0 := hA.1
      have hA1 := hA.2
      have hB0 := hB.1
      have hB1 := hB.2
      have e0 : and1 S a b = and0 S a b := by unfold and1; rw [ea, eb]; rfl
      refine g_splitd rfl rfl (fun h1 => ?_) (fun h1 => ?_)
      · refine g_no rfl rfl rfl rfl ?_
        refine g_no rfl rfl rfl rfl ?_
        first | refine g_pure (p_pickt rfl rfl) rfl ?_ | refine g_pure (p_pickf rfl rfl) rfl ?_
        refine g_pure (p_move rfl) rfl ?_
        refine g_no rfl rfl rfl rfl ?_
        refine g_no rfl rfl rfl rfl ?_
        refine g_no rfl rfl rfl rfl ?_
        refine g_no rfl rfl rfl rfl ?_
        first | refine g_pure (p_pickt rfl rfl) rfl ?_ | refine g_pure (p_pickf rfl rfl) rfl ?_
        refine g_nil ?_
        refine g_qt ?_
        refine g_ift rfl ?_
        refine g_seq ?_
        refine g_region ?_
        refine g_pure (p_assign rfl) rfl ?_
        refine g_pure (p_assign rfl) rfl ?_
        refine g_nil ?_
        refine g_qt ?_
        refine g_ret ?_
        refine g_qt_ret ?_
        have e : and1 S a b = (0, 0, S) := by rw [e0]; exact if_pos (.inl (by omega))
        exact g_post (rs := [.tmp 6, .tmp 7]) rfl (.tmp rfl (.tmp rfl .nil)) ⟨by rw [e]; rfl, by rw [e]⟩ (by repeat' (first | exact Cover.nil | exact Take.here | apply Cover.cons | apply Take.there))
      · refine g_yes rfl rfl ?_
        refine g_pure (p_move rfl) rfl ?_
        refine g_yes rfl rfl ?_
        refine g_pure (p_eql rfl rfl) rfl ?_
        first | refine g_pure (p_pickt rfl rfl) rfl ?_ | refine g_pure (p_pickf rfl rfl) rfl ?_
        refine g_pure (p_move rfl) rfl ?_
        refine g_splitd rfl rfl (fun h2 => ?_) (fun h2 => ?_)
        · refine g_no rfl rfl rfl rfl ?_
          refine g_no rfl rfl rfl rfl ?_
          refine g_no rfl rfl rfl rfl ?_
          refine g_no rfl rfl rfl rfl ?_
          first | refine g_pure (p_pickt rfl rfl) rfl ?_ | refine g_pure (p_pickf rfl rfl) rfl ?_
          refine g_nil ?_
          refine g_qt ?_
          refine g_ift rfl ?_
          refine g_seq ?_
          refine g_region ?_
          refine g_pure (p_assign rfl) rfl ?_
          refine g_pure (p_assign rfl) rfl ?_
          refine g_nil ?_
          refine g_qt ?_
          refine g_ret ?_
          refine g_qt_ret ?_
          have e : and1 S a b = (0, 0, S) := by rw [e0]; exact if_pos (.inl (by omega))
          exact g_post (rs := [.tmp 6, .tmp 7]) rfl (.tmp rfl (.tmp rfl .nil)) ⟨by rw [e]; rfl, by rw [e]⟩ (by repeat' (first | exact Cover.nil | exact Take.here | apply Cover.cons | apply Take.there))
        · refine g_yes rfl rfl ?_
          refine g_pure (p_move rfl) rfl ?_
          refine g_yes rfl rfl ?_
          refine g_pure (p_move rfl) rfl ?_
          refine g_yes rfl rfl ?_
          refine g_call (Hin := []) (Hr := ?hr4) (R := ?rr4) rfl rfl rfl ?hin4 ?hc4 ?hk4
          case hin4 => repeat' (first | exact Cover.nil | exact Take.here | apply Cover.cons | apply Take.there)
          case hc4 => intro ρ' hρ hR; exact rnot_ok b hb
          rintro _ _ ⟨rfl, rfl⟩
          refine g_yes rfl rfl ?_
          refine g_pure (p_eql rfl rfl) rfl ?_
          first | refine g_pure (p_pickt rfl rfl) rfl ?_ | refine g_pure (p_pickf rfl rfl) rfl ?_
          refine g_nil ?_
          refine g_qt ?_
          refine g_ifd rfl (fun h3 => ?_) (fun h3 => ?_)
          · refine g_seq ?_
            refine g_region ?_
            refine g_pure (p_assign rfl) rfl ?_
            refine g_pure (p_assign rfl) rfl ?_
            refine g_nil ?_
            refine g_qt ?_
            refine g_ret ?_
            refine g_qt_ret ?_
            have e : and1 S a b = (0, 0, S) := by rw [e0]; exact if_pos (.inr (min_nt h3))
            exact g_post (rs := [.tmp 6, .tmp 7]) rfl (.tmp rfl (.tmp rfl .nil)) ⟨by rw [e]; rfl, by rw [e]⟩ (by repeat' (first | exact Cover.nil | exact Take.here | apply Cover.cons | apply Take.there))
          · have c1 : ¬ (min a b = 0 ∨ min a b = nt (max a b)) := by
              rintro (h | h)
              · omega
              · exact min_nt' h3 h
            have e1 : and1 S a b = _ := e0.trans (if_neg c1)
            refine g_skip ?_
            refine g_qt ?_
            refine g_seq ?_
            refine g_seq ?_
            refine g_region ?_
            refine g_pure (p_move rfl) rfl ?_
            refine g_pure (p_eql rfl rfl) rfl ?_
            refine g_pure (p_move rfl) rfl ?_
            refine g_splitd rfl rfl (fun h4 => ?_) (fun h4 => ?_)
            · refine g_no rfl rfl rfl rfl ?_
              refine g_no rfl rfl rfl rfl ?_
              refine g_no rfl rfl rfl rfl ?_
              first | refine g_pure (p_pickt rfl rfl) rfl ?_ | refine g_pure (p_pickf rfl rfl) rfl ?_
              refine g_nil ?_
              refine g_qt ?_
              refine g_ift rfl ?_
              refine g_seq ?_
              refine g_region ?_
              refine g_pure (p_move rfl) rfl ?_
              refine g_pure (p_assign rfl) rfl ?_
              refine g_pure (p_assign rfl) rfl ?_
              refine g_nil ?_
              refine g_qt ?_
              refine g_ret ?_
              refine g_qt_ret ?_
              have e : and1 S a b = (b, 0, S) := by rw [e1, if_pos (.inl (by omega)), show max a b = b by omega]
              exact g_post (rs := [.tmp 6, .tmp 7]) rfl (.tmp rfl (.tmp rfl .nil)) ⟨by rw [e]; rfl, by rw [e]⟩ (by repeat' (first | exact Cover.nil | exact Take.here | apply Cover.cons | apply Take.there))
            · refine g_yes rfl rfl ?_
              refine g_pure (p_move rfl) rfl ?_
              refine g_yes rfl rfl ?_
              refine g_pure (p_move rfl) rfl ?_
              refine g_yes rfl rfl ?_
              refine g_pure (p_eql rfl rfl) rfl ?_
              first | refine g_pure (p_pickt rfl rfl) rfl ?_ | refine g_pure (p_pickf rfl rfl) rfl ?_
              refine g_nil ?_
              refine g_qt ?_
              refine g_ifd rfl (fun h5 => ?_) (fun h5 => ?_)
              · refine g_seq ?_
                refine g_region ?_
                refine g_pure (p_move rfl) rfl ?_
                refine g_pure (p_assign rfl) rfl ?_
                refine g_pure (p_assign rfl) rfl ?_
                refine g_nil ?_
                refine g_qt ?_
                refine g_ret ?_
                refine g_qt_ret ?_
                have e : and1 S a b = (b, 0, S) := by rw [e1, if_pos (.inr (by omega)), show max a b = b by omega]
                exact g_post (rs := [.tmp 6, .tmp 7]) rfl (.tmp rfl (.tmp rfl .nil)) ⟨by rw [e]; rfl, by rw [e]⟩ (by repeat' (first | exact Cover.nil | exact Take.here | apply Cover.cons | apply Take.there))
              · refine g_skip ?_
                refine g_qt ?_
                refine g_seq ?_
                refine g_seq ?_
                refine g_region ?_
                refine g_pure (p_move rfl) rfl ?_
                refine g_pure (p_eql rfl rfl) rfl ?_
                refine g_nil ?_
                refine g_qt ?_
                refine g_ifd rfl (fun h6 => ?_) (fun h6 => ?_)
                · refine g_seq ?_
                  refine g_region ?_
                  refine g_pure (p_move rfl) rfl ?_
                  refine g_pure (p_assign rfl) rfl ?_
                  refine g_pure (p_assign rfl) rfl ?_
                  refine g_nil ?_
                  refine g_qt ?_
                  refine g_ret ?_
                  refine g_qt_ret ?_
                  have e : and1 S a b = (a, 0, S) := by rw [e1, if_pos (.inl (by omega)), show max a b = a by omega]
                  exact g_post (rs := [.tmp 6, .tmp 7]) rfl (.tmp rfl (.tmp rfl .nil)) ⟨by rw [e]; rfl, by rw [e]⟩ (by repeat' (first | exact Cover.nil | exact Take.here | apply Cover.cons | apply Take.there))
                · have c2 : ¬ (min a b = 1 ∨ min a b = max a b) := by rintro (h | h) <;> omega
                  rw [if_neg c2] at e1
                  refine g_open .here ?_
                  rintro _ ⟨aa, ca, ab, cb, ai, ci, rfl, h0, hl⟩
                  refine g_own (.there .here) (fun _ h _ _ => absurd h (by omega)) ?_
                  rintro ga cura rfl a1 a2 a3 a4 a5
                  refine g_own (.there (.there .here)) (fun _ h _ _ => absurd h (by omega)) ?_
                  rintro gb curb rfl b1 b2 b3 b4 b5
                  refine g_own (.there (.there (.there .here))) (fun _ h _ _ => absurd h (by omega)) ?_
                  rintro gi curi rfl c1 c2 c3 c4 c5
                  refine g_skip ?_
                  refine g_qt ?_
                  refine g_seq ?_
                  refine g_region ?_
                  refine g_pure (p_move rfl) rfl ?_
                  refine g_pure (p_move rfl) rfl ?_
                  refine g_pure (p_min rfl rfl) rfl ?_
                  refine g_pure (p_move rfl) rfl ?_
                  refine g_pure (p_move rfl) rfl ?_
                  refine g_pure (p_max rfl rfl) rfl ?_
                  refine g_pure (p_assign rfl) rfl ?_
                  refine g_pure (p_assign rfl) rfl ?_
                  refine g_nil ?_
                  refine g_qt ?_
                  refine g_seq ?_
                  refine g_seq ?_
                  refine g_region ?_
                  refine g_pure (p_assign rfl) rfl ?_
                  refine g_nil ?_
                  refine g_qt ?_
                  refine g_block ?_
                  refine g_loop (fun k : Nat => [(0, .pointer (some ⟨m, 0, none⟩)), (8, .int .i64 (min a b)), (9, .int .i64 (max a b)), (10, .int .i64 k)])
                    (fun _ => [Blk m (.cells [.slice (some ⟨ga, 0, none⟩) S.length ca, .slice (some ⟨gb, 0, none⟩) S.length cb, .slice (some ⟨gi, 0, none⟩) S.length ci].toArray 75 (0, 0)), Blk ga (.cells cura.toArray 35 (0, 0)), Blk gb (.cells curb.toArray 35 (0, 0)), Blk gi (.cells curi.toArray 4 (0, 0))])
                    (fun k => k ≤ S.length ∧ find (S.drop 1) 1 (min a b) (max a b) = find (S.drop k) k (min a b) (max a b)) (fun k => S.length - k) 1 ⟨h0, rfl⟩ (by repeat (first | exact trivial | refine ⟨by rfl, ?_⟩)) (by repeat' (first | exact Cover.nil | exact Take.here | apply Cover.cons | apply Take.there)) ?_
                  rintro k ⟨hk, hf⟩
                  refine g_seq ?_
                  refine g_seq ?_
                  refine g_region ?_
                  refine g_pure (p_move rfl) rfl ?_
                  refine g_pure (p_move rfl) rfl ?_
                  refine g_pure (p_nilCheck rfl) rfl ?_
                  refine g_pure (p_fieldAddr rfl) rfl ?_
                  refine g_pure (p_load (by rfl) rfl (by first | (apply Has.own; (repeat' (first | exact Take.here | apply Take.there)); done) | exact Has.ro (by assumption)) (by first | rfl | assumption)) rfl ?_
                  refine g_pure (p_len (by rfl) rfl) rfl ?_
                  refine g_pure (p_lss rfl rfl) rfl ?_
                  refine g_nil ?_
                  refine g_qt ?_
                  refine g_ifd rfl (fun h7 => ?_) (fun h7 => ?_)
                  · have hkl : k < S.length := by omega
                    have hf' := find_step hkl (x := min a b) (y := max a b)
                    obtain ⟨⟨x, y, z⟩, hq⟩ : ∃ q, S[k] = q := ⟨_, rfl⟩
                    have hsk : S[k]? = some (x, y, z) := by rw [List.getElem?_eq_getElem hkl, hq]
                    rw [hq] at hf'
                    have xa : cura[0 + (k : Int).toNat * 1]? = some (encI x) := own_at (k := k) a4 (by omega) (by simp [hsk])
                    have xb : curb[0 + (k : Int).toNat * 1]? = some (encI y) := own_at (k := k) b4 (by omega) (by simp [hsk])
                    have xi : curi[0 + (k : Int).toNat * 1]? = some (encB z) := own_at (k := k) c4 (by omega) (by simp [hsk])
                    refine g_skip ?_
                    refine g_qt ?_
                    refine g_seq ?_
                    refine g_block ?_
                    refine g_seq ?_
                    refine g_region ?_
                    refine g_pure (p_move rfl) rfl ?_
                    refine g_pure (p_nilCheck rfl) rfl ?_
                    refine g_pure (p_fieldAddr rfl) rfl ?_
                    refine g_pure (p_load (by rfl) rfl (by first | (apply Has.own; (repeat' (first | exact Take.here | apply Take.there)); done) | exact Has.ro (by assumption)) (by first | rfl | assumption)) rfl ?_
                    refine g_pure (p_move rfl) rfl ?_
                    refine g_pure (p_indexAddr rfl rfl (by omega) (fun _ => rfl)) rfl ?_
                    refine g_pure (p_load (by rfl) rfl (Has.own (by repeat' (first | exact Take.here | apply Take.there))) xi) rfl ?_
                    refine g_pure (p_not rfl) rfl ?_
                    refine g_pure (p_move rfl) rfl ?_
                    cases z with
                    | true =>
                      refine g_no rfl rfl rfl rfl ?_
                      refine g_no rfl rfl rfl rfl ?_
                      refine g_no rfl rfl rfl rfl ?_
                      refine g_no rfl rfl rfl rfl ?_
                      refine g_no rfl rfl rfl rfl ?_
                      refine g_no rfl rfl rfl rfl ?_
                      refine g_no rfl rfl rfl rfl ?_
                      refine g_no rfl rfl rfl rfl ?_
                      refine g_no rfl rfl rfl rfl ?_
                      first | refine g_pure (p_pickt rfl rfl) rfl ?_ | refine g_pure (p_pickf rfl rfl) rfl ?_
                      refine g_pure (p_move rfl) rfl ?_
                      refine g_no rfl rfl rfl rfl ?_
                      refine g_no rfl rfl rfl rfl ?_
                      refine g_no rfl rfl rfl rfl ?_
                      refine g_no rfl rfl rfl rfl ?_
                      refine g_no rfl rfl rfl rfl ?_
                      refine g_no rfl rfl rfl rfl ?_
                      refine g_no rfl rfl rfl rfl ?_
                      refine g_no rfl rfl rfl rfl ?_
                      refine g_no rfl rfl rfl rfl ?_
                      first | refine g_pure (p_pickt rfl rfl) rfl ?_ | refine g_pure (p_pickf rfl rfl) rfl ?_
                      refine g_nil ?_
                      refine g_qt ?_
                      refine g_iff rfl ?_
                      refine g_skip ?_
                      refine g_qb ?_
                      refine g_qt ?_
                      refine g_region ?_
                      refine g_pure (p_move rfl) rfl ?_
                      first | refine g_pure (p_addi rfl rfl (by omega)) rfl ?_ | refine g_pure (p_add rfl rfl) rfl ?_
                      refine g_pure (p_assign rfl) rfl ?_
                      refine g_nil ?_
                      refine g_qn ?_
                      rw [if_neg (by simp)] at hf'
                      exact g_next (k + 1) (by repeat (first | exact trivial | refine ⟨by rfl, ?_⟩)) (by repeat' (first | exact Cover.nil | exact Take.here | apply Cover.cons | apply Take.there)) ⟨by omega, hf.trans hf'⟩ (by omega)
                    | false =>
                      refine g_yes rfl rfl ?_
                      refine g_pure (p_move rfl) rfl ?_
                      refine g_yes rfl rfl ?_
                      refine g_pure (p_nilCheck rfl) rfl ?_
                      refine g_yes rfl rfl ?_
                      refine g_pure (p_fieldAddr rfl) rfl ?_
                      refine g_yes rfl rfl ?_
                      refine g_pure (p_load (by rfl) rfl (by first | (apply Has.own; (repeat' (first | exact Take.here | apply Take.there)); done) | exact Has.ro (by assumption)) (by first | rfl | assumption)) rfl ?_
                      refine g_yes rfl rfl ?_
                      refine g_pure (p_move rfl) rfl ?_
                      refine g_yes rfl rfl ?_
                      refine g_pure (p_indexAddr rfl rfl (by omega) (fun _ => rfl)) rfl ?_
                      refine g_yes rfl rfl ?_
                      refine g_pure (p_load (by rfl) rfl (Has.own (by repeat' (first | exact Take.here | apply Take.there))) xa) rfl ?_
                      refine g_yes rfl rfl ?_
                      refine g_pure (p_move rfl) rfl ?_
                      refine g_yes rfl rfl ?_
                      refine g_pure (p_eql rfl rfl) rfl ?_
                      first | refine g_pure (p_pickt rfl rfl) rfl ?_ | refine g_pure (p_pickf rfl rfl) rfl ?_
                      refine g_pure (p_move rfl) rfl ?_
                      refine g_splitd rfl rfl (fun q1 => ?_) (fun q1 => ?_)
                      · refine g_yes rfl rfl ?_
                        refine g_pure (p_move rfl) rfl ?_
                        refine g_yes rfl rfl ?_
                        refine g_pure (p_nilCheck rfl) rfl ?_
                        refine g_yes rfl rfl ?_
                        refine g_pure (p_fieldAddr rfl) rfl ?_
                        refine g_yes rfl rfl ?_
                        refine g_pure (p_load (by rfl) rfl (by first | (apply Has.own; (repeat' (first | exact Take.here | apply Take.there)); done) | exact Has.ro (by assumption)) (by first | rfl | assumption)) rfl ?_
                        refine g_yes rfl rfl ?_
                        refine g_pure (p_move rfl) rfl ?_
                        refine g_yes rfl rfl ?_
                        refine g_pure (p_indexAddr rfl rfl (by omega) (fun _ => rfl)) rfl ?_
                        refine g_yes rfl rfl ?_
                        refine g_pure (p_load (by rfl) rfl (Has.own (by repeat' (first | exact Take.here | apply Take.there))) xb) rfl ?_
                        refine g_yes rfl rfl ?_
                        refine g_pure (p_move rfl) rfl ?_
                        refine g_yes rfl rfl ?_
                        refine g_pure (p_eql rfl rfl) rfl ?_
                        first | refine g_pure (p_pickt rfl rfl) rfl ?_ | refine g_pure (p_pickf rfl rfl) rfl ?_
                        refine g_nil ?_
                        refine g_qt ?_
                        refine g_ifd rfl (fun q2 => ?_) (fun q2 => ?_)
                        · refine g_seq ?_
                          refine g_region ?_
                          refine g_pure (p_move rfl) rfl ?_
                          first | refine g_pure (p_muli rfl rfl (by omega)) rfl ?_ | refine g_pure (p_mul rfl rfl) rfl ?_
                          refine g_pure (p_assign rfl) rfl ?_
                          refine g_pure (p_assign rfl) rfl ?_
                          refine g_nil ?_
                          refine g_qt ?_
                          refine g_ret ?_
                          refine g_qb_ret ?_
                          refine g_qt_ret ?_
                          refine g_qn_ret ?_
                          refine g_qb_ret ?_
                          refine g_qt_ret ?_
                          rw [if_pos (by rw [q1, q2])] at hf'
                          rw [hf.trans hf'] at e1
                          have e : and1 S a b = (2 * (k : Int), 0, S) := e1
                          refine g_fold (k := S.length) (cap := ca) (size := 1) (by repeat' (first | exact Take.here | apply Take.there)) a1 a2 a3 a4 ?_
                          refine g_fold (k := S.length) (cap := cb) (size := 1) (by repeat' (first | exact Take.here | apply Take.there)) b1 b2 b3 b4 ?_
                          refine g_fold (k := S.length) (cap := ci) (size := 1) (by repeat' (first | exact Take.here | apply Take.there)) c1 c2 c3 c4 ?_
                          refine rf_close (m := m) h0 hl (by repeat' (first | exact Cover.nil | exact Take.here | apply Cover.cons | apply Take.there)) rfl rfl rfl rfl rfl rfl ?_
                          exact g_post (rs := [.tmp 6, .tmp 7]) rfl (.tmp rfl (.tmp rfl .nil)) ⟨by rw [e]; rfl, by rw [e]⟩ (by repeat' (first | exact Cover.nil | exact Take.here | apply Cover.cons | apply Take.there))
                        · refine g_skip ?_
                          refine g_qb ?_
                          refine g_qt ?_
                          refine g_region ?_
                          refine g_pure (p_move rfl) rfl ?_
                          first | refine g_pure (p_addi rfl rfl (by omega)) rfl ?_ | refine g_pure (p_add rfl rfl) rfl ?_
                          refine g_pure (p_assign rfl) rfl ?_
                          refine g_nil ?_
                          refine g_qn ?_
                          rw [if_neg (by simp; intro _; exact q2)] at hf'
                          exact g_next (k + 1) (by repeat (first | exact trivial | refine ⟨by rfl, ?_⟩)) (by repeat' (first | exact Cover.nil | exact Take.here | apply Cover.cons | apply Take.there)) ⟨by omega, hf.trans hf'⟩ (by omega)
                      · refine g_no rfl rfl rfl rfl ?_
                        refine g_no rfl rfl rfl rfl ?_
                        refine g_no rfl rfl rfl rfl ?_
                        refine g_no rfl rfl rfl rfl ?_
                        refine g_no rfl rfl rfl rfl ?_
                        refine g_no rfl rfl rfl rfl ?_
                        refine g_no rfl rfl rfl rfl ?_
                        refine g_no rfl rfl rfl rfl ?_
                        refine g_no rfl rfl rfl rfl ?_
                        first | refine g_pure (p_pickt rfl rfl) rfl ?_ | refine g_pure (p_pickf rfl rfl) rfl ?_
                        refine g_nil ?_
                        refine g_qt ?_
                        refine g_iff rfl ?_
                        refine g_skip ?_
                        refine g_qb ?_
                        refine g_qt ?_
                        refine g_region ?_
                        refine g_pure (p_move rfl) rfl ?_
                        first | refine g_pure (p_addi rfl rfl (by omega)) rfl ?_ | refine g_pure (p_add rfl rfl) rfl ?_
                        refine g_pure (p_assign rfl) rfl ?_
                        refine g_nil ?_
                        refine g_qn ?_
                        rw [if_neg (by simp; intro h; exact absurd h q1)] at hf'
                        exact g_next (k + 1) (by repeat (first | exact trivial | refine ⟨by rfl, ?_⟩)) (by repeat' (first | exact Cover.nil | exact Take.here | apply Cover.cons | apply Take.there)) ⟨by omega, hf.trans hf'⟩ (by omega)
                  · have hke : k = S.length := by omega
                    subst hke
                    have hf2 : find (S.drop S.length) S.length (min a b) (max a b) = none := by rw [List.drop_length]; rfl
                    rw [hf.trans hf2] at e1
                    have e : and1 S a b = add S (min a b, max a b, false) := e1
                    refine g_fold (k := S.length) (cap := ca) (size := 1) (.there .here) a1 a2 a3 a4 ?_
                    refine g_fold (k := S.length) (cap := cb) (size := 1) (.there (.there .here)) b1 b2 b3 b4 ?_
                    refine g_fold (k := S.length) (cap := ci) (size := 1) (.there (.there (.there .here))) c1 c2 c3 c4 ?_
                    refine rf_close (m := m) h0 hl (by repeat' (first | exact Cover.nil | exact Take.here | apply Cover.cons | apply Take.there)) rfl rfl rfl rfl rfl rfl ?_
                    refine g_exit ?_
                    refine g_qt_exit ?_
                    refine g_qn_exit ?_
                    refine g_qb_exit ?_
                    refine g_qt ?_
                    refine g_seq ?_
                    refine g_region ?_
                    refine g_pure (p_move rfl) rfl ?_
                    refine g_pure (p_move rfl) rfl ?_
                    refine g_pure (p_move rfl) rfl ?_
                    refine g_call (Hin := ?hi5) (Hr := ?hr5) (R := ?rr5) rfl rfl rfl ?hin5 ?hc5 ?hk5
                    case hc5 => intro ρ' hρ hR; exact radd_ok m S (min a b) (max a b) false
                    case hin5 => repeat' (first | exact Cover.nil | exact Take.here | apply Cover.cons | apply Take.there)
                    rintro _ _ ⟨rfl, rfl⟩
                    refine g_pure (p_extract rfl rfl) rfl ?_
                    refine g_pure (p_extract rfl rfl) rfl ?_
                    refine g_pure (p_assign rfl) rfl ?_
                    refine g_pure (p_assign rfl) rfl ?_
                    refine g_nil ?_
                    refine g_qt ?_
                    refine g_ret ?_
                    exact g_post (rs := [.tmp 6, .tmp 7]) rfl (.tmp rfl (.tmp rfl .nil)) ⟨by rw [e]; rfl, by rw [e]⟩ (by repeat' (first | exact Cover.nil | exact Take.here | apply Cover.cons | apply Take.there))

theorem ror_ok {ρ : Nat → Obj → Prop} (m : Nat) (S : St) (a b : Int) (ha : I64 a) (hb : I64 b) : Con Try.prog ρ 37 #[.pointer (some ⟨m, 0, none⟩), .int .i64 a, .int .i64 b] [Rf m S]
    (fun v H => v = .tuple #[.int .i64 (or1 S a b).1, .int .i64 (or1 S a b).2.1] ∧ H = [Rf m (or1 S a b).2.2]) := by
  refine con_intro Try.func37 Try.call37 rfl Try.ntmps37 rfl (L := [(0, _), (1, _), (2, _)]) rfl fun w hh => ?_
  refine rf_len .here fun hz hl => ?_
  refine g_seq ?_
  refine g_region ?_
  refine g_pure (p_assign rfl) rfl ?_
  refine g_pure (p_assign rfl) rfl ?_
  refine g_nil ?_
  refine g_qt ?_
  refine g_seq ?_
  refine g_seq ?_
  refine g_region ?_
  refine g_pure (p_move rfl) rfl ?_
  refine g_pure (p_move rfl) rfl ?_
  refine g_call (Hin := []) (Hr := ?hr6) (R := ?rr6) rfl rfl rfl ?hin6 ?hc6 ?hk6
  case hin6 => repeat' (first | exact Cover.nil | exact Take.here | apply Cover.cons | apply Take.there)
  case hc6 => intro ρ' hρ hR; exact rhas_ok m S a hR.1
  rintro _ _ ⟨rfl, rfl⟩
  refine g_pure (p_not rfl) rfl ?_
  refine g_pure (p_move rfl) rfl ?_
  cases ea : hasB S a with
  | false =>
    refine g_no rfl rfl rfl rfl ?_
    refine g_no rfl rfl rfl rfl ?_
    refine g_no rfl rfl rfl rfl ?_
    refine g_no rfl rfl rfl rfl ?_
    first | refine g_pure (p_pickt rfl rfl) rfl ?_ | refine g_pure (p_pickf rfl rfl) rfl ?_
    refine g_nil ?_
    refine g_qt ?_
    refine g_ift rfl ?_
    refine g_seq ?_
    refine g_region ?_
    refine g_pure (p_assign rfl) rfl ?_
    refine g_pure (p_assign rfl) rfl ?_
    refine g_nil ?_
    refine g_qt ?_
    refine g_ret ?_
    refine g_qt_ret ?_
    have e : or1 S a b = (0, 14, S) := by unfold or1; rw [ea]; rfl
    exact g_post (rs := [.tmp 6, .tmp 7]) rfl (.tmp rfl (.tmp rfl .nil)) ⟨by rw [e]; rfl, by rw [e]⟩ (by repeat' (first | exact Cover.nil | exact Take.here | apply Cover.cons | apply Take.there))
  | true =>
    refine g_yes rfl rfl ?_
    refine g_pure (p_move rfl) rfl ?_
    refine g_yes rfl rfl ?_
    refine g_pure (p_move rfl) rfl ?_
    refine g_yes rfl rfl ?_
    refine g_call (Hin := []) (Hr := ?hr7) (R := ?rr7) rfl rfl rfl ?hin7 ?hc7 ?hk7
    case hin7 => repeat' (first | exact Cover.nil | exact Take.here | apply Cover.cons | apply Take.there)
    case hc7 => intro ρ' hρ hR; exact rhas_ok m S b hR.1
    rintro _ _ ⟨rfl, rfl⟩
    refine g_yes rfl rfl ?_
    refine g_pure (p_not rfl) rfl ?_
    first | refine g_pure (p_pickt rfl rfl) rfl ?_ | refine g_pure (p_pickf rfl rfl) rfl ?_
    refine g_nil ?_
    refine g_qt ?_
    cases eb : hasB S b with
    | false =>
      refine g_ift rfl ?_
      refine g_seq ?_
      refine g_region ?_
      refine g_pure (p_assign rfl) rfl ?_
      refine g_pure (p_assign rfl) rfl ?_
      refine g_nil ?_
      refine g_qt ?_
      refine g_ret ?_
      refine g_qt_ret ?_
      have e : or1 S a b = (0, 14, S) := by unfold or1; rw [ea, eb]; rfl
      exact g_post (rs := [.tmp 6, .tmp 7]) rfl (.tmp rfl (.tmp rfl .nil)) ⟨by rw [e]; rfl, by rw [e]⟩ (by repeat' (first | exact Cover.nil | exact Take.here | apply Cover.cons | apply Take.there))
    | true =>
      refine g_iff rfl ?_
      refine g_skip ?_
      refine g_qt ?_
      refine g_seq ?_
      refine g_region ?_
      refine g_pure (p_move rfl) rfl ?_
      refine g_pure (p_move rfl) rfl ?_
      refine g_call (Hin := []) (Hr := ?hr8) (R := ?rr8) rfl rfl rfl ?hin8 ?hc8 ?hk8
      case hin8 => repeat' (first | exact Cover.nil | exact Take.here | apply Cover.cons | apply Take.there)
      case hc8 => intro ρ' hρ hR; exact rnot_ok a ha
      rintro _ _ ⟨rfl, rfl⟩
      refine g_pure (p_move rfl) rfl ?_
      refine g_call (Hin := []) (Hr := ?hr9) (R := ?rr9) rfl rfl rfl ?hin9 ?hc9 ?hk9
      case hin9 => repeat' (first | exact Cover.nil | exact Take.here | apply Cover.cons | apply Take.there)
      case hc9 => intro ρ' hρ hR; exact rnot_ok b hb
      rintro _ _ ⟨rfl, rfl⟩
      have e0 : and1 S (nt a) (nt b) = and0 S (nt a) (nt b) := by unfold and1; rw [hasB_nt, hasB_nt, ea, eb]; rfl
      have e : or1 S a b = (let r := and0 S (nt a) (nt b); if r.2.1 = 0 then (nt r.1, 0, r.2.2) else (0, r.2.1, r.2.2)) := by unfold or1; rw [ea, eb]; rfl
      rw [← e0] at e
      have hsp := and0_spec (nt_has (hasB_iff.1 ea)) (nt_has (hasB_iff.1 eb))
      rw [← e0] at hsp
      refine g_call (Hin := ?hi10) (Hr := ?hr10) (R := ?rr10) rfl rfl rfl ?hin10 ?hc10 ?hk10
      case hc10 => intro ρ' hρ hR; exact rand_ok m S (nt a) (nt b) ha.nt hb.nt
      case hin10 => repeat' (first | exact Cover.nil | exact Take.here | apply Cover.cons | apply Take.there)
      rintro _ _ ⟨rfl, rfl⟩
      refine g_pure (p_move rfl) rfl ?_
      refine g_pure (p_extract rfl rfl) rfl ?_
      refine g_pure (p_extract rfl rfl) rfl ?_
      refine g_pure (p_assign rfl) rfl ?_
      refine g_pure (p_assign rfl) rfl ?_
      refine g_nil ?_
      refine g_qt ?_
      refine g_seq ?_
      refine g_seq ?_
      refine g_region ?_
      refine g_pure (p_move rfl) rfl ?_
      refine g_pure (p_neq rfl rfl) rfl ?_
      refine g_nil ?_
      refine g_qt ?_
      refine g_ifnd rfl (fun h3 => ?_) (fun h3 => ?_)
      · refine g_seq ?_
        refine g_region ?_
        refine g_pure (p_move rfl) rfl ?_
        refine g_pure (p_assign rfl) rfl ?_
        refine g_pure (p_assign rfl) rfl ?_
        refine g_nil ?_
        refine g_qt ?_
        refine g_ret ?_
        refine g_qt_ret ?_
        rw [if_neg h3] at e
        exact g_post (rs := [.tmp 6, .tmp 7]) rfl (.tmp rfl (.tmp rfl .nil)) ⟨by rw [e]; rfl, by rw [e]⟩ (by repeat' (first | exact Cover.nil | exact Take.here | apply Cover.cons | apply Take.there))
      · refine g_skip ?_
        refine g_qt ?_
        refine g_seq ?_
        refine g_region ?_
        refine g_pure (p_move rfl) rfl ?_
        rw [if_pos h3] at e
        refine rf_len .here fun hz2 hl2 => ?_
        have hr : has (and1 S (nt a) (nt b)).2.2 (and1 S (nt a) (nt b)).1 := by
          rcases hsp with h | h
          · exact h.2.2
          · omega
        refine g_call (Hin := []) (Hr := ?hr11) (R := ?rr11) rfl rfl rfl ?hin11 ?hc11 ?hk11
        case hin11 => repeat' (first | exact Cover.nil | exact Take.here | apply Cover.cons | apply Take.there)
        case hc11 => intro ρ' hρ hR; exact rnot_ok (and1 S (nt a) (nt b)).1 (by have := hr.1; have := hr.2; unfold I64; omega)
        rintro _ _ ⟨rfl, rfl⟩
        refine g_pure (p_assign rfl) rfl ?_
        refine g_pure (p_assign rfl) rfl ?_
        refine g_nil ?_
        refine g_qt ?_
        refine g_ret ?_
        exact g_post (rs := [.tmp 6, .tmp 7]) rfl (.tmp rfl (.tmp rfl .nil)) ⟨by rw [e]; rfl, by rw [e]⟩ (by repeat' (first | exact Cover.nil | exact Take.here | apply Cover.cons | apply Take.there))
end Go.Proofs.Ytmdmffpfnijahaa
