/- Chapter 16: merging: the operation along streams; the document's. Conditions: none. -/
import Derived.Test.YtceecdjckhbncaaD8
namespace Go.Proofs.Ytceecdjckhbncaa
set_option linter.unusedVariables false
set_option linter.unusedSimpArgs false
set_option linter.unusedSectionVars false
open Go Go.Z Go.Z.Val

theorem merge_ok {ρ : Nat → Obj → Prop} {x : List Ce} {l : List (List Ce)} {xa la : Option Addr} {xc lc : Nat} (hx : RSl ρ 2 xa x.length (x.flatMap encC)) (hs : SlS ρ la l) (hlen : l.length ≤ 900000) (hxl : x.length ≤ 1000000) :
    Con Try.prog ρ 26 #[.slice xa x.length xc, .slice la l.length lc] [] (StrP (MergeL x l)) := by
  have heq : (List.range (lenF (x :: l))).map (outF false (x :: l) (mergeG x l)) = MergeL x l := List.map_congr_left fun t _ => mergeG_eq x l t
  have hlm : lenF (x :: l) ≤ 1000000 := Nat.le_trans (lenF_le x (by simp)) hxl
  obtain ⟨cells, e1, e2, hr⟩ := id hs
  have hone := one_of e1 e2
  refine con_intro Try.func26 Try.call26 rfl Try.ntmps26 rfl (L := [(0, _), (1, _)]) rfl fun w hh => ?_
  refine g_emp (A := Al []) rfl ?_
  refine g_seq ?_
  refine g_region ?_
  refine g_eff (e_box rfl (by rfl)) rfl (fun _ _ => ?_)
  rintro ⟨b3, rfl, rfl⟩
  refine g_pure (p_assign rfl) rfl ?_
  refine g_nil ?_
  refine g_qt ?_
  refine g_seq ?_
  refine g_region ?_
  refine g_pure (p_makeFunc rfl rfl) rfl ?_
  refine g_pure (p_build (by rfl) rfl (by rfl)) rfl ?_
  refine g_pure (p_move rfl) rfl ?_
  refine g_eff (e_bs (xs := [.tmp 7]) rfl rfl rfl (by rfl) (by rfl) rfl (by rfl)) rfl (fun _ _ => ?_)
  rintro ⟨b8, rfl, rfl⟩
  refine g_pure (p_load (by rfl) rfl (by first | (apply Has.own; (repeat' (first | exact Take.here | apply Take.there)); done) | exact Has.ro (by assumption)) (by first | rfl | assumption)) rfl ?_
  refine g_fold (k := 1) (cap := 1) (size := 1) (xs := [.slice xa x.length xc]) .here (by omega) (by omega) rfl rfl ?_
  have key : ∀ (ao : Option Addr) (co : Nat), (∀ ρ' : Nat → Obj → Prop, (∀ b o, ρ b o → ρ' b o) → Ro ρ' (OwnSl 22 1 ao (l.length + 1) co (.slice xa x.length xc :: cells)) → SlS ρ' ao (x :: l)) := fun ao co ρ' hρ h => SlS.cons e1 (fun j hj => let ⟨aj, cj, e, r⟩ := e2 j hj; ⟨aj, cj, e, r.mono hρ⟩) (hx.mono hρ) (RSl.of_own h)
  cases l with
  | nil =>
    obtain rfl : cells = [] := List.eq_nil_of_length_eq_zero e1
    refine g_eff (e_append0 rfl rfl (by omega)) rfl (fun _ _ => ?_)
    rintro ⟨rfl, rfl⟩
    refine g_call (Hin := [Al []]) (Hr := ?hr1) (R := ?rr1) rfl rfl rfl ?hin1 ?hc1 ?hk1
    case hin1 => repeat' (first | exact Cover.nil | exact Take.here | apply Cover.cons | apply Take.there)
    case hc1 => intro ρ' hρ hR; exact along_ok (l := [x]) (d := 49) (dcap := #[.pointer (some ⟨b3, 0, none⟩)]) (St := fun _ => Al []) (g := mergeG x []) (key _ 1 ρ' hρ hR.1) (by simp) hlm (fun t ht hj ρ2 h2 ca k hk hc => merge1_ok (by simp) (h2 _ _ hR.2.1.blk) hk hc) (fun t ht _ _ => rfl)
    rintro _ _ ⟨o, oc, rfl, rfl⟩
    rw [heq]
    refine g_pure (p_assign rfl) rfl ?_
    refine g_nil ?_
    refine g_qt ?_
    refine g_ret ?_
    exact g_post (rs := [.tmp 4]) rfl (.tmp rfl .nil) ⟨o, oc, rfl, rfl⟩ (by repeat' (first | exact Cover.nil | exact Take.here | apply Cover.cons | apply Take.there))
  | cons y l =>
    obtain ⟨_, b, off, cs, T, fz, h3⟩ := hr
    obtain ⟨r1, r2, r3⟩ := h3 (by simp)
    subst r1
    have hsub : sub cs off ((y :: l).length * 1) = some cells := by
      have := sub_of (o := off) (i := 0) (k := (y :: l).length) r3 (by simp) (by omega)
      rw [List.drop_zero, List.take_of_length_le (by omega)] at this
      simpa using this
    refine g_eff (e_append rfl rfl rfl rfl (Has.ro r2) hsub hone .here (by simp) (by simp only [List.length_cons] at *; omega) (by simp only [List.length_cons] at *; omega)) rfl (fun _ _ => ?_)
    rintro ⟨a10, c10, rfl, rfl⟩
    rw [show 1 + (y :: l).length = (x :: y :: l).length by simp only [List.length_cons]; omega]
    refine g_call (Hin := [Al []]) (Hr := ?hr2) (R := ?rr2) rfl rfl rfl ?hin2 ?hc2 ?hk2
    case hin2 => repeat' (first | exact Cover.nil | exact Take.here | apply Cover.cons | apply Take.there)
    case hc2 => intro ρ' hρ hR; exact along_ok (l := x :: y :: l) (d := 49) (dcap := #[.pointer (some ⟨b3, 0, none⟩)]) (St := fun _ => Al []) (g := mergeG x (y :: l)) (key _ c10 ρ' hρ hR.1) (by simp only [List.length_cons] at *; omega) hlm (fun t ht hj ρ2 h2 ca k hk hc => merge1_ok (by omega) (h2 _ _ hR.2.1.blk) hk hc) (fun t ht _ _ => rfl)
    rintro _ _ ⟨o, oc, rfl, rfl⟩
    rw [heq]
    refine g_pure (p_assign rfl) rfl ?_
    refine g_nil ?_
    refine g_qt ?_
    refine g_ret ?_
    exact g_post (rs := [.tmp 4]) rfl (.tmp rfl .nil) ⟨o, oc, rfl, rfl⟩ (by repeat' (first | exact Cover.nil | exact Take.here | apply Cover.cons | apply Take.there))
end Go.Proofs.Ytceecdjckhbncaa
