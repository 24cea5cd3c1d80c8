/- Chapter 16: the document's merging. Conditions: none. -/
import Derived.Test.YtceecdjckhbncaaD9
namespace Go.Z.Val
set_option linter.unusedVariables false
set_option linter.unusedSimpArgs false
set_option linter.unusedSectionVars false
open Go Go.Z
def mergeC (x : List Ce) (l : List (List Ce)) (t : Nat) : Prop := (at0 x t).1 = 1 ∧ 0 ≤ (at0 x t).2 ∧ (at0 x t).2 < l.length ∧ thereB (at0 (l.getD (at0 x t).2.toNat []) t) = true
theorem MergeF_y {x : List Ce} {l : List (List Ce)} {t : Nat} (h1 : thereB (at0 x t) = true) (h : mergeC x l t) : cleanF (at0 (l.getD (at0 x t).2.toNat []) t) = MergeF x l t := by
  unfold MergeF; unfold mergeC at h; rw [if_pos h1, if_pos h]
theorem MergeF_n {x : List Ce} {l : List (List Ce)} {t : Nat} (h1 : thereB (at0 x t) = true) (h : ¬ mergeC x l t) : ((2, 0) : Ce) = MergeF x l t := by
  unfold MergeF; unfold mergeC at h; rw [if_pos h1, if_neg h]
end Go.Z.Val
namespace Go.Proofs.Ytceecdjckhbncaa
open Go Go.Z Go.Z.Val

theorem dmerge_ok {ρ : Nat → Obj → Prop} {x : List Ce} {l : List (List Ce)} {xa la : Option Addr} {xc lc : Nat} (hx : RSl ρ 2 xa x.length (x.flatMap encC)) (hs : SlS ρ la l) (hlen : l.length ≤ 900000) (hxl : x.length ≤ 1000000) :
    Con Try.prog ρ 27 #[.slice xa x.length xc, .slice la l.length lc] [] (StrP (MergeL x l)) := by
  have hlm : lenF (x :: l) ≤ 1000000 := Nat.le_trans (lenF_le x (by simp)) hxl
  obtain ⟨_, bm, om, km, Tm, fm, hm0⟩ := id hx
  refine con_intro Try.func27 Try.call27 rfl Try.ntmps27 rfl (L := [(0, _), (1, _)]) rfl fun w hh => ?_
  refine g_seq ?_
  refine g_region ?_
  refine g_pure (p_assign rfl) rfl ?_
  refine g_nil ?_
  refine g_qt ?_
  refine g_seq ?_
  refine g_region ?_
  refine g_pure (p_assign rfl) rfl ?_
  refine g_nil ?_
  refine g_qt ?_
  refine g_seq ?_
  refine g_region ?_
  refine g_pure (p_move rfl) rfl ?_
  refine g_pure (p_len (by rfl) rfl) rfl ?_
  refine g_pure (p_assign rfl) rfl ?_
  refine g_nil ?_
  refine g_qt ?_
  refine g_seq ?_
  refine g_seq ?_
  refine g_region ?_
  refine g_pure (p_assign rfl) rfl ?_
  refine g_nil ?_
  refine g_qt ?_
  refine g_block ?_
  refine g_ownnil (e := 31) (size := 2) ?_
  refine g_loop (fun j : Nat => [(0, .slice xa x.length xc), (1, .slice la l.length lc), (5, .slice none 0 0), (6, .int .i64 ((l.take j).foldl (fun n (b : List Ce) => min n b.length) x.length : Nat)), (7, .int .i64 j)]) (fun _ => [OwnSl 31 2 none 0 0 []]) (fun j => j ≤ l.length) (fun j => l.length - j) 0 (Nat.zero_le _) (by (repeat (first | exact trivial | refine ⟨by rfl, ?_⟩)); done) (by repeat' (first | exact Cover.nil | exact Take.here | apply Cover.cons | apply Take.there)) ?_
  intro j hj
  refine g_seq ?_
  refine g_seq ?_
  refine g_region ?_
  refine g_pure (p_move rfl) rfl ?_
  refine g_pure (p_move rfl) rfl ?_
  refine g_pure (p_len (by rfl) rfl) rfl ?_
  refine g_pure (p_lss rfl rfl) rfl ?_
  refine g_nil ?_
  refine g_qt ?_
  refine g_ifd rfl (fun q => ?_) (fun q => ?_)
  · have hjl : j < l.length := by omega
    obtain ⟨b, off, cs, T, fz, r1, r2, r3⟩ := hs.at (by omega)
    obtain ⟨aj, cj, ej, _⟩ := r3 j hjl
    have ej' : cs[off + (j : Int).toNat * 1]? = some (.slice aj l[j].length cj) := ej
    have hlt : (l.take (j + 1)).foldl (fun n (b : List Ce) => min n b.length) x.length = min ((l.take j).foldl (fun n (b : List Ce) => min n b.length) x.length) l[j].length := by
      rw [List.take_add_one, List.getElem?_eq_getElem hjl, Option.toList_some, List.foldl_append]; rfl
    refine g_skip ?_
    refine g_qt ?_
    refine g_seq ?_
    refine g_block ?_
    refine g_region ?_
    refine g_pure (p_move rfl) rfl ?_
    refine g_pure (p_move rfl) rfl ?_
    refine g_pure (p_move rfl) rfl ?_
    refine g_pure (p_indexAddr rfl rfl (by omega) (fun _ => r1)) rfl ?_
    refine g_pure (p_load (by rfl) rfl (Has.ro r2) ej') rfl ?_
    refine g_pure (p_len (by rfl) rfl) rfl ?_
    refine g_pure (p_min rfl rfl) rfl ?_
    refine g_pure (p_assign rfl) rfl ?_
    refine g_nil ?_
    refine g_qb ?_
    refine g_qt ?_
    refine g_region ?_
    refine g_pure (p_move rfl) rfl ?_
    first | refine g_pure (p_addi rfl rfl (by omega)) rfl ?_ | refine g_pure (p_add rfl rfl) rfl ?_
    refine g_pure (p_assign rfl) rfl ?_
    refine g_nil ?_
    refine g_qn ?_
    rw [show min (((l.take j).foldl (fun n (b : List Ce) => min n b.length) x.length : Nat) : Int) ((l[j].length : Nat) : Int) = (((l.take (j + 1)).foldl (fun n (b : List Ce) => min n b.length) x.length : Nat) : Int) by rw [hlt]; omega]
    exact g_next (j + 1) (by (repeat (first | exact trivial | refine ⟨by rfl, ?_⟩)); done) (by repeat' (first | exact Cover.nil | exact Take.here | apply Cover.cons | apply Take.there)) (by omega) (by omega)
  · obtain rfl : j = l.length := by omega
    rw [List.take_length]
    have hfold : l.foldl (fun n (b : List Ce) => min n b.length) x.length = lenF (x :: l) := rfl
    rw [hfold]
    have hnl : ∀ y ∈ x :: l, lenF (x :: l) ≤ y.length := lenF_le
    obtain ⟨n, hfold2⟩ : ∃ n, lenF (x :: l) = n := ⟨_, rfl⟩
    rw [hfold2] at hnl hlm ⊢
    clear hfold
    refine g_exit ?_
    refine g_qt_exit ?_
    refine g_qn_exit ?_
    refine g_qb_exit ?_
    refine g_qt ?_
    refine g_seq ?_
    refine g_seq ?_
    refine g_region ?_
    refine g_pure (p_assign rfl) rfl ?_
    refine g_nil ?_
    refine g_qt ?_
    refine g_block ?_
    refine g_loop (fun q : Nat × Option Addr × Nat => [(0, .slice xa x.length xc), (1, .slice la l.length lc), (5, .slice q.2.1 ((List.range q.1).map (MergeF x l)).length q.2.2), (6, .int .i64 n), (8, .int .i64 q.1)]) (fun q => [OwnSl 31 2 q.2.1 ((List.range q.1).map (MergeF x l)).length q.2.2 (((List.range q.1).map (MergeF x l)).flatMap encC)]) (fun q => q.1 ≤ n) (fun q => n - q.1) (0, none, 0) (Nat.zero_le _) (by (repeat (first | exact trivial | refine ⟨by rfl, ?_⟩)); done) (by repeat' (first | exact Cover.nil | exact Take.here | apply Cover.cons | apply Take.there)) ?_
    rintro ⟨t, oa, oc⟩ ht
    dsimp only at ht ⊢
    have hil : ((List.range t).map (MergeF x l)).length = t := by simp
    refine g_seq ?_
    refine g_seq ?_
    refine g_region ?_
    refine g_pure (p_move rfl) rfl ?_
    refine g_pure (p_move rfl) rfl ?_
    refine g_pure (p_lss rfl rfl) rfl ?_
    refine g_nil ?_
    refine g_qt ?_
    refine g_ifd rfl (fun q2 => ?_) (fun q2 => ?_)
    · have htm : t < x.length := by have := hnl x (by simp); omega
      obtain ⟨m1, m2, m3⟩ := hm0 (by omega)
      obtain ⟨x0, y1, y2⟩ := cell_at m3 htm
      have x0' : sub km (om + (t : Int).toNat * 2) 2 = some (encC (at0 x t)) := by rw [at0_eq htm]; exact x0
      have y1' : km[om + (t : Int).toNat * 2]? = some (.int .i64 (at0 x t).1) := by rw [at0_eq htm]; exact y1
      have y2' : km[om + (t : Int).toNat * 2 + 1]? = some (.int .i64 (at0 x t).2) := by rw [at0_eq htm]; exact y2
      clear x0 y1 y2
      have hm : (List.range (t + 1)).map (MergeF x l) = (List.range t).map (MergeF x l) ++ [MergeF x l t] := by rw [List.range_succ, List.map_append]; rfl
      have hm1 : ((List.range t).map (MergeF x l)).length + 1 = ((List.range (t + 1)).map (MergeF x l)).length := by rw [hm]; simp
      have hm2 : ((List.range t).map (MergeF x l)).flatMap encC ++ encC (MergeF x l t) = ((List.range (t + 1)).map (MergeF x l)).flatMap encC := by rw [hm]; simp
      have hrow : 0 ≤ (at0 x t).2 → (at0 x t).2 < l.length → ∃ b off cs T fz aj cj rj b2 o2 k2 T2 f2, la = some ⟨b, off, none⟩ ∧ ρ b (.cells (cs : List Value).toArray T fz) ∧ cs[off + (at0 x t).2.toNat * 1]? = some (.slice aj rj cj) ∧ t < rj ∧ aj = some ⟨b2, o2, none⟩ ∧ ρ b2 (.cells (k2 : List Value).toArray T2 f2) ∧ sub k2 (o2 + (t : Int).toNat * 2) 2 = some (encC (at0 (l.getD (at0 x t).2.toNat []) t)) := by
        intro h1 h2
        have hv : (at0 x t).2.toNat < l.length := by omega
        obtain ⟨b, off, cs, T, fz, r1, r2, r3⟩ := hs.at (by omega)
        obtain ⟨aj, cj, ej, _, b2, o2, k2, T2, f2, h3⟩ := r3 _ hv
        have htl : t < l[(at0 x t).2.toNat].length := by have := hnl _ (List.mem_cons_of_mem x (List.getElem_mem hv)); omega
        obtain ⟨s1, s2, s3⟩ := h3 (by omega)
        obtain ⟨z0, -, -⟩ := cell_at s3 htl
        have e : l.getD (at0 x t).2.toNat [] = l[(at0 x t).2.toNat] := by rw [List.getD_eq_getElem?_getD, List.getElem?_eq_getElem hv]; rfl
        exact ⟨b, off, cs, T, fz, aj, cj, _, b2, o2, k2, T2, f2, r1, r2, ej, htl, s1, s2, by rw [e, at0_eq htl]; exact z0⟩
      refine g_skip ?_
      refine g_qt ?_
      refine g_seq ?_
      refine g_block ?_
      refine g_seq ?_
      refine g_region ?_
      refine g_pure (p_build (by rfl) rfl (by rfl)) rfl ?_
      refine g_eff (e_alloc (by rfl)) rfl (fun _ _ => ?_)
      rintro ⟨b9, rfl, rfl⟩
      first | refine g_eff0 (e_storeO rfl rfl (by rfl) (by rfl) (by rfl) (by repeat' (first | exact Take.here | apply Take.there)) (by rfl)) (fun _ _ => ?_) | refine g_eff0 (e_storeN rfl rfl (by rfl) (by rfl) (by rfl) (by repeat' (first | exact Take.here | apply Take.there)) (by simp)) (fun _ _ => ?_)
      rintro rfl
      refine g_nil ?_
      refine g_qt ?_
      refine g_seq ?_
      refine g_seq ?_
      refine g_region ?_
      refine g_pure (p_move rfl) rfl ?_
      refine g_pure (p_move rfl) rfl ?_
      refine g_pure (p_indexAddr rfl rfl (by omega) (fun _ => m1)) rfl ?_
      refine g_pure (p_loadN (by rfl) rfl (Has.ro m2) x0') rfl ?_
      refine g_call (Hin := []) (Hr := ?hr1) (R := ?rr1) rfl rfl rfl ?hin1 ?hc1 ?hk1
      case hin1 => repeat' (first | exact Cover.nil | exact Take.here | apply Cover.cons | apply Take.there)
      case hc1 => intro ρ' hρ hR; exact dthere_ok (at0 x t)
      rintro _ _ ⟨rfl, rfl⟩
      refine g_nil ?_
      refine g_qt ?_
      refine g_join (fun _ : Ce => [(0, .slice xa x.length xc), (1, .slice la l.length lc), (5, .slice oa ((List.range t).map (MergeF x l)).length oc), (6, .int .i64 n), (8, .int .i64 t), (9, .pointer (some ⟨b9, 0, none⟩))]) (fun y => [Blk b9 (.cells (encC y).toArray 31 (0, 0)), OwnSl 31 2 oa ((List.range t).map (MergeF x l)).length oc (((List.range t).map (MergeF x l)).flatMap encC)]) (fun y => y = MergeF x l t) ?_ ?_
      · refine g_if rfl (fun r => ?_) (fun r => ?_)
        · refine g_seq ?_
          refine g_region ?_
          refine g_pure (p_build (by rfl) rfl (by rfl)) rfl ?_
          first | refine g_eff0 (e_storeO rfl rfl (by rfl) (by rfl) (by rfl) (by repeat' (first | exact Take.here | apply Take.there)) (by rfl)) (fun _ _ => ?_) | refine g_eff0 (e_storeN rfl rfl (by rfl) (by rfl) (by rfl) (by repeat' (first | exact Take.here | apply Take.there)) (by simp)) (fun _ _ => ?_)
          rintro rfl
          refine g_nil ?_
          refine g_qt ?_
          refine g_seq ?_
          refine g_join (fun b : Bool => [(0, .slice xa x.length xc), (1, .slice la l.length lc), (5, .slice oa ((List.range t).map (MergeF x l)).length oc), (6, .int .i64 n), (8, .int .i64 t), (9, .pointer (some ⟨b9, 0, none⟩)), (74, .bool b)]) (fun _ => [Blk b9 (.cells [.int .i64 2, .int .i64 0].toArray 31 (0, 0)), OwnSl 31 2 oa ((List.range t).map (MergeF x l)).length oc (((List.range t).map (MergeF x l)).flatMap encC)]) (fun b => b = true ↔ mergeC x l t) ?_ ?_
          · refine g_region ?_
            refine g_pure (p_move rfl) rfl ?_
            refine g_pure (p_move rfl) rfl ?_
            refine g_pure (p_indexAddr rfl rfl (by omega) (fun _ => m1)) rfl ?_
            refine g_pure (p_fieldAddr rfl) rfl ?_
            refine g_pure (p_load (by rfl) rfl (Has.ro m2) y1') rfl ?_
            refine g_pure (p_eql rfl rfl) rfl ?_
            refine g_pure (p_move rfl) rfl ?_
            refine g_splitd rfl rfl (fun g1 => ?_) (fun g1 => ?_)
            · refine g_yes rfl rfl ?_
              refine g_pure (p_move rfl) rfl ?_
              refine g_yes rfl rfl ?_
              refine g_pure (p_move rfl) rfl ?_
              refine g_yes rfl rfl ?_
              refine g_pure (p_indexAddr rfl rfl (by omega) (fun _ => m1)) rfl ?_
              refine g_yes rfl rfl ?_
              refine g_pure (p_fieldAddr rfl) rfl ?_
              refine g_yes rfl rfl ?_
              refine g_pure (p_load (by rfl) rfl (Has.ro m2) y2') rfl ?_
              refine g_yes rfl rfl ?_
              refine g_pure (p_geq rfl rfl) rfl ?_
              first | refine g_pure (p_pickt rfl rfl) rfl ?_ | refine g_pure (p_pickf rfl rfl) rfl ?_
              refine g_pure (p_move rfl) rfl ?_
              refine g_splitd rfl rfl (fun g2 => ?_) (fun g2 => ?_)
              · refine g_yes rfl rfl ?_
                refine g_pure (p_move rfl) rfl ?_
                refine g_yes rfl rfl ?_
                refine g_pure (p_move rfl) rfl ?_
                refine g_yes rfl rfl ?_
                refine g_pure (p_indexAddr rfl rfl (by omega) (fun _ => m1)) rfl ?_
                refine g_yes rfl rfl ?_
                refine g_pure (p_fieldAddr rfl) rfl ?_
                refine g_yes rfl rfl ?_
                refine g_pure (p_load (by rfl) rfl (Has.ro m2) y2') rfl ?_
                refine g_yes rfl rfl ?_
                refine g_pure (p_move rfl) rfl ?_
                refine g_yes rfl rfl ?_
                refine g_pure (p_len (by rfl) rfl) rfl ?_
                refine g_yes rfl rfl ?_
                refine g_pure (p_lss rfl rfl) rfl ?_
                first | refine g_pure (p_pickt rfl rfl) rfl ?_ | refine g_pure (p_pickf rfl rfl) rfl ?_
                refine g_pure (p_move rfl) rfl ?_
                refine g_splitd rfl rfl (fun g3 => ?_) (fun g3 => ?_)
                · obtain ⟨b, off, cs, T, fz, aj, cj, rj, b2, o2, k2, T2, f2, r1, r2, ej, htl, s1, s2, z0⟩ := hrow (by omega) (by omega)
                  refine g_yes rfl rfl ?_
                  refine g_pure (p_move rfl) rfl ?_
                  refine g_yes rfl rfl ?_
                  refine g_pure (p_move rfl) rfl ?_
                  refine g_yes rfl rfl ?_
                  refine g_pure (p_move rfl) rfl ?_
                  refine g_yes rfl rfl ?_
                  refine g_pure (p_indexAddr rfl rfl (by omega) (fun _ => m1)) rfl ?_
                  refine g_yes rfl rfl ?_
                  refine g_pure (p_fieldAddr rfl) rfl ?_
                  refine g_yes rfl rfl ?_
                  refine g_pure (p_load (by rfl) rfl (Has.ro m2) y2') rfl ?_
                  refine g_yes rfl rfl ?_
                  refine g_pure (p_indexAddr rfl rfl (by omega) (fun _ => r1)) rfl ?_
                  refine g_yes rfl rfl ?_
                  refine g_pure (p_load (by rfl) rfl (Has.ro r2) ej) rfl ?_
                  refine g_yes rfl rfl ?_
                  refine g_pure (p_move rfl) rfl ?_
                  refine g_yes rfl rfl ?_
                  refine g_pure (p_indexAddr rfl rfl (by omega) (fun _ => s1)) rfl ?_
                  refine g_yes rfl rfl ?_
                  refine g_pure (p_loadN (by rfl) rfl (Has.ro s2) z0) rfl ?_
                  refine g_yes rfl rfl ?_
                  refine g_call (Hin := []) (Hr := ?hr2) (R := ?rr2) rfl rfl rfl ?hin2 ?hc2 ?hk2
                  case hin2 => repeat' (first | exact Cover.nil | exact Take.here | apply Cover.cons | apply Take.there)
                  case hc2 => intro ρ' hρ hR; exact dthere_ok (at0 (l.getD (at0 x t).2.toNat []) t)
                  rintro _ _ ⟨rfl, rfl⟩
                  first | refine g_pure (p_pickt rfl rfl) rfl ?_ | refine g_pure (p_pickf rfl rfl) rfl ?_
                  refine g_nil ?_
                  refine g_qn ?_
                  exact g_joined (thereB (at0 (l.getD (at0 x t).2.toNat []) t)) (by (repeat (first | exact trivial | refine ⟨by rfl, ?_⟩)); done) (by repeat' (first | exact Cover.nil | exact Take.here | apply Cover.cons | apply Take.there)) ⟨fun h => ⟨g1, by omega, by omega, h⟩, fun h => h.2.2.2⟩
                · refine g_no rfl rfl rfl rfl ?_
                  refine g_no rfl rfl rfl rfl ?_
                  refine g_no rfl rfl rfl rfl ?_
                  refine g_no rfl rfl rfl rfl ?_
                  refine g_no rfl rfl rfl rfl ?_
                  refine g_no rfl rfl rfl rfl ?_
                  refine g_no rfl rfl rfl rfl ?_
                  refine g_no rfl rfl rfl rfl ?_
                  refine g_no rfl rfl rfl rfl ?_
                  refine g_no rfl rfl rfl rfl ?_
                  refine g_no rfl rfl rfl rfl ?_
                  refine g_no rfl rfl rfl rfl ?_
                  first | refine g_pure (p_pickt rfl rfl) rfl ?_ | refine g_pure (p_pickf rfl rfl) rfl ?_
                  refine g_nil ?_
                  refine g_qn ?_
                  exact g_joined false (by (repeat (first | exact trivial | refine ⟨by rfl, ?_⟩)); done) (by repeat' (first | exact Cover.nil | exact Take.here | apply Cover.cons | apply Take.there)) ⟨fun h => (by cases h), fun h => (by have := h.2.2.1; omega)⟩
              · refine g_no rfl rfl rfl rfl ?_
                refine g_no rfl rfl rfl rfl ?_
                refine g_no rfl rfl rfl rfl ?_
                refine g_no rfl rfl rfl rfl ?_
                refine g_no rfl rfl rfl rfl ?_
                refine g_no rfl rfl rfl rfl ?_
                refine g_no rfl rfl rfl rfl ?_
                refine g_no rfl rfl rfl rfl ?_
                first | refine g_pure (p_pickt rfl rfl) rfl ?_ | refine g_pure (p_pickf rfl rfl) rfl ?_
                refine g_pure (p_move rfl) rfl ?_
                refine g_no rfl rfl rfl rfl ?_
                refine g_no rfl rfl rfl rfl ?_
                refine g_no rfl rfl rfl rfl ?_
                refine g_no rfl rfl rfl rfl ?_
                refine g_no rfl rfl rfl rfl ?_
                refine g_no rfl rfl rfl rfl ?_
                refine g_no rfl rfl rfl rfl ?_
                refine g_no rfl rfl rfl rfl ?_
                refine g_no rfl rfl rfl rfl ?_
                refine g_no rfl rfl rfl rfl ?_
                refine g_no rfl rfl rfl rfl ?_
                refine g_no rfl rfl rfl rfl ?_
                first | refine g_pure (p_pickt rfl rfl) rfl ?_ | refine g_pure (p_pickf rfl rfl) rfl ?_
                refine g_nil ?_
                refine g_qn ?_
                exact g_joined false (by (repeat (first | exact trivial | refine ⟨by rfl, ?_⟩)); done) (by repeat' (first | exact Cover.nil | exact Take.here | apply Cover.cons | apply Take.there)) ⟨fun h => (by cases h), fun h => (by have := h.2.1; omega)⟩
            · refine g_no rfl rfl rfl rfl ?_
              refine g_no rfl rfl rfl rfl ?_
              refine g_no rfl rfl rfl rfl ?_
              refine g_no rfl rfl rfl rfl ?_
              refine g_no rfl rfl rfl rfl ?_
              refine g_no rfl rfl rfl rfl ?_
              first | refine g_pure (p_pickt rfl rfl) rfl ?_ | refine g_pure (p_pickf rfl rfl) rfl ?_
              refine g_pure (p_move rfl) rfl ?_
              refine g_no rfl rfl rfl rfl ?_
              refine g_no rfl rfl rfl rfl ?_
              refine g_no rfl rfl rfl rfl ?_
              refine g_no rfl rfl rfl rfl ?_
              refine g_no rfl rfl rfl rfl ?_
              refine g_no rfl rfl rfl rfl ?_
              refine g_no rfl rfl rfl rfl ?_
              refine g_no rfl rfl rfl rfl ?_
              first | refine g_pure (p_pickt rfl rfl) rfl ?_ | refine g_pure (p_pickf rfl rfl) rfl ?_
              refine g_pure (p_move rfl) rfl ?_
              refine g_no rfl rfl rfl rfl ?_
              refine g_no rfl rfl rfl rfl ?_
              refine g_no rfl rfl rfl rfl ?_
              refine g_no rfl rfl rfl rfl ?_
              refine g_no rfl rfl rfl rfl ?_
              refine g_no rfl rfl rfl rfl ?_
              refine g_no rfl rfl rfl rfl ?_
              refine g_no rfl rfl rfl rfl ?_
              refine g_no rfl rfl rfl rfl ?_
              refine g_no rfl rfl rfl rfl ?_
              refine g_no rfl rfl rfl rfl ?_
              refine g_no rfl rfl rfl rfl ?_
              first | refine g_pure (p_pickt rfl rfl) rfl ?_ | refine g_pure (p_pickf rfl rfl) rfl ?_
              refine g_nil ?_
              refine g_qn ?_
              exact g_joined false (by (repeat (first | exact trivial | refine ⟨by rfl, ?_⟩)); done) (by repeat' (first | exact Cover.nil | exact Take.here | apply Cover.cons | apply Take.there)) ⟨fun h => (by cases h), fun h => absurd h.1 g1⟩
          rintro bb hb
          refine g_qt ?_
          refine g_if rfl (fun r4 => ?_) (fun r4 => ?_)
          · have hc := hb.1 r4
            have hval : cleanF (at0 (l.getD (at0 x t).2.toNat []) t) = MergeF x l t := MergeF_y r hc
            obtain ⟨-, g2, g3, -⟩ := hc
            obtain ⟨b, off, cs, T, fz, aj, cj, rj, b2, o2, k2, T2, f2, r1, r2, ej, htl, s1, s2, z0⟩ := hrow (by omega) (by omega)
            refine g_region ?_
            refine g_pure (p_move rfl) rfl ?_
            refine g_pure (p_move rfl) rfl ?_
            refine g_pure (p_move rfl) rfl ?_
            refine g_pure (p_indexAddr rfl rfl (by omega) (fun _ => m1)) rfl ?_
            refine g_pure (p_fieldAddr rfl) rfl ?_
            refine g_pure (p_load (by rfl) rfl (Has.ro m2) y2') rfl ?_
            refine g_pure (p_indexAddr rfl rfl (by omega) (fun _ => r1)) rfl ?_
            refine g_pure (p_load (by rfl) rfl (Has.ro r2) ej) rfl ?_
            refine g_pure (p_move rfl) rfl ?_
            refine g_pure (p_indexAddr rfl rfl (by omega) (fun _ => s1)) rfl ?_
            refine g_pure (p_loadN (by rfl) rfl (Has.ro s2) z0) rfl ?_
            refine g_call (Hin := []) (Hr := ?hr3) (R := ?rr3) rfl rfl rfl ?hin3 ?hc3 ?hk3
            case hin3 => repeat' (first | exact Cover.nil | exact Take.here | apply Cover.cons | apply Take.there)
            case hc3 => intro ρ' hρ hR; exact plain_ok (at0 (l.getD (at0 x t).2.toNat []) t)
            rintro _ _ ⟨rfl, rfl⟩
            first | refine g_eff0 (e_storeO rfl rfl (by rfl) (by rfl) (by rfl) (by repeat' (first | exact Take.here | apply Take.there)) (by rfl)) (fun _ _ => ?_) | refine g_eff0 (e_storeN rfl rfl (by rfl) (by rfl) (by rfl) (by repeat' (first | exact Take.here | apply Take.there)) (by simp)) (fun _ _ => ?_)
            rintro rfl
            refine g_nil ?_
            refine g_qn ?_
            exact g_joined (cleanF (at0 (l.getD (at0 x t).2.toNat []) t)) (by (repeat (first | exact trivial | refine ⟨by rfl, ?_⟩)); done) (by repeat' (first | exact Cover.nil | exact Take.here | apply Cover.cons | apply Take.there)) hval
          · have hc : ¬ mergeC x l t := fun h => by have := hb.2 h; rw [r4] at this; cases this
            have hval : ((2, 0) : Ce) = MergeF x l t := MergeF_n r hc
            refine g_skip ?_
            refine g_qn ?_
            exact g_joined (2, 0) (by (repeat (first | exact trivial | refine ⟨by rfl, ?_⟩)); done) (by repeat' (first | exact Cover.nil | exact Take.here | apply Cover.cons | apply Take.there)) hval
        · refine g_skip ?_
          refine g_qn ?_
          exact g_joined (0, 0) (by (repeat (first | exact trivial | refine ⟨by rfl, ?_⟩)); done) (by repeat' (first | exact Cover.nil | exact Take.here | apply Cover.cons | apply Take.there)) (by unfold MergeF; rw [if_neg (by rw [r]; simp)])
      rintro u hu
      rw [← hu] at hm2
      obtain ⟨u1, u2⟩ := u
      show G _ _ _ [Blk b9 (.cells [.int .i64 u1, .int .i64 u2].toArray 31 (0, 0)), OwnSl 31 2 oa ((List.range t).map (MergeF x l)).length oc (((List.range t).map (MergeF x l)).flatMap encC)] _
      refine g_qt ?_
      refine g_region ?_
      refine g_pure (p_move rfl) rfl ?_
      first | refine g_pure (p_loadO (by rfl) rfl (by first | (apply Has.own; (repeat' (first | exact Take.here | apply Take.there)); done) | exact Has.ro (by assumption)) (by rfl)) rfl ?_ | refine g_pure (p_loadN (by rfl) rfl (by first | (apply Has.own; (repeat' (first | exact Take.here | apply Take.there)); done) | exact Has.ro (by assumption)) (by first | rfl | assumption)) rfl ?_
      refine g_eff (e_bs (xs := [.tmp 88]) rfl rfl rfl (by rfl) (by rfl) rfl (by rfl)) rfl (fun _ _ => ?_)
      rintro ⟨b89, rfl, rfl⟩
      refine g_eff (e_appendO (by rfl) (by rfl) rfl rfl (by first | (apply Has.own; (repeat' (first | exact Take.here | apply Take.there)); done) | exact Has.ro (by assumption)) (by rfl) (by rfl) (by repeat' (first | exact Take.here | apply Take.there)) (by omega) (by first | omega | (dsimp only; omega) | (simp <;> omega)) (by omega)) rfl (fun _ _ => ?_)
      rintro ⟨a90, c90, rfl, rfl⟩
      refine g_pure (p_assign rfl) rfl ?_
      refine g_nil ?_
      refine g_qb ?_
      refine g_qt ?_
      refine g_region ?_
      refine g_pure (p_move rfl) rfl ?_
      first | refine g_pure (p_addi rfl rfl (by omega)) rfl ?_ | refine g_pure (p_add rfl rfl) rfl ?_
      refine g_pure (p_assign rfl) rfl ?_
      refine g_nil ?_
      refine g_qn ?_
      rw [hm1]
      refine g_weak (A := OwnSl 31 2 a90 _ c90 (((List.range t).map (MergeF x l)).flatMap encC ++ encC (u1, u2))) (B := OwnSl 31 2 a90 ((List.range (t + 1)).map (MergeF x l)).length c90 (((List.range (t + 1)).map (MergeF x l)).flatMap encC)) (by repeat' (first | exact Take.here | apply Take.there)) (fun h hh => by rw [← hm2]; exact hh) ?_
      exact g_next (t + 1, a90, c90) (by (repeat (first | exact trivial | refine ⟨by rfl, ?_⟩)); done) (by repeat' (first | exact Cover.nil | exact Take.here | apply Cover.cons | apply Take.there)) (by dsimp only; omega) (by dsimp only; omega)
    · obtain rfl : t = n := by omega
      refine g_exit ?_
      refine g_qt_exit ?_
      refine g_qn_exit ?_
      refine g_qb_exit ?_
      refine g_qt ?_
      refine g_seq ?_
      refine g_region ?_
      refine g_pure (p_move rfl) rfl ?_
      refine g_pure (p_assign rfl) rfl ?_
      refine g_nil ?_
      refine g_qt ?_
      refine g_ret ?_
      exact g_post (rs := [.tmp 4]) rfl (.tmp rfl .nil) ⟨oa, oc, by unfold MergeL; rw [hfold2]; rfl, by unfold MergeL; rw [hfold2]⟩ (by repeat' (first | exact Cover.nil | exact Take.here | apply Cover.cons | apply Take.there))
end Go.Proofs.Ytceecdjckhbncaa
