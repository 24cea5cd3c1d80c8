/- Chapter 4: heap.Push and heap.Pop at the heap of vertices. Conditions: none. -/
import Derived.Test.YtmefecnjliadaaaN3
namespace Go.Z.Gr
set_option maxRecDepth 8000
set_option linter.unusedVariables false
set_option linter.unusedSimpArgs false
set_option linter.unusedSectionVars false
open Go Go.Z
theorem up_start {l : List Int} (x : Int) (h : isHeap l l.length) : upI (l ++ [x]) l.length := by
  have hg : ∀ k, k < l.length → gI (l ++ [x]) k = gI l k := fun k hk => by
    unfold gI; rw [List.getD_eq_getElem?_getD, List.getD_eq_getElem?_getD, List.getElem?_append_left hk]
  refine ⟨fun k k0 kl kj => ?_, fun h0 c c0 cl cp => ?_⟩
  · rw [List.length_append, List.length_singleton] at kl
    rw [hg _ (by omega), hg _ (by omega)]
    exact h k k0 (by omega)
  · rw [List.length_append, List.length_singleton] at cl
    omega
theorem heap_take {l : List Int} {m : Nat} (hm : m ≤ l.length) (h : isHeap l m) : isHeap (l.take m) (l.take m).length := by
  have hl : (l.take m).length = m := by simp; omega
  have hg : ∀ k, k < m → gI (l.take m) k = gI l k := fun k hk => by
    rw [gI_at (by omega), gI_at (by omega), List.getElem_take]
  intro k k0 kl
  rw [hl] at kl
  rw [hg _ (by omega), hg _ kl]
  exact h k k0 kl
theorem pop_drop {l : List Int} (h0 : 0 < l.length) : (swapL l 0 (l.length - 1)).drop (l.length - 1) = [gI l 0] := by
  have hl := swapL_len l 0 (l.length - 1)
  refine List.ext_getElem (by simp [hl]; omega) fun i h1 h2 => ?_
  have h2' : i = 0 := by simp at h2; exact h2
  subst h2'
  have e := swapL_at (l := l) (i := 0) (j := l.length - 1) (k := l.length - 1) h0 (by omega)
  rw [if_pos rfl, gI_at (by rw [hl]; omega)] at e
  rw [List.getElem_drop]
  simpa using e
theorem pop_all {l l' : List Int} (h0 : 0 < l.length) (hlen : l'.length = (swapL l 0 (l.length - 1)).length) (hp : (l'.take (l.length - 1)).Perm ((swapL l 0 (l.length - 1)).take (l.length - 1))) (hd : l'.drop (l.length - 1) = (swapL l 0 (l.length - 1)).drop (l.length - 1)) :
    l' = l'.take (l.length - 1) ++ [gI l 0] ∧ (gI l 0 :: l'.take (l.length - 1)).Perm l := by
  have e := pop_drop h0
  have e1 : l' = l'.take (l.length - 1) ++ [gI l 0] := by
    conv => lhs; rw [← List.take_append_drop (l.length - 1) l', hd, e]
  refine ⟨e1, ?_⟩
  have e2 : ((swapL l 0 (l.length - 1)).take (l.length - 1) ++ [gI l 0]).Perm l := by
    rw [← e, List.take_append_drop]
    exact swapL_perm h0 (by omega)
  exact (List.perm_append_comm (l₁ := [gI l 0])).trans ((hp.append_right _).trans e2)
end Go.Z.Gr
namespace Go.Proofs.Ytmefecnjliadaaa
set_option maxRecDepth 8000
set_option linter.unusedVariables false
set_option linter.unusedSimpArgs false
set_option linter.unusedSectionVars false
open Go Go.Z Go.Z.Gr
theorem pushH_ok {ρ : Nat → Obj → Prop} (b : Nat) (l : List Int) (x : Int) (hh1 : isHeap l l.length) (hlen : l.length ≤ 1000000) :
    Con Try.prog ρ 25 #[hpV b, .iface 3 (.int .i64 x)] [HpA b l] (fun v H => v = .tuple #[] ∧ ∃ l', H = [HpA b l'] ∧ l'.Perm (l ++ [x]) ∧ isHeap l' l'.length) := by
  have hll : (l ++ [x]).length = l.length + 1 := by simp
  refine con_intro Try.func25 Try.call25 rfl Try.ntmps25 rfl (L := [(0, _), (1, _)]) rfl fun w hh => ?_
  refine g_seq ?_
  refine g_region ?_
  refine g_pure (p_move rfl) rfl ?_
  refine g_pure (p_move rfl) rfl ?_
  refine g_icall (Hin := [HpA b l]) (Hr := ?hr1) (R := ?rr1) rfl rfl rfl (fun w hm => mth_push w b _) ?hin1 ?hc1 ?hk1
  case hin1 => repeat' (first | exact Cover.nil | exact Take.here | apply Cover.cons | apply Take.there)
  case hc1 => intro ρ' hρ hR; exact hpush_ok b l x hlen
  rintro _ _ ⟨rfl, rfl⟩
  refine g_nil ?_
  refine g_qt ?_
  refine g_region ?_
  refine g_pure (p_move rfl) rfl ?_
  refine g_pure (p_move rfl) rfl ?_
  refine g_open .here ?_
  rintro _ ⟨a, c, rfl⟩
  refine g_icall (Hin := []) (Hr := ?hr2) (R := ?rr2) rfl rfl rfl (fun w hm => mth_len ((Has.own (by repeat' (first | exact Take.here | apply Take.there))) w hm)) ?hin2 ?hc2 ?hk2
  case hin2 => repeat' (first | exact Cover.nil | exact Take.here | apply Cover.cons | apply Take.there)
  case hc2 => intro ρ' hρ hR; exact hlen_ok a c (l ++ [x]).length
  rintro _ _ ⟨rfl, rfl⟩
  first | refine g_pure (p_subi rfl rfl (by omega)) rfl ?_ | refine g_pure (p_sub rfl rfl) rfl ?_
  refine g_close (K := HpK b (l ++ [x])) ⟨a, c, rfl⟩ (by repeat' (first | exact Cover.nil | exact Take.here | apply Cover.cons | apply Take.there)) ?_
  rw [show ((l ++ [x]).length : Int) - 1 = (l.length : Int) by omega]
  refine g_call (Hin := [HpA b (l ++ [x])]) (Hr := ?hr3) (R := ?rr3) rfl rfl rfl ?hin3 ?hc3 ?hk3
  case hin3 => repeat' (first | exact Cover.nil | exact Take.here | apply Cover.cons | apply Take.there)
  case hc3 => intro ρ' hρ hR; exact up_ok b (l ++ [x]) l.length (by omega) (up_start x hh1) (by omega)
  rintro _ _ ⟨rfl, l', rfl, hp, hh2⟩
  refine g_nil ?_
  exact g_postn (rs := []) rfl .nil ⟨rfl, _, rfl, hp, hh2⟩ (by repeat' (first | exact Cover.nil | exact Take.here | apply Cover.cons | apply Take.there))
theorem popH_ok {ρ : Nat → Obj → Prop} (b : Nat) (l : List Int) (h0 : 0 < l.length) (hh1 : isHeap l l.length) (hlen : l.length ≤ 1000000) :
    Con Try.prog ρ 27 #[hpV b] [HpA b l] (fun v H => v = .iface 3 (.int .i64 (gI l 0)) ∧ ∃ l', H = [HpA b l'] ∧ (gI l 0 :: l').Perm l ∧ isHeap l' l'.length) := by
  refine con_intro Try.func27 Try.call27 rfl Try.ntmps27 rfl (L := [(0, _)]) rfl fun w hh => ?_
  refine g_seq ?_
  refine g_region ?_
  refine g_pure (p_assign rfl) rfl ?_
  refine g_nil ?_
  refine g_qt ?_
  refine g_seq ?_
  refine g_region ?_
  refine g_pure (p_move rfl) rfl ?_
  refine g_open .here ?_
  rintro _ ⟨a, c, rfl⟩
  refine g_icall (Hin := []) (Hr := ?hr4) (R := ?rr4) rfl rfl rfl (fun w hm => mth_len ((Has.own (by repeat' (first | exact Take.here | apply Take.there))) w hm)) ?hin4 ?hc4 ?hk4
  case hin4 => repeat' (first | exact Cover.nil | exact Take.here | apply Cover.cons | apply Take.there)
  case hc4 => intro ρ' hρ hR; exact hlen_ok a c l.length
  rintro _ _ ⟨rfl, rfl⟩
  first | refine g_pure (p_subi rfl rfl (by omega)) rfl ?_ | refine g_pure (p_sub rfl rfl) rfl ?_
  refine g_pure (p_assign rfl) rfl ?_
  refine g_nil ?_
  refine g_qt ?_
  refine g_seq ?_
  refine g_region ?_
  refine g_pure (p_move rfl) rfl ?_
  refine g_pure (p_move rfl) rfl ?_
  rw [show (l.length : Int) - 1 = ((l.length - 1 : Nat) : Int) by omega]
  refine g_icall (Hin := [OwnSl 3 1 a l.length c (l.map encI)]) (Hr := ?hr5) (R := ?rr5) rfl rfl rfl (fun w hm => mth_swap ((Has.own (by repeat' (first | exact Take.here | apply Take.there))) w hm) _ _) ?hin5 ?hc5 ?hk5
  case hin5 => repeat' (first | exact Cover.nil | exact Take.here | apply Cover.cons | apply Take.there)
  case hc5 => intro ρ' hρ hR; exact hswap_ok a c l 0 (l.length - 1) h0 (by omega)
  rintro _ _ ⟨rfl, rfl⟩
  refine g_nil ?_
  refine g_qt ?_
  refine g_seq ?_
  refine g_region ?_
  refine g_pure (p_move rfl) rfl ?_
  refine g_pure (p_move rfl) rfl ?_
  have hsl := swapL_len l 0 (l.length - 1)
  refine g_close (K := HpK b (swapL l 0 (l.length - 1))) ⟨a, c, by rw [hsl]⟩ (by repeat' (first | exact Cover.nil | exact Take.here | apply Cover.cons | apply Take.there)) ?_
  refine g_call (Hin := [HpA b (swapL l 0 (l.length - 1))]) (Hr := ?hr6) (R := ?rr6) rfl rfl rfl ?hin6 ?hc6 ?hk6
  case hin6 => repeat' (first | exact Cover.nil | exact Take.here | apply Cover.cons | apply Take.there)
  case hc6 => intro ρ' hρ hR; exact down_ok b (swapL l 0 (l.length - 1)) (l.length - 1) (by omega) (dn_start hh1 h0) (by omega)
  rintro _ _ ⟨x, l', rfl, rfl, g1, g2, g3, g4⟩
  refine g_nil ?_
  refine g_qt ?_
  refine g_seq ?_
  refine g_region ?_
  refine g_pure (p_move rfl) rfl ?_
  obtain ⟨g5, g6⟩ := pop_all h0 g1 g2 g3
  rw [g5]
  refine g_icall (Hin := [HpA b (l'.take (l.length - 1) ++ [gI l 0])]) (Hr := ?hr7) (R := ?rr7) rfl rfl rfl (fun w hm => mth_pop w b) ?hin7 ?hc7 ?hk7
  case hin7 => repeat' (first | exact Cover.nil | exact Take.here | apply Cover.cons | apply Take.there)
  case hc7 => intro ρ' hρ hR; exact hpop_ok b (l'.take (l.length - 1)) (gI l 0) (by simp; omega)
  rintro _ _ ⟨rfl, rfl⟩
  refine g_pure (p_assign rfl) rfl ?_
  refine g_nil ?_
  refine g_qt ?_
  refine g_ret ?_
  exact g_post (rs := [.tmp 2]) rfl (.tmp rfl .nil) ⟨rfl, _, rfl, g6, heap_take (by omega) g4⟩ (by repeat' (first | exact Cover.nil | exact Take.here | apply Cover.cons | apply Take.there))
end Go.Proofs.Ytmefecnjliadaaa
