/- Own layer: append of a slice that is owned or read-only, of any length. Conditions: none; generic in the program. -/
import Derived.Test.YtmefecnjliadaaaZj
namespace Go.Z
set_option maxRecDepth 8000
set_option linter.unusedVariables false
set_option linter.unusedSimpArgs false
set_option linter.unusedSectionVars false
open Go

variable {P : Program} {n : Nat} {L L' : Fr} {H H' Hi Hr : List Assn} {M : Mx} {Q : Exit → Act → World → Prop} {ops : Array Oper} {rest : List Oper}
variable {dd : Option Tmp} {ty t : TypeId} {ps : String} {af : Array Edge} {gd : Option (Nat × Bool)} {x y z : Operand} {v u : Value} {w w' : World}

/-- in world w the slice at a, of m elements, reads as news -/
def SlAt (w : World) (size : Nat) (a : Option Addr) (m : Nat) (news : List Value) : Prop := news.length = m * size ∧ (0 < m → ∃ (b o : Nat) (l : List Value) (T : TypeId) (fz : Nat × Nat), a = some ⟨b, o, none⟩ ∧ w.heap[b]? = some (.cells l.toArray T fz) ∧ ∀ j v, news[j]? = some v → l[o + j]? = some v)
theorem slAt_own {e : TypeId} {size : Nat} {a : Option Addr} {k cap : Nat} {xs : List Value} (tk : Take H (OwnSl e size a k cap xs) H') : ∀ w, Ms M H w → SlAt w size a k xs := fun w hm => by
  obtain ⟨h1, h2⟩ := OwnSl.cases tk hm
  refine ⟨h1, fun h0 => ?_⟩
  rcases h2 with ⟨_, h3, _⟩ | ⟨g, cur, r1, r2, r3, r4, r5, hm'⟩
  · omega
  · refine ⟨g, 0, cur, e, (0, 0), r1, hm'.blk .here, fun j v hj => ?_⟩
    rw [← r5, List.getElem?_take] at hj
    split at hj
    · rw [Nat.zero_add]; exact hj
    · cases hj
theorem slAt_ro {size : Nat} {a : Option Addr} {k : Nat} {xs : List Value} (h : RSl M.ρ size a k xs) : ∀ w, Ms M H w → SlAt w size a k xs := fun w hm => by
  obtain ⟨h1, b, off, cs, T, fz, h2⟩ := h
  exact ⟨h1, fun h0 => ⟨b, off, cs, T, fz, (h2 h0).1, hm.ro _ _ (h2 h0).2.1, (h2 h0).2.2⟩⟩

theorem e_appendS {e : TypeId} {ye : Ty} {a1 a2 : Option Addr} {k cap m c : Nat} {xs news : List Value} [hsl : SlC P t e ye] (hz : ye.zero.cells.size = ye.size) (hs0 : Nat.blt 0 ye.size = true)
    (h1 : ev L x = some (.slice a1 k cap)) (h2 : ev L y = some (.slice a2 m c)) (hS : ∀ w, Ms M H w → SlAt w ye.size a2 m news) (hn1 : one1 news = true)
    (tk : Take H (OwnSl e ye.size a1 k cap xs) H') (hbd : (k + m) * ye.bytes ≤ 140737488355328) (h63 : k + m ≤ 9223372036854775807) :
    Eff P M n L H ⟨dd, .call ⟨.builtin .append, #[x, y], #[t, t]⟩, ty, ps, af, gd⟩ (fun v H2 => ∃ a2 c2, v = .slice a2 (k + m) c2 ∧ H2 = OwnSl e ye.size a2 (k + m) c2 (xs ++ news) :: H') :=
  Eff.of_run fun a w ha hm => by
    obtain ⟨yt, ht, hd⟩ := hsl.t
    have he := hsl.e
    have hs0' : 0 < ye.size := by simpa using hs0
    obtain ⟨hspl, hcase0⟩ := hS w hm
    have hone : ∀ u ∈ news, u.oneCell' = true := by simpa [one1] using hn1
    obtain ⟨i, hri, hib, his, hi, hiz⟩ := he.run_info
    have ht' : P.underlying t = some (.slice e) := by rw [ht.u, hd]
    obtain ⟨hxl, hcase⟩ := OwnSl.cases tk hm
    have hml : news.length = m * i.size := by rw [his]; exact hspl
    have hexec : ∀ (r : Result Value), (Builtin.append_ #[t, t] ty #[.slice a1 k cap, .slice a2 m c]).run P w = r →
        (execOp a.eval ⟨dd, .call ⟨.builtin .append, #[x, y], #[t, t]⟩, ty, ps, af, gd⟩).run P w = r.andThen fun v w => .ok (.value v) w := fun r hr => by
      simp [execOp, resolve, invoke, builtin, ha.ev h1, ha.ev h2, hr]
    have back : Ms M (OwnSl e ye.size a1 k cap xs :: H') w := by
      obtain ⟨hh, s, su, d, r⟩ := hm.own
      exact ⟨hm.os, hm.tape, hm.output, hm.size, hm.keep, hm.ro, hh, tk.sat s, su, d, r⟩
    rcases Nat.eq_zero_or_pos m with rfl | hm0
    · have hk : k ≤ cap := by
        rcases hcase with ⟨_, r2, r3, _⟩ | ⟨_, _, _, r2, _⟩
        · omega
        · exact r2
      have hnil : news = [] := List.eq_nil_of_length_eq_zero (by simpa using hspl)
      subst hnil
      refine ⟨.slice a1 k cap, _, w, ?_, ⟨a1, cap, rfl, rfl⟩, ?_⟩
      · cases a2 <;> cases a1 <;> simp [execOp, resolve, invoke, builtin, ha.ev h1, ha.ev h2, Builtin.append_, ht.run_u, hd, he.run_size, Builtin.lenOf, hk, Builtin.firstCells, loadCells, loadCellsFrom, storeCells]
      · rw [List.append_nil]; exact back
    obtain ⟨b, o, l, T, fz, rfl, hbl, hnl⟩ := hcase0 hm0
    have hnews : ∀ j u, news[j]? = some u → w.cell? ((⟨b, o, none⟩ : Addr).add j) = some u := fun j u hj => by rw [cells_add w b j l T fz hbl o]; exact hnl j u hj
    have grown : ∀ old, old < k + m → OwnSl e ye.size (some ⟨w.heap.size, 0, none⟩) (k + m) (grownCap w (k + m) old e) (xs ++ news)
        (one w.heap.size (.cells (xs ++ news ++ (Builtin.zeroCells ye.zero.cells (grownCap w (k + m) old e - (k + m))).toList).toArray e (0, 0))) := fun old ho => by
      have hge := grownCap_ge w (k + m) old e
      have hcm : grownCap w (k + m) old e ≤ maxLen := grownCap_le_maxLen w (k + m) old e (by simp only [maxLen]; omega)
      have hlen : (xs ++ news).length = (k + m) * ye.size := by rw [List.length_append, hxl, hspl, Nat.add_mul]
      refine ⟨hlen, .inr ⟨_, _, rfl, hge, hcm, ?_, ?_, rfl⟩⟩
      · rw [List.length_append, hlen, Array.length_toList, size_zeroCells, hz, ← Nat.add_mul]; congr 1; omega
      · rw [← hlen]; exact List.take_left
    rcases hcase with ⟨rfl, rfl, rfl, hm'⟩ | ⟨g, cur, rfl, hnc, hcm, hcl, htk, hm'⟩
    · have hx0 : xs = [] := List.eq_nil_of_length_eq_zero (by simpa using hxl)
      subst hx0
      have hr := run_append_nil (P := P) w t ty e i ye.zero ht' hi hiz ⟨b, o, none⟩ m c news hml hnews (by omega) (by omega) (by rw [hib]; have := hbd; simp only [Nat.zero_add] at this; omega)
      refine ⟨_, _, _, hexec _ hr, ⟨_, _, by rw [Nat.zero_add], rfl⟩, ?_⟩
      have := (hm'.drawn (w.drawn + 1)).alloc (.cells ([] ++ news ++ (Builtin.zeroCells ye.zero.cells (grownCap w (0 + m) 0 e - (0 + m))).toList).toArray e (0, 0))
      have hw := this.weaken (B := OwnSl e ye.size (some ⟨w.heap.size, 0, none⟩) (0 + m) (grownCap w m 0 e) ([] ++ news)) (fun kk hk => by
        have e1 : kk = one w.heap.size _ := hk
        rw [e1]; have := grown 0 (by omega); simp only [Nat.zero_add] at this ⊢; exact this)
      have e9 : ([] ++ news ++ (Builtin.zeroCells ye.zero.cells (grownCap w (0 + m) 0 e - (0 + m))).toList).toArray = news.toArray ++ Builtin.zeroCells ye.zero.cells (grownCap w m 0 e - m) := by
        apply Array.ext'; simp
      rw [e9] at hw
      exact hw
    · by_cases hroom : k + m ≤ cap
      · have hb := hm'.blk .here
        have hfit : k * i.size + news.length ≤ cur.toArray.size := by rw [hml, ← Nat.add_mul, List.size_toArray, hcl, his]; exact Nat.mul_le_mul_right _ hroom
        have hr := run_append_room (P := P) w t ty e i ht' hi g k cap cur.toArray hb ⟨b, o, none⟩ m c news hml hnews hone hroom hfit
        refine ⟨_, _, _, hexec _ hr, ⟨_, _, rfl, rfl⟩, ?_⟩
        have hs := hm'.set' .here (.cells (cur.take (k * i.size) ++ news ++ cur.drop (k * i.size + news.length)).toArray e (0, 0)) (w' := w.setRow g (cur.toArray.toList.take (k * i.size) ++ news ++ cur.toArray.toList.drop (k * i.size + news.length)).toArray)
          rfl rfl rfl (by simp) (setRow_heap w g _ _ e _ hb) (fun c hc => setRow_other w g c _ hc)
        refine hs.weaken fun kk hk => ?_
        have e1 : kk = one g _ := hk
        rw [e1]
        have hlen : (xs ++ news).length = (k + m) * ye.size := by rw [List.length_append, hxl, hspl, Nat.add_mul]
        have hle : k * i.size ≤ cur.length := by rw [hcl, his]; exact Nat.mul_le_mul_right _ hnc
        refine ⟨hlen, .inr ⟨g, _, rfl, hroom, hcm, ?_, ?_, rfl⟩⟩
        · have := hfit; simp only [List.size_toArray] at this
          simp only [List.length_append, List.length_take, List.length_drop]; omega
        · rw [his, htk, ← hlen]; exact List.take_left
      · have holds : ∀ j u, xs[j]? = some u → w.cell? ((⟨g, 0, none⟩ : Addr).add j) = some u := fun j u hj => by
          rw [cells_add w g j cur e _ (hm'.blk .here) 0, Nat.zero_add]
          rw [← htk, List.getElem?_take] at hj
          split at hj
          · exact hj
          · cases hj
        have hr := run_append_grow (P := P) w t ty e i ye.zero ht' hi hiz ⟨g, 0, none⟩ k cap xs (by rw [his]; exact hxl) holds ⟨b, o, none⟩ m c news hml hnews (by omega) (by omega) (growslice_fits (by omega) (by rw [hib]; exact hbd))
        refine ⟨_, _, _, hexec _ hr, ⟨_, _, rfl, rfl⟩, ?_⟩
        have := (hm'.tail.drawn (w.drawn + 1)).alloc (.cells (xs ++ news ++ (Builtin.zeroCells ye.zero.cells (grownCap w (k + m) cap e - (k + m))).toList).toArray e (0, 0))
        have hw := this.weaken (B := OwnSl e ye.size (some ⟨w.heap.size, 0, none⟩) (k + m) (grownCap w (k + m) cap e) (xs ++ news)) (fun kk hk => by
          have e1 : kk = one w.heap.size _ := hk
          rw [e1]; exact grown cap (by omega))
        have e9 : (xs ++ news ++ (Builtin.zeroCells ye.zero.cells (grownCap w (k + m) cap e - (k + m))).toList).toArray = xs.toArray ++ news.toArray ++ Builtin.zeroCells ye.zero.cells (grownCap w (k + m) cap e - (k + m)) := by
          apply Array.ext'; simp
        rw [e9] at hw
        exact hw
end Go.Z
