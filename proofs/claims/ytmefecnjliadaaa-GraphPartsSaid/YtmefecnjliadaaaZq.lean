/- Own layer: queues: an own slice that begins somewhere in its row. Conditions: none; generic in the program. -/
import Derived.Test.YtmefecnjliadaaaZo
namespace Go.Z
set_option maxRecDepth 8000
set_option linter.unusedVariables false
set_option linter.unusedSimpArgs false
set_option linter.unusedSectionVars false
open Go
theorem run_append_roomO {P : Program} (w : World) (t ty e : TypeId) (i : TypeInfo) (ht : P.underlying t = some (.slice e)) (hi : P.info? e = some i)
    (g o0 sLen sCap : Nat) (cur : Array Value) (hg : w.heap[g]? = some (.cells cur e (0, 0)))
    (a : Addr) (m c : Nat) (news : List Value) (hl : news.length = m * i.size) (hnews : ∀ j u, news[j]? = some u → w.cell? (a.add j) = some u) (h1 : ∀ u ∈ news, u.oneCell' = true)
    (hroom : sLen + m ≤ sCap) (hfit : o0 + sLen * i.size + news.length ≤ cur.size) :
    (Builtin.append_ #[t, t] ty #[.slice (some ⟨g, o0, none⟩) sLen sCap, .slice (some a) m c]).run P w =
      .ok (.slice (some ⟨g, o0, none⟩) (sLen + m) sCap) (w.setRow g (cur.toList.take (o0 + sLen * i.size) ++ news ++ cur.toList.drop (o0 + sLen * i.size + news.length)).toArray) := by
  have hf := run_firstCells_some (P := P) w i.size m a m c news hl hnews
  have hst := run_storeCells_at P g (o0 + sLen * i.size) e news 0 cur w hg (by simpa using hfit) h1
  simp only [Nat.add_zero] at hst
  simp [Builtin.append_, run_underlying ht, sizeOf, typeInfo, hi, Builtin.lenOf, hroom, hf, Addr.add_lit, hst]
/-- an own slice of elements of one cell, that begins anywhere in its row -/
def OwnQ (e : TypeId) (a : Option Addr) (k cap : Nat) (xs : List Value) : Assn := fun h => xs.length = k ∧ ∃ (g off : Nat) (cur : List Value), a = some ⟨g, off, none⟩ ∧ k ≤ cap ∧ cap ≤ maxLen ∧ (0 < cap → off + cap = cur.length) ∧ (cur.drop off).take k = xs ∧ h = one g (.cells cur.toArray e (0, 0))
section
variable {P : Program} {M : Mx} {n : Nat} {L : Fr} {H H' : List Assn} {T : Act → World → Prop} {w : World}
theorem OwnQ.cases {e : TypeId} {a : Option Addr} {k cap : Nat} {xs : List Value} (t : Take H (OwnQ e a k cap xs) H') (hm : Ms M H w) :
    xs.length = k ∧ ∃ (g off : Nat) (cur : List Value), a = some ⟨g, off, none⟩ ∧ k ≤ cap ∧ cap ≤ maxLen ∧ (0 < cap → off + cap = cur.length) ∧ (cur.drop off).take k = xs ∧ Ms M (Blk g (.cells cur.toArray e (0, 0)) :: H') w := by
  obtain ⟨hh, s, su, d, r⟩ := hm.own
  obtain ⟨h1, h2, ⟨e1, g, off, cur, a1, a2, a3, a4, a5, a6⟩, s2, dd, rfl⟩ := t.sat s
  exact ⟨e1, g, off, cur, a1, a2, a3, a4, a5, ⟨hm.os, hm.tape, hm.output, hm.size, hm.keep, hm.ro, join h1 h2, ⟨h1, h2, a6, s2, dd, rfl⟩, su, d, r⟩⟩
theorem q_of_blk {e : TypeId} {b : Nat} {l : List Value} (hl : l.length ≤ 9223372036854775807) : ∀ h, Blk b (.cells l.toArray e (0, 0)) h → OwnQ e (some ⟨b, 0, none⟩) l.length l.length l h := fun h hb =>
  ⟨rfl, b, 0, l, rfl, Nat.le_refl _, by simp only [maxLen]; omega, fun _ => by omega, by rw [List.drop_zero, List.take_of_length_le (Nat.le_refl _)], hb⟩
theorem g_openQ {e : TypeId} {a : Option Addr} {k cap : Nat} {xs : List Value} (tk : Take H (OwnQ e a k cap xs) H')
    (h : ∀ g off cur, a = some ⟨g, off, none⟩ → xs.length = k → k ≤ cap → cap ≤ 9223372036854775807 → (0 < cap → off + cap = cur.length) → (cur.drop off).take k = xs → G M n L (Blk g (.cells (cur : List Value).toArray e (0, 0)) :: H') T) : G M n L H T := fun a w ha hm => by
  obtain ⟨e1, g, off, cur, r1, r2, r3, r4, r5, hm'⟩ := OwnQ.cases tk hm
  exact h g off cur r1 e1 r2 (by simp only [maxLen] at r3; omega) r4 r5 a w ha hm'
theorem q_at {cur xs : List Value} {off k j : Nat} {v : Value} (h : (cur.drop off).take k = xs) (hv : xs[j]? = some v) : cur[off + j * 1]? = some v := by
  rw [← h, List.getElem?_take] at hv
  split at hv
  · rw [List.getElem?_drop] at hv; rw [Nat.mul_one]; exact hv
  · cases hv
/-- the first was taken off -/
theorem g_tailQ {e : TypeId} {g off k cap : Nat} {cur : List Value} {x : Value} {xs : List Value} (tk : Take H (Blk g (.cells cur.toArray e (0, 0))) H') (hk : (x :: xs).length = k) (hc : k ≤ cap) (hm : cap ≤ 9223372036854775807) (h1 : 0 < cap → off + cap = cur.length) (h2 : (cur.drop off).take k = x :: xs)
    (h : G M n L (OwnQ e (if cap = 1 then some ⟨g, off, none⟩ else some ⟨g, off + 1, none⟩) (k - 1) (cap - 1) xs :: H') T) : G M n L H T := by
  refine g_weak tk (fun hh hb => ?_) h
  have hl : xs.length = k - 1 := by rw [← hk]; rfl
  rw [List.length_cons] at hk
  refine ⟨hl, g, if cap = 1 then off else off + 1, cur, by split <;> rfl, by omega, by simp only [maxLen]; omega, fun h0 => ?_, ?_, hb⟩
  · rw [if_neg (by omega)]; have := h1 (by omega); omega
  · by_cases hc1 : cap = 1
    · rw [if_pos hc1]
      have : k - 1 = 0 := by omega
      rw [this] at hl ⊢
      rw [List.take_zero, List.eq_nil_of_length_eq_zero hl]
    · rw [if_neg hc1]
      have e1 : (cur.drop off).drop 1 = cur.drop (off + 1) := by rw [List.drop_drop]
      have := congrArg (List.drop 1) h2
      rw [List.drop_take, e1] at this
      exact this
theorem g_ownsome {e : TypeId} {size : Nat} {a : Option Addr} {k cap : Nat} {xs : List Value} (tk : Take H (OwnSl e size a k cap xs) H') (hk : 0 < k) (h : a.isNone = false → G M n L H T) : G M n L H T := fun x w ha hm => by
  obtain ⟨-, e2⟩ := OwnSl.cases tk hm
  rcases e2 with ⟨_, r2, _⟩ | ⟨g, cur, r1, _⟩
  · omega
  · exact h (by rw [r1]; rfl) x w ha hm
theorem g_endQ {e : TypeId} {a : Option Addr} {k cap : Nat} {xs : List Value} (tk : Take H (OwnQ e a k cap xs) H') (h : G M n L H' T) : G M n L H T := g_openQ tk fun _ _ _ _ _ _ _ _ _ => g_sat (fun _ s => s) (fun a w ha hm => h a w ha hm.tail)
end
section
variable {P : Program} {n : Nat} {L : Fr} {H H' : List Assn} {M : Mx}
variable {dd : Option Tmp} {ty t : TypeId} {ps : String} {af : Array Edge} {gd : Option (Nat × Bool)} {x y : Operand}
theorem e_makeC {ye : Ty} {e : TypeId} {k k' : IntKind} {j : Int} [hsl : SlC P t e ye] (h1 : ev L x = some (.int k 0)) (h2 : ev L y = some (.int k' j)) (h0 : 0 ≤ j) (hb : (ye.bytes : Int) * j ≤ 281474976710656) (h63 : j ≤ 9223372036854775807) :
    Eff P M n L H ⟨dd, .makeSlice t x y, ty, ps, af, gd⟩ (fun v H' => ∃ a, v = .slice a 0 j.toNat ∧ H' = OwnSl e ye.size a 0 j.toNat [] :: H) :=
  Eff.of_run fun a w ha hm => by
    obtain ⟨yt, ht, hd⟩ := hsl.t
    have he := hsl.e
    obtain ⟨inf, hri, hib, his, hi, hiz⟩ := he.run_info
    have ht' : P.underlying t = some (.slice e) := by rw [ht.u, hd]
    have hr := run_make (P := P) w t e inf ye.zero ht' hi hiz k k' 0 j (Int.le_refl _) h0 (by rw [hib]; exact hb) h63
    rw [his, show (0 : Int).toNat = 0 from rfl] at hr
    refine ⟨.slice (some ⟨w.heap.size, 0, none⟩) 0 j.toNat, OwnSl e ye.size (some ⟨w.heap.size, 0, none⟩) 0 j.toNat [] :: H, w.alloc (.cells (madeCells ye.zero.cells (j.toNat * ye.size)) e), by simp [execOp, ha.ev h1, ha.ev h2, hr], ⟨some ⟨w.heap.size, 0, none⟩, rfl, rfl⟩, ?_⟩
    have := hm.alloc (.cells (madeCells ye.zero.cells (j.toNat * ye.size)).toList.toArray e (0, 0))
    have hw := this.weaken (B := OwnSl e ye.size (some ⟨w.heap.size, 0, none⟩) 0 j.toNat []) (fun kk hk => ⟨by simp, .inr ⟨w.heap.size, _, rfl, Nat.zero_le _, by simp only [maxLen]; omega, by simp [madeCells], by simp, hk⟩⟩)
    rw [Array.toArray_toList] at hw
    exact hw
theorem p_neslnil {e tz : TypeId} {ad : Option Addr} {m c : Nat} {yt : Ty} [ht : TyC P t yt] (hd : yt.d = .slice e) (h1 : ev L x = some (.slice ad m c)) (h2 : ev L y = some (.slice none 0 0)) : Pur P M n L H ⟨dd, .binOp .neq t x y tz, ty, ps, af, gd⟩ (.bool (!ad.isNone)) :=
  p_neOf h1 h2 (fun w => by simp only [binOp, Op.equal, Op.maxDepth, Sem.run_bind, Sem.run_pure]) (fun w => rfl) (eqIn_slnil hd)
theorem p_tailQ {e : TypeId} {ye : Ty} {kk : IntKind} {g off k cap : Nat} [hsl : SlC P t e ye] (hs1 : ye.size = 1) (h1 : ev L x = some (.slice (some ⟨g, off, none⟩) k cap)) (h2 : ev L y = some (.int kk 1)) (hk : 1 ≤ k) :
    Pur P M n L H ⟨dd, .slice t x (some y) none none, ty, ps, af, gd⟩ (.slice (if cap = 1 then some ⟨g, off, none⟩ else some ⟨g, off + 1, none⟩) (k - 1) (cap - 1)) := by
  have := p_slicel (P := P) (M := M) (n := n) (H := H) (dd := dd) (ty := ty) (ps := ps) (af := af) (gd := gd) (t := t) (ye := ye) (e := e) h1 h2 ⟨by decide, by omega⟩
  have e1 : (1 : Int).toNat = 1 := rfl
  rw [e1, Option.map_some, Addr.add_lit, hs1] at this
  exact this
theorem e_appendQ {e : TypeId} {ye : Ty} {a1 : Option Addr} {k cap c b o : Nat} {xs l : List Value} {u : Value} {T : TypeId} {fz : Nat × Nat} [hsl : SlC P t e ye] (hz : ye.zero.cells.size = ye.size) (hs1 : ye.size = 1)
    (h1 : ev L x = some (.slice a1 k cap)) (h2 : ev L y = some (.slice (some ⟨b, o, none⟩) 1 c)) (hh : Has M H b (.cells l.toArray T fz)) (hsub : l[o]? = some u) (hn1 : one1 [u] = true)
    (tk : Take H (OwnQ e a1 k cap xs) H') (hbd : (k + 1) * ye.bytes ≤ 140737488355328) (h63 : k + 1 ≤ 9223372036854775807) :
    Eff P M n L H ⟨dd, .call ⟨.builtin .append, #[x, y], #[t, t]⟩, ty, ps, af, gd⟩ (fun v H2 => ∃ a2 c2, v = .slice a2 (k + 1) c2 ∧ H2 = OwnQ e a2 (k + 1) c2 (xs ++ [u]) :: H') :=
  Eff.of_run fun a w ha hm => by
    obtain ⟨yt, ht, hd⟩ := hsl.t
    have he := hsl.e
    have hnews : ∀ j v, [u][j]? = some v → w.cell? ((⟨b, o, none⟩ : Addr).add j) = some v := fun j v hj => by
      rw [cells_add w b j l T fz (hh w hm) o]
      match j, hj with
      | 0, hj => simp at hj; subst hj; simpa using hsub
      | j + 1, hj => simp at hj
    have hone : ∀ v ∈ [u], v.oneCell' = true := by simpa [one1] using hn1
    obtain ⟨i, hri, hib, his, hi, hiz⟩ := he.run_info
    have ht' : P.underlying t = some (.slice e) := by rw [ht.u, hd]
    have his1 : i.size = 1 := by rw [his, hs1]
    have hml : [u].length = 1 * i.size := by rw [his1]; rfl
    have hexec : ∀ (r : Result Value), (Builtin.append_ #[t, t] ty #[.slice a1 k cap, .slice (some ⟨b, o, none⟩) 1 c]).run P w = r →
        (execOp a.eval ⟨dd, .call ⟨.builtin .append, #[x, y], #[t, t]⟩, ty, ps, af, gd⟩).run P w = r.andThen fun v w => .ok (.value v) w := fun r hr => by
      simp [execOp, resolve, invoke, builtin, ha.ev h1, ha.ev h2, hr]
    obtain ⟨hxl, g, off, cur, rfl, hnc, hcm, hoc, htk, hm'⟩ := OwnQ.cases tk hm
    by_cases hroom : k + 1 ≤ cap
    · have hb := hm'.blk .here
      have hcl := hoc (by omega)
      have hr := run_append_roomO (P := P) w t ty e i ht' hi g off k cap cur.toArray hb ⟨b, o, none⟩ 1 c [u] hml hnews hone hroom (by rw [his1]; simp; omega)
      refine ⟨_, _, _, hexec _ hr, ⟨_, _, rfl, rfl⟩, ?_⟩
      have hs := hm'.set' .here (.cells (cur.take (off + k * i.size) ++ [u] ++ cur.drop (off + k * i.size + [u].length)).toArray e (0, 0)) (w' := w.setRow g (cur.toArray.toList.take (off + k * i.size) ++ [u] ++ cur.toArray.toList.drop (off + k * i.size + [u].length)).toArray)
        rfl rfl rfl (by simp) (setRow_heap w g _ _ e _ hb) (fun c hc => setRow_other w g c _ hc)
      refine hs.weaken fun kk hk => ?_
      have e1 : kk = one g _ := hk
      rw [e1, his1, Nat.mul_one]
      refine ⟨by simp [hxl], g, off, _, rfl, hroom, hcm, fun _ => ?_, ?_, rfl⟩
      · simp; omega
      · rw [List.append_assoc, List.drop_append_of_le_length (by simp; omega)]
        have e2 : (cur.take (off + k)).drop off = xs := by rw [List.drop_take, Nat.add_sub_cancel_left, htk]
        rw [e2, ← List.append_assoc, List.take_append_of_le_length (by simp [hxl]), List.take_of_length_le (by simp [hxl])]
    · have holds : ∀ j v, xs[j]? = some v → w.cell? ((⟨g, off, none⟩ : Addr).add j) = some v := fun j v hj => by
        rw [cells_add w g j cur e _ (hm'.blk .here) off]
        have := q_at htk hj
        rwa [Nat.mul_one] at this
      have hr := run_append_grow (P := P) w t ty e i ye.zero ht' hi hiz ⟨g, off, none⟩ k cap xs (by rw [his1]; omega) holds ⟨b, o, none⟩ 1 c [u] hml hnews (by omega) (by omega) (growslice_fits (by omega) (by rw [hib]; exact hbd))
      refine ⟨_, _, _, hexec _ hr, ⟨_, _, rfl, rfl⟩, ?_⟩
      have := (hm'.tail.drawn (w.drawn + 1)).alloc (.cells (xs ++ [u] ++ (Builtin.zeroCells ye.zero.cells (grownCap w (k + 1) cap e - (k + 1))).toList).toArray e (0, 0))
      have hw := this.weaken (B := OwnQ e (some ⟨w.heap.size, 0, none⟩) (k + 1) (grownCap w (k + 1) cap e) (xs ++ [u])) (fun kk hk => by
        have e1 : kk = one w.heap.size _ := hk
        rw [e1]
        have hge := grownCap_ge w (k + 1) cap e
        have hcm : grownCap w (k + 1) cap e ≤ maxLen := grownCap_le_maxLen w (k + 1) cap e (by simp only [maxLen]; omega)
        have hlen : (xs ++ [u]).length = k + 1 := by simp [hxl]
        refine ⟨hlen, _, 0, _, rfl, hge, hcm, fun _ => ?_, ?_, rfl⟩
        · rw [List.length_append, hlen, Array.length_toList, size_zeroCells, hz, hs1]; omega
        · rw [List.drop_zero, ← hlen]; exact List.take_left)
      have e9 : (xs ++ [u] ++ (Builtin.zeroCells ye.zero.cells (grownCap w (k + 1) cap e - (k + 1))).toList).toArray = xs.toArray ++ [u].toArray ++ Builtin.zeroCells ye.zero.cells (grownCap w (k + 1) cap e - (k + 1)) := by
        apply Array.ext'; simp
      rw [e9] at hw
      exact hw
end
end Go.Z
