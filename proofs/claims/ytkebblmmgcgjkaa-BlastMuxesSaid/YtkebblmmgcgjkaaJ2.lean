/- Chapter 38, plain: literals that stand for functions of the inputs. No program in sight. Conditions: none. -/
import Derived.Test.YtkebblmmgcgjkaaJ1
import Derived.Test.YtkebblmmgcgjkaaB5
namespace Go.Z.Bit
set_option maxRecDepth 8000
set_option linter.unusedVariables false
set_option linter.unusedSimpArgs false
set_option linter.unusedSectionVars false
open Go Go.Z Go.Z.Aig Go.Proofs.Ytkebblmmgcgjkaa

def Den (T : St) (l : Int) (f : List Bool → Bool) : Prop := has T l ∧ ∀ inp, litv (vals T inp) l = f inp
def DenL (T : St) (ls : List Int) (f : List Bool → List Bool) : Prop := (∀ l ∈ ls, has T l) ∧ ∀ inp, ls.map (litv (vals T inp)) = f inp
structure Up (S T : St) (k : Nat) : Prop where
  wf : WF T
  ext : Ext S T
  len : T.length ≤ S.length + k
theorem Up.refl {S : St} (h : WF S) : Up S S 0 := ⟨h, Ext.refl S, Nat.le_refl _⟩
theorem Up.trans {S T U : St} {j k m : Nat} (h : Up S T j) (g : Up T U k) (e : j + k ≤ m) : Up S U m := ⟨g.wf, h.ext.trans g.ext, by have := h.len; have := g.len; omega⟩
theorem Den.i64 {T : St} {l : Int} {f : List Bool → Bool} (hw : WF T) (h : Den T l f) : I64 l := by
  have := hw.lim; have := h.1.1; have := h.1.2; unfold I64; omega
theorem Den.up {S T : St} {l : Int} {f : List Bool → Bool} {k : Nat} (hw : WF S) (h : Den S l f) (u : Up S T k) : Den T l f :=
  ⟨u.ext.has h.1, fun inp => by rw [litv_ext hw u.ext inp h.1]; exact h.2 inp⟩
theorem DenL.up {S T : St} {ls : List Int} {f : List Bool → List Bool} {k : Nat} (hw : WF S) (h : DenL S ls f) (u : Up S T k) : DenL T ls f :=
  ⟨fun l hl => u.ext.has (h.1 l hl), fun inp => by rw [← h.2 inp]; exact List.map_congr_left fun l hl => litv_ext hw u.ext inp (h.1 l hl)⟩
theorem Den.congr {T : St} {l : Int} {f g : List Bool → Bool} (h : Den T l f) (e : ∀ i, f i = g i) : Den T l g := ⟨h.1, fun i => (h.2 i).trans (e i)⟩
theorem DenL.congr {T : St} {l : List Int} {f g : List Bool → List Bool} (h : DenL T l f) (e : ∀ i, f i = g i) : DenL T l g := ⟨h.1, fun i => (h.2 i).trans (e i)⟩
theorem DenL.len {T : St} {ls : List Int} {f : List Bool → List Bool} (h : DenL T ls f) (i : List Bool) : (f i).length = ls.length := by rw [← h.2 i, List.length_map]
theorem DenL.nil {T : St} : DenL T [] (fun _ => []) := ⟨fun l h => absurd h List.not_mem_nil, fun _ => rfl⟩
theorem DenL.snoc {T : St} {ls : List Int} {f : List Bool → List Bool} {l : Int} {g : List Bool → Bool} (h : DenL T ls f) (d : Den T l g) : DenL T (ls ++ [l]) (fun i => f i ++ [g i]) :=
  ⟨fun x hx => by
    rcases List.mem_append.1 hx with hx | hx
    · exact h.1 x hx
    · rw [List.mem_singleton.1 hx]; exact d.1, fun i => by rw [List.map_append, h.2 i]; simp [d.2 i]⟩
theorem DenL.cons {T : St} {ls : List Int} {f : List Bool → List Bool} {l : Int} {g : List Bool → Bool} (d : Den T l g) (h : DenL T ls f) : DenL T (l :: ls) (fun i => g i :: f i) :=
  ⟨fun x hx => by
    rcases List.mem_cons.1 hx with hx | hx
    · rw [hx]; exact d.1
    · exact h.1 x hx, fun i => by rw [List.map_cons, h.2 i, d.2 i]⟩
theorem DenL.one {T : St} {l : Int} {g : List Bool → Bool} (d : Den T l g) : DenL T [l] (fun i => [g i]) := .cons d .nil
theorem DenL.app {T : St} {ls ms : List Int} {f g : List Bool → List Bool} (h : DenL T ls f) (d : DenL T ms g) : DenL T (ls ++ ms) (fun i => f i ++ g i) :=
  ⟨fun x hx => by
    rcases List.mem_append.1 hx with hx | hx
    · exact h.1 x hx
    · exact d.1 x hx, fun i => by rw [List.map_append, h.2 i, d.2 i]⟩
theorem DenL.take {T : St} {ls : List Int} {f : List Bool → List Bool} (h : DenL T ls f) (k : Nat) : DenL T (ls.take k) (fun i => (f i).take k) :=
  ⟨fun x hx => h.1 x (List.mem_of_mem_take hx), fun i => by rw [List.map_take, h.2 i]⟩
theorem DenL.drop {T : St} {ls : List Int} {f : List Bool → List Bool} (h : DenL T ls f) (k : Nat) : DenL T (ls.drop k) (fun i => (f i).drop k) :=
  ⟨fun x hx => h.1 x (List.mem_of_mem_drop hx), fun i => by rw [List.map_drop, h.2 i]⟩
theorem DenL.get {T : St} {ls : List Int} {f : List Bool → List Bool} (h : DenL T ls f) {k : Nat} (hk : k < ls.length) : Den T ls[k] (fun i => (f i).getD k false) :=
  ⟨h.1 _ (List.getElem_mem hk), fun i => by show _ = (f i).getD k false; rw [← h.2 i, List.getD_eq_getElem?_getD, List.getElem?_map, List.getElem?_eq_getElem hk]; rfl⟩
theorem DenL.set {T : St} {ls : List Int} {f : List Bool → List Bool} {l : Int} {g : List Bool → Bool} (h : DenL T ls f) (d : Den T l g) (k : Nat) : DenL T (ls.set k l) (fun i => (f i).set k (g i)) :=
  ⟨fun x hx => by
    rcases List.mem_or_eq_of_mem_set hx with hx | hx
    · exact h.1 x hx
    · rw [hx]; exact d.1, fun i => by rw [List.map_set, h.2 i, d.2 i]⟩
theorem Den.not {T : St} {l : Int} {f : List Bool → Bool} (d : Den T l f) : Den T (nt l) (fun i => !f i) := ⟨nt_has d.1, fun i => by rw [litv_nt _ d.1.1, d.2 i]⟩
theorem DenL.not {T : St} {ls : List Int} {f : List Bool → List Bool} (h : DenL T ls f) : DenL T (ls.map nt) (fun i => (f i).map (!·)) :=
  ⟨fun x hx => by obtain ⟨y, hy, rfl⟩ := List.mem_map.1 hx; exact nt_has (h.1 y hy), fun i => by
    show _ = (f i).map (!·)
    rw [← h.2 i, List.map_map, List.map_map]
    exact List.map_congr_left fun x hx => litv_nt _ (h.1 x hx).1⟩
theorem Den.zero {T : St} (hw : WF T) : Den T 0 (fun _ => false) := ⟨⟨Int.le_refl _, by have := hw.pos; omega⟩, fun i => litv_zero hw i⟩
theorem Den.one {T : St} (hw : WF T) : Den T 1 (fun _ => true) := ⟨⟨by decide, by have := hw.pos; omega⟩, fun i => litv_one hw i⟩
theorem DenL.rep {T : St} (hw : WF T) : ∀ n : Nat, DenL T (List.replicate n 0) (fun _ => List.replicate n false)
  | 0 => .nil
  | n + 1 => .cons (Den.zero hw) (DenL.rep hw n)

theorem means_up {S T : St} {l : Int} {k : Nat} {f : (Int → Bool) → Bool} (h : Means S (l, 0, T) k f) : Up S T k := ⟨h.wf, h.ext, h.len⟩
theorem and_den {S : St} (hw : WF S) (hl : S.length < 131072) {a b : Int} {fa fb : List Bool → Bool} (ha : Den S a fa) (hb : Den S b fb) : ∃ l T, and1 S a b = (l, 0, T) ∧ Up S T 1 ∧ Den T l (fun i => fa i && fb i) := by
  have g := good_and hw hl ha.1 hb.1
  obtain ⟨⟨l, e, T⟩, h⟩ : ∃ r, and1 S a b = r := ⟨_, rfl⟩
  rw [h] at g
  obtain rfl : e = 0 := g.ok
  exact ⟨l, T, h, means_up g, g.has, fun i => by dsimp only; rw [← ha.2 i, ← hb.2 i]; exact g.val i⟩
theorem xor_den {S : St} (hw : WF S) (hl : S.length + 2 < 131072) {a b : Int} {fa fb : List Bool → Bool} (ha : Den S a fa) (hb : Den S b fb) : ∃ l T, xor1 S a b = (l, 0, T) ∧ Up S T 3 ∧ Den T l (fun i => fa i != fb i) := by
  have g := good_xor hw hl ha.1 hb.1
  obtain ⟨⟨l, e, T⟩, h⟩ : ∃ r, xor1 S a b = r := ⟨_, rfl⟩
  rw [h] at g
  obtain rfl : e = 0 := g.ok
  exact ⟨l, T, h, means_up g, g.has, fun i => by dsimp only; rw [← ha.2 i, ← hb.2 i]; exact g.val i⟩
theorem mux_den {S : St} (hw : WF S) (hl : S.length + 2 < 131072) {c a b : Int} {fc fa fb : List Bool → Bool} (hc : Den S c fc) (ha : Den S a fa) (hb : Den S b fb) : ∃ l T, mux1 S c a b = (l, 0, T) ∧ Up S T 3 ∧ Den T l (fun i => if fc i then fa i else fb i) := by
  have g := good_mux hw hl hc.1 ha.1 hb.1
  obtain ⟨⟨l, e, T⟩, h⟩ : ∃ r, mux1 S c a b = r := ⟨_, rfl⟩
  rw [h] at g
  obtain rfl : e = 0 := g.ok
  exact ⟨l, T, h, means_up g, g.has, fun i => by dsimp only; rw [← hc.2 i, ← ha.2 i, ← hb.2 i]; exact g.val i⟩

theorem take_succ' {l : List Bool} {k : Nat} (hk : k < l.length) : l.take (k + 1) = l.take k ++ [l.getD k false] := by
  rw [List.take_add_one, List.getElem?_eq_getElem hk, List.getD_eq_getElem?_getD, List.getElem?_eq_getElem hk]; rfl
theorem addF_step {xs ys : List Bool} (c : Bool) {k : Nat} (ha : k < xs.length) (hb : k < ys.length) :
    addF (xs.take (k + 1)) (ys.take (k + 1)) c = ((addF (xs.take k) (ys.take k) c).1 ++ [(xs.getD k false != ys.getD k false) != (addF (xs.take k) (ys.take k) c).2], if xs.getD k false != ys.getD k false then (addF (xs.take k) (ys.take k) c).2 else xs.getD k false) := by
  rw [take_succ' ha, take_succ' hb]
  exact addF_snoc _ _ _ _ _ (by rw [List.length_take, List.length_take]; omega)
theorem muxF_step (c : Bool) {xs ys : List Bool} {k : Nat} (ha : k < xs.length) (hb : k < ys.length) : muxF c (xs.take (k + 1)) (ys.take (k + 1)) = muxF c (xs.take k) (ys.take k) ++ [if c then xs.getD k false else ys.getD k false] := by
  rw [take_succ' ha, take_succ' hb]
  unfold muxF
  rw [List.zipWith_append (by rw [List.length_take, List.length_take]; omega)]; rfl
theorem xnor_step {xs ys : List Bool} {k : Nat} (ha : k < xs.length) (hb : k < ys.length) : List.zipWith (fun x y => !(x != y)) (xs.take (k + 1)) (ys.take (k + 1)) = List.zipWith (fun x y => !(x != y)) (xs.take k) (ys.take k) ++ [!(xs.getD k false != ys.getD k false)] := by
  rw [take_succ' ha, take_succ' hb, List.zipWith_append (by rw [List.length_take, List.length_take]; omega)]; rfl
end Go.Z.Bit
