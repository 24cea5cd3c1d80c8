/- Own layer, part 9: slices of slices; scopes and labels. Conditions: none; generic in the program. -/
import Derived.Test.YtmefecnjliadaaaZh
import Derived.Scope
namespace Go.Z
set_option maxRecDepth 8000
set_option linter.unusedVariables false
set_option linter.unusedSimpArgs false
set_option linter.unusedSectionVars false
open Go

section
variable {P : Program} {M : Mx} {n : Nat} {L : Fr} {H H' : List Assn} {Q : Exit → Act → World → Prop} {T : Act → World → Prop}

/-! ### scopes without jumps -/
@[irreducible] def QS (Q : Exit → Act → World → Prop) : Exit → Act → World → Prop := Exit.noGoto Q
theorem g_scope {c : Code} (h : G M n L H (TC P c (QS Q))) : G M n L H (TC P (.scope c) Q) := by
  unfold G TC QS at *; exact fun a w ha hm => wp_scope_straight (h a w ha hm)
theorem g_label {l : Nat} (h : G M n L H (TP Q .normal)) : G M n L H (TC P (.label l) Q) := by
  unfold G TC TP at *; exact fun a w ha hm => wp_label (h a w ha hm)
theorem g_qs (h : G M n L H (TP Q .normal)) : G M n L H (TP (QS Q) .normal) := by
  unfold G TP QS at *; exact h
theorem g_qs_ret (h : G M n L H (TP Q .ret)) : G M n L H (TP (QS Q) .ret) := by
  unfold G TP QS at *; exact h
theorem g_qs_exit {id : Nat} (h : G M n L H (TP Q (.exit id))) : G M n L H (TP (QS Q) (.exit id)) := by
  unfold G TP QS at *; exact h

/-! ### tests whose answer is kept -/
theorem holds_lit {a : Act} {t : Nat} {c b' : Bool} (hl : L.lookup t = some (.bool c)) (e : c = b') (ha : Holds n L a) : Holds n ((t, .bool b') :: L) a :=
  ⟨ha.size, ha.defers, fun s v h => by
    simp only [List.lookup_cons] at h
    by_cases e1 : s = t
    · subst e1; simp at h; subst h; subst e; exact ha.look _ _ hl
    · have : (s == t) = false := by simpa using e1
      simp only [this] at h; exact ha.look _ _ h⟩
theorem g_ifL {t : Nat} {x y : Code} {c : Bool} (hl : L.lookup t = some (.bool c)) (k1 : c = true → G M n ((t, .bool true) :: L) H (TC P x Q)) (k2 : c = false → G M n ((t, .bool false) :: L) H (TC P y Q)) : G M n L H (TC P (.cond (.tmp t) x y) Q) :=
  g_if (c := .tmp t) hl (fun e a w ha hm => k1 e a w (holds_lit hl e ha) hm) (fun e a w ha hm => k2 e a w (holds_lit hl e ha) hm)
theorem g_ifdL {t : Nat} {x y : Code} {p : Prop} [Decidable p] (hl : L.lookup t = some (.bool (decide p))) (k1 : p → G M n ((t, .bool true) :: L) H (TC P x Q)) (k2 : ¬ p → G M n ((t, .bool false) :: L) H (TC P y Q)) : G M n L H (TC P (.cond (.tmp t) x y) Q) :=
  g_ifL hl (fun h => k1 (of_decide_eq_true h)) (fun h => k2 (of_decide_eq_false h))
theorem g_ifndL {t : Nat} {x y : Code} {p : Prop} [Decidable p] (hl : L.lookup t = some (.bool (!decide p))) (k1 : ¬ p → G M n ((t, .bool true) :: L) H (TC P x Q)) (k2 : p → G M n ((t, .bool false) :: L) H (TC P y Q)) : G M n L H (TC P (.cond (.tmp t) x y) Q) :=
  g_ifL hl (fun h => k1 (by simpa using h)) (fun h => k2 (by simpa using h))

/-- a guard that was not carried out itself -/
theorem g_nou {ops : Array Oper} {rest : List Oper} {ty : TypeId} {ps : String} {af : Array Edge} {op : Op} {j dj d : Nat} {b : Bool} (hd : (ops[j]?).bind (·.dst) = some dj) (hl : L.lookup dj = some undef) (hn : Nat.blt d n = true) (k : G M n ((d, undef) :: L) H (TL P ops rest Q)) :
    G M n L H (TL P ops (⟨some d, op, ty, ps, af, some (j, b)⟩ :: rest) Q) := by
  unfold G TL at *
  intro a w ha hm
  have hy : yielded ops a.tmps j = none := by
    have h := ha.look _ _ hl
    unfold yielded
    rw [hd]
    cases e : a.tmps[dj]? with
    | none => simp [e]
    | some u =>
      rw [Array.getD_eq_getD_getElem?, e] at h
      simp at h; subst h; simp [e, undef]
  unfold wpList
  rw [if_neg (by simp [Region.wanted, hy])]
  exact k _ _ (ha.put (by simpa using hn) _) hm

theorem Take.ro {ρ : Nat → Obj → Prop} {A : Assn} (t : Take H A H') : Ros ρ H → Ro ρ A := by
  induction t with
  | here => exact fun h => h.1
  | there _ ih => exact fun h => ih h.2
theorem Res.cellN {t b : Nat} {T T' : TypeId} {fz : Nat × Nat} {l vs us : List Value} {rs : List ResultVar} {yt : Ty} [ht : TyC P T yt] (hd : aggD yt.d = true) (h1 : L.lookup t = some (.pointer (some ⟨b, 0, none⟩))) (hh : Has M H b (.cells l.toArray T' fz)) (hc : sub l 0 yt.size = some vs) (hr : Res P M L H rs us) : Res P M L H (.cell t T :: rs) (.agg vs.toArray :: us) :=
  .cell h1 (fun w hm => by
    have e := run_loadRow (P := P) (hh w hm) 0 yt.size vs (sub_spec hc).1 (sub_spec hc).2
    simp [loadVar, ht.run_agg, hd, ht.run_size, e]) hr

/-! ### lists of assertions -/
theorem g_sat (s : ∀ h, Sat H h → Sat H' h) (k : G M n L H' T) : G M n L H T := fun a w ha hm => by
  obtain ⟨hh, s1, su, d, r⟩ := hm.own
  exact k a w ha ⟨hm.os, hm.tape, hm.output, hm.size, hm.keep, hm.ro, hh, s _ s1, su, d, r⟩

theorem Take.back {A : Assn} {H1 H2 : List Assn} (t : Take H1 A H2) : ∀ {h : Hp}, Sat (A :: H2) h → Sat H1 h := by
  induction t with
  | here => exact fun s => s
  | there t ih =>
    rintro h ⟨k1, k2, ha, ⟨h1, h2, hb, hs, hd, rfl⟩, hd2, rfl⟩
    obtain ⟨d1, d2⟩ := Disj.join_right.1 hd2
    refine ⟨h1, join k1 h2, hb, ih ⟨k1, h2, ha, hs, d2, rfl⟩, Disj.join_right.2 ⟨d1.symm, hd⟩, ?_⟩
    rw [← join_assoc, ← join_assoc, join_comm d1]

theorem take_at : ∀ (l : List Assn) (j : Nat) (hj : j < l.length), Take (l ++ H) l[j] (l.eraseIdx j ++ H)
  | A :: l, 0, _ => .here
  | A :: l, j + 1, hj => .there (take_at l j (by simpa using hj))
theorem take_set (A : Assn) : ∀ (l : List Assn) (j : Nat) (hj : j < l.length), Take (l.set j A ++ H) A (l.eraseIdx j ++ H)
  | B :: l, 0, _ => .here
  | B :: l, j + 1, hj => .there (take_set A l j (by simpa using hj))

/-! ### own slices of own slices (elements of one cell) -/
def hdr (h : Option Addr × Nat) (r : List Value) : Value := .slice h.1 r.length h.2
def inn (ei : TypeId) (h : Option Addr × Nat) (r : List Value) : Assn := OwnSl ei 1 h.1 r.length h.2 r
def hdrs (hs : List (Option Addr × Nat)) (rows : List (List Value)) : List Value := List.zipWith hdr hs rows
def inns (ei : TypeId) (hs : List (Option Addr × Nat)) (rows : List (List Value)) : List Assn := List.zipWith (inn ei) hs rows
def Own2K (eo ei : TypeId) (a : Option Addr) (cap : Nat) (rows : List (List Value)) : List Assn → Prop := fun H => ∃ hs : List (Option Addr × Nat), hs.length = rows.length ∧ H = OwnSl eo 1 a rows.length cap (hdrs hs rows) :: inns ei hs rows
def Own2 (eo ei : TypeId) (a : Option Addr) (cap : Nat) (rows : List (List Value)) : Assn := Pk (Own2K eo ei a cap rows)

theorem hdrs_len {hs : List (Option Addr × Nat)} {rows : List (List Value)} (h : hs.length = rows.length) : (hdrs hs rows).length = rows.length := by simp [hdrs, h]
theorem inns_len {ei : TypeId} {hs : List (Option Addr × Nat)} {rows : List (List Value)} (h : hs.length = rows.length) : (inns ei hs rows).length = rows.length := by simp [inns, h]
theorem hdrs_at {hs : List (Option Addr × Nat)} {rows : List (List Value)} (h : hs.length = rows.length) {j : Nat} (hj : j < rows.length) : (hdrs hs rows)[j]? = some (hdr (hs[j]'(by omega)) rows[j]) := by
  unfold hdrs
  rw [List.getElem?_zipWith, List.getElem?_eq_getElem (show j < hs.length by omega), List.getElem?_eq_getElem hj]
theorem hdrs_set {hs : List (Option Addr × Nat)} {rows : List (List Value)} (j : Nat) (g : Option Addr × Nat) (r : List Value) : hdrs (hs.set j g) (rows.set j r) = (hdrs hs rows).set j (hdr g r) := by
  unfold hdrs
  induction hs generalizing rows j with
  | nil => simp
  | cons x hs ih =>
    cases rows with
    | nil => simp
    | cons y rows => cases j with
      | zero => rfl
      | succ j => simp [ih]
theorem inns_set {ei : TypeId} {hs : List (Option Addr × Nat)} {rows : List (List Value)} (j : Nat) (g : Option Addr × Nat) (r : List Value) : inns ei (hs.set j g) (rows.set j r) = (inns ei hs rows).set j (inn ei g r) := by
  unfold inns
  induction hs generalizing rows j with
  | nil => simp
  | cons x hs ih =>
    cases rows with
    | nil => simp
    | cons y rows => cases j with
      | zero => rfl
      | succ j => simp [ih]

/-- Row j of an own slice of slices, taken out; and what is left. -/
theorem g_row {ei : TypeId} {hs : List (Option Addr × Nat)} {rows : List (List Value)} (h : hs.length = rows.length) {j : Nat} (hj : j < rows.length)
    (k : G M n L (inn ei (hs[j]'(by omega)) rows[j] :: ((inns ei hs rows).eraseIdx j ++ H)) T) : G M n L (inns ei hs rows ++ H) T := by
  refine g_sat (fun hh s => ?_) k
  have t := take_at (H := H) (inns ei hs rows) j (by rw [inns_len h]; exact hj)
  have e : (inns ei hs rows)[j]'(by rw [inns_len h]; exact hj) = inn ei (hs[j]'(by omega)) rows[j] := by simp [inns]
  rw [e] at t
  exact t.sat s
theorem g_unrow {ei : TypeId} {hs : List (Option Addr × Nat)} {rows : List (List Value)} (h : hs.length = rows.length) {j : Nat} (hj : j < rows.length) (g : Option Addr × Nat) (r : List Value)
    (k : G M n L (inns ei (hs.set j g) (rows.set j r) ++ H) T) : G M n L (inn ei g r :: ((inns ei hs rows).eraseIdx j ++ H)) T := by
  refine g_sat (fun hh s => ?_) k
  rw [inns_set]
  exact (take_set (H := H) (inn ei g r) (inns ei hs rows) j (by rw [inns_len h]; exact hj)).back s

theorem g_emp {A : Assn} (ha : A (fun _ => none)) (h : G M n L (A :: H) T) : G M n L H T := fun a w hL hm => h a w hL (hm.emp ha)
theorem sat_nils (ei : TypeId) : ∀ k : Nat, Sat (inns ei (List.replicate k (none, 0)) (List.replicate k [])) (fun _ => none)
  | 0 => rfl
  | k + 1 => by
    rw [List.replicate_succ, List.replicate_succ]
    exact ⟨fun _ => none, fun _ => none, ⟨by simp, .inl ⟨rfl, rfl, rfl, rfl⟩⟩, sat_nils ei k, fun b => .inl rfl, by funext b; rfl⟩
theorem hdrs_nils (k : Nat) : hdrs (List.replicate k (none, 0)) (List.replicate k []) = List.replicate k (.slice none 0 0) := by
  induction k with
  | zero => rfl
  | succ k ih => rw [List.replicate_succ, List.replicate_succ, List.replicate_succ, ← ih]; rfl

/-! ### a list of assertions as one -/
def Al (l : List Assn) : Assn := fun h => Sat l h
theorem sat_split : ∀ {A B : List Assn} {h : Hp}, Sat (A ++ B) h → ∃ h1 h2, Sat A h1 ∧ Sat B h2 ∧ Disj h1 h2 ∧ h = join h1 h2
  | [], B, h, s => ⟨fun _ => none, h, rfl, s, fun b => .inl rfl, by funext b; simp [join]⟩
  | X :: A, B, h, ⟨h1, h2, ha, hs, hd, e⟩ => by
    subst e
    obtain ⟨k1, k2, s1, s2, d, rfl⟩ := sat_split (A := A) (B := B) hs
    obtain ⟨d1, d2⟩ := Disj.join_right.1 hd
    refine ⟨join h1 k1, k2, ⟨h1, k1, ha, s1, d1, rfl⟩, s2, ?_, by rw [join_assoc]⟩
    exact (Disj.join_right.2 ⟨d2.symm, d.symm⟩).symm
theorem g_al {l : List Assn} (tk : Take H (Al l) H') (k : G M n L (l ++ H') T) : G M n L H T :=
  g_sat (fun h s => by obtain ⟨h1, h2, s1, s2, d, rfl⟩ := tk.sat s; exact sat_append s1 s2 d) k
theorem g_weak2 {A B C : Assn} {H1 H2 : List Assn} (t1 : Take H A H1) (t2 : Take H1 B H2) (hab : ∀ k, Sat [A, B] k → C k) (h : G M n L (C :: H2) T) : G M n L H T :=
  g_sat (fun h s => by
    obtain ⟨k1, k2, ha, s2, d, e⟩ := t1.sat s
    subst e
    obtain ⟨k3, k4, hb, s4, d2, e⟩ := t2.sat s2
    subst e
    obtain ⟨d3, d4⟩ := Disj.join_right.1 d
    exact ⟨join k1 k3, k4, hab _ ⟨k1, k3, ha, ⟨k3, fun _ => none, hb, rfl, fun b => .inr rfl, by funext b; simp [join]⟩, d3, rfl⟩, s4, (Disj.join_right.2 ⟨d4.symm, d2.symm⟩).symm, by rw [join_assoc]⟩) h
theorem g_open2 {eo ei : TypeId} {a : Option Addr} {cap : Nat} {rows : List (List Value)} (tk : Take H (Own2 eo ei a cap rows) H') (k : ∀ hs : List (Option Addr × Nat), hs.length = rows.length → G M n L (OwnSl eo 1 a rows.length cap (hdrs hs rows) :: Al (inns ei hs rows) :: H') T) : G M n L H T := by
  refine g_open tk ?_
  rintro _ ⟨hs, h1, rfl⟩
  refine g_sat (fun h s => ?_) (k hs h1)
  obtain ⟨h1, h2, ha, s2, d, e⟩ := s
  obtain ⟨k1, k2, s3, s4, d2, e2⟩ := sat_split s2
  exact ⟨h1, h2, ha, ⟨k1, k2, s3, s4, d2, e2⟩, d, e⟩
theorem g_close2 {eo ei : TypeId} {a : Option Addr} {cap : Nat} {rows : List (List Value)} {hs : List (Option Addr × Nat)} {H1 H2 : List Assn} (h : hs.length = rows.length) (t1 : Take H (OwnSl eo 1 a rows.length cap (hdrs hs rows)) H1) (t2 : Take H1 (Al (inns ei hs rows)) H2) (k : G M n L (Own2 eo ei a cap rows :: H2) T) : G M n L H T :=
  g_weak2 t1 t2 (fun hh s => by
    obtain ⟨k1, k2, ha, ⟨k3, k4, hb, h4, d2, e2⟩, d, e⟩ := s
    have h4 : k4 = fun _ => none := h4
    subst h4
    have : k2 = k3 := by rw [e2]; funext b; simp [join]
    subst this
    exact ⟨_, ⟨hs, h, rfl⟩, k1, k2, ha, hb, d, e⟩) k
theorem g_rowA {ei : TypeId} {hs : List (Option Addr × Nat)} {rows : List (List Value)} (h : hs.length = rows.length) {j : Nat} (hj : j < rows.length) (tk : Take H (Al (inns ei hs rows)) H')
    (k : G M n L (OwnSl ei 1 (hs[j]'(by omega)).1 rows[j].length (hs[j]'(by omega)).2 rows[j] :: Al ((inns ei hs rows).eraseIdx j) :: H') T) : G M n L H T :=
  g_al tk (g_row h hj (g_sat (fun hh s => by
    obtain ⟨h1, h2, ha, s2, d, e⟩ := s
    obtain ⟨k1, k2, s3, s4, d2, e2⟩ := sat_split s2
    exact ⟨h1, h2, ha, ⟨k1, k2, s3, s4, d2, e2⟩, d, e⟩) k))
theorem g_unrowA {ei : TypeId} {hs : List (Option Addr × Nat)} {rows : List (List Value)} (h : hs.length = rows.length) {j : Nat} (hj : j < rows.length) {a : Option Addr} {c : Nat} {r : List Value} {H1 H2 : List Assn} (t1 : Take H (OwnSl ei 1 a r.length c r) H1) (t2 : Take H1 (Al ((inns ei hs rows).eraseIdx j)) H2)
    (k : G M n L (Al (inns ei (hs.set j (a, c)) (rows.set j r)) :: H2) T) : G M n L H T :=
  g_weak2 t1 t2 (fun hh s => by
    obtain ⟨k1, k2, ha, ⟨k3, k4, hb, h4, d2, e2⟩, d, e⟩ := s
    have h4 : k4 = fun _ => none := h4
    subst h4
    have : k2 = k3 := by rw [e2]; funext b; simp [join]
    subst this
    have s5 : Sat (inn ei (a, c) r :: (inns ei hs rows).eraseIdx j) hh := ⟨k1, k2, ha, hb, d, e⟩
    show Sat (inns ei (hs.set j (a, c)) (rows.set j r)) hh
    rw [inns_set]
    have := (take_set (H := []) (inn ei (a, c) r) (inns ei hs rows) j (by rw [inns_len h]; exact hj)).back (h := hh) (by rw [List.append_nil]; exact s5)
    rwa [List.append_nil] at this) k

/-- a new slice of nil slices -/
theorem g_nils {eo ei : TypeId} {a : Option Addr} {k cap : Nat} (tk : Take H (OwnSl eo 1 a k cap (List.replicate k (.slice none 0 0))) H') (h : G M n L (Own2 eo ei a cap (List.replicate k []) :: H') T) : G M n L H T := by
  refine g_weak tk (fun hh ho => ?_) h
  refine ⟨_, ⟨List.replicate k (none, 0), by simp, rfl⟩, ?_⟩
  rw [hdrs_nils, List.length_replicate]
  exact ⟨hh, fun _ => none, ho, sat_nils ei k, fun b => .inr rfl, by funext b; simp [join]⟩

/-- the cells of rows of pointers to slices that nobody writes -/
def Row2 (ρ : Nat → Obj → Prop) (cells : List Value) (rows : List (List Value)) : Prop := cells.length = rows.length ∧ ∀ j (hj : j < rows.length), ∃ a c, cells[j]? = some (.slice a rows[j].length c) ∧ RSl ρ 1 a rows[j].length rows[j]
theorem Row2.mono {ρ ρ' : Nat → Obj → Prop} {cells : List Value} {rows : List (List Value)} (h : Row2 ρ cells rows) (s : ∀ b o, ρ b o → ρ' b o) : Row2 ρ' cells rows :=
  ⟨h.1, fun j hj => let ⟨a, c, e, r⟩ := h.2 j hj; ⟨a, c, e, r.mono s⟩⟩
def RSl2 (ρ : Nat → Obj → Prop) (a : Option Addr) (rows : List (List Value)) : Prop := ∃ cells, Row2 ρ cells rows ∧ RSl ρ 1 a rows.length cells
theorem RSl2.mono {ρ ρ' : Nat → Obj → Prop} {a : Option Addr} {rows : List (List Value)} (h : RSl2 ρ a rows) (s : ∀ b o, ρ b o → ρ' b o) : RSl2 ρ' a rows :=
  let ⟨c, h1, h2⟩ := h; ⟨c, h1.mono s, h2.mono s⟩

theorem ros_inns {ρ : Nat → Obj → Prop} {ei : TypeId} : ∀ {hs : List (Option Addr × Nat)} {rows : List (List Value)}, hs.length = rows.length → Ros ρ (inns ei hs rows) → Row2 ρ (hdrs hs rows) rows
  | [], [], _, _ => ⟨rfl, fun j hj => by simp at hj⟩
  | x :: hs, y :: rows, h, r => by
    have h' : hs.length = rows.length := by simpa using h
    have r1 : Ro ρ (inn ei x y) ∧ Ros ρ (inns ei hs rows) := r
    have ih := ros_inns h' r1.2
    refine ⟨hdrs_len h, fun j hj => ?_⟩
    cases j with
    | zero => exact ⟨x.1, x.2, rfl, .of_own r1.1⟩
    | succ j => exact ih.2 j (by simpa using hj)
theorem Own2.ro {ρ : Nat → Obj → Prop} {eo ei : TypeId} {a : Option Addr} {cap : Nat} {rows : List (List Value)} (h : Ro ρ (Own2 eo ei a cap rows)) : RSl2 ρ a rows := by
  obtain ⟨_, ⟨hs, h1, rfl⟩, r⟩ := h.unpack
  exact ⟨_, ros_inns h1 r.2, .of_own r.1⟩

theorem RSl2.at {ρ : Nat → Obj → Prop} {a : Option Addr} {rows : List (List Value)} (h : RSl2 ρ a rows) (h0 : 0 < rows.length) :
    ∃ b off cs T fz, a = some ⟨b, off, none⟩ ∧ ρ b (.cells (cs : List Value).toArray T fz) ∧ ∀ j (hj : j < rows.length), ∃ ai ci, cs[off + j]? = some (.slice ai rows[j].length ci) ∧ RSl ρ 1 ai rows[j].length rows[j] := by
  obtain ⟨cells, ⟨h1, h2⟩, _, b, off, cs, T, fz, h3⟩ := h
  obtain ⟨r1, r2, r3⟩ := h3 h0
  refine ⟨b, off, cs, T, fz, r1, r2, fun j hj => ?_⟩
  obtain ⟨ai, ci, e1, e2⟩ := h2 j hj
  exact ⟨ai, ci, r3 j _ e1, e2⟩
end

/-! ### reading an argument of slices of slices -/
section
variable {H : Type} {enc : TypeId × Value → H} {P : Program} {W : World} {t : TypeId} {cs : List Value}
theorem rd_rows (q : List Value → Prop) {e ei : TypeId} (ht : P.underlying t = some (.slice e)) (hc : P.cellsOf e = 1) (he : P.underlying e = some (.slice ei)) (hci : P.cellsOf ei = 1) (hq : ∀ c : List Value, (∀ v ∈ c, Rdx enc P W ei [v]) → q c) (h : Rdx enc P W t cs) :
    ∃ (a : Option Addr) (cap : Nat) (rows : List (List Value)), cs = [.slice a rows.length cap] ∧ rows.length ≤ cap ∧ cap ≤ maxLen ∧ (∀ r ∈ rows, q r ∧ r.length ≤ maxLen) ∧ RSl2 (Old W) a rows := by
  obtain ⟨a, cap, xss, h1, h2, h3, h4, h5⟩ := rd_slice ht hc (by decide) h
  have each : ∀ c ∈ xss, ∃ x : Value × List Value, c = [x.1] ∧ (q x.2 ∧ x.2.length ≤ maxLen ∧ ∃ ai ci, x.1 = .slice ai x.2.length ci ∧ RSl (Old W) 1 ai x.2.length x.2) := fun c hc' => by
    obtain ⟨_, hr⟩ := h4 c hc'
    obtain ⟨ai, ci, yss, g1, g2, g3, g4, g5⟩ := rd_slice he hci (by decide) hr
    have hl : yss.flatten.length = yss.length := by
      have : ∀ (l : List (List Value)), (∀ c ∈ l, c.length = 1) → l.flatten.length = l.length := by
        intro l
        induction l with
        | nil => intro _; rfl
        | cons c l ih => intro hh; rw [List.flatten_cons, List.length_append, hh c (by simp), ih (fun c hc => hh c (by simp [hc]))]; simp; omega
      exact this yss fun c hc => (g4 c hc).1
    refine ⟨(.slice ai yss.length ci, yss.flatten), g1, hq _ fun v hv => ?_, by rw [hl]; exact Nat.le_trans g2 g3, ai, ci, by rw [hl], by rw [hl]; exact g5⟩
    obtain ⟨c, hc1, hc2⟩ := List.mem_flatten.1 hv
    obtain ⟨k1, k2⟩ := g4 c hc1
    match c, k1, hc2, k2 with
    | [u], _, hc2, k2 => rw [List.mem_singleton.1 hc2]; exact k2
  obtain ⟨l, rfl, hl⟩ := rows_with _ (fun x : Value × List Value => [x.1]) each
  rw [List.length_map] at h1 h2 h5
  refine ⟨a, cap, l.map (·.2), by rw [List.length_map]; exact h1, by rw [List.length_map]; exact h2, h3, fun r hr => ?_, l.map (·.1), ⟨by simp, fun j hj => ?_⟩, ?_⟩
  · obtain ⟨x, hx, rfl⟩ := List.mem_map.1 hr
    exact ⟨(hl x hx).1, (hl x hx).2.1⟩
  · have hj' : j < l.length := by simpa using hj
    obtain ⟨_, _, ai, ci, e1, e2⟩ := hl l[j] (List.getElem_mem hj')
    refine ⟨ai, ci, ?_, ?_⟩
    · rw [List.getElem?_map, List.getElem?_eq_getElem hj', List.getElem_map, Option.map_some, e1]
    · rw [List.getElem_map]; exact e2
  · rw [List.length_map]
    have e : (l.map fun x : Value × List Value => [x.1]).flatten = l.map (·.1) := by
      clear h1 h2 h5 hl each h4
      induction l with
      | nil => rfl
      | cons x l ih => simp [ih]
    rw [← e]; exact h5
theorem rdw_rows (q : List Value → Prop) {e ei : TypeId} (ht : P.underlying t = some (.slice e)) (hc : P.cellsOf e = 1) (he : P.underlying e = some (.slice ei)) (hci : P.cellsOf ei = 1) (hq : ∀ c : List Value, (∀ v ∈ c, Rdw enc P W ei [v]) → q c) (h : Rdw enc P W t cs) :
    ∃ (a : Option Addr) (cap : Nat) (rows : List (List Value)), cs = [.slice a rows.length cap] ∧ rows.length ≤ cap ∧ cap ≤ maxLen ∧ (∀ r ∈ rows, q r ∧ r.length ≤ maxLen ∧ r.length * P.bytesOf ei ≤ 140737488351232) ∧ RSl2 (Old W) a rows ∧ cap * P.bytesOf e ≤ 140737488351232 := by
  obtain ⟨a, cap, xss, h1, h2, h3, h4, h5, h6⟩ := rdw_slice ht hc (by decide) h
  have each : ∀ c ∈ xss, ∃ x : Value × List Value, c = [x.1] ∧ ((q x.2 ∧ x.2.length * P.bytesOf ei ≤ 140737488351232) ∧ x.2.length ≤ maxLen ∧ ∃ ai ci, x.1 = .slice ai x.2.length ci ∧ RSl (Old W) 1 ai x.2.length x.2) := fun c hc' => by
    obtain ⟨_, hr⟩ := h4 c hc'
    obtain ⟨ai, ci, yss, g1, g2, g3, g4, g5, g6⟩ := rdw_slice he hci (by decide) hr
    have hl : yss.flatten.length = yss.length := by
      have : ∀ (l : List (List Value)), (∀ c ∈ l, c.length = 1) → l.flatten.length = l.length := by
        intro l
        induction l with
        | nil => intro _; rfl
        | cons c l ih => intro hh; rw [List.flatten_cons, List.length_append, hh c (by simp), ih (fun c hc => hh c (by simp [hc]))]; simp; omega
      exact this yss fun c hc => (g4 c hc).1
    refine ⟨(.slice ai yss.length ci, yss.flatten), g1, ⟨hq _ fun v hv => ?_, by rw [hl]; exact Nat.le_trans (Nat.mul_le_mul_right _ g2) g6⟩, by rw [hl]; exact Nat.le_trans g2 g3, ai, ci, by rw [hl], by rw [hl]; exact g5⟩
    obtain ⟨c, hc1, hc2⟩ := List.mem_flatten.1 hv
    obtain ⟨k1, k2⟩ := g4 c hc1
    match c, k1, hc2, k2 with
    | [u], _, hc2, k2 => rw [List.mem_singleton.1 hc2]; exact k2
  obtain ⟨l, rfl, hl⟩ := rows_with _ (fun x : Value × List Value => [x.1]) each
  rw [List.length_map] at h1 h2 h5
  refine ⟨a, cap, l.map (·.2), by rw [List.length_map]; exact h1, by rw [List.length_map]; exact h2, h3, fun r hr => ?_, ⟨l.map (·.1), ⟨by simp, fun j hj => ?_⟩, ?_⟩, h6⟩
  · obtain ⟨x, hx, rfl⟩ := List.mem_map.1 hr
    exact ⟨(hl x hx).1.1, (hl x hx).2.1, (hl x hx).1.2⟩
  · have hj' : j < l.length := by simpa using hj
    obtain ⟨_, _, ai, ci, e1, e2⟩ := hl l[j] (List.getElem_mem hj')
    refine ⟨ai, ci, ?_, ?_⟩
    · rw [List.getElem?_map, List.getElem?_eq_getElem hj', List.getElem_map, Option.map_some, e1]
    · rw [List.getElem_map]; exact e2
  · rw [List.length_map]
    have e : (l.map fun x : Value × List Value => [x.1]).flatten = l.map (·.1) := by
      clear h1 h2 h5 hl each h4
      induction l with
      | nil => rfl
      | cons x l ih => simp [ih]
    rw [← e]; exact h5
end
end Go.Z
