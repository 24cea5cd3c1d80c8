/- Chapter 4: the search for components: its state in memory, entering and leaving a vertex. Conditions: none. -/
import Derived.Test.YtmefecnjliadaaaN7
import Derived.Test.YtmefecnjliadaaaNi
namespace Go.Z.Gr
set_option maxRecDepth 8000
set_option linter.unusedVariables false
set_option linter.unusedSimpArgs false
set_option linter.unusedSectionVars false
open Go Go.Z Go.Z.Gra
def eN (k : Nat) : Value := .int .i64 (k : Int)
def cellsH (n : Nat) (g : Nat → Bool) : List Value := (List.range n).map fun u => .bool (g u)
theorem cellsH_len (n : Nat) (g : Nat → Bool) : (cellsH n g).length = n := by simp [cellsH]
theorem cellsH_at {n : Nat} {g : Nat → Bool} {u : Nat} (h : u < n) : (cellsH n g)[0 + (u : Int).toNat * 1]? = some (.bool (g u)) := by
  rw [Int.toNat_natCast, Nat.zero_add, Nat.mul_one]
  unfold cellsH; rw [List.getElem?_map, List.getElem?_range h]; rfl
theorem cellsH_upd {n : Nat} {g : Nat → Bool} {u : Nat} {x : Bool} : (cellsH n g).set (0 + (u : Int).toNat * 1) (.bool x) = cellsH n (Gra.upd g u x) := by
  rw [Int.toNat_natCast, Nat.zero_add, Nat.mul_one]
  refine List.ext_getElem? fun i => ?_
  have ha : ∀ {f : Nat → Bool}, i < n → (cellsH n f)[i]? = some (.bool (f i)) := fun hi => by unfold cellsH; rw [List.getElem?_map, List.getElem?_range hi]; rfl
  rw [List.getElem?_set]
  by_cases e : u = i
  · subst e
    rw [if_pos rfl, cellsH_len]
    by_cases hi : u < n
    · rw [if_pos hi, ha hi, Gra.upd_same]
    · rw [if_neg hi, List.getElem?_eq_none (by rw [cellsH_len]; omega)]
  · rw [if_neg e]
    by_cases hi : i < n
    · rw [ha hi, ha hi, Gra.upd_ne _ _ (fun h => e h.symm)]
    · rw [List.getElem?_eq_none (by rw [cellsH_len]; omega), List.getElem?_eq_none (by rw [cellsH_len]; omega)]
theorem cellsG_at' {n : Nat} {g : Nat → Nat} {u : Nat} (h : u < n) : (cellsG n g)[0 + (u : Int).toNat * 1]? = some (.int .i64 (g u : Nat)) := by
  rw [Int.toNat_natCast, Nat.zero_add, Nat.mul_one]; exact cellsG_at h
theorem cellsG_upd {n : Nat} {g : Nat → Nat} {u x : Nat} : (cellsG n g).set (0 + (u : Int).toNat * 1) (.int .i64 (x : Int)) = cellsG n (Gra.upd g u x) := by
  rw [Int.toNat_natCast, Nat.zero_add, Nat.mul_one]
  exact cellsG_set (by rw [Gra.upd_same]) fun i _ hi => Gra.upd_ne _ _ hi
theorem upd_updL {α : Type} (f : Nat → α) (l : List Nat) (w : Nat) (x : α) : Gra.upd (Gra.updL f l x) w x = Gra.updL f (w :: l) x := by
  funext u
  unfold Gra.upd Gra.updL
  by_cases e : u = w
  · rw [if_pos e, if_pos (by rw [e]; exact List.mem_cons_self)]
  · rw [if_neg e]
    by_cases h : u ∈ l
    · rw [if_pos h, if_pos (List.mem_cons_of_mem _ h)]
    · rw [if_neg h, if_neg (fun hm => (List.mem_cons.1 hm).elim e h)]
theorem updL_nil {α : Type} (f : Nat → α) (x : α) : Gra.updL f [] x = f := by funext u; exact if_neg List.not_mem_nil
/-- where the parts of the state lie -/
structure TjB where
  t : Nat
  i : Nat
  l : Nat
  o : Nat
  k : Nat
  na : Option Addr
  nc : Nat
  n : Nat
end Go.Z.Gr
namespace Go.Proofs.Ytmefecnjliadaaa
set_option maxRecDepth 8000
set_option linter.unusedVariables false
set_option linter.unusedSimpArgs false
set_option linter.unusedSectionVars false
open Go Go.Z Go.Z.Gr Go.Z.Gra
def tjC (B : TjB) (t : Tj) (sa : Option Addr) (sc : Nat) : List Value := [.slice B.na B.n B.nc, .slice (some ⟨B.i, 0, none⟩) B.n B.n, .slice (some ⟨B.l, 0, none⟩) B.n B.n, .slice (some ⟨B.o, 0, none⟩) B.n B.n, .slice sa t.st.length sc, .int .i64 t.ct, .slice (some ⟨B.k, 0, none⟩) B.n B.n, .int .i64 t.pa]
def TjK (B : TjB) (t : Tj) : List Assn → Prop := fun H => ∃ sa sc, H = [Blk B.t (.cells [.slice B.na B.n B.nc, .slice (some ⟨B.i, 0, none⟩) B.n B.n, .slice (some ⟨B.l, 0, none⟩) B.n B.n, .slice (some ⟨B.o, 0, none⟩) B.n B.n, .slice sa t.st.length sc, .int .i64 t.ct, .slice (some ⟨B.k, 0, none⟩) B.n B.n, .int .i64 t.pa].toArray 57 (0, 0)),
  Blk B.i (.cells (cellsG B.n t.ix).toArray 3 (0, 0)), Blk B.l (.cells (cellsG B.n t.lo).toArray 3 (0, 0)), Blk B.o (.cells (cellsH B.n t.on).toArray 4 (0, 0)), Blk B.k (.cells (cellsG B.n t.nu).toArray 3 (0, 0)), OwnSl 3 1 sa t.st.length sc (t.st.map eN)]
def TjA (B : TjB) (t : Tj) : Assn := Pk (TjK B t)
theorem enter_ok {ρ : Nat → Obj → Prop} (B : TjB) (t : Tj) (v : Nat) (hv : v < B.n) (hn : B.n ≤ 4096) (hc : t.ct ≤ 100000) (hs : t.st.length ≤ 100000) :
    Con Try.prog ρ 48 #[.pointer (some ⟨B.t, 0, none⟩), .int .i64 v] [TjA B t] (fun r H => r = .agg #[.int .i64 v, .int .i64 0] ∧ H = [TjA B (t.enter v)]) := by
  refine con_intro Try.func48 Try.call48 rfl Try.ntmps48 rfl (L := [(0, _), (1, _)]) rfl fun w hh => ?_
  refine g_open .here ?_
  rintro _ ⟨sa, sc, rfl⟩
  refine g_seq ?_
  refine g_region ?_
  refine g_eff (e_alloc (by rfl)) rfl (fun _ _ => ?_)
  rintro ⟨b4, rfl, rfl⟩
  refine g_nil ?_
  refine g_qt ?_
  refine g_seq ?_
  refine g_region ?_
  refine g_pure (p_move rfl) rfl ?_
  refine g_pure (p_nilCheck rfl) rfl ?_
  refine g_pure (p_fieldAddr rfl) rfl ?_
  refine g_pure (p_load (by rfl) rfl (by first | (apply Has.own; (repeat' (first | exact Take.here | apply Take.there)); done) | exact Has.ro (by assumption)) (by first | rfl | assumption)) rfl ?_
  first | refine g_pure (p_addi rfl rfl (by omega)) rfl ?_ | refine g_pure (p_add rfl rfl) rfl ?_
  refine g_pure (p_nilCheck rfl) rfl ?_
  refine g_pure (p_fieldAddr rfl) rfl ?_
  first | refine g_eff0 (e_storeO rfl rfl (by rfl) (by rfl) (by rfl) (by repeat' (first | exact Take.here | apply Take.there)) (by rfl)) (fun _ _ => ?_) | refine g_eff0 (e_store1 (by rfl) rfl rfl rfl (by repeat' (first | exact Take.here | apply Take.there)) (by first | decide | (simp <;> omega) | omega)) (fun _ _ => ?_)
  rintro rfl
  refine g_nil ?_
  refine g_qt ?_
  refine g_seq ?_
  refine m_begin (.fl 0 0 (.fl 1 0 (.fl 2 0 (.fl 3 1 (.fl 4 0 (.fl 5 0 (.fl 6 0 (.fl 7 0 (.fl 8 1 (.fl 9 0 (.fl 10 0 (.fl 11 0 (.fl 12 0 (.fl 13 1 (.fl 14 0 (.fl 15 0 (.fl 16 0 (.fl 17 1 (.fl 18 0 (.ef 19 (.fl 20 0 (.ef 21 .done)))))))))))))))))))))) [Blk B.t (.cells [.slice B.na B.n B.nc, .slice (some ⟨B.i, 0, none⟩) B.n B.n, .slice (some ⟨B.l, 0, none⟩) B.n B.n, .slice (some ⟨B.o, 0, none⟩) B.n B.n, .slice sa t.st.length sc, .int .i64 ((t.ct : Int) + 1), .slice (some ⟨B.k, 0, none⟩) B.n B.n, .int .i64 t.pa].toArray 57 (0, 0))] (by kernel_rfl) (by kernel_rfl) (by repeat' (first | exact Cover.nil | exact Take.here | apply Cover.cons | apply Take.there)) ?_
  refine m_float0 rfl (fun _ _ => p_move rfl) rfl ?_
  refine m_float0 rfl (fun _ _ => p_nilCheck rfl) rfl ?_
  refine m_float0 rfl (fun _ _ => p_fieldAddr rfl) rfl ?_
  refine m_float rfl (p_load (by rfl) rfl (by first | (apply Has.own; (repeat' (first | exact Take.here | apply Take.there)); done) | exact Has.ro (by assumption)) (by first | rfl | assumption)) rfl ?_
  refine m_float0 rfl (fun _ _ => p_move rfl) rfl ?_
  refine m_float0 rfl (fun _ _ => p_move rfl) rfl ?_
  refine m_float0 rfl (fun _ _ => p_nilCheck rfl) rfl ?_
  refine m_float0 rfl (fun _ _ => p_fieldAddr rfl) rfl ?_
  refine m_float rfl (p_load (by rfl) rfl (by first | (apply Has.own; (repeat' (first | exact Take.here | apply Take.there)); done) | exact Has.ro (by assumption)) (by first | rfl | assumption)) rfl ?_
  refine m_float0 rfl (fun _ _ => p_move rfl) rfl ?_
  refine m_float0 rfl (fun _ _ => p_move rfl) rfl ?_
  refine m_float0 rfl (fun _ _ => p_nilCheck rfl) rfl ?_
  refine m_float0 rfl (fun _ _ => p_fieldAddr rfl) rfl ?_
  refine m_float rfl (p_load (by rfl) rfl (by first | (apply Has.own; (repeat' (first | exact Take.here | apply Take.there)); done) | exact Has.ro (by assumption)) (by first | rfl | assumption)) rfl ?_
  refine m_float0 rfl (fun _ _ => p_move rfl) rfl ?_
  refine m_float0 rfl (fun _ _ => p_nilCheck rfl) rfl ?_
  refine m_float0 rfl (fun _ _ => p_fieldAddr rfl) rfl ?_
  refine m_float rfl (p_load (by rfl) rfl (by first | (apply Has.own; (repeat' (first | exact Take.here | apply Take.there)); done) | exact Has.ro (by assumption)) (by first | rfl | assumption)) rfl ?_
  refine m_float0 rfl (fun _ _ => p_indexAddr rfl rfl (by omega) (fun _ => rfl)) rfl ?_
  refine m_eff0 rfl (e_store1 (by rfl) rfl rfl rfl (by repeat' (first | exact Take.here | apply Take.there)) (by rw [cellsG_len, Int.toNat_natCast]; show 0 + v * 1 < B.n; omega)) (fun _ _ => ?_)
  rintro rfl
  refine ⟨.none (by kernel_rfl), ?_⟩
  refine m_float0 rfl (fun _ _ => p_indexAddr rfl rfl (by omega) (fun _ => rfl)) rfl ?_
  refine m_eff0 rfl (e_store1 (by rfl) rfl rfl rfl (by repeat' (first | exact Take.here | apply Take.there)) (by rw [cellsG_len, Int.toNat_natCast]; show 0 + v * 1 < B.n; omega)) (fun _ _ => ?_)
  rintro rfl
  refine ⟨.none (by kernel_rfl), ?_⟩
  refine m_nil ?_
  refine g_qt ?_
  refine g_seq ?_
  refine g_region ?_
  refine g_pure (p_move rfl) rfl ?_
  refine g_pure (p_move rfl) rfl ?_
  refine g_pure (p_nilCheck rfl) rfl ?_
  refine g_pure (p_fieldAddr rfl) rfl ?_
  refine g_pure (p_load (by rfl) rfl (by first | (apply Has.own; (repeat' (first | exact Take.here | apply Take.there)); done) | exact Has.ro (by assumption)) (by first | rfl | assumption)) rfl ?_
  refine g_pure (p_move rfl) rfl ?_
  refine g_eff (e_bs (xs := [.tmp 37]) rfl rfl rfl (by rfl) (by rfl) rfl (by rfl)) rfl (fun _ _ => ?_)
  rintro ⟨b38, rfl, rfl⟩
  refine g_eff (e_appendO (by rfl) (by rfl) rfl rfl (by first | (apply Has.own; (repeat' (first | exact Take.here | apply Take.there)); done) | exact Has.ro (by assumption)) (by rfl) (by rfl) (by repeat' (first | exact Take.here | apply Take.there)) (by omega) (by first | omega | (dsimp only; omega) | (simp <;> omega)) (by omega)) rfl (fun _ _ => ?_)
  rintro ⟨a39, c39, rfl, rfl⟩
  refine g_pure (p_nilCheck rfl) rfl ?_
  refine g_pure (p_fieldAddr rfl) rfl ?_
  first | refine g_eff0 (e_storeO rfl rfl (by rfl) (by rfl) (by rfl) (by repeat' (first | exact Take.here | apply Take.there)) (by rfl)) (fun _ _ => ?_) | refine g_eff0 (e_store1 (by rfl) rfl rfl rfl (by repeat' (first | exact Take.here | apply Take.there)) (by first | decide | (simp <;> omega) | omega)) (fun _ _ => ?_)
  rintro rfl
  refine g_nil ?_
  refine g_qt ?_
  refine g_seq ?_
  refine g_region ?_
  refine g_pure (p_move rfl) rfl ?_
  refine g_pure (p_nilCheck rfl) rfl ?_
  refine g_pure (p_fieldAddr rfl) rfl ?_
  refine g_pure (p_load (by rfl) rfl (by first | (apply Has.own; (repeat' (first | exact Take.here | apply Take.there)); done) | exact Has.ro (by assumption)) (by first | rfl | assumption)) rfl ?_
  refine g_pure (p_move rfl) rfl ?_
  refine g_pure (p_indexAddr rfl rfl (by omega) (fun _ => rfl)) rfl ?_
  refine g_eff0 (e_store1 (by rfl) rfl rfl rfl (by repeat' (first | exact Take.here | apply Take.there)) (by rw [cellsH_len, Int.toNat_natCast]; show 0 + v * 1 < B.n; omega)) (fun _ _ => ?_)
  rintro rfl
  refine g_nil ?_
  refine g_qt ?_
  refine g_seq ?_
  refine g_region ?_
  refine g_pure (p_move rfl) rfl ?_
  refine g_pure (p_build (by rfl) rfl (by rfl)) rfl ?_
  first | refine g_eff0 (e_storeO rfl rfl (by rfl) (by rfl) (by rfl) (by repeat' (first | exact Take.here | apply Take.there)) (by rfl)) (fun _ _ => ?_) | refine g_eff0 (e_storeN rfl rfl (by rfl) (by rfl) (by rfl) (by repeat' (first | exact Take.here | apply Take.there)) (by simp)) (fun _ _ => ?_)
  rintro rfl
  refine g_nil ?_
  refine g_qt ?_
  refine g_ret ?_
  rw [show ((t.ct : Int) + 1) = ((t.ct + 1 : Nat) : Int) by omega]
  refine g_weak (B := Blk B.o (.cells (cellsH B.n (t.enter v).on).toArray 4 (0, 0))) (by repeat' (first | exact Take.here | apply Take.there)) (blk_eq cellsH_upd) ?_
  refine g_weak (B := Blk B.l (.cells (cellsG B.n (t.enter v).lo).toArray 3 (0, 0))) (by repeat' (first | exact Take.here | apply Take.there)) (blk_eq cellsG_upd) ?_
  refine g_weak (B := Blk B.i (.cells (cellsG B.n (t.enter v).ix).toArray 3 (0, 0))) (by repeat' (first | exact Take.here | apply Take.there)) (blk_eq cellsG_upd) ?_
  rw [show t.st.map eN ++ [Value.int IntKind.i64 (v : Int)] = (t.st ++ [v]).map eN by rw [List.map_append]; rfl, show t.st.length + 1 = (t.st ++ [v]).length by rw [List.length_append]; rfl]
  refine g_close (K := TjK B (t.enter v)) ⟨a39, c39, rfl⟩ (by repeat' (first | exact Cover.nil | exact Take.here | apply Cover.cons | apply Take.there)) ?_
  exact g_post (rs := [.cell 4 74]) rfl (Res.cellN (by rfl) rfl (Has.own (by repeat' (first | exact Take.here | apply Take.there))) (by rfl) .nil) ⟨rfl, rfl⟩ (by repeat' (first | exact Cover.nil | exact Take.here | apply Cover.cons | apply Take.there))
end Go.Proofs.Ytmefecnjliadaaa
