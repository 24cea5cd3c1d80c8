/- Chapter 37: the page's examples. Conditions: none. -/
import Derived.Test.YtbpgblbhikeglaaV0
namespace Go.Z
set_option linter.unusedVariables false
set_option linter.unusedSimpArgs false
set_option linter.unusedSectionVars false
open Go
theorem Take.ro {ρ : Nat → Obj → Prop} {H H' : List Assn} {A : Assn} (t : Take H A H') : Ros ρ H → Ro ρ A := by
  induction t with
  | here => exact fun h => h.1
  | there _ ih => exact fun h => ih h.2
theorem Res.cellN {P : Program} {M : Mx} {L : Fr} {H : List Assn} {t b : Nat} {T T' : TypeId} {fz : Nat × Nat} {l vs us : List Value} {rs : List ResultVar} {yt : Ty} [ht : TyC P T yt] (hd : aggD yt.d = true) (h1 : L.lookup t = some (.pointer (some ⟨b, 0, none⟩))) (hh : Has M H b (.cells l.toArray T' fz)) (hc : sub l 0 yt.size = some vs) (hr : Res P M L H rs us) : Res P M L H (.cell t T :: rs) (.agg vs.toArray :: us) :=
  .cell h1 (fun w hm => by
    have e := run_loadRow (P := P) (hh w hm) 0 yt.size vs (sub_spec hc).1 (sub_spec hc).2
    simp [loadVar, ht.run_agg, hd, ht.run_size, e]) hr
end Go.Z
namespace Go.Z.Sat
open Go Go.Z Go.Proofs.Ytbpgblbhikeglaa
def exF : Fm := [[1, 2], [-1, 2], [-2, 3]]
def exG : Fm := [[1], [-1]]
theorem exF_ok : okF 3 exF := by
  intro c hc l hl
  simp only [exF, List.mem_cons, List.not_mem_nil, or_false] at hc
  rcases hc with rfl | rfl | rfl <;> simp only [List.mem_cons, List.not_mem_nil, or_false] at hl <;> rcases hl with rfl | rfl <;> exact ⟨by decide, by decide, by decide⟩
theorem exG_ok : okF 1 exG := by
  intro c hc l hl
  simp only [exG, List.mem_cons, List.not_mem_nil, or_false] at hc
  rcases hc with rfl | rfl <;> simp only [List.mem_cons, List.not_mem_nil, or_false] at hl <;> subst hl <;> exact ⟨by decide, by decide, by decide⟩
theorem exF_check : check1 3 exF = 0 := by decide
theorem exG_check : check1 1 exG = 0 := by decide
theorem exF_light (b : Int) : Light 3 exF b := ⟨by decide, by decide, by omega, .inl (by decide)⟩
theorem exG_light (b : Int) : Light 1 exG b := ⟨by decide, by decide, by omega, .inl (by decide)⟩
def e0 : As := fun _ => none
def e1 : As := put e0 1
def e2 : As := put e1 2
def e3 : As := put e2 3
theorem c1 : [1, 2] ∈ exF := by simp [exF]
theorem c2 : [-1, 2] ∈ exF := by simp [exF]
theorem c3 : [-2, 3] ∈ exF := by simp [exF]
theorem forall2 {p : Int → Prop} {a b : Int} (h1 : p a) (h2 : p b) : ∀ m ∈ [a, b], p m := fun m hm => by
  simp only [List.mem_cons, List.not_mem_nil, or_false] at hm
  rcases hm with rfl | rfl
  · exact h1
  · exact h2
theorem fix3 {V : As} (h1 : okc V [1, 2]) (h2 : okc V [-1, 2]) (h3 : okc V [-2, 3]) : Fix exF V := by
  intro c hc
  simp only [exF, List.mem_cons, List.not_mem_nil, or_false] at hc
  rcases hc with rfl | rfl | rfl
  · exact h1
  · exact h2
  · exact h3
theorem p0 : PR exF e0 (some e0) := (Snd.refl _ _).done (fix3 (.inr ⟨1, by simp, 2, by simp, by decide, rfl, rfl⟩) (.inr ⟨-1, by simp, 2, by simp, by decide, rfl, rfl⟩) (.inr ⟨-2, by simp, 3, by simp, by decide, rfl, rfl⟩))
theorem s2 : Snd exF e1 e2 := (Snd.refl exF e1).unit exF_ok c2 (l := 2) (by simp) rfl (forall2 (fun _ => rfl) (fun h => absurd rfl h))
theorem s3 : Snd exF e1 e3 := s2.unit exF_ok c3 (l := 3) (by simp) rfl (forall2 (fun _ => rfl) (fun h => absurd rfl h))
theorem p1 : PR exF e1 (some e3) := s3.done (fix3 (.inl ⟨1, by simp, rfl⟩) (.inl ⟨2, by simp, rfl⟩) (.inl ⟨3, by simp, rfl⟩))
theorem n0 : ¬ satF exF e0 := fun h => by
  obtain ⟨l, hl, h1⟩ := h _ c1
  simp only [List.mem_cons, List.not_mem_nil, or_false] at hl
  rcases hl with rfl | rfl <;> cases h1
theorem y3 : satF exF e3 := by
  intro c hc
  simp only [exF, List.mem_cons, List.not_mem_nil, or_false] at hc
  rcases hc with rfl | rfl | rfl
  · exact ⟨1, by simp, rfl⟩
  · exact ⟨2, by simp, rfl⟩
  · exact ⟨3, by simp, rfl⟩
theorem sol1 : Sol 3 exF 1 1 [.bool true, .bool true, .bool true] 0 :=
  .inr (.inr ⟨by decide, exF_check, rfl, .sat e3, .dec (v := 1) p0 n0 (by decide) ⟨⟨by decide, by decide⟩, rfl, fun u h1 h2 => by omega⟩ (.sat p1 y3), rfl, rfl⟩)
theorem sol0 : Sol 3 exF 0 0 [] 0 := .inr (.inr ⟨by decide, exF_check, rfl, .unk, .unk p0 n0 rfl, rfl, rfl⟩)
theorem sol2 : Sol 1 exG 0 2 [] 0 := by
  refine .inr (.inr ⟨by decide, exG_check, rfl, .uns, .uns ?_, rfl, rfl⟩)
  have h1 : Snd exG e0 e1 := (Snd.refl exG e0).unit exG_ok (c := [1]) (l := 1) (by simp [exG]) (by simp) rfl (fun m hm hne => absurd (List.mem_singleton.1 hm) hne)
  exact h1.fail exG_ok (c := [-1]) (by simp [exG]) fun l hl => by rw [List.mem_singleton.1 hl]; rfl
theorem un1 : UnS 3 exF [-2] [] false 0 := by
  refine .inr (.inr ⟨exF_check, by decide, rfl, none, .inr ⟨rfl, ?_⟩, rfl, rfl⟩)
  have h1 : Snd exF (put e0 (-2)) (put (put e0 (-2)) 1) := (Snd.refl exF _).unit exF_ok c1 (l := 1) (by simp) rfl (forall2 (fun h => absurd rfl h) (fun _ => rfl))
  exact h1.fail exF_ok c2 (forall2 rfl rfl)
theorem un2 : UnS 3 exF [1, -2] [] false 0 := by
  refine .inr (.inr ⟨exF_check, by decide, rfl, none, .inr ⟨rfl, ?_⟩, rfl, rfl⟩)
  exact (Snd.refl exF (put (put e0 1) (-2))).fail exF_ok c2 (forall2 rfl rfl)
end Go.Z.Sat
namespace Go.Proofs.Ytbpgblbhikeglaa
open Go Go.Z Go.Z.Sat

def ExA (ca : Option Addr) : Assn := Pk fun H => ∃ b b1 b2 b3, ca = some ⟨b, 0, none⟩ ∧ H = [Blk b (.cells [.slice (some ⟨b1, 0, none⟩) 2 2, .slice (some ⟨b2, 0, none⟩) 2 2, .slice (some ⟨b3, 0, none⟩) 2 2].toArray 43 (0, 0)), Blk b1 (.cells [encI 1, encI 2].toArray 3 (0, 0)), Blk b2 (.cells [encI (-1), encI 2].toArray 3 (0, 0)), Blk b3 (.cells [encI (-2), encI 3].toArray 3 (0, 0))]
theorem ExA.ro {ρ : Nat → Obj → Prop} {ca : Option Addr} (h : Ro ρ (ExA ca)) : FmR ρ ca exF := by
  obtain ⟨_, ⟨b, b1, b2, b3, rfl, rfl⟩, r0, r1, r2, r3, _⟩ := h.unpack
  refine ⟨⟨_, ⟨?_, fun j hj => ?_⟩, RSl.of_blk (k := 3) r0.blk (by simp)⟩, by decide, by decide, fun c hc x hx => ?_⟩
  · rfl
  · match j, hj with
    | 0, _ => exact ⟨_, 2, rfl, RSl.of_blk (k := 2) r1.blk (by simp)⟩
    | 1, _ => exact ⟨_, 2, rfl, RSl.of_blk (k := 2) r2.blk (by simp)⟩
    | 2, _ => exact ⟨_, 2, rfl, RSl.of_blk (k := 2) r3.blk (by simp)⟩
  · have := exF_ok c hc x hx
    exact ⟨by have := this.2; omega, by have := this.2; omega⟩
theorem exG_ro {ρ : Nat → Obj → Prop} {b b1 b2 : Nat} {T T1 T2 : TypeId} {f f1 f2 : Nat × Nat} (r0 : ρ b (.cells [.slice (some ⟨b1, 0, none⟩) 1 1, .slice (some ⟨b2, 0, none⟩) 1 1].toArray T f)) (r1 : ρ b1 (.cells [encI 1].toArray T1 f1)) (r2 : ρ b2 (.cells [encI (-1)].toArray T2 f2)) : FmR ρ (some ⟨b, 0, none⟩) exG := by
  refine ⟨⟨_, ⟨?_, fun j hj => ?_⟩, RSl.of_blk (k := 2) r0 (by simp)⟩, by decide, by decide, fun c hc x hx => ?_⟩
  · rfl
  · match j, hj with
    | 0, _ => exact ⟨_, 1, rfl, RSl.of_blk (k := 1) r1 (by simp)⟩
    | 1, _ => exact ⟨_, 1, rfl, RSl.of_blk (k := 1) r2 (by simp)⟩
  · have := exG_ok c hc x hx
    exact ⟨by have := this.2; omega, by have := this.2; omega⟩

theorem example_ok {ρ : Nat → Obj → Prop} : Con Try.prog ρ 20 #[] [] (fun v H => ∃ ca, v = .agg #[Value.int .i64 3, .slice ca exF.length 3] ∧ H = [ExA ca]) := by
  refine con_intro Try.func20 Try.call20 rfl Try.ntmps20 rfl (L := []) rfl fun w hh => ?_
  refine g_seq ?_
  refine g_region ?_
  refine g_eff (e_alloc (by rfl)) rfl (fun _ _ => ?_)
  rintro ⟨b0, rfl, rfl⟩
  refine g_nil ?_
  refine g_qt ?_
  refine g_seq ?_
  refine g_region ?_
  refine g_eff (e_bs (xs := [.const (.int .i64 1), .const (.int .i64 2)]) rfl rfl rfl (by rfl) (by rfl) rfl (by rfl)) rfl (fun _ _ => ?_)
  rintro ⟨b1, rfl, rfl⟩
  refine g_eff (e_bs (xs := [.const (.int .i64 (-1)), .const (.int .i64 2)]) rfl rfl rfl (by rfl) (by rfl) rfl (by rfl)) rfl (fun _ _ => ?_)
  rintro ⟨b2, rfl, rfl⟩
  refine g_eff (e_bs (xs := [.const (.int .i64 (-2)), .const (.int .i64 3)]) rfl rfl rfl (by rfl) (by rfl) rfl (by rfl)) rfl (fun _ _ => ?_)
  rintro ⟨b3, rfl, rfl⟩
  refine g_eff (e_bs (xs := [.tmp 1, .tmp 2, .tmp 3]) rfl rfl rfl (by rfl) (by rfl) rfl (by rfl)) rfl (fun _ _ => ?_)
  rintro ⟨b4, rfl, rfl⟩
  refine g_pure (p_build (by rfl) rfl (by rfl)) rfl ?_
  first | refine g_eff0 (e_storeO rfl rfl (by rfl) (by rfl) (by rfl) (by repeat' (first | exact Take.here | apply Take.there)) (by rfl)) (fun _ _ => ?_) | refine g_eff0 (e_storeN rfl rfl (by rfl) (by rfl) (by rfl) (by repeat' (first | exact Take.here | apply Take.there)) (by simp)) (fun _ _ => ?_)
  rintro rfl
  refine g_nil ?_
  refine g_qt ?_
  refine g_ret ?_
  refine g_close (K := fun H => ∃ b b1 b2 b3, some (⟨b4, 0, none⟩ : Addr) = some ⟨b, 0, none⟩ ∧ H = [Blk b (.cells [.slice (some ⟨b1, 0, none⟩) 2 2, .slice (some ⟨b2, 0, none⟩) 2 2, .slice (some ⟨b3, 0, none⟩) 2 2].toArray 43 (0, 0)), Blk b1 (.cells [encI 1, encI 2].toArray 3 (0, 0)), Blk b2 (.cells [encI (-1), encI 2].toArray 3 (0, 0)), Blk b3 (.cells [encI (-2), encI 3].toArray 3 (0, 0))]) ⟨b4, b1, b2, b3, rfl, rfl⟩ (by repeat' (first | exact Cover.nil | exact Take.here | apply Cover.cons | apply Take.there)) ?_
  exact g_post (Ho := [ExA (some ⟨b4, 0, none⟩)]) (rs := [.cell 0 24]) rfl (Res.cellN (by rfl) rfl (Has.own (by repeat' (first | exact Take.here | apply Take.there))) (by rfl) .nil) ⟨_, rfl, rfl⟩ (by repeat' (first | exact Cover.nil | exact Take.here | apply Cover.cons | apply Take.there))

theorem i64_3 : I64 3 := ⟨by decide, by decide⟩
theorem i64_1 : I64 1 := ⟨by decide, by decide⟩
theorem i64_0 : I64 0 := ⟨by decide, by decide⟩
theorem awake_ok {ρ : Nat → Obj → Prop} : Con Try.prog ρ 9 #[] [] (fun v H => v = .bool true ∧ H = []) := by
  refine con_intro Try.func9 Try.call9 rfl Try.ntmps9 rfl (L := []) rfl fun w hh => ?_
  refine g_seq ?_
  refine g_region ?_
  refine g_pure (p_assign rfl) rfl ?_
  refine g_nil ?_
  refine g_qt ?_
  refine g_seq ?_
  refine g_region ?_
  refine g_call (Hin := []) (Hr := ?hr1) (R := ?rr1) rfl rfl rfl ?hin1 ?hc1 ?hk1
  case hin1 => repeat' (first | exact Cover.nil | exact Take.here | apply Cover.cons | apply Take.there)
  case hc1 => intro ρ' hρ hR; exact example_ok
  rintro _ _ ⟨ca1, rfl, rfl⟩
  refine g_call (Hin := []) (Hr := ?hr2) (R := ?rr2) rfl rfl rfl ?hin2 ?hc2 ?hk2
  case hin2 => repeat' (first | exact Cover.nil | exact Take.here | apply Cover.cons | apply Take.there)
  case hc2 => intro ρ' hρ hR; exact solve_ok 3 i64_3 ca1 3 exF (ExA.ro hR.1) (fun h => (exF_light 1).ok h) 1 i64_1
  rintro _ _ ⟨code1, cells1, am1, cm1, er1, hS1, rfl, rfl⟩
  obtain ⟨rfl, rfl, rfl⟩ := hS1.unique (n := 3) (fun _ => exF_ok) sol1
  refine g_pure (p_move rfl) rfl ?_
  refine g_pure (p_extract rfl rfl) rfl ?_
  refine g_pure (p_extract rfl rfl) rfl ?_
  refine g_pure (p_extract rfl rfl) rfl ?_
  refine g_pure (p_assign rfl) rfl ?_
  refine g_pure (p_assign rfl) rfl ?_
  refine g_pure (p_assign rfl) rfl ?_
  refine g_nil ?_
  refine g_qt ?_
  refine g_seq ?_
  refine g_region ?_
  refine g_call (Hin := []) (Hr := ?hr3) (R := ?rr3) rfl rfl rfl ?hin3 ?hc3 ?hk3
  case hin3 => repeat' (first | exact Cover.nil | exact Take.here | apply Cover.cons | apply Take.there)
  case hc3 => intro ρ' hρ hR; exact example_ok
  rintro _ _ ⟨ca2, rfl, rfl⟩
  refine g_call (Hin := []) (Hr := ?hr4) (R := ?rr4) rfl rfl rfl ?hin4 ?hc4 ?hk4
  case hin4 => repeat' (first | exact Cover.nil | exact Take.here | apply Cover.cons | apply Take.there)
  case hc4 => intro ρ' hρ hR; exact solve_ok 3 i64_3 ca2 3 exF (ExA.ro hR.1) (fun h => (exF_light 0).ok h) 0 i64_0
  rintro _ _ ⟨code2, cells2, am2, cm2, er2, hS2, rfl, rfl⟩
  obtain ⟨rfl, rfl, rfl⟩ := hS2.unique (n := 3) (fun _ => exF_ok) sol0
  refine g_pure (p_move rfl) rfl ?_
  refine g_pure (p_extract rfl rfl) rfl ?_
  refine g_pure (p_extract rfl rfl) rfl ?_
  refine g_pure (p_extract rfl rfl) rfl ?_
  refine g_pure (p_assign rfl) rfl ?_
  refine g_pure (p_assign rfl) rfl ?_
  refine g_pure (p_assign rfl) rfl ?_
  refine g_nil ?_
  refine g_qt ?_
  refine g_seq ?_
  refine g_region ?_
  refine g_call (Hin := []) (Hr := ?hr5) (R := ?rr5) rfl rfl rfl ?hin5 ?hc5 ?hk5
  case hin5 => repeat' (first | exact Cover.nil | exact Take.here | apply Cover.cons | apply Take.there)
  case hc5 => intro ρ' hρ hR; exact example_ok
  rintro _ _ ⟨ca3, rfl, rfl⟩
  refine g_eff (e_bs (xs := [.const (.int .i64 (-2))]) rfl rfl rfl (by rfl) (by rfl) rfl (by rfl)) rfl (fun _ _ => ?_)
  rintro ⟨b30, rfl, rfl⟩
  refine g_call (Hin := []) (Hr := ?hr6) (R := ?rr6) rfl rfl rfl ?hin6 ?hc6 ?hk6
  case hin6 => repeat' (first | exact Cover.nil | exact Take.here | apply Cover.cons | apply Take.there)
  case hc6 => intro ρ' hρ hR; exact unit_ok 3 i64_3 ca3 3 exF (ExA.ro (Take.ro (A := ExA ca3) (by repeat' (first | exact Take.here | apply Take.there)) hR)) (fun h => (exF_light 0).ok h) _ 1 [-2] (.of_blk hR.1.blk (by simp)) (by decide) (fun l hl => by rw [List.mem_singleton.1 hl]; exact ⟨by decide, by decide⟩)
  rintro _ _ ⟨out3, am3, cm3, ok3, er3, hS3, rfl, rfl⟩
  obtain ⟨rfl, rfl, rfl⟩ := hS3.unique (n := 3) (fun _ => exF_ok) un1
  refine g_pure (p_move rfl) rfl ?_
  refine g_pure (p_extract rfl rfl) rfl ?_
  refine g_pure (p_extract rfl rfl) rfl ?_
  refine g_pure (p_extract rfl rfl) rfl ?_
  refine g_pure (p_assign rfl) rfl ?_
  refine g_pure (p_assign rfl) rfl ?_
  refine g_pure (p_assign rfl) rfl ?_
  refine g_nil ?_
  refine g_qt ?_
  refine g_seq ?_
  refine g_region ?_
  refine g_call (Hin := []) (Hr := ?hr7) (R := ?rr7) rfl rfl rfl ?hin7 ?hc7 ?hk7
  case hin7 => repeat' (first | exact Cover.nil | exact Take.here | apply Cover.cons | apply Take.there)
  case hc7 => intro ρ' hρ hR; exact example_ok
  rintro _ _ ⟨ca4, rfl, rfl⟩
  refine g_eff (e_bs (xs := [.const (.int .i64 1), .const (.int .i64 (-2))]) rfl rfl rfl (by rfl) (by rfl) rfl (by rfl)) rfl (fun _ _ => ?_)
  rintro ⟨b37, rfl, rfl⟩
  refine g_call (Hin := []) (Hr := ?hr8) (R := ?rr8) rfl rfl rfl ?hin8 ?hc8 ?hk8
  case hin8 => repeat' (first | exact Cover.nil | exact Take.here | apply Cover.cons | apply Take.there)
  case hc8 => intro ρ' hρ hR; exact unit_ok 3 i64_3 ca4 3 exF (ExA.ro (Take.ro (A := ExA ca4) (by repeat' (first | exact Take.here | apply Take.there)) hR)) (fun h => (exF_light 0).ok h) _ 2 [1, -2] (.of_blk hR.1.blk (by simp)) (by decide) (forall2 (p := I64) i64_1 ⟨by decide, by decide⟩)
  rintro _ _ ⟨out4, am4, cm4, ok4, er4, hS4, rfl, rfl⟩
  obtain ⟨rfl, rfl, rfl⟩ := hS4.unique (n := 3) (fun _ => exF_ok) un2
  refine g_pure (p_move rfl) rfl ?_
  refine g_pure (p_extract rfl rfl) rfl ?_
  refine g_pure (p_extract rfl rfl) rfl ?_
  refine g_pure (p_extract rfl rfl) rfl ?_
  refine g_pure (p_assign rfl) rfl ?_
  refine g_pure (p_assign rfl) rfl ?_
  refine g_pure (p_assign rfl) rfl ?_
  refine g_nil ?_
  refine g_qt ?_
  refine g_seq ?_
  refine g_region ?_
  refine g_eff (e_bs (xs := [.const (.int .i64 1)]) rfl rfl rfl (by rfl) (by rfl) rfl (by rfl)) rfl (fun _ _ => ?_)
  rintro ⟨b43, rfl, rfl⟩
  refine g_eff (e_bs (xs := [.const (.int .i64 (-1))]) rfl rfl rfl (by rfl) (by rfl) rfl (by rfl)) rfl (fun _ _ => ?_)
  rintro ⟨b44, rfl, rfl⟩
  refine g_eff (e_bs (xs := [.tmp 43, .tmp 44]) rfl rfl rfl (by rfl) (by rfl) rfl (by rfl)) rfl (fun _ _ => ?_)
  rintro ⟨b45, rfl, rfl⟩
  refine g_pure (p_build (by rfl) rfl (by rfl)) rfl ?_
  refine g_call (Hin := []) (Hr := ?hr9) (R := ?rr9) rfl rfl rfl ?hin9 ?hc9 ?hk9
  case hin9 => repeat' (first | exact Cover.nil | exact Take.here | apply Cover.cons | apply Take.there)
  case hc9 => intro ρ' hρ hR; exact solve_ok 1 i64_1 _ 2 exG (exG_ro hR.1.blk hR.2.2.1.blk hR.2.1.blk) (fun h => (exG_light 0).ok h) 0 i64_0
  rintro _ _ ⟨code5, cells5, am5, cm5, er5, hS5, rfl, rfl⟩
  obtain ⟨rfl, rfl, rfl⟩ := hS5.unique (n := 1) (fun _ => exG_ok) sol2
  refine g_pure (p_move rfl) rfl ?_
  refine g_pure (p_extract rfl rfl) rfl ?_
  refine g_pure (p_extract rfl rfl) rfl ?_
  refine g_pure (p_extract rfl rfl) rfl ?_
  refine g_pure (p_assign rfl) rfl ?_
  refine g_pure (p_assign rfl) rfl ?_
  refine g_pure (p_assign rfl) rfl ?_
  refine g_nil ?_
  refine g_qt ?_
  refine g_seq ?_
  refine g_region ?_
  refine g_pure (p_move rfl) rfl ?_
  refine g_pure (p_eql rfl rfl) rfl ?_
  refine g_pure (p_move rfl) rfl ?_
  refine g_yes rfl rfl ?_
  refine g_pure (p_move rfl) rfl ?_
  refine g_yes rfl rfl ?_
  refine g_pure (p_eql rfl rfl) rfl ?_
  first | refine g_pure (p_pickt rfl rfl) rfl ?_ | refine g_pure (p_pickf rfl rfl) rfl ?_
  refine g_pure (p_move rfl) rfl ?_
  refine g_yes rfl rfl ?_
  refine g_pure (p_move rfl) rfl ?_
  refine g_yes rfl rfl ?_
  refine g_eff (e_bs (xs := [.const (.bool true), .const (.bool true), .const (.bool true)]) rfl rfl rfl (by rfl) (by rfl) rfl (by rfl)) rfl (fun _ _ => ?_)
  rintro ⟨b59, rfl, rfl⟩
  refine g_yes rfl rfl ?_
  refine g_call (Hin := []) (Hr := ?hr10) (R := ?rr10) rfl rfl rfl ?hin10 ?hc10 ?hk10
  case hin10 => repeat' (first | exact Cover.nil | exact Take.here | apply Cover.cons | apply Take.there)
  case hc10 => intro ρ' hρ hR; exact bools_ok (xs := [true, true, true]) (ys := [true, true, true]) rfl rfl (RSl.of_own (Take.ro (A := OwnSl 4 1 am1 3 cm1 [.bool true, .bool true, .bool true]) (by repeat' (first | exact Take.here | apply Take.there)) hR)) (.of_blk hR.1.blk (by simp)) (by decide) (by decide)
  rintro _ _ ⟨rfl, rfl⟩
  first | refine g_pure (p_pickt rfl rfl) rfl ?_ | refine g_pure (p_pickf rfl rfl) rfl ?_
  refine g_pure (p_move rfl) rfl ?_
  refine g_yes rfl rfl ?_
  refine g_pure (p_move rfl) rfl ?_
  refine g_yes rfl rfl ?_
  refine g_pure (p_eql rfl rfl) rfl ?_
  first | refine g_pure (p_pickt rfl rfl) rfl ?_ | refine g_pure (p_pickf rfl rfl) rfl ?_
  refine g_pure (p_move rfl) rfl ?_
  refine g_yes rfl rfl ?_
  refine g_pure (p_move rfl) rfl ?_
  refine g_yes rfl rfl ?_
  refine g_pure (p_eql rfl rfl) rfl ?_
  first | refine g_pure (p_pickt rfl rfl) rfl ?_ | refine g_pure (p_pickf rfl rfl) rfl ?_
  refine g_pure (p_move rfl) rfl ?_
  refine g_yes rfl rfl ?_
  refine g_pure (p_move rfl) rfl ?_
  refine g_yes rfl rfl ?_
  refine g_pure (p_eql rfl rfl) rfl ?_
  first | refine g_pure (p_pickt rfl rfl) rfl ?_ | refine g_pure (p_pickf rfl rfl) rfl ?_
  refine g_pure (p_move rfl) rfl ?_
  refine g_yes rfl rfl ?_
  refine g_pure (p_move rfl) rfl ?_
  refine g_yes rfl rfl ?_
  refine g_pure (p_not rfl) rfl ?_
  first | refine g_pure (p_pickt rfl rfl) rfl ?_ | refine g_pure (p_pickf rfl rfl) rfl ?_
  refine g_pure (p_move rfl) rfl ?_
  refine g_yes rfl rfl ?_
  refine g_pure (p_move rfl) rfl ?_
  refine g_yes rfl rfl ?_
  refine g_pure (p_len (by rfl) rfl) rfl ?_
  refine g_yes rfl rfl ?_
  refine g_pure (p_eql rfl rfl) rfl ?_
  first | refine g_pure (p_pickt rfl rfl) rfl ?_ | refine g_pure (p_pickf rfl rfl) rfl ?_
  refine g_pure (p_move rfl) rfl ?_
  refine g_yes rfl rfl ?_
  refine g_pure (p_move rfl) rfl ?_
  refine g_yes rfl rfl ?_
  refine g_pure (p_eql rfl rfl) rfl ?_
  first | refine g_pure (p_pickt rfl rfl) rfl ?_ | refine g_pure (p_pickf rfl rfl) rfl ?_
  refine g_pure (p_move rfl) rfl ?_
  refine g_yes rfl rfl ?_
  refine g_pure (p_move rfl) rfl ?_
  refine g_yes rfl rfl ?_
  refine g_pure (p_not rfl) rfl ?_
  first | refine g_pure (p_pickt rfl rfl) rfl ?_ | refine g_pure (p_pickf rfl rfl) rfl ?_
  refine g_pure (p_move rfl) rfl ?_
  refine g_yes rfl rfl ?_
  refine g_pure (p_move rfl) rfl ?_
  refine g_yes rfl rfl ?_
  refine g_pure (p_eql rfl rfl) rfl ?_
  first | refine g_pure (p_pickt rfl rfl) rfl ?_ | refine g_pure (p_pickf rfl rfl) rfl ?_
  refine g_pure (p_move rfl) rfl ?_
  refine g_yes rfl rfl ?_
  refine g_pure (p_move rfl) rfl ?_
  refine g_yes rfl rfl ?_
  refine g_pure (p_eql rfl rfl) rfl ?_
  first | refine g_pure (p_pickt rfl rfl) rfl ?_ | refine g_pure (p_pickf rfl rfl) rfl ?_
  refine g_pure (p_assign rfl) rfl ?_
  refine g_nil ?_
  refine g_qt ?_
  refine g_ret ?_
  exact g_post (rs := [.tmp 0]) rfl (.tmp rfl .nil) ⟨rfl, rfl⟩ .nil
end Go.Proofs.Ytbpgblbhikeglaa
