/- PROVED: for every two heaps with roots that can be read, FnExactSameShape returns true, and its arguments read behind the call as they read before: the program's SameShape answers what the specification's answers. Conditions: none. -/
import Derived.Test.YtggkkgkjhfgipaaRows
import Derived.Test.YtggkkgkjhfgipaaQFnExactSameShapex7
import Derived.Test.YtggkkgkjhfgipaaSpecSS
import Derived.Test.YtggkkgkjhfgipaaIntSS
import Derived.WalkKit
import Derived.ProofKit
import Derived.OpenShut
import Derived.ShutString
import Derived.ChangeOld
import Derived.Below
import Derived.SizedLaws
import Derived.Lib.SmallJoins
import Derived.Test.YtggkkgkjhfgipaaRowKit
namespace Go.Proofs.Ytggkkgkjhfgipaa.fnExactSameShape
open Go.ChangeShapes Go.WideShapes Go.ChangeAt Go.RowKit Go.Joins
open Go.Proofs.Ytggkkgkjhfgipaa.QFnExactSameShape Go.Proofs.YtggkkgkjhfgipaaW.PrintWords Go.Proofs.YtggkkgkjhfgipaaW.PrintLast
set_option linter.unusedVariables false
set_option linter.unusedSimpArgs false

theorem law_true (ws : List Int) (top : Int) (roots vs : List Int) (top2 : Int) (others : List Int) (hx : ∀ x ∈ ws, InI64 x) (hx2 : ∀ x ∈ roots, InI64 x) (hy : ∀ x ∈ vs, InI64 x) (hy2 : ∀ x ∈ others, InI64 x) (hl : ws.length ≤ 9223372036854775807) (hl3 : vs.length ≤ 9223372036854775807) : ∃ k, laws_FnExactSameShape.f k ws top roots vs top2 others = some true := by
  refine Ev.rounds (r := true) ?_
  unfold laws_FnExactSameShape.f
  by_cases h1 : (roots.length : Int) > 1048576
  · simp only [if_pos h1]
    exact Ev.now _
  simp only [if_neg h1]
  by_cases h2 : (others.length : Int) > 1048576
  · simp only [if_pos h2]
    exact Ev.now _
  simp only [if_neg h2]
  rw [IntSS.szHeap_eq ws top 1048576 hl (by omega) (by omega)]
  simp only [Option.bind_some]
  by_cases h3 : (1048576 : Int) - ws.length < 0
  · simp only [if_pos h3]
    exact Ev.now _
  simp only [if_neg h3]
  rw [IntSS.szHeap_eq vs top2 (1048576 - ws.length) hl3 (by omega) (by omega)]
  simp only [Option.bind_some]
  by_cases h4 : (1048576 : Int) - ws.length - vs.length < 0
  · simp only [if_pos h4]
    exact Ev.now _
  simp only [if_neg h4]
  have a1 : ws.length ≤ 35184372088832 := by omega
  have a2 : roots.length ≤ 35184372088832 := by omega
  have a3 : vs.length ≤ 35184372088832 := by omega
  have a4 : others.length ≤ 35184372088832 := by omega
  have hi : impl_SameShape.f ws top roots vs top2 others = some (sameF ws top roots vs top2 others) := by
    unfold impl_SameShape.f
    rw [if_pos (allIn_mk hx), if_pos (allIn_mk hx2), if_pos (allIn_mk hy), if_pos (allIn_mk hy2)]
  refine Ev.bind (IntSS.toHeap_ev ws top a1) ?_
  refine Ev.bind (IntSS.toIntS_ev roots a2) ?_
  refine Ev.bind (IntSS.toHeap_ev vs top2 a3) ?_
  refine Ev.bind (IntSS.toIntS_ev others a4) ?_
  refine Ev.bind (SpecSS.SameShape_ev ws top roots vs top2 others hx hx2 hy hy2) ?_
  refine Ev.bind (IntSS.toHeap_ev ws top a1) ?_
  refine Ev.bind (IntSS.toIntS_ev roots a2) ?_
  refine Ev.bind (IntSS.toHeap_ev vs top2 a3) ?_
  refine Ev.bind (IntSS.toIntS_ev others a4) ?_
  simp only [hi, Option.bind_some, bne_self_eq_false, Bool.false_eq_true, if_false]
  refine Ev.bind (IntSS.toHeap_ev ws top a1) ?_
  refine Ev.bind (IntSS.eqHeap_refl ws top (by omega)) ?_
  simp only [if_true]
  refine Ev.bind (IntSS.toIntS_ev roots a2) ?_
  refine Ev.bind (IntSS.eqIntS_refl roots (by omega)) ?_
  simp only [if_true]
  refine Ev.bind (IntSS.toHeap_ev vs top2 a3) ?_
  refine Ev.bind (IntSS.eqHeap_refl vs top2 (by omega)) ?_
  simp only [if_true]
  refine Ev.bind (IntSS.toIntS_ev others a4) ?_
  refine Ev.bind (IntSS.eqIntS_refl others (by omega)) ?_
  simp only [if_true]
  exact Ev.now _

theorem own : ownKnob Try.prog.godebug = none := by kernel_rfl
theorem laidOut : laidOutB Try.prog = true := by kernel_rfl
theorem cellsH : Try.prog.cellsOf 37 = 2 := by kernel_rfl
set_option maxHeartbeats 1000000 in
set_option maxRecDepth 100000 in
theorem lifted (os : Os) (started : os.Started) (H : Type) (enc : TypeId × Value → H) :
    ReturnsInHanded {} Try.checked os 8 .any (Rows.fnExactSameShapeSpec.pre6 enc Try.prog Try.f8 Rows.fnExactSameShapeRow.domain false) (Rows.fnExactSameShapeSpec.post enc Try.prog Try.f8 false true false false) := by
  refine returnsInHanded_of_change_sized (C := Try.checked) own started (by kernel_rfl) Try.func8
    (ChangeSpec.witness6 (enc := enc) (C := Try.checked) false ⟨#[], #[.agg #[.slice none 0 0, .int .i64 0], .slice none 0 0, .agg #[.slice none 0 0, .int .i64 0], .slice none 0 0], []⟩ 8 (by kernel_rfl) (by kernel_rfl) (by kernel_rfl) (by kernel_rfl)) ?_
  intro W base args ds gs before hval0 hW hcnd hsz0 _
  have hval : ∀ (j : Nat) t v, Try.f8.params[j]? = some t → args[j]? = some v → Value.okWide Try.prog W .any base t v := hval0
  have hW' := hW
  obtain ⟨p, q, hA0, hV, rfl, hfz, hnd⟩ := hW
  have hA : DataW.TrodAll enc Try.prog W 0 (fun _ => true) true Try.f8.params.toList args.toList ds p := hA0
  rw [Try.params8] at hA hval
  obtain ⟨v0, vs0, d0, ds0, p0, q0, hargs, rfl, rfl, h0, r0⟩ := trodAll_cons hA
  obtain ⟨v1, vs1, d1, ds1, p1, q1, rfl, rfl, rfl, h1, r1⟩ := trodAll_cons r0
  obtain ⟨v2, vs2, d2, ds2, p2, q2, rfl, rfl, rfl, h2, r2⟩ := trodAll_cons r1
  obtain ⟨v3, vs3, d3, ds3, p3, q3, rfl, rfl, rfl, h3, r3⟩ := trodAll_cons r2
  obtain ⟨rfl, rfl, rfl⟩ := trodAll_nil r3
  obtain rfl : args = #[v0, v1, v2, v3] := by cases args; simp_all
  obtain ⟨rfl, rfl⟩ := trodVars_none hV
  have k0 := h0
  have lt0 : ∀ x ∈ p0, x.block < W.heap.size := by obtain ⟨m, hm⟩ := k0; exact DataW.trod_lt m _ _ _ hm
  have k1 := h1
  have lt1 : ∀ x ∈ p1, x.block < W.heap.size := by obtain ⟨m, hm⟩ := k1; exact DataW.trod_lt m _ _ _ hm
  have k2 := h2
  have lt2 : ∀ x ∈ p2, x.block < W.heap.size := by obtain ⟨m, hm⟩ := k2; exact DataW.trod_lt m _ _ _ hm
  have k3 := h3
  have lt3 : ∀ x ∈ p3, x.block < W.heap.size := by obtain ⟨m, hm⟩ := k3; exact DataW.trod_lt m _ _ _ hm
  obtain ⟨c0, c1, y0, y1, m, rfl, _, _, hy0, hy1⟩ := open_agg2 Try.underlying37 (by kernel_rfl) cellsH (hval 0 37 v0 rfl rfl) h0
  obtain ⟨A0, cap0, l0, rfl, hr0, hc0, hm0, hw0⟩ := row_ints Try.underlying29 Try.underlying3 (by kernel_rfl) hy0
  obtain ⟨top, e1, _, wtop⟩ := DataW.trod_int Try.underlying3 hy1
  simp at e1
  subst e1
  obtain ⟨a1, len1, cap1, rfl⟩ := okWide_slice Try.underlying29 (hval 1 29 v1 rfl rfl)
  obtain ⟨fuel1, hf1⟩ := h1
  obtain ⟨A1, cap1', l1, e2, hr1, hc1, hm1, hw1⟩ := row_ints Try.underlying29 Try.underlying3 (by kernel_rfl) hf1
  obtain ⟨rfl, rfl, rfl⟩ : A1 = a1 ∧ l1.length = len1 ∧ cap1' = cap1 := by simpa using e2.symm
  obtain ⟨c2, c3, y2, y3, m2, rfl, _, _, hy2, hy3⟩ := open_agg2 Try.underlying37 (by kernel_rfl) cellsH (hval 2 37 v2 rfl rfl) h2
  obtain ⟨A2, cap2, l2, rfl, hr2, hc2, hm2, hw2⟩ := row_ints Try.underlying29 Try.underlying3 (by kernel_rfl) hy2
  obtain ⟨top2, e3, _, wtop2⟩ := DataW.trod_int Try.underlying3 hy3
  simp at e3
  subst e3
  obtain ⟨a3, len3, cap3, rfl⟩ := okWide_slice Try.underlying29 (hval 3 29 v3 rfl rfl)
  obtain ⟨fuel3, hf3⟩ := h3
  obtain ⟨A3, cap3', l3, e4, hr3, hc3, hm3, hw3⟩ := row_ints Try.underlying29 Try.underlying3 (by kernel_rfl) hf3
  obtain ⟨rfl, rfl, rfl⟩ : A3 = a3 ∧ l3.length = len3 ∧ cap3' = cap3 := by simpa using e4.symm
  obtain ⟨k, h⟩ := law_true l0 top l1 l2 top2 l3 (fun x hx => wf_in (hw0 x hx)) (fun x hx => wf_in (hw1 x hx)) (fun x hx => wf_in (hw2 x hx)) (fun x hx => wf_in (hw3 x hx)) hm0 hm2
  refine (laws_FnExactSameShape.calls k A0 cap0 l0 top A1 cap1' l1 A2 cap2 l2 top2 A3 cap3' l3 true W hr0 hc0 hr1 hc1 hr2 hc2 hr3 hc3 rfl h).mono fun e W' ⟨he, bel⟩ => ?_
  subst he
  exact ⟨_, rfl, _, _, _, [], _, [], hW', trodAll_mk1 (shut_bool Try.underlying4 _), (trodAll_cons_mk (Below.trod laidOut (by kernel_rfl) (of_decide_eq_true (by kernel_rfl)) k0 bel lt0) (trodAll_cons_mk (Below.trod laidOut (by kernel_rfl) (of_decide_eq_true (by kernel_rfl)) k1 bel lt1) (trodAll_cons_mk (Below.trod laidOut (by kernel_rfl) (of_decide_eq_true (by kernel_rfl)) k2 bel lt2) (trodAll_cons_mk (Below.trod laidOut (by kernel_rfl) (of_decide_eq_true (by kernel_rfl)) k3 bel lt3) trodAll_mk0)))), rfl, bel.frame _, fun h => by cases h⟩
theorem over : Rows.fnExactSameShapeRow.holds Try.pinned (OpenSpec.ofChange Rows.fnExactSameShapeSpec) :=
  OpenClaim.holds_of_wide 8 Try.f8 rfl rfl rfl rfl rfl rfl rfl ⟨rfl, rfl, rfl, rfl, rfl⟩ rfl rfl rfl rfl rfl (by kernel_rfl) Try.func8 (by kernel_rfl)
    (of_decide_eq_true (by kernel_rfl)) (by unfold Func.isWrapper; first | (rw [if_pos (by decide +kernel)]; kernel_rfl) | (rw [if_neg (by decide +kernel)]; exact ⟨rfl, rfl⟩))
    (fun os started H enc _ => lifted os started H enc)
theorem proved : Rows.FnExactSameShapeSaid := over
#print axioms proved
end Go.Proofs.Ytggkkgkjhfgipaa.fnExactSameShape
namespace Go.Proofs.Ytggkkgkjhfgipaa
/-- The row, under a short name, for the claim. -/
theorem fnExactSameShape_holds : Rows.FnExactSameShapeSaid := fnExactSameShape.proved
end Go.Proofs.Ytggkkgkjhfgipaa
