/- PROVED: for every heap and roots that can be read, FnExactValidHeap returns true, and its arguments read behind the call as they read before: the program's ValidHeap answers what the specification's answers. Conditions: none. -/
import Derived.Test.YtggkkgkjhfgipaaRows
import Derived.Test.YtggkkgkjhfgipaaQFnExactValidHeapx4
import Derived.Test.YtggkkgkjhfgipaaSpecVH
import Derived.Test.YtggkkgkjhfgipaaIntVH
import Derived.WalkKit
import Derived.ProofKit
import Derived.OpenShut
import Derived.ShutString
import Derived.ChangeOld
import Derived.Below
import Derived.SizedLaws
import Derived.Lib.SmallJoins
import Derived.Test.YtggkkgkjhfgipaaRowKit
namespace Go.Proofs.Ytggkkgkjhfgipaa.fnExactValidHeap
open Go.ChangeShapes Go.WideShapes Go.ChangeAt Go.RowKit Go.Joins
open Go.Proofs.Ytggkkgkjhfgipaa.QFnExactValidHeap Go.Proofs.YtggkkgkjhfgipaaW.PrintWords Go.Proofs.YtggkkgkjhfgipaaW.PrintLast
set_option linter.unusedVariables false
set_option linter.unusedSimpArgs false

theorem law_true (ws : List Int) (top : Int) (roots : List Int) (hx : ∀ x ∈ ws, InI64 x) (hx2 : ∀ x ∈ roots, InI64 x) (hl : ws.length ≤ 9223372036854775807) : ∃ k, laws_FnExactValidHeap.f k ws top roots = some true := by
  refine Ev.rounds (r := true) ?_
  unfold laws_FnExactValidHeap.f
  by_cases h1 : (roots.length : Int) > 1048576
  · simp only [if_pos h1]
    exact Ev.now _
  · simp only [if_neg h1]
    rw [IntVH.szHeap_eq ws top 1048576 hl (by omega) (by omega)]
    simp only [Option.bind_some]
    by_cases h2 : (1048576 : Int) - ws.length < 0
    · simp only [if_pos h2]
      exact Ev.now _
    · simp only [if_neg h2]
      have hl1 : ws.length ≤ 35184372088832 := by omega
      have hl2 : roots.length ≤ 35184372088832 := by omega
      refine Ev.bind (IntVH.toHeap_ev ws top hl1) ?_
      refine Ev.bind (IntVH.toIntS_ev roots hl2) ?_
      refine Ev.bind (SpecVH.ValidHeap_ev ws top roots hx hx2) ?_
      refine Ev.bind (IntVH.toHeap_ev ws top hl1) ?_
      refine Ev.bind (IntVH.toIntS_ev roots hl2) ?_
      have hi : impl_ValidHeap.f ws top roots = some (validF ws top roots) := by
        unfold impl_ValidHeap.f
        rw [if_pos (allIn_mk hx), if_pos (allIn_mk hx2)]
      simp only [hi, Option.bind_some, specValidHeap_eq, bne_self_eq_false, Bool.false_eq_true, if_false]
      refine Ev.bind (IntVH.toHeap_ev ws top hl1) ?_
      refine Ev.bind (IntVH.eqHeap_refl ws top (by omega)) ?_
      simp only [if_true]
      refine Ev.bind (IntVH.toIntS_ev roots hl2) ?_
      refine Ev.bind (IntVH.eqIntS_refl roots (by omega)) ?_
      simp only [if_true]
      exact Ev.now _

theorem own : ownKnob Try.prog.godebug = none := by kernel_rfl
theorem laidOut : laidOutB Try.prog = true := by kernel_rfl
theorem cellsH : Try.prog.cellsOf 37 = 2 := by kernel_rfl
set_option maxHeartbeats 1000000 in
set_option maxRecDepth 100000 in
theorem lifted (os : Os) (started : os.Started) (H : Type) (enc : TypeId × Value → H) :
    ReturnsInHanded {} Try.checked os 6 .any (Rows.fnExactValidHeapSpec.pre6 enc Try.prog Try.f6 Rows.fnExactValidHeapRow.domain false) (Rows.fnExactValidHeapSpec.post enc Try.prog Try.f6 false true false false) := by
  refine returnsInHanded_of_change_sized (C := Try.checked) own started (by kernel_rfl) Try.func6
    (ChangeSpec.witness6 (enc := enc) (C := Try.checked) false ⟨#[], #[.agg #[.slice none 0 0, .int .i64 0], .slice none 0 0], []⟩ 8 (by kernel_rfl) (by kernel_rfl) (by kernel_rfl) (by kernel_rfl)) ?_
  intro W base args ds gs before hval0 hW hcnd hsz0 _
  have hval : ∀ (j : Nat) t v, Try.f6.params[j]? = some t → args[j]? = some v → Value.okWide Try.prog W .any base t v := hval0
  have hW' := hW
  obtain ⟨p, q, hA0, hV, rfl, hfz, hnd⟩ := hW
  have hA : DataW.TrodAll enc Try.prog W 0 (fun _ => true) true Try.f6.params.toList args.toList ds p := hA0
  rw [Try.params6] at hA hval
  obtain ⟨v0, vs0, d0, ds0, p0, q0, hargs, rfl, rfl, h0, r0⟩ := trodAll_cons hA
  obtain ⟨v1, vs1, d1, ds1, p1, q1, rfl, rfl, rfl, h1, r1⟩ := trodAll_cons r0
  obtain ⟨rfl, rfl, rfl⟩ := trodAll_nil r1
  obtain rfl : args = #[v0, v1] := by cases args; simp_all
  obtain ⟨rfl, rfl⟩ := trodVars_none hV
  have k0 := h0
  have lt0 : ∀ x ∈ p0, x.block < W.heap.size := by obtain ⟨m, hm⟩ := k0; exact DataW.trod_lt m _ _ _ hm
  have k1 := h1
  have lt1 : ∀ x ∈ p1, x.block < W.heap.size := by obtain ⟨m, hm⟩ := k1; exact DataW.trod_lt m _ _ _ hm
  obtain ⟨c0, c1, y0, y1, m, rfl, _, _, hy0, hy1⟩ := open_agg2 Try.underlying37 (by kernel_rfl) cellsH (hval 0 37 v0 rfl rfl) h0
  obtain ⟨A0, cap0, l0, rfl, hr0, hc0, hm0, hw0⟩ := row_ints Try.underlying29 Try.underlying3 (by kernel_rfl) hy0
  obtain ⟨top, e1, _, wtop⟩ := DataW.trod_int Try.underlying3 hy1
  simp at e1
  subst e1
  obtain ⟨a1, len1, cap1, rfl⟩ := okWide_slice Try.underlying29 (hval 1 29 v1 rfl rfl)
  obtain ⟨fuel1, hf1⟩ := h1
  obtain ⟨A1, cap1', l1, e2, hr1, hc1, hm1, hw1⟩ := row_ints Try.underlying29 Try.underlying3 (by kernel_rfl) hf1
  obtain ⟨rfl, rfl, rfl⟩ : A1 = a1 ∧ l1.length = len1 ∧ cap1' = cap1 := by simpa using e2.symm
  obtain ⟨k, h⟩ := law_true l0 top l1 (fun x hx => wf_in (hw0 x hx)) (fun x hx => wf_in (hw1 x hx)) hm0
  refine (laws_FnExactValidHeap.calls k A0 cap0 l0 top A1 cap1' l1 true W hr0 hc0 hr1 hc1 h).mono fun e W' ⟨he, bel⟩ => ?_
  subst he
  exact ⟨_, rfl, _, _, _, [], _, [], hW', trodAll_mk1 (shut_bool Try.underlying4 _), (trodAll_cons_mk (Below.trod laidOut (by kernel_rfl) (of_decide_eq_true (by kernel_rfl)) k0 bel lt0) (trodAll_cons_mk (Below.trod laidOut (by kernel_rfl) (of_decide_eq_true (by kernel_rfl)) k1 bel lt1) trodAll_mk0)), rfl, bel.frame _, fun h => by cases h⟩
theorem over : Rows.fnExactValidHeapRow.holds Try.pinned (OpenSpec.ofChange Rows.fnExactValidHeapSpec) :=
  OpenClaim.holds_of_wide 6 Try.f6 rfl rfl rfl rfl rfl rfl rfl ⟨rfl, rfl, rfl, rfl, rfl⟩ rfl rfl rfl rfl rfl (by kernel_rfl) Try.func6 (by kernel_rfl)
    (of_decide_eq_true (by kernel_rfl)) (by unfold Func.isWrapper; first | (rw [if_pos (by decide +kernel)]; kernel_rfl) | (rw [if_neg (by decide +kernel)]; exact ⟨rfl, rfl⟩))
    (fun os started H enc _ => lifted os started H enc)
theorem proved : Rows.FnExactValidHeapSaid := over
#print axioms proved
end Go.Proofs.Ytggkkgkjhfgipaa.fnExactValidHeap
namespace Go.Proofs.Ytggkkgkjhfgipaa
/-- The row, under a short name, for the claim. -/
theorem fnExactValidHeap_holds : Rows.FnExactValidHeapSaid := fnExactValidHeap.proved
end Go.Proofs.Ytggkkgkjhfgipaa
