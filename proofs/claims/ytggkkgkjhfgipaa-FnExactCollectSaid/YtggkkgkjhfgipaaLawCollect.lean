/- PROVED: for every heap and roots that can be read, FnExactCollect returns true, and its arguments read behind the call as they read before: the program's Collect answers what the specification's answers, writes into no argument, and its answer owns its memory. Conditions: none. -/
import Derived.Test.YtggkkgkjhfgipaaRows
import Derived.Test.YtggkkgkjhfgipaaQFnExactCollectx7
import Derived.Test.YtggkkgkjhfgipaaSpecColl
import Derived.Test.YtggkkgkjhfgipaaIntCO
import Derived.Test.YtggkkgkjhfgipaaMarkCO
import Derived.WalkKit
import Derived.ProofKit
import Derived.OpenShut
import Derived.ShutString
import Derived.ChangeOld
import Derived.Below
import Derived.SizedLaws
import Derived.Lib.SmallJoins
import Derived.Test.YtggkkgkjhfgipaaRowKit
namespace Go.Proofs.Ytggkkgkjhfgipaa.fnExactCollect
open Go.ChangeShapes Go.WideShapes Go.ChangeAt Go.RowKit Go.Joins
open Go.Proofs.Ytggkkgkjhfgipaa.QFnExactCollect Go.Proofs.YtggkkgkjhfgipaaW.PrintWords Go.Proofs.YtggkkgkjhfgipaaW.PrintLast
set_option linter.unusedVariables false
set_option linter.unusedSimpArgs false

theorem collectF_length (ws : List Int) (top : Int) (roots : List Int) : (collectF ws top roots).1.length ≤ 20000 ∧ (collectF ws top roots).2.2.1.length ≤ 20000 := by
  unfold collectF
  split
  · rename_i h
    obtain ⟨L, hL, hrl, ho, hr⟩ := validF_parts h
    have h0 := (objsF_mem hL).2.1
    obtain ⟨t, rfl⟩ := Int.eq_ofNat_of_zero_le h0
    obtain ⟨hg, _, _⟩ := orderO_good hL ho hr
    have hl := objsF_mem hL
    have hoff := hg.off_le hL
    constructor
    · rw [List.length_append, flat_length hL _ _ hg.inn, List.length_replicate]
      omega
    · simpa using hrl
  · simp
theorem law_true (ws : List Int) (top : Int) (fs : List Int) (hx : ∀ x ∈ ws, InI64 x) (hx2 : ∀ x ∈ fs, InI64 x) (hl : ws.length ≤ 9223372036854775807) : ∃ k, laws_FnExactCollect.f k ws top fs = some true := by
  refine Ev.rounds (r := true) ?_
  unfold laws_FnExactCollect.f
  by_cases h1 : (fs.length : Int) > 1048576
  · simp only [if_pos h1]
    exact Ev.now _
  · simp only [if_neg h1]
    rw [IntCO.szHeap_eq ws top 1048576 hl (by omega) (by omega)]
    simp only [Option.bind_some]
    by_cases h2 : (1048576 : Int) - ws.length < 0
    · simp only [if_pos h2]
      exact Ev.now _
    · simp only [if_neg h2]
      have hl1 : ws.length ≤ 35184372088832 := by omega
      have hl2 : fs.length ≤ 35184372088832 := by omega
      have hi : impl_Collect.f ws top fs = some (collectF ws top fs) := by
        unfold impl_Collect.f
        rw [if_pos (allIn_mk hx), if_pos (allIn_mk hx2)]
      obtain ⟨hr, hr3⟩ := collectF_length ws top fs
      refine Ev.bind (IntCO.toHeap_ev ws top hl1) ?_
      refine Ev.bind (IntCO.toIntS_ev fs hl2) ?_
      refine Ev.bind (SpecColl.Collect_ev ws top fs hx hx2) ?_
      refine Ev.bind (IntCO.toHeap_ev ws top hl1) ?_
      refine Ev.bind (IntCO.toIntS_ev fs hl2) ?_
      simp only [hi, Option.bind_some]
      generalize collectF ws top fs = r at hi hr hr3 ⊢
      refine Ev.bind (IntCO.eqHeap_refl r.1 r.2.1 (by omega)) ?_
      simp only [if_true, bne_self_eq_false]
      refine Ev.bind (IntCO.eqIntS_refl r.2.2.1 (by omega)) ?_
      simp only [if_true, bne_self_eq_false]
      refine Ev.step (fun k => by rw [laws_FnExactCollect.j0, if_neg (by decide)]) ?_
      refine Ev.bind (IntCO.toHeap_ev ws top hl1) ?_
      refine Ev.bind (IntCO.eqHeap_refl ws top (by omega)) ?_
      simp only [if_true]
      refine Ev.bind (IntCO.toIntS_ev fs hl2) ?_
      refine Ev.bind (IntCO.eqIntS_refl fs (by omega)) ?_
      simp only [if_true]
      obtain ⟨b1, _, _, hm1⟩ := MarkCO.markHeap_ev ws top 1 (by omega) (by omega) (by omega)
      refine Ev.bind hm1 ?_
      obtain ⟨b2, _, _, hm2⟩ := MarkCO.markIntS_ev fs (1 + ws.length) (by omega) (by omega) (by omega)
      refine Ev.bind hm2 ?_
      have hneg : ¬ ((1 : Int) + ws.length + fs.length < 0) := by omega
      simp only [if_neg hneg]
      refine Ev.bind (IntCO.eqHeap_refl r.1 r.2.1 (by omega)) ?_
      simp only [if_true, bne_self_eq_false]
      refine Ev.bind (IntCO.eqIntS_refl r.2.2.1 (by omega)) ?_
      simp only [if_true, bne_self_eq_false]
      refine Ev.step (fun k => by rw [laws_FnExactCollect.j1, if_neg (by decide)]) ?_
      obtain ⟨b3, hb3, hM3, hm3⟩ := MarkCO.markHeap_ev r.1 r.2.1 1 (by omega) (by omega) (by omega)
      refine Ev.bind hm3 ?_
      obtain ⟨b4, hb4, hM4, hm4⟩ := MarkCO.markIntS_ev r.2.2.1 (1 + r.1.length) (by omega) (by omega) (by omega)
      refine Ev.bind hm4 ?_
      have hh := MarkCO.heldHeap_ev b3 r.2.1 1 (by omega) (by omega) (by omega) hM3
      rw [hb3] at hh
      have hneg3 : ¬ ((1 : Int) + r.1.length < 0) := by omega
      have hh4 := MarkCO.heldIntS_ev b4 (1 + r.1.length) (by omega) (by omega) (by omega) hM4
      rw [hb4] at hh4
      have hneg4 : ¬ ((1 : Int) + r.1.length + r.2.2.1.length < 0) := by omega
      refine Ev.bind hh ?_
      simp only [if_neg hneg3]
      refine Ev.bind hh4 ?_
      simp only [if_neg hneg4, if_true]
      refine Ev.bind (IntCO.toHeap_ev ws top hl1) ?_
      refine Ev.bind (IntCO.toIntS_ev fs hl2) ?_
      simp only [hi, Option.bind_some]
      refine Ev.bind (IntCO.eqHeap_refl r.1 r.2.1 (by omega)) ?_
      simp only [if_true, bne_self_eq_false]
      refine Ev.bind (IntCO.eqIntS_refl r.2.2.1 (by omega)) ?_
      simp only [if_true, bne_self_eq_false]
      refine Ev.step (fun k => by rw [laws_FnExactCollect.j2, if_neg (by decide)]) ?_
      refine Ev.bind hh ?_
      simp only [if_neg hneg3]
      refine Ev.bind hh4 ?_
      simp only [if_neg hneg4, if_true]
      exact Ev.now _

theorem own : ownKnob Try.prog.godebug = none := by kernel_rfl
theorem laidOut : laidOutB Try.prog = true := by kernel_rfl
theorem cellsH : Try.prog.cellsOf 37 = 2 := by kernel_rfl
set_option maxHeartbeats 1000000 in
set_option maxRecDepth 100000 in
theorem lifted (os : Os) (started : os.Started) (H : Type) (enc : TypeId × Value → H) :
    ReturnsInHanded {} Try.checked os 9 .any (Rows.fnExactCollectSpec.pre6 enc Try.prog Try.f9 Rows.fnExactCollectRow.domain false) (Rows.fnExactCollectSpec.post enc Try.prog Try.f9 false true false false) := by
  refine returnsInHanded_of_change_sized (C := Try.checked) own started (by kernel_rfl) Try.func9
    (ChangeSpec.witness6 (enc := enc) (C := Try.checked) false ⟨#[], #[.agg #[.slice none 0 0, .int .i64 0], .slice none 0 0], []⟩ 8 (by kernel_rfl) (by kernel_rfl) (by kernel_rfl) (by kernel_rfl)) ?_
  intro W base args ds gs before hval0 hW hcnd hsz0 _
  have hval : ∀ (j : Nat) t v, Try.f9.params[j]? = some t → args[j]? = some v → Value.okWide Try.prog W .any base t v := hval0
  have hW' := hW
  obtain ⟨p, q, hA0, hV, rfl, hfz, hnd⟩ := hW
  have hA : DataW.TrodAll enc Try.prog W 0 (fun _ => true) true Try.f9.params.toList args.toList ds p := hA0
  rw [Try.params9] at hA hval
  obtain ⟨v0, vs0, d0, ds0, p0, q0, hargs, rfl, rfl, h0, r0⟩ := trodAll_cons hA
  obtain ⟨v2, vs2, d2, ds2, p2, q2, rfl, rfl, rfl, h2, r2⟩ := trodAll_cons r0
  obtain ⟨rfl, rfl, rfl⟩ := trodAll_nil r2
  obtain rfl : args = #[v0, v2] := by cases args; simp_all
  obtain ⟨rfl, rfl⟩ := trodVars_none hV
  have k0 := h0
  have lt0 : ∀ x ∈ p0, x.block < W.heap.size := by obtain ⟨m, hm⟩ := k0; exact DataW.trod_lt m _ _ _ hm
  have k2 := h2
  have lt2 : ∀ x ∈ p2, x.block < W.heap.size := by obtain ⟨m, hm⟩ := k2; exact DataW.trod_lt m _ _ _ hm
  obtain ⟨c0, c1, y0, y1, m, rfl, _, _, hy0, hy1⟩ := open_agg2 Try.underlying37 (by kernel_rfl) cellsH (hval 0 37 v0 rfl rfl) h0
  obtain ⟨A0, cap0, l0, rfl, hr0, hc0, hm0, hw0⟩ := row_ints Try.underlying29 Try.underlying3 (by kernel_rfl) hy0
  obtain ⟨top, e1, _, wtop⟩ := DataW.trod_int Try.underlying3 hy1
  simp at e1
  subst e1
  obtain ⟨a2, len2, cap2, rfl⟩ := okWide_slice Try.underlying29 (hval 1 29 v2 rfl rfl)
  obtain ⟨fuel2, hf2⟩ := h2
  obtain ⟨A2, cap2', l2, e3, hr2, hc2, hm2, hw2⟩ := row_ints Try.underlying29 Try.underlying3 (by kernel_rfl) hf2
  obtain ⟨rfl, rfl, rfl⟩ : A2 = a2 ∧ l2.length = len2 ∧ cap2' = cap2 := by simpa using e3.symm
  obtain ⟨k, h⟩ := law_true l0 top l2 (fun x hx => wf_in (hw0 x hx)) (fun x hx => wf_in (hw2 x hx)) hm0
  refine (laws_FnExactCollect.calls k A0 cap0 l0 top A2 cap2' l2 true W hr0 hc0 hr2 hc2 rfl h).mono fun e W' ⟨he, bel⟩ => ?_
  subst he
  exact ⟨_, rfl, _, _, _, [], _, [], hW', trodAll_mk1 (shut_bool Try.underlying4 _), (trodAll_cons_mk (Below.trod laidOut (by kernel_rfl) (of_decide_eq_true (by kernel_rfl)) k0 bel lt0) (trodAll_cons_mk (Below.trod laidOut (by kernel_rfl) (of_decide_eq_true (by kernel_rfl)) k2 bel lt2) trodAll_mk0)), rfl, bel.frame _, fun h => by cases h⟩
theorem over : Rows.fnExactCollectRow.holds Try.pinned (OpenSpec.ofChange Rows.fnExactCollectSpec) :=
  OpenClaim.holds_of_wide 9 Try.f9 rfl rfl rfl rfl rfl rfl rfl ⟨rfl, rfl, rfl, rfl, rfl⟩ rfl rfl rfl rfl rfl (by kernel_rfl) Try.func9 (by kernel_rfl)
    (of_decide_eq_true (by kernel_rfl)) (by unfold Func.isWrapper; first | (rw [if_pos (by decide +kernel)]; kernel_rfl) | (rw [if_neg (by decide +kernel)]; exact ⟨rfl, rfl⟩))
    (fun os started H enc _ => lifted os started H enc)
theorem proved : Rows.FnExactCollectSaid := over
#print axioms proved
end Go.Proofs.Ytggkkgkjhfgipaa.fnExactCollect
namespace Go.Proofs.Ytggkkgkjhfgipaa
/-- The row, under a short name, for the claim. -/
theorem fnExactCollect_holds : Rows.FnExactCollectSaid := fnExactCollect.proved
end Go.Proofs.Ytggkkgkjhfgipaa
