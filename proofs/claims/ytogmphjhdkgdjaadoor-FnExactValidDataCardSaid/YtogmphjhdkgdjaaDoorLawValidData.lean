/- PROVED: for every row of data that can be read, FnExactValidData returns true, and its argument reads behind the call as it read before: the program's ValidData answers what the specification's answers. Conditions: none but the card's own (Go's tables utf8.first and utf8.acceptRanges start as the program lays them). -/
import Derived.Test.YtogmphjhdkgdjaaDoorRows
import Derived.Test.YtogmphjhdkgdjaaDoorCards
import Derived.Test.YtogmphjhdkgdjaaDoorTie
import Derived.Test.YtogmphjhdkgdjaaDoorQFnExactValidDatax6
import Derived.Test.YtogmphjhdkgdjaaDoorImplVD
import Derived.Test.YtogmphjhdkgdjaaDoorDatVD
import Derived.Test.YtogmphjhdkgdjaaDoorRowData
import Derived.WalkKit
import Derived.ProofKit
import Derived.OpenShut
import Derived.ShutString
import Derived.ChangeOld
import Derived.Below
import Derived.SizedLaws
import Derived.Lib.SmallJoins
import Derived.LaidMore
import Derived.Lay
import Derived.SevenTiedAt
import Derived.Stop.Joined
namespace Go.Proofs.YtogmphjhdkgdjaaDoor.fnExactValidData
open Go.ChangeShapes Go.WideShapes Go.ChangeAt Go.RowKit Go.Joins
open Go.Proofs.YtogmphjhdkgdjaaDoor.QFnExactValidData Go.Proofs.YtogmphjhdkgdjaaDoorW.PrintWords Go.Proofs.YtogmphjhdkgdjaaDoorW.PrintLast
set_option linter.unusedVariables false
set_option linter.unusedSimpArgs false
/-- What is known of a datum that was read. -/
def Dok (x : S55) : Prop := x.f2.length ≤ 9223372036854775807 ∧ (∀ b ∈ x.f2, 0 ≤ b ∧ b < 256) ∧ x.f3 ≤ 9223372036854775807
theorem law_true (l : List S55) (hl : l.length ≤ 9223372036854775807) (hx : ∀ x ∈ l, Dok x) : ∃ k, laws_FnExactValidData.f k l = some true := by
  refine Ev.rounds (r := true) ?_
  unfold laws_FnExactValidData.f
  obtain ⟨r, hr, hr2⟩ := DatVD.szDatumS_ev l hl (fun x h => (hx x h).1) 1048576 (by omega) (by omega)
  refine Ev.bind hr ?_
  by_cases hn : r < 0
  · simp only [if_pos hn]
    exact Ev.now _
  · simp only [if_neg hn]
    obtain ⟨_, h1, h2⟩ : r ≤ 1048576 ∧ l.length ≤ 1048576 ∧ ∀ x ∈ l, x.f2.length ≤ 1048576 := by
      rcases hr2 with h | h
      · omega
      · exact h
    have hc := DatVD.toDatumS_ev l h1 (fun x h => by have := h2 x h; omega)
    have hf : SpecVD.Fits (l.map DatVD.cvD) := by
      refine ⟨by simpa using h1, fun y hy => ?_, fun y hy => ?_⟩
      · obtain ⟨x, hxm, rfl⟩ := List.mem_map.1 hy
        exact ⟨(hx x hxm).2.1, by have := h2 x hxm; show x.f2.length ≤ _; omega⟩
      · obtain ⟨x, hxm, rfl⟩ := List.mem_map.1 hy
        exact (hx x hxm).2.2
    refine Ev.bind hc ?_
    refine Ev.bind (SpecVD.valid_ev hf) ?_
    refine Ev.bind hc ?_
    refine Ev.bind (ImplVD.valid_ev hf) ?_
    simp only [bne_self_eq_false, Bool.false_eq_true, if_false]
    refine Ev.bind hc ?_
    refine Ev.bind (DatVD.eqDatumS_refl (l.map DatVD.cvD) (by simp; omega) (fun y hy => ?_)) ?_
    · obtain ⟨x, hxm, rfl⟩ := List.mem_map.1 hy
      have := h2 x hxm
      show x.f2.length ≤ _
      omega
    · simp only [if_true]
      exact Ev.now _

theorem own : ownKnob Tryd.prog.godebug = none := by kernel_rfl
theorem laidOut : laidOutB Tryd.prog = true := by kernel_rfl
theorem opens_datum : Opens Tryd.prog 55 k55 Dok := by
  have h := opens_iso (P := Tryd.prog) (t := 55) (fun x : S55 => (x.f0, x.f1, x.f2, x.f3)) (fun a => ⟨a.1, a.2.1, a.2.2.1, a.2.2.2⟩) (fun _ => rfl)
    (opens_struct4 Tryd.underlying55 (by kernel_rfl) rfl rfl rfl rfl (by kernel_rfl) (by kernel_rfl) (by kernel_rfl) (by kernel_rfl) (opens_int Tryd.underlying3) (opens_int Tryd.underlying3) (opens_slice 5 Tryd.underlying42 (by kernel_rfl) (opens_int Tryd.underlying5)) (opens_int Tryd.underlying3))
  intro H enc W fuel cs x hx
  obtain ⟨a, k, g⟩ := h hx
  exact ⟨a, k, g.2.2.1.1, fun b hb => wf_u8 (g.2.2.1.2 b hb), (wf_i64 g.2.2.2).2⟩
set_option maxHeartbeats 1000000 in
set_option maxRecDepth 100000 in
theorem lifted (os : Os) (started : os.Started) (H : Type) (enc : TypeId × Value → H) :
    ReturnsInHanded {} Tryd.checked os 3 .any (fun w args => (Rows.fnExactValidDataSpec.pre enc Tryd.prog Tryd.f3 Rows.fnExactValidDataRow.domain false w args ∧ laidMetH Tryd.prog Rows.fnExactValidDataRow.laid w) ∧ sizedMet enc Tryd.prog Tryd.f3 (OpenSpec.ofChange Rows.fnExactValidDataSpec) false w args)
      (Rows.fnExactValidDataSpec.post enc Tryd.prog Tryd.f3 false true false false) := by
  refine returnsInHanded_of_change_and (C := Tryd.checked) (X := fun w _ => laidMetH Tryd.prog Rows.fnExactValidDataRow.laid w) (fun _ _ _ hh h => h.of_heap hh) own started (by kernel_rfl) Tryd.func3
    (ChangeSpec.witness_shaped (enc := enc) (C := Tryd.checked) (os := os) (X := fun w _ => laidMetH Tryd.prog Rows.fnExactValidDataRow.laid w) false (World.laidAll Tryd.prog os Rows.fnExactValidDataRow.laid) #[.slice none 0 0] 8 (World.laidAll_os _ _ _)
      (World.shaped_of_ZipB (by kernel_rfl) (by kernel_rfl)) (by kernel_rfl) (by kernel_rfl) (by kernel_rfl)
      (by rw [MakeChecks.laidMetH_plain _ _ _ (by kernel_rfl)]; exact laidMet_laidAll _ (by kernel_rfl) (by kernel_rfl))) ?_
  intro W base args ds gs before hval0 hW _ _ _ _
  have hval : ∀ (j : Nat) t v, Tryd.f3.params[j]? = some t → args[j]? = some v → Value.okWide Tryd.prog W .any base t v := hval0
  have hW' := hW
  obtain ⟨p, q, hA0, hV, rfl, hfz, hnd⟩ := hW
  have hA : DataW.TrodAll enc Tryd.prog W 0 (fun _ => true) true Tryd.f3.params.toList args.toList ds p := hA0
  rw [Tryd.params3] at hA hval
  obtain ⟨v0, d0, rfl, rfl, h0⟩ := trodAll_one hA
  obtain ⟨rfl, rfl⟩ := trodVars_none hV
  have k0 := h0
  have lt0 : ∀ x ∈ p, x.block < W.heap.size := by obtain ⟨m, hm⟩ := k0; exact DataW.trod_lt m _ _ _ hm
  obtain ⟨a1, len1, cap1, rfl⟩ := okWide_slice Tryd.underlying22 (hval 0 22 v0 rfl rfl)
  obtain ⟨fuel1, hf1⟩ := h0
  obtain ⟨A1, cap1', l1, e2, hc1, hr1, hm1, hw1⟩ := opens_row Tryd.underlying22 (by kernel_rfl) opens_datum hf1
  have e3 : [Value.slice A1 l1.length cap1'] = [Value.slice a1 len1 cap1] := e2.symm
  obtain ⟨rfl, rfl, rfl⟩ : A1 = a1 ∧ l1.length = len1 ∧ cap1' = cap1 := by simpa using e3
  obtain ⟨k, h⟩ := law_true l1 hm1 hw1
  refine (laws_FnExactValidData.calls k A1 cap1' l1 true W hr1 hc1 rfl h).mono fun e W' ⟨he, bel⟩ => ?_
  subst he
  exact ⟨_, rfl, _, _, _, [], _, [], hW', trodAll_mk1 (shut_bool Tryd.underlying4 _), trodAll_mk1 (Below.trod laidOut (by kernel_rfl) (of_decide_eq_true (by kernel_rfl)) k0 bel lt0), rfl, bel.frame _, fun h => by cases h⟩
theorem over : Rows.fnExactValidDataRow.holds Tryd.pinned (OpenSpec.ofChange Rows.fnExactValidDataSpec) :=
  OpenClaim.holds_of_wide 3 Tryd.f3 rfl rfl rfl rfl rfl rfl rfl ⟨rfl, rfl, rfl, rfl, rfl⟩ rfl rfl rfl rfl rfl (by kernel_rfl) Tryd.func3 (by kernel_rfl)
    (of_decide_eq_true (by kernel_rfl)) (by unfold Func.isWrapper; first | (rw [if_pos (by decide +kernel)]; kernel_rfl) | (rw [if_neg (by decide +kernel)]; exact ⟨rfl, rfl⟩))
    (fun os started H enc _ => lifted os started H enc)
theorem card_holds : Rows.FnExactValidDataCardSaid :=
  Claim7.holds_tied_plain_at .later [] [.data, .pinned] true (true, "ddc44d16ed9f75b0bfc2b346388576c34828f2b129e4250f19a4f31c52d866bc") true over (fun _ h => by cases h) (by kernel_rfl) (fun _ h => by cases h) fnExactValidData_row_tie rfl ⟨rfl, rfl⟩ (by kernel_rfl) rfl
    (fun f fn hf hfn => by
      obtain rfl : f = 3 := Option.some.inj ((show Tryd.prog.funcNamed "loop.example/s01541/laws.FnExactValidData" = some 3 by kernel_rfl).symm.trans hf) |>.symm
      obtain rfl : fn = Tryd.f3 := (Option.some.inj (Tryd.func3.symm.trans hfn)).symm
      exact ⟨by kernel_rfl, fun j t ht => by
        rw [Tryd.params3] at ht
        have hm : t ∈ [22] := by simpa using Array.mem_of_getElem? ht
        have hall : ([22].all fun u => !Tryd.prog.wantsStandIn u) = true := by kernel_rfl
        exact (show Tryd.prog.wantsStandIn t = false by simpa using List.all_eq_true.1 hall t hm)⟩)
    (by kernel_rfl)
#print axioms card_holds
end Go.Proofs.YtogmphjhdkgdjaaDoor.fnExactValidData
namespace Go.Proofs.YtogmphjhdkgdjaaDoor
/-- The tied card, under a short name, for the claim. -/
theorem fnExactValidData_holds : Rows.FnExactValidDataCardSaid := fnExactValidData.card_holds
end Go.Proofs.YtogmphjhdkgdjaaDoor
