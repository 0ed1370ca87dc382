/- PROVED: for every module that can be read, FnExactEncodeImage returns true, and its argument reads behind the call as it read before: the program's EncodeImage answers what the specification's answers, byte for byte; it writes into no argument, keeps nothing of one, and what it answers is its own. Conditions: none but the card's own (Go's tables utf8.first and utf8.acceptRanges start as the program lays them). -/
import Derived.Test.YtogmphjhdkgdjaaDoorRows
import Derived.Test.YtogmphjhdkgdjaaDoorCards
import Derived.Test.YtogmphjhdkgdjaaDoorTie
import Derived.Test.YtogmphjhdkgdjaaDoorEiL
import Derived.Test.YtogmphjhdkgdjaaDoorZRowData
import Derived.WalkKit
import Derived.ProofKit
import Derived.OpenShut
import Derived.ShutString
import Derived.ChangeOld
import Derived.Below
import Derived.SizedLaws
import Derived.Lib.SmallJoins
import Derived.LaidMore
import Derived.Lay
import Derived.SevenTiedAt
import Derived.Stop.Joined
namespace Go.Proofs.YtogmphjhdkgdjaaDoor.fnExactEncodeImage
open Go.ChangeShapes Go.WideShapes Go.ChangeAt Go.RowKit Go.Joins
open Go.Proofs.YtogmphjhdkgdjaaDoor.QFnExactValidModule Go.Proofs.YtogmphjhdkgdjaaDoorW.PrintWords
set_option linter.unusedVariables false
set_option linter.unusedSimpArgs false
/-- What is known of a datum, an instruction, a function that was read. -/
def Dok (x : S55) : Prop := x.f2.length ≤ 9223372036854775807 ∧ (∀ b ∈ x.f2, 0 ≤ b ∧ b < 256) ∧ I64 x.f0 ∧ I64 x.f1 ∧ I64 x.f3
def Cok (l : List S55) : Prop := l.length ≤ 9223372036854775807 ∧ ∀ x ∈ l, Dok x
def Iok (x : S150) : Prop := I64 x.f0 ∧ I64 x.f1 ∧ I64 x.f2
def Fok (x : S110) : Prop := x.f1.length ≤ 9223372036854775807 ∧ x.f2.length ≤ 9223372036854775807 ∧ I64 x.f0 ∧ ∀ y ∈ x.f2, Iok y
theorem pure_of {cs : List (List S55)} {g : Int} {fs : List S110} (hg : I64 g) (hcx : ∀ l ∈ cs, Cok l) (hfx : ∀ x ∈ fs, Fok x) (hs : HelpEnc.Small cs fs) {k : Nat} (hk : laws_toModule.f k cs g fs = some (cs.map HelpEnc.cvC, g, fs.map HelpEnc.cvF)) : EncPure k cs g fs (cs.map HelpEnc.cvC) (fs.map HelpEnc.cvF) := by
  refine ⟨hk, ⟨by simpa using hs.clen, fun c hc => ?_, by simpa using hs.flen, fun x hx => ?_⟩, hg, fun c hc y hy => ?_, fun f hf => ?_, fun c hc => ?_, fun f hf => ?_⟩
  · obtain ⟨l, hl, rfl⟩ := List.mem_map.1 hc
    obtain ⟨h1, h2⟩ := hs.con l hl
    refine ⟨by simpa [HelpEnc.cvC] using h1, fun y hy => ?_, fun y hy => ?_⟩
    · obtain ⟨x, hxm, rfl⟩ := List.mem_map.1 hy
      exact ⟨((hcx l hl).2 x hxm).2.1, by have := h2 x hxm; show x.f2.length ≤ _; omega⟩
    · obtain ⟨x, hxm, rfl⟩ := List.mem_map.1 hy
      exact ((hcx l hl).2 x hxm).2.2.2.2.2
  · obtain ⟨y, hy, rfl⟩ := List.mem_map.1 hx
    obtain ⟨h1, h2⟩ := hs.fun_ y hy
    exact ⟨h1, by simpa [HelpEnc.cvF] using h2⟩
  · obtain ⟨l, hl, rfl⟩ := List.mem_map.1 hc
    obtain ⟨x, hxm, rfl⟩ := List.mem_map.1 hy
    have := ((hcx l hl).2 x hxm).2.2
    exact ⟨this.1, this.2.1, this.2.2⟩
  · obtain ⟨y, hy, rfl⟩ := List.mem_map.1 hf
    refine ⟨(hfx y hy).2.2.1, fun z hz => ?_⟩
    obtain ⟨u, hu, rfl⟩ := List.mem_map.1 hz
    exact (hfx y hy).2.2.2 u hu
  · obtain ⟨l, hl, rfl⟩ := List.mem_map.1 hc
    obtain ⟨h1, h2⟩ := hs.con l hl
    refine ⟨by simpa [HelpEnc.cvC] using h1, fun y hy => ?_⟩
    obtain ⟨x, hxm, rfl⟩ := List.mem_map.1 hy
    exact h2 x hxm
  · obtain ⟨y, hy, rfl⟩ := List.mem_map.1 hf
    obtain ⟨h1, h2⟩ := hs.fun_ y hy
    exact ⟨h1, by simpa [HelpEnc.cvF] using h2⟩
theorem law_true (A0 A2 : Option Addr) (c0 c2 : Nat) (cs : List (List S55)) (g : Int) (fs : List S110) (W : World) (hr0 : Kd.C (Kd.slice 55 k55) W A0 cs.length cs) (hc0 : cs.length ≤ c0) (hr2 : Kd.C k110 W A2 fs.length fs) (hc2 : fs.length ≤ c2)
    (hg : I64 g) (hc : cs.length ≤ 9223372036854775807) (hcx : ∀ l ∈ cs, Cok l) (hf : fs.length ≤ 9223372036854775807) (hfx : ∀ x ∈ fs, Fok x) :
    Calls Tryd.prog 6 #[.agg #[.slice A0 cs.length c0, .int .i64 g, .slice A2 fs.length c2]] W fun e w' => e = .returned (.bool true) ∧ Below W.heap.size W w' := by
  obtain ⟨r, ⟨K1, h1⟩, hr2'⟩ := HelpEnc.szModule_ev cs g fs hc (fun l hl => ⟨(hcx l hl).1, fun x hx => ((hcx l hl).2 x hx).1⟩) hf (fun x hx => ⟨(hfx x hx).1, (hfx x hx).2.1⟩)
  by_cases hn : r < 0
  · exact law_enc A0 A2 c0 c2 cs g fs W hr0 hc0 hr2 hc2 K1 r [] [] (h1 K1 (Nat.le_refl _)) (fun h => absurd hn h)
  · obtain hs : HelpEnc.Small cs fs := by
      rcases hr2' with h | h
      · omega
      · exact h
    obtain ⟨K2, h2⟩ := HelpEnc.toModule_ev hs g
    exact law_enc A0 A2 c0 c2 cs g fs W hr0 hc0 hr2 hc2 (max K1 K2) r _ _ (h1 _ (Nat.le_max_left _ _)) (fun _ => pure_of hg hcx hfx hs (h2 _ (Nat.le_max_right _ _)))
theorem own : ownKnob Tryd.prog.godebug = none := by kernel_rfl
theorem laidOut : laidOutB Tryd.prog = true := by kernel_rfl
theorem opens_datum : Opens Tryd.prog 55 k55 Dok := by
  have h := opens_iso (P := Tryd.prog) (t := 55) (fun x : S55 => (x.f0, x.f1, x.f2, x.f3)) (fun a => ⟨a.1, a.2.1, a.2.2.1, a.2.2.2⟩) (fun _ => rfl)
    (opens_struct4 Tryd.underlying55 (by kernel_rfl) rfl rfl rfl rfl (by kernel_rfl) (by kernel_rfl) (by kernel_rfl) (by kernel_rfl) (opens_int Tryd.underlying3) (opens_int Tryd.underlying3) (opens_slice 5 Tryd.underlying42 (by kernel_rfl) (opens_int Tryd.underlying5)) (opens_int Tryd.underlying3))
  intro H enc W fuel cs x hx
  obtain ⟨a, k, g⟩ := h hx
  exact ⟨a, k, g.2.2.1.1, fun b hb => wf_u8 (g.2.2.1.2 b hb), wf_i64 g.1, wf_i64 g.2.1, wf_i64 g.2.2.2⟩
theorem opens_ins : Opens Tryd.prog 150 k150 Iok := by
  have h := opens_iso (P := Tryd.prog) (t := 150) (fun x : S150 => (x.f0, x.f1, x.f2)) (fun a => ⟨a.1, a.2.1, a.2.2⟩) (fun _ => rfl)
    (opens_struct3 Tryd.underlying150 (by kernel_rfl) rfl rfl rfl (by kernel_rfl) (by kernel_rfl) (by kernel_rfl) (opens_int Tryd.underlying3) (opens_int Tryd.underlying3) (opens_int Tryd.underlying3))
  intro H enc W fuel cs x hx
  obtain ⟨a, k, g⟩ := h hx
  exact ⟨a, k, wf_i64 g.1, wf_i64 g.2.1, wf_i64 g.2.2⟩
theorem opens_func : Opens Tryd.prog 110 k110 Fok := by
  have h := opens_iso (P := Tryd.prog) (t := 110) (fun x : S110 => (x.f0, x.f1, x.f2)) (fun a => ⟨a.1, a.2.1, a.2.2⟩) (fun _ => rfl)
    (opens_struct3 Tryd.underlying110 (by kernel_rfl) rfl rfl rfl (by kernel_rfl) (by kernel_rfl) (by kernel_rfl) (opens_int Tryd.underlying3) (opens_slice 4 Tryd.underlying65 (by kernel_rfl) (opens_bool Tryd.underlying4)) (opens_slice 150 Tryd.underlying108 (by kernel_rfl) opens_ins))
  intro H enc W fuel cs x hx
  obtain ⟨a, k, g⟩ := h hx
  exact ⟨a, k, g.2.1.1, g.2.2.1, wf_i64 g.1, g.2.2.2⟩
theorem cellsM : Tryd.prog.cellsOf 32 = 3 := by kernel_rfl
set_option maxHeartbeats 1000000 in
set_option maxRecDepth 100000 in
theorem lifted (os : Os) (started : os.Started) (H : Type) (enc : TypeId × Value → H) :
    ReturnsInHanded {} Tryd.checked os 6 .any (fun w args => (Rows.fnExactEncodeImageSpec.pre enc Tryd.prog Tryd.f6 Rows.fnExactEncodeImageRow.domain false w args ∧ laidMetH Tryd.prog Rows.fnExactEncodeImageRow.laid w) ∧ sizedMet enc Tryd.prog Tryd.f6 (OpenSpec.ofChange Rows.fnExactEncodeImageSpec) false w args)
      (Rows.fnExactEncodeImageSpec.post enc Tryd.prog Tryd.f6 false true false false) := by
  refine returnsInHanded_of_change_and (C := Tryd.checked) (X := fun w _ => laidMetH Tryd.prog Rows.fnExactEncodeImageRow.laid w) (fun _ _ _ hh h => h.of_heap hh) own started (by kernel_rfl) Tryd.func6
    (ChangeSpec.witness_shaped (enc := enc) (C := Tryd.checked) (os := os) (X := fun w _ => laidMetH Tryd.prog Rows.fnExactEncodeImageRow.laid w) false (World.laidAll Tryd.prog os Rows.fnExactEncodeImageRow.laid) #[.agg #[.slice none 0 0, .int .i64 0, .slice none 0 0]] 8 (World.laidAll_os _ _ _)
      (World.shaped_of_ZipB (by kernel_rfl) (by kernel_rfl)) (by kernel_rfl) (by kernel_rfl) (by kernel_rfl)
      (by rw [MakeChecks.laidMetH_plain _ _ _ (by kernel_rfl)]; exact laidMet_laidAll _ (by kernel_rfl) (by kernel_rfl))) ?_
  intro W base args ds gs before hval0 hW _ _ _ _
  have hval : ∀ (j : Nat) t v, Tryd.f6.params[j]? = some t → args[j]? = some v → Value.okWide Tryd.prog W .any base t v := hval0
  have hW' := hW
  obtain ⟨p, q, hA0, hV, rfl, hfz, hnd⟩ := hW
  have hA : DataW.TrodAll enc Tryd.prog W 0 (fun _ => true) true Tryd.f6.params.toList args.toList ds p := hA0
  rw [Tryd.params6] at hA hval
  obtain ⟨v0, d0, rfl, rfl, h0⟩ := trodAll_one hA
  obtain ⟨rfl, rfl⟩ := trodVars_none hV
  have k0 := h0
  have lt0 : ∀ x ∈ p, x.block < W.heap.size := by obtain ⟨m, hm⟩ := k0; exact DataW.trod_lt m _ _ _ hm
  obtain ⟨c0, c1, c2, y0, y1, y2, m, rfl, _, _, hy0, hy1, hy2⟩ := open_agg3 Tryd.underlying32 (by kernel_rfl) cellsM (hval 0 32 v0 rfl rfl) h0
  obtain ⟨A0, cap0, l0, e0, hc0, hr0, hm0, hw0⟩ := opens_row Tryd.underlying29 (by kernel_rfl) (opens_slice 55 Tryd.underlying22 (by kernel_rfl) opens_datum) hy0
  obtain ⟨gl, e1, _, hgl⟩ := DataW.trod_int Tryd.underlying3 hy1
  obtain ⟨A2, cap2, l2, e2, hc2, hr2, hm2, hw2⟩ := opens_row Tryd.underlying30 (by kernel_rfl) opens_func hy2
  simp at e0 e1 e2
  subst e0 e1 e2
  refine (law_true A0 A2 cap0 cap2 l0 gl l2 W hr0 hc0 hr2 hc2 (wf_i64 hgl) hm0 hw0 hm2 hw2).mono fun e W' ⟨he, bel⟩ => ?_
  subst he
  exact ⟨_, rfl, _, _, _, [], _, [], hW', trodAll_mk1 (shut_bool Tryd.underlying4 _), trodAll_mk1 (Below.trod laidOut (by kernel_rfl) (of_decide_eq_true (by kernel_rfl)) k0 bel lt0), rfl, bel.frame _, fun h => by cases h⟩
theorem over : Rows.fnExactEncodeImageRow.holds Tryd.pinned (OpenSpec.ofChange Rows.fnExactEncodeImageSpec) :=
  OpenClaim.holds_of_wide 6 Tryd.f6 rfl rfl rfl rfl rfl rfl rfl ⟨rfl, rfl, rfl, rfl, rfl⟩ rfl rfl rfl rfl rfl (by kernel_rfl) Tryd.func6 (by kernel_rfl)
    (of_decide_eq_true (by kernel_rfl)) (by unfold Func.isWrapper; first | (rw [if_pos (by decide +kernel)]; kernel_rfl) | (rw [if_neg (by decide +kernel)]; exact ⟨rfl, rfl⟩))
    (fun os started H enc _ => lifted os started H enc)
theorem card_holds : Rows.FnExactEncodeImageCardSaid :=
  Claim7.holds_tied_plain_at .later [] [.data, .pinned] true (true, "ddc44d16ed9f75b0bfc2b346388576c34828f2b129e4250f19a4f31c52d866bc") true over (fun _ h => by cases h) (by kernel_rfl) (fun _ h => by cases h) fnExactEncodeImage_row_tie rfl ⟨rfl, rfl⟩ (by kernel_rfl) rfl
    (fun f fn hf hfn => by
      obtain rfl : f = 6 := Option.some.inj ((show Tryd.prog.funcNamed "loop.example/s01541/laws.FnExactEncodeImage" = some 6 by kernel_rfl).symm.trans hf) |>.symm
      obtain rfl : fn = Tryd.f6 := (Option.some.inj (Tryd.func6.symm.trans hfn)).symm
      exact ⟨by kernel_rfl, fun j t ht => by
        rw [Tryd.params6] at ht
        have hm : t ∈ [32] := by simpa using Array.mem_of_getElem? ht
        have hall : ([32].all fun u => !Tryd.prog.wantsStandIn u) = true := by kernel_rfl
        exact (show Tryd.prog.wantsStandIn t = false by simpa using List.all_eq_true.1 hall t hm)⟩)
    (by kernel_rfl)
#print axioms card_holds
end Go.Proofs.YtogmphjhdkgdjaaDoor.fnExactEncodeImage
namespace Go.Proofs.YtogmphjhdkgdjaaDoor
/-- The tied card, under a short name, for the claim. -/
theorem fnExactEncodeImage_holds : Rows.FnExactEncodeImageCardSaid := fnExactEncodeImage.card_holds
end Go.Proofs.YtogmphjhdkgdjaaDoor
