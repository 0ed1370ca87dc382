/- PROVED: for every heap, word and names that can be read, FnExactShowWord returns true, and its arguments read behind the call as they read before: the program's ShowWord answers what the specification's answers, byte for byte; what it writes into is its own. Conditions: none but the card's own (the library's tables that the row lists start as the program lays them). -/
import Derived.Test.YtggkkgkjhfgipaaDoorRows
import Derived.Test.YtggkkgkjhfgipaaDoorCards
import Derived.Test.YtggkkgkjhfgipaaDoorTie
import Derived.Test.YtggkkgkjhfgipaaDoorSwLaw
import Derived.Test.YtggkkgkjhfgipaaDoorSwHeap
import Derived.WalkKit
import Derived.ProofKit
import Derived.OpenShut
import Derived.ShutString
import Derived.ChangeOld
import Derived.Below
import Derived.SizedLaws
import Derived.Lib.SmallJoins
import Derived.Lib.LaidTab
import Derived.LaidMore
import Derived.Lay
import Derived.SevenTiedAt
import Derived.Stop.Joined
namespace Go.Proofs.YtggkkgkjhfgipaaDoor.fnExactShowWord
open Go.ChangeShapes Go.WideShapes Go.ChangeAt Go.RowKit Go.Joins
open Go.Proofs.YtggkkgkjhfgipaaDoor.QFnExactShowWord Go.Proofs.YtggkkgkjhfgipaaDoorW.PrintWords Go.Proofs.YtggkkgkjhfgipaaDoorW.PrintLast
set_option linter.unusedVariables false
set_option linter.unusedSimpArgs false
theorem ev_and {β : Type} {g : Nat → Option β} {b : β} {p : Nat → Prop} (h : ∃ K, ∀ k, K ≤ k → p k) (h2 : Ev g b) : ∃ K, ∀ k, K ≤ k → p k ∧ g k = some b := by
  obtain ⟨K, h⟩ := h
  obtain ⟨K2, h2⟩ := h2
  exact ⟨max K K2, fun k hk => ⟨h k (by omega), h2 k (by omega)⟩⟩
theorem law_true (A : Option Addr) (c : Nat) (ws : List Int) (top x : Int) (NA : Option Addr) (nc : Nat) (names : List (List Int)) (W : World) (hr : Kd.C (Kd.int .i64) W A ws.length ws) (hc : ws.length ≤ c) (hx : ∀ x ∈ ws, InI64 x) (hxx : InI64 x)
    (hn : Kd.C (Kd.slice 5 (Kd.int .u8)) W NA names.length names) (hnc : names.length ≤ nc) (hl : ws.length ≤ 9223372036854775807) (hln : names.length ≤ 9223372036854775807) (hnt : ∀ t ∈ names, t.length ≤ 9223372036854775807 ∧ ∀ b ∈ t, 0 ≤ b ∧ b < 256)
    (htab : Lib.TabIs Tryd.prog W "internal/strconv.uint64pow10" .u64 Lib.pow10Tab) :
    Calls Tryd.prog 3 #[.agg #[.slice A ws.length c, .int .i64 top], .int .i64 x, .slice NA names.length nc] W fun e w' => e = .returned (.bool true) ∧ Below W.heap.size W w' := by
  have hs1 := IntHelpSW.szHeap_eq ws top 1048576 hl (by omega) (by omega)
  have htl : (showX ws top names x).length ≤ 1000 := by
    unfold showX
    split
    · rw [List.length_take]; omega
    · simp
  by_cases h1 : (1048576 : Int) - ws.length < 0
  · rw [if_pos h1] at hs1
    exact law_sw A c ws top x NA nc names W hr hc hx hxx hn hnc 0 (-1) 0 (showX ws top names x) [] hs1 (fun h => absurd (by decide) h) (fun t ht => (hnt t ht).2) (fun h => absurd (by decide) h) rfl htl htab
  · rw [if_neg h1] at hs1
    obtain ⟨r, hr1, hr2⟩ := ByHelpSW.szByteSS_ev names hln (fun t ht => (hnt t ht).1) (1048576 - ws.length) (by omega) (by omega)
    by_cases h2 : r < 0
    · obtain ⟨k, hk⟩ := Ev.rounds hr1
      exact law_sw A c ws top x NA nc names W hr hc hx hxx hn hnc k (1048576 - ws.length) r (showX ws top names x) [] hs1 (fun _ => hk) (fun t ht => (hnt t ht).2) (fun _ h => absurd h2 h) rfl htl htab
    · obtain ⟨_, h3, h4⟩ : r ≤ 1048576 - ws.length ∧ names.length ≤ 1048576 ∧ ∀ t ∈ names, t.length ≤ 1048576 := by
        rcases hr2 with h | h
        · exact absurd h h2
        · exact h
      obtain ⟨b, hbl, hbM, hmk⟩ := MarkIntsSW.markHeap_ev ws top 1 (by omega) (by omega) (by omega)
      obtain ⟨K, hK⟩ := ev_and (ev_and (ev_and (ev_and (ev_and (ev_and hr1 (IntHelpSW.toHeap_ev ws top (by omega))) (ByHelpSW.eqByteS_refl (showX ws top names x) (by omega))) (IntHelpSW.eqHeap_refl ws top (by omega))) (ByHelpSW.eqByteSS_refl names (by omega) (fun t ht => by have := h4 t ht; omega))) hmk) (held_ev (showX ws top names x).length (by omega))
      obtain ⟨⟨⟨⟨⟨⟨g1, g2⟩, g3⟩, g4⟩, g5⟩, g6⟩, g7⟩ := hK K (Nat.le_refl _)
      exact law_sw A c ws top x NA nc names W hr hc hx hxx hn hnc K (1048576 - ws.length) r (showX ws top names x) b hs1 (fun _ => g1) (fun t ht => (hnt t ht).2)
        (fun _ _ => ⟨⟨g2, g3, g4, g5, g6, g7⟩, h3, h4, fun t ht => Ev.rounds (ByHelpSW.toByteS_ev t (by have := h4 t ht; omega)), by omega⟩) rfl htl htab
/-- The table of powers of ten, out of the card's own condition. -/
theorem tab_of {W : World} (h : laidMetH Tryd.prog Rows.fnExactShowWordRow.laid W) : Lib.TabIs Tryd.prog W "internal/strconv.uint64pow10" .u64 Lib.pow10Tab := by
  rw [MakeChecks.laidMetH_plain _ _ _ (by kernel_rfl)] at h
  obtain ⟨ps, h1, _⟩ := h
  obtain ⟨g1, t1, cs1, n1, p1, q1, _, _, _, _, h2, _⟩ := h1
  obtain ⟨g2, t2, cs2, n2, p2, q2, _, _, _, _, h3, _⟩ := h2
  obtain ⟨g3, t3, cs3, n3, p3, q3, hg, ht, hvar, hd, _, _⟩ := h3
  obtain ⟨g, hg'⟩ : ∃ g, Tryd.prog.globalNamed "internal/strconv.uint64pow10" = some g := ⟨g3, hg⟩
  have hd' : DataW.trod (fun _ => ()) Tryd.prog W 0 (fun _ => true) false n3 t3 cs3.toList = some (Lib.tabData .u64 Lib.pow10Tab, p3) := hd
  obtain rfl : t3 = 123 := by
    have hg3 : Tryd.prog.globalNamed "internal/strconv.uint64pow10" = some 0 := by kernel_rfl
    have e := Option.some.inj (hg3.symm.trans hg)
    rw [← e] at ht
    exact (Option.some.inj ((show (Tryd.prog.globals[0]?).map (·.type) = some 123 by kernel_rfl).symm.trans ht)).symm
  unfold Lib.TabIs
  rw [hvar, ← Lib.cells_of_tab Tryd.underlying123 Tryd.underlying113 (by kernel_rfl) (by kernel_rfl) hd']
theorem own : ownKnob Tryd.prog.godebug = none := by kernel_rfl
theorem laidOut : laidOutB Tryd.prog = true := by kernel_rfl
theorem cellsH : Tryd.prog.cellsOf 24 = 2 := by kernel_rfl
theorem opens_name : Opens Tryd.prog 28 (Kd.slice 5 (Kd.int .u8)) (fun l => l.length ≤ 9223372036854775807 ∧ ∀ a ∈ l, (Lit.int .u8 a).wf = true) :=
  opens_slice 5 Tryd.underlying28 (by kernel_rfl) (opens_int Tryd.underlying5)
set_option maxHeartbeats 1000000 in
set_option maxRecDepth 100000 in
theorem lifted (os : Os) (started : os.Started) (H : Type) (enc : TypeId × Value → H) :
    ReturnsInHanded {} Tryd.checked os 3 .any (fun w args => (Rows.fnExactShowWordSpec.pre enc Tryd.prog Tryd.f3 Rows.fnExactShowWordRow.domain false w args ∧ laidMetH Tryd.prog Rows.fnExactShowWordRow.laid w) ∧ sizedMet enc Tryd.prog Tryd.f3 (OpenSpec.ofChange Rows.fnExactShowWordSpec) false w args)
      (Rows.fnExactShowWordSpec.post enc Tryd.prog Tryd.f3 false true false false) := by
  refine returnsInHanded_of_change_and (C := Tryd.checked) (X := fun w _ => laidMetH Tryd.prog Rows.fnExactShowWordRow.laid w) (fun _ _ _ hh h => h.of_heap hh) own started (by kernel_rfl) Tryd.func3
    (ChangeSpec.witness_shaped (enc := enc) (C := Tryd.checked) (os := os) (X := fun w _ => laidMetH Tryd.prog Rows.fnExactShowWordRow.laid w) false (World.laidAll Tryd.prog os Rows.fnExactShowWordRow.laid) #[.agg #[.slice none 0 0, .int .i64 0], .int .i64 0, .slice none 0 0] 8 (World.laidAll_os _ _ _)
      (World.shaped_of_ZipB (by kernel_rfl) (by kernel_rfl)) (by kernel_rfl) (by kernel_rfl) (by kernel_rfl)
      (by rw [MakeChecks.laidMetH_plain _ _ _ (by kernel_rfl)]; exact laidMet_laidAll _ (by kernel_rfl) (by kernel_rfl))) ?_
  intro W base args ds gs before hval0 hW _ _ hX _
  have hval : ∀ (j : Nat) t v, Tryd.f3.params[j]? = some t → args[j]? = some v → Value.okWide Tryd.prog W .any base t v := hval0
  have hW' := hW
  obtain ⟨p, q, hA0, hV, rfl, hfz, hnd⟩ := hW
  have hA : DataW.TrodAll enc Tryd.prog W 0 (fun _ => true) true Tryd.f3.params.toList args.toList ds p := hA0
  rw [Tryd.params3] at hA hval
  obtain ⟨v0, vs0, d0, ds0, p0, q0, hargs, rfl, rfl, h0, r0⟩ := trodAll_cons hA
  obtain ⟨v1, vs1, d1, ds1, p1, q1, rfl, rfl, rfl, h1, r1⟩ := trodAll_cons r0
  obtain ⟨v2, vs2, d2, ds2, p2, q2, rfl, rfl, rfl, h2, r2⟩ := trodAll_cons r1
  obtain ⟨rfl, rfl, rfl⟩ := trodAll_nil r2
  obtain rfl : args = #[v0, v1, v2] := by cases args; simp_all
  obtain ⟨rfl, rfl⟩ := trodVars_none hV
  have k0 := h0
  have lt0 : ∀ x ∈ p0, x.block < W.heap.size := by obtain ⟨m, hm⟩ := k0; exact DataW.trod_lt m _ _ _ hm
  have k2 := h2
  have lt2 : ∀ x ∈ p2, x.block < W.heap.size := by obtain ⟨m, hm⟩ := k2; exact DataW.trod_lt m _ _ _ hm
  obtain ⟨c0, c1, y0, y1, m, rfl, _, _, hy0, hy1⟩ := open_agg2 Tryd.underlying24 (by kernel_rfl) cellsH (hval 0 24 v0 rfl rfl) h0
  obtain ⟨A0, cap0, l0, e0, hc0, hr0, hm0, hw0⟩ := opens_row Tryd.underlying22 (by kernel_rfl) (opens_int Tryd.underlying3) hy0
  obtain ⟨top, e1, _, wtop⟩ := DataW.trod_int Tryd.underlying3 hy1
  simp at e0 e1
  subst e0 e1
  obtain ⟨x, rfl, rfl, rfl, wx⟩ := open_int Tryd.underlying3 (hval 1 3 v1 rfl rfl) h1
  obtain ⟨a2, len2, cap2, rfl⟩ := okWide_slice Tryd.underlying25 (hval 2 25 v2 rfl rfl)
  obtain ⟨fuel2, hf2⟩ := h2
  obtain ⟨A2, cap2', l2, e2, hc2, hr2, hm2, hw2⟩ := opens_row Tryd.underlying25 (by kernel_rfl) opens_name hf2
  have e3 : [Value.slice A2 l2.length cap2'] = [Value.slice a2 len2 cap2] := e2.symm
  obtain ⟨rfl, rfl, rfl⟩ : A2 = a2 ∧ l2.length = len2 ∧ cap2' = cap2 := by simpa using e3
  refine (law_true A0 cap0 l0 top x A2 cap2' l2 W hr0 hc0 (fun y hy => wf_i64 (hw0 y hy)) (wf_i64 wx) hr2 hc2 hm0 hm2 (fun t ht => ⟨(hw2 t ht).1, fun b hb => wf_u8 ((hw2 t ht).2 b hb)⟩) (tab_of hX)).mono fun e W' ⟨he, bel⟩ => ?_
  subst he
  exact ⟨_, rfl, _, _, _, [], _, [], hW', trodAll_mk1 (shut_bool Tryd.underlying4 _), (trodAll_cons_mk (Below.trod laidOut (by kernel_rfl) (of_decide_eq_true (by kernel_rfl)) k0 bel lt0) (trodAll_cons_mk (shut_int Tryd.underlying3 wx) (trodAll_cons_mk (Below.trod laidOut (by kernel_rfl) (of_decide_eq_true (by kernel_rfl)) k2 bel lt2) trodAll_mk0))), rfl, bel.frame _, fun h => by cases h⟩
theorem over : Rows.fnExactShowWordRow.holds Tryd.pinned (OpenSpec.ofChange Rows.fnExactShowWordSpec) :=
  OpenClaim.holds_of_wide 3 Tryd.f3 rfl rfl rfl rfl rfl rfl rfl ⟨rfl, rfl, rfl, rfl, rfl⟩ rfl rfl rfl rfl rfl (by kernel_rfl) Tryd.func3 (by kernel_rfl)
    (of_decide_eq_true (by kernel_rfl)) (by unfold Func.isWrapper; first | (rw [if_pos (by decide +kernel)]; kernel_rfl) | (rw [if_neg (by decide +kernel)]; exact ⟨rfl, rfl⟩))
    (fun os started H enc _ => lifted os started H enc)
theorem card_holds : Rows.FnExactShowWordCardSaid :=
  Claim7.holds_tied_plain_at .later [] [.data, .data, .data] true (true, "d51a80117b74aa39242fa61489e9cdc1b6be06a001bcb6a3bf365b83efcfc1d4") true over (fun _ h => by cases h) (by kernel_rfl) (fun _ h => by cases h) fnExactShowWord_row_tie rfl ⟨rfl, rfl⟩ (by kernel_rfl) rfl
    (fun f fn hf hfn => by
      obtain rfl : f = 3 := Option.some.inj ((show Tryd.prog.funcNamed "loop.example/s01541/laws.FnExactShowWord" = some 3 by kernel_rfl).symm.trans hf) |>.symm
      obtain rfl : fn = Tryd.f3 := (Option.some.inj (Tryd.func3.symm.trans hfn)).symm
      exact ⟨by kernel_rfl, fun j t ht => by
        rw [Tryd.params3] at ht
        have hm : t ∈ [24, 3, 25] := by simpa using Array.mem_of_getElem? ht
        have hall : ([24, 3, 25].all fun u => !Tryd.prog.wantsStandIn u) = true := by kernel_rfl
        exact (show Tryd.prog.wantsStandIn t = false by simpa using List.all_eq_true.1 hall t hm)⟩)
    (by kernel_rfl)
#print axioms card_holds
end Go.Proofs.YtggkkgkjhfgipaaDoor.fnExactShowWord
namespace Go.Proofs.YtggkkgkjhfgipaaDoor
/-- The tied card, under a short name, for the claim. -/
theorem fnExactShowWord_holds : Rows.FnExactShowWordCardSaid := fnExactShowWord.card_holds
end Go.Proofs.YtggkkgkjhfgipaaDoor
