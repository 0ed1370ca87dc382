/- PROVED: for every row of data that can be read, FnExactWriteData returns true, and its argument reads behind the call as it read before: the program's WriteData answers what the specification's answers, byte for byte; what it writes into is its own. Conditions: none but the card's own (the library's tables that the row lists start as the program lays them). -/
import Derived.Test.YtogmphjhdkgdjaaDoorRows
import Derived.Test.YtogmphjhdkgdjaaDoorCards
import Derived.Test.YtogmphjhdkgdjaaDoorTie
import Derived.Test.YtogmphjhdkgdjaaDoorWriteL
import Derived.Test.YtogmphjhdkgdjaaDoorRowData
import Derived.WalkKit
import Derived.ProofKit
import Derived.OpenShut
import Derived.ShutString
import Derived.ChangeOld
import Derived.Below
import Derived.SizedLaws
import Derived.Lib.SmallJoins
import Derived.Lib.LaidTab
import Derived.LaidMore
import Derived.Lay
import Derived.SevenTiedAt
import Derived.Stop.Joined
namespace Go.Proofs.YtogmphjhdkgdjaaDoor.fnExactWriteData
open Go.ChangeShapes Go.WideShapes Go.ChangeAt Go.RowKit Go.Joins
open Go.Proofs.YtogmphjhdkgdjaaDoor.QFnExactWriteData Go.Proofs.YtogmphjhdkgdjaaDoorW.PrintWords Go.Proofs.YtogmphjhdkgdjaaDoorW.PrintLast
set_option linter.unusedVariables false
set_option linter.unusedSimpArgs false
/-- What is known of a datum that was read. -/
def Dok (x : S55) : Prop := x.f2.length ≤ 9223372036854775807 ∧ (∀ b ∈ x.f2, 0 ≤ b ∧ b < 256) ∧ x.f3 ≤ 9223372036854775807
/-- In valid rows of data all counts are from 0 on. -/
theorem valid_good : ∀ (f : Nat) (l : List Dat), rowsF f l = true → ∀ d ∈ l, goodB d = true := by
  have kids : ∀ (m : Nat), (∀ l r, endD m l = some r → ∃ p, p ++ r = l ∧ ∀ d ∈ p, goodB d = true) → ∀ (c : Nat) (l r : List Dat), kidsF (endD m) c l = some r → ∃ p, p ++ r = l ∧ ∀ d ∈ p, goodB d = true := by
    intro m ih c
    induction c with
    | zero => intro l r h; simp only [kidsF, Option.some.injEq] at h; subst h; exact ⟨[], rfl, by simp⟩
    | succ c ihc =>
      intro l r h
      simp only [kidsF] at h
      cases hl : endD m l with
      | none => rw [hl] at h; cases h
      | some l1 =>
        rw [hl] at h
        obtain ⟨p, hp, hg⟩ := ih l l1 hl
        obtain ⟨q, hq, hg2⟩ := ihc l1 r h
        exact ⟨p ++ q, by rw [List.append_assoc, hq, hp], fun d hd => (List.mem_append.1 hd).elim (hg d) (hg2 d)⟩
  have ends : ∀ (m : Nat) (l r : List Dat), endD m l = some r → ∃ p, p ++ r = l ∧ ∀ d ∈ p, goodB d = true := by
    intro m
    induction m with
    | zero =>
      intro l r h
      cases l with
      | nil => simp [endD] at h
      | cons d l =>
        cases hg : goodB d with
        | false => rw [endD_bad _ _ hg] at h; cases h
        | true =>
          by_cases h3 : d.k = 3
          · rw [endD_zero _ h3] at h; cases h
          · rw [endD_atom _ _ hg h3] at h; cases h; exact ⟨[d], rfl, by simpa using hg⟩
    | succ m ih =>
      intro l r h
      cases l with
      | nil => simp [endD] at h
      | cons d l =>
        cases hg : goodB d with
        | false => rw [endD_bad _ _ hg] at h; cases h
        | true =>
          by_cases h3 : d.k = 3
          · rw [endD_list _ _ hg h3] at h
            obtain ⟨p, hp, hg2⟩ := kids m ih _ _ _ h
            exact ⟨d :: p, by rw [List.cons_append, hp], fun x hx => (List.mem_cons.1 hx).elim (fun e => e ▸ hg) (hg2 x)⟩
          · rw [endD_atom _ _ hg h3] at h; cases h; exact ⟨[d], rfl, by simpa using hg⟩
  intro f
  induction f with
  | zero => intro l h d hd; cases l with | nil => cases hd | cons => simp [rowsF] at h
  | succ f ih =>
    intro l h d hd
    cases l with
    | nil => cases hd
    | cons e l =>
      simp only [rowsF] at h
      cases he : endD 100 (e :: l) with
      | none => rw [he] at h; cases h
      | some r =>
        rw [he] at h
        obtain ⟨p, hp, hg⟩ := ends 100 _ _ he
        rw [← hp] at hd
        exact (List.mem_append.1 hd).elim (hg d) (ih r h d)
theorem law_true (A : Option Addr) (c : Nat) (l : List S55) (W : World) (hr : Kd.C k55 W A l.length l) (hc : l.length ≤ c) (hl : l.length ≤ 9223372036854775807) (hx : ∀ x ∈ l, Dok x) (htab : Lib.TabIs Tryd.prog W "internal/strconv.uint64pow10" .u64 Lib.pow10Tab) :
    Calls Tryd.prog 5 #[.slice A l.length c] W fun e w' => e = .returned (.bool true) ∧ Below W.heap.size W w' := by
  obtain ⟨r, hr1, hr2⟩ := DatVD.szDatumS_ev l hl (fun x h => (hx x h).1) 1048576 (by omega) (by omega)
  by_cases hn : r < 0
  · obtain ⟨k, hk⟩ := Ev.rounds hr1
    exact law_wd A c l W hr hc k r [] [] hk (fun h => absurd hn h) (by decide) (fun h => absurd hn h) (fun h => absurd hn h) (by simp) htab
  · obtain ⟨_, h1, h2⟩ : r ≤ 1048576 ∧ l.length ≤ 1048576 ∧ ∀ x ∈ l, x.f2.length ≤ 1048576 := by
      rcases hr2 with h | h
      · omega
      · exact h
    have hcv := DatVD.toDatumS_ev l h1 (fun x h => by have := h2 x h; omega)
    have hf : SpecVD.Fits (l.map DatVD.cvD) := by
      refine ⟨by simpa using h1, fun y hy => ?_, fun y hy => ?_⟩
      · obtain ⟨x, hxm, rfl⟩ := List.mem_map.1 hy
        exact ⟨(hx x hxm).2.1, by have := h2 x hxm; show x.f2.length ≤ _; omega⟩
      · obtain ⟨x, hxm, rfl⟩ := List.mem_map.1 hy
        exact (hx x hxm).2.2
    have hcnt : validD ((l.map DatVD.cvD).map SpecVD.toD) = true → ∀ x ∈ l.map DatVD.cvD, 0 ≤ x.f3 := by
      intro hv x hxm
      unfold validD at hv
      simp only [Bool.and_eq_true] at hv
      have hg := valid_good _ _ hv.2 (SpecVD.toD x) (List.mem_map_of_mem hxm)
      by_cases h3 : (SpecVD.toD x).k = 3
      · exact good_cnt hg h3
      · have := atom_cnt hg h3
        show 0 ≤ (SpecVD.toD x).c
        omega
    have hw := SpecWD.write_ev hf hcnt
    have htl : (writeT ((l.map DatVD.cvD).map SpecVD.toD)).length ≤ 1000000000 := by
      unfold writeT
      cases hv : validD ((l.map DatVD.cvD).map SpecVD.toD) with
      | false => simp
      | true =>
        simp only [if_true]
        cases hu : rowsT ((l.map DatVD.cvD).map SpecVD.toD).length ((l.map DatVD.cvD).map SpecVD.toD) with
        | none => simp
        | some u =>
          have := rowsT_len _ _ _ hu
          simp only [List.length_map] at this
          simp only [Option.getD_some]
          omega
    have hed := DatVD.eqDatumS_refl (l.map DatVD.cvD) (by simp; omega) (fun y hy => by
      obtain ⟨x, hxm, rfl⟩ := List.mem_map.1 hy
      have := h2 x hxm
      show x.f2.length ≤ _
      omega)
    obtain ⟨K, hK⟩ := ev_and (ev_and (ev_and (ev_and (ev_and (ev_and hr1 hcv) hw) (ImplVD.valid_ev hf)) (DatVD.eqByteS_refl (writeT ((l.map DatVD.cvD).map SpecVD.toD)) (by omega))) hed) (held_ev (writeT ((l.map DatVD.cvD).map SpecVD.toD)).length (by omega))
    obtain ⟨⟨⟨⟨⟨⟨g1, g2⟩, g3⟩, g4⟩, g5⟩, g6⟩, g7⟩ := hK K (Nat.le_refl _)
    exact law_wd A c l W hr hc K r (l.map DatVD.cvD) (writeT ((l.map DatVD.cvD).map SpecVD.toD)) g1 (fun _ => ⟨g2, g3, g4, g5, g6, g7⟩) rfl (fun _ y hy => (hf.byt y hy).1) (fun _ => ⟨by simpa using h1, fun y hy => by
      obtain ⟨x, hxm, rfl⟩ := List.mem_map.1 hy
      exact h2 x hxm⟩) htl htab
/-- The table of powers of ten, out of the card's own condition. -/
theorem tab_of {W : World} (h : laidMetH Tryd.prog Rows.fnExactWriteDataRow.laid W) : Lib.TabIs Tryd.prog W "internal/strconv.uint64pow10" .u64 Lib.pow10Tab := by
  rw [MakeChecks.laidMetH_plain _ _ _ (by kernel_rfl)] at h
  obtain ⟨ps, h1, _⟩ := h
  obtain ⟨g1, t1, cs1, n1, p1, q1, _, _, _, _, h2, _⟩ := h1
  obtain ⟨g2, t2, cs2, n2, p2, q2, _, _, _, _, h3, _⟩ := h2
  obtain ⟨g3, t3, cs3, n3, p3, q3, hg, ht, hvar, hd, _, _⟩ := h3
  obtain ⟨g, hg'⟩ : ∃ g, Tryd.prog.globalNamed "internal/strconv.uint64pow10" = some g := ⟨g3, hg⟩
  have hd' : DataW.trod (fun _ => ()) Tryd.prog W 0 (fun _ => true) false n3 t3 cs3.toList = some (Lib.tabData .u64 Lib.pow10Tab, p3) := hd
  obtain rfl : t3 = 167 := by
    have hg3 : Tryd.prog.globalNamed "internal/strconv.uint64pow10" = some 0 := by kernel_rfl
    have e := Option.some.inj (hg3.symm.trans hg)
    rw [← e] at ht
    exact (Option.some.inj ((show (Tryd.prog.globals[0]?).map (·.type) = some 167 by kernel_rfl).symm.trans ht)).symm
  unfold Lib.TabIs
  rw [hvar, ← Lib.cells_of_tab Tryd.underlying167 Tryd.underlying131 (by kernel_rfl) (by kernel_rfl) hd']
theorem own : ownKnob Tryd.prog.godebug = none := by kernel_rfl
theorem laidOut : laidOutB Tryd.prog = true := by kernel_rfl
theorem opens_datum : Opens Tryd.prog 55 k55 Dok := by
  have h := opens_iso (P := Tryd.prog) (t := 55) (fun x : S55 => (x.f0, x.f1, x.f2, x.f3)) (fun a => ⟨a.1, a.2.1, a.2.2.1, a.2.2.2⟩) (fun _ => rfl)
    (opens_struct4 Tryd.underlying55 (by kernel_rfl) rfl rfl rfl rfl (by kernel_rfl) (by kernel_rfl) (by kernel_rfl) (by kernel_rfl) (opens_int Tryd.underlying3) (opens_int Tryd.underlying3) (opens_slice 5 Tryd.underlying42 (by kernel_rfl) (opens_int Tryd.underlying5)) (opens_int Tryd.underlying3))
  intro H enc W fuel cs x hx
  obtain ⟨a, k, g⟩ := h hx
  exact ⟨a, k, g.2.2.1.1, fun b hb => wf_u8 (g.2.2.1.2 b hb), (wf_i64 g.2.2.2).2⟩
set_option maxHeartbeats 1000000 in
set_option maxRecDepth 100000 in
theorem lifted (os : Os) (started : os.Started) (H : Type) (enc : TypeId × Value → H) :
    ReturnsInHanded {} Tryd.checked os 5 .any (fun w args => (Rows.fnExactWriteDataSpec.pre enc Tryd.prog Tryd.f5 Rows.fnExactWriteDataRow.domain false w args ∧ laidMetH Tryd.prog Rows.fnExactWriteDataRow.laid w) ∧ sizedMet enc Tryd.prog Tryd.f5 (OpenSpec.ofChange Rows.fnExactWriteDataSpec) false w args)
      (Rows.fnExactWriteDataSpec.post enc Tryd.prog Tryd.f5 false true false false) := by
  refine returnsInHanded_of_change_and (C := Tryd.checked) (X := fun w _ => laidMetH Tryd.prog Rows.fnExactWriteDataRow.laid w) (fun _ _ _ hh h => h.of_heap hh) own started (by kernel_rfl) Tryd.func5
    (ChangeSpec.witness_shaped (enc := enc) (C := Tryd.checked) (os := os) (X := fun w _ => laidMetH Tryd.prog Rows.fnExactWriteDataRow.laid w) false (World.laidAll Tryd.prog os Rows.fnExactWriteDataRow.laid) #[.slice none 0 0] 8 (World.laidAll_os _ _ _)
      (World.shaped_of_ZipB (by kernel_rfl) (by kernel_rfl)) (by kernel_rfl) (by kernel_rfl) (by kernel_rfl)
      (by rw [MakeChecks.laidMetH_plain _ _ _ (by kernel_rfl)]; exact laidMet_laidAll _ (by kernel_rfl) (by kernel_rfl))) ?_
  intro W base args ds gs before hval0 hW _ _ hX _
  have hval : ∀ (j : Nat) t v, Tryd.f5.params[j]? = some t → args[j]? = some v → Value.okWide Tryd.prog W .any base t v := hval0
  have hW' := hW
  obtain ⟨p, q, hA0, hV, rfl, hfz, hnd⟩ := hW
  have hA : DataW.TrodAll enc Tryd.prog W 0 (fun _ => true) true Tryd.f5.params.toList args.toList ds p := hA0
  rw [Tryd.params5] at hA hval
  obtain ⟨v0, d0, rfl, rfl, h0⟩ := trodAll_one hA
  obtain ⟨rfl, rfl⟩ := trodVars_none hV
  have k0 := h0
  have lt0 : ∀ x ∈ p, x.block < W.heap.size := by obtain ⟨m, hm⟩ := k0; exact DataW.trod_lt m _ _ _ hm
  obtain ⟨a1, len1, cap1, rfl⟩ := okWide_slice Tryd.underlying22 (hval 0 22 v0 rfl rfl)
  obtain ⟨fuel1, hf1⟩ := h0
  obtain ⟨A1, cap1', l1, e2, hc1, hr1, hm1, hw1⟩ := opens_row Tryd.underlying22 (by kernel_rfl) opens_datum hf1
  have e3 : [Value.slice A1 l1.length cap1'] = [Value.slice a1 len1 cap1] := e2.symm
  obtain ⟨rfl, rfl, rfl⟩ : A1 = a1 ∧ l1.length = len1 ∧ cap1' = cap1 := by simpa using e3
  refine (law_true A1 cap1' l1 W hr1 hc1 hm1 hw1 (tab_of hX)).mono fun e W' ⟨he, bel⟩ => ?_
  subst he
  exact ⟨_, rfl, _, _, _, [], _, [], hW', trodAll_mk1 (shut_bool Tryd.underlying4 _), trodAll_mk1 (Below.trod laidOut (by kernel_rfl) (of_decide_eq_true (by kernel_rfl)) k0 bel lt0), rfl, bel.frame _, fun h => by cases h⟩
theorem over : Rows.fnExactWriteDataRow.holds Tryd.pinned (OpenSpec.ofChange Rows.fnExactWriteDataSpec) :=
  OpenClaim.holds_of_wide 5 Tryd.f5 rfl rfl rfl rfl rfl rfl rfl ⟨rfl, rfl, rfl, rfl, rfl⟩ rfl rfl rfl rfl rfl (by kernel_rfl) Tryd.func5 (by kernel_rfl)
    (of_decide_eq_true (by kernel_rfl)) (by unfold Func.isWrapper; first | (rw [if_pos (by decide +kernel)]; kernel_rfl) | (rw [if_neg (by decide +kernel)]; exact ⟨rfl, rfl⟩))
    (fun os started H enc _ => lifted os started H enc)
theorem card_holds : Rows.FnExactWriteDataCardSaid :=
  Claim7.holds_tied_plain_at .later [] [.data, .data, .data, .data, .pinned] true (true, "ddc44d16ed9f75b0bfc2b346388576c34828f2b129e4250f19a4f31c52d866bc") true over (fun _ h => by cases h) (by kernel_rfl) (fun _ h => by cases h) fnExactWriteData_row_tie rfl ⟨rfl, rfl⟩ (by kernel_rfl) rfl
    (fun f fn hf hfn => by
      obtain rfl : f = 5 := Option.some.inj ((show Tryd.prog.funcNamed "loop.example/s01541/laws.FnExactWriteData" = some 5 by kernel_rfl).symm.trans hf) |>.symm
      obtain rfl : fn = Tryd.f5 := (Option.some.inj (Tryd.func5.symm.trans hfn)).symm
      exact ⟨by kernel_rfl, fun j t ht => by
        rw [Tryd.params5] at ht
        have hm : t ∈ [22] := by simpa using Array.mem_of_getElem? ht
        have hall : ([22].all fun u => !Tryd.prog.wantsStandIn u) = true := by kernel_rfl
        exact (show Tryd.prog.wantsStandIn t = false by simpa using List.all_eq_true.1 hall t hm)⟩)
    (by kernel_rfl)
#print axioms card_holds
end Go.Proofs.YtogmphjhdkgdjaaDoor.fnExactWriteData
namespace Go.Proofs.YtogmphjhdkgdjaaDoor
/-- The tied card, under a short name, for the claim. -/
theorem fnExactWriteData_holds : Rows.FnExactWriteDataCardSaid := fnExactWriteData.card_holds
end Go.Proofs.YtogmphjhdkgdjaaDoor
