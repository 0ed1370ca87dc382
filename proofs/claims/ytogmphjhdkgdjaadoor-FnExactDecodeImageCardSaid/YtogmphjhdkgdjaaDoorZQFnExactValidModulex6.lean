import Derived.Test.YtogmphjhdkgdjaaDoorZQFnExactValidModulex0
import Derived.Test.YtogmphjhdkgdjaaDoorZQFnExactValidModulex3
import Derived.Test.YtogmphjhdkgdjaaDoorZQFnExactValidModulex4
import Derived.Test.YtogmphjhdkgdjaaDoorZQFnExactValidModulex5
namespace Go.Proofs.YtogmphjhdkgdjaaDoor.QFnExactValidModule
set_option maxHeartbeats 8000000
set_option maxRecDepth 100000
open Go.RowKit Go.Proofs.YtogmphjhdkgdjaaDoorW.PrintWords Go.Proofs.YtogmphjhdkgdjaaDoorW.PrintLast Go.Proofs.YtogmphjhdkgdjaaDoorW.PrintMore
attribute [local go_sem] max2_int min2_int max_two min_two max_three min_three max_four min_four
set_option linter.unusedVariables false
set_option linter.unusedSimpArgs false
mutual
def spec_ValidModule.j0 : Nat → Bool → List (List (S57)) → Int → List (S68) → Option (Bool)
 | 0, _, _, _, _ => none
 | k + 1, x36, x159000, x159001, x159002 => if x36 = true then (some false) else (spec_ValidModule.l0 k 0 0 x159000 x159001 x159002)
def spec_ValidModule.l0 : Nat → Int → Int → List (List (S57)) → Int → List (S68) → Option (Bool)
 | 0, _, _, _, _, _ => none
 | k + 1, x3, x4, x159000, x159001, x159002 => if x4 < (x159000.length : Int) then (if 0 ≤ x4 then (if (wrap64 (x3 + ((rd_L14 x159000 x4).length : Int))) > 3000 then (some false) else ((spec_ValidData.f k (rd_L14 x159000 x4)).bind fun t161 => (if t161 = true then ((spec_l1forms.f k (rd_L14 x159000 x4)).bind fun t163 => (if (t163.length : Int) = 1 then (spec_ValidModule.l0 k (wrap64 (x3 + ((rd_L14 x159000 x4).length : Int))) (wrap64 (x4 + 1)) x159000 x159001 x159002) else (some false))) else (some false)))) else (none)) else (spec_ValidModule.l1 k 0 0 x159000 x159001 x159002)
def spec_ValidModule.l1 : Nat → Int → Int → List (List (S57)) → Int → List (S68) → Option (Bool)
 | 0, _, _, _, _, _ => none
 | k + 1, x5, x6, x159000, x159001, x159002 => if x6 < (x159002.length : Int) then (if 0 ≤ x6 then (if ((rd_T68 x159002 x6).f0) < 0 then (some false) else (if ((rd_T68 x159002 x6).f0) > 20 then (some false) else (if (((rd_T68 x159002 x6).f1).length : Int) > 50 then (some false) else (if (((rd_T68 x159002 x6).f2).length : Int) < 1 then (some false) else (if (wrap64 (x5 + (((rd_T68 x159002 x6).f2).length : Int))) > 5000 then (some false) else (spec_ValidModule.l1 k (wrap64 (x5 + (((rd_T68 x159002 x6).f2).length : Int))) (wrap64 (x6 + 1)) x159000 x159001 x159002)))))) else (none)) else (if 0 < (x159002.length : Int) then (if ((rd_T68 x159002 0).f0) = 0 then (spec_ValidModule.j3 k ((((rd_T68 x159002 0).f1).length : Int) != 0) x159000 x159001 x159002) else (spec_ValidModule.j3 k true x159000 x159001 x159002)) else (none))
def spec_ValidModule.j3 : Nat → Bool → List (List (S57)) → Int → List (S68) → Option (Bool)
 | 0, _, _, _, _ => none
 | k + 1, x128, x159000, x159001, x159002 => if x128 = true then (some false) else (spec_ValidModule.l2 k 0 x159000 x159001 x159002)
def spec_ValidModule.l2 : Nat → Int → List (List (S57)) → Int → List (S68) → Option (Bool)
 | 0, _, _, _, _ => none
 | k + 1, x8, x159000, x159001, x159002 => if x8 < (x159002.length : Int) then (if 0 ≤ x8 then (spec_ValidModule.l3 k x8 0 x159000 x159001 x159002 ((rd_T68 x159002 x8).f0) ((rd_T68 x159002 x8).f1) ((rd_T68 x159002 x8).f2)) else (none)) else (some true)
def spec_ValidModule.l3 : Nat → Int → Int → List (List (S57)) → Int → List (S68) → Int → List Bool → List (S71) → Option (Bool)
 | 0, _, _, _, _, _, _, _, _ => none
 | k + 1, x8, x10, x159000, x159001, x159002, x172000, x172001, x172002 => if x10 < (x172002.length : Int) then (if 0 ≤ x10 then ((spec_l3insOK.f k x159000 x159001 x159002 x172000 x172001 x172002 ((rd_T71 x172002 x10).f0) ((rd_T71 x172002 x10).f1) ((rd_T71 x172002 x10).f2)).bind fun t173 => (if t173 = true then (spec_ValidModule.l3 k x8 (wrap64 (x10 + 1)) x159000 x159001 x159002 x172000 x172001 x172002) else (some false))) else (none)) else (spec_ValidModule.l2 k (wrap64 (x8 + 1)) x159000 x159001 x159002)
end
def spec_ValidModule.f (k : Nat) (l0_0 : List (List (S57))) (a0_1 : Int) (l0_2 : List (S68)) : Option (Bool) := if (l0_2.length : Int) < 1 then (spec_ValidModule.j0 k true l0_0 a0_1 l0_2) else (if (l0_2.length : Int) > 200 then (spec_ValidModule.j0 k true l0_0 a0_1 l0_2) else (if (l0_0.length : Int) > 500 then (spec_ValidModule.j0 k true l0_0 a0_1 l0_2) else (if a0_1 < 0 then (spec_ValidModule.j0 k true l0_0 a0_1 l0_2) else (spec_ValidModule.j0 k (decide (a0_1 > 200)) l0_0 a0_1 l0_2))))
theorem spec_ValidModule.mono_l : ∀ k, (∀ y0 y1 y2 y3, LeO (spec_ValidModule.j0 k y0 y1 y2 y3) (spec_ValidModule.j0 (k + 1) y0 y1 y2 y3)) ∧ (∀ y0 y1 y2 y3 y4, LeO (spec_ValidModule.l0 k y0 y1 y2 y3 y4) (spec_ValidModule.l0 (k + 1) y0 y1 y2 y3 y4)) ∧ (∀ y0 y1 y2 y3 y4, LeO (spec_ValidModule.l1 k y0 y1 y2 y3 y4) (spec_ValidModule.l1 (k + 1) y0 y1 y2 y3 y4)) ∧ (∀ y0 y1 y2 y3, LeO (spec_ValidModule.j3 k y0 y1 y2 y3) (spec_ValidModule.j3 (k + 1) y0 y1 y2 y3)) ∧ (∀ y0 y1 y2 y3, LeO (spec_ValidModule.l2 k y0 y1 y2 y3) (spec_ValidModule.l2 (k + 1) y0 y1 y2 y3)) ∧ (∀ y0 y1 y2 y3 y4 y5 y6 y7, LeO (spec_ValidModule.l3 k y0 y1 y2 y3 y4 y5 y6 y7) (spec_ValidModule.l3 (k + 1) y0 y1 y2 y3 y4 y5 y6 y7))
 | 0 => ⟨fun _ _ _ _ r h => by simp [spec_ValidModule.j0] at h, fun _ _ _ _ _ r h => by simp [spec_ValidModule.l0] at h, fun _ _ _ _ _ r h => by simp [spec_ValidModule.l1] at h, fun _ _ _ _ r h => by simp [spec_ValidModule.j3] at h, fun _ _ _ _ r h => by simp [spec_ValidModule.l2] at h, fun _ _ _ _ _ _ _ _ r h => by simp [spec_ValidModule.l3] at h⟩
 | k + 1 => by
  obtain ⟨ih0, ih1, ih2, ih3, ih4, ih5⟩ := spec_ValidModule.mono_l k
  refine ⟨?_, ?_, ?_, ?_, ?_, ?_⟩
  ·intro y0 y1 y2 y3
   unfold spec_ValidModule.j0
   repeat' first
   | (with_reducible exact ih0 _ _ _ _)
   | (with_reducible exact ih1 _ _ _ _ _)
   | (with_reducible exact ih2 _ _ _ _ _)
   | (with_reducible exact ih3 _ _ _ _)
   | (with_reducible exact ih4 _ _ _ _)
   | (with_reducible exact ih5 _ _ _ _ _ _ _ _)
   | (with_reducible exact spec_ValidData.mono _ _)
   | (with_reducible exact spec_l1forms.mono _ _)
   | (with_reducible exact spec_l3insOK.mono _ _ _ _ _ _ _ _ _ _)
   | (with_reducible exact LeO.refl _)
   | (with_reducible exact LeO.none _)
   | (with_reducible refine LeO.ite ?_ ?_)
   | (with_reducible refine LeO.bind ?_ (fun _ => ?_))
   | exact ih0 _ _ _ _
   | exact ih1 _ _ _ _ _
   | exact ih2 _ _ _ _ _
   | exact ih3 _ _ _ _
   | exact ih4 _ _ _ _
   | exact ih5 _ _ _ _ _ _ _ _
   | exact spec_ValidData.mono _ _
   | exact spec_l1forms.mono _ _
   | exact spec_l3insOK.mono _ _ _ _ _ _ _ _ _ _
   | exact LeO.none _
   | refine LeO.ite ?_ ?_
   | refine LeO.bind ?_ (fun _ => ?_)
  ·intro y0 y1 y2 y3 y4
   unfold spec_ValidModule.l0
   repeat' first
   | (with_reducible exact ih0 _ _ _ _)
   | (with_reducible exact ih1 _ _ _ _ _)
   | (with_reducible exact ih2 _ _ _ _ _)
   | (with_reducible exact ih3 _ _ _ _)
   | (with_reducible exact ih4 _ _ _ _)
   | (with_reducible exact ih5 _ _ _ _ _ _ _ _)
   | (with_reducible exact spec_ValidData.mono _ _)
   | (with_reducible exact spec_l1forms.mono _ _)
   | (with_reducible exact spec_l3insOK.mono _ _ _ _ _ _ _ _ _ _)
   | (with_reducible exact LeO.refl _)
   | (with_reducible exact LeO.none _)
   | (with_reducible refine LeO.ite ?_ ?_)
   | (with_reducible refine LeO.bind ?_ (fun _ => ?_))
   | exact ih0 _ _ _ _
   | exact ih1 _ _ _ _ _
   | exact ih2 _ _ _ _ _
   | exact ih3 _ _ _ _
   | exact ih4 _ _ _ _
   | exact ih5 _ _ _ _ _ _ _ _
   | exact spec_ValidData.mono _ _
   | exact spec_l1forms.mono _ _
   | exact spec_l3insOK.mono _ _ _ _ _ _ _ _ _ _
   | exact LeO.none _
   | refine LeO.ite ?_ ?_
   | refine LeO.bind ?_ (fun _ => ?_)
  ·intro y0 y1 y2 y3 y4
   unfold spec_ValidModule.l1
   repeat' first
   | (with_reducible exact ih0 _ _ _ _)
   | (with_reducible exact ih1 _ _ _ _ _)
   | (with_reducible exact ih2 _ _ _ _ _)
   | (with_reducible exact ih3 _ _ _ _)
   | (with_reducible exact ih4 _ _ _ _)
   | (with_reducible exact ih5 _ _ _ _ _ _ _ _)
   | (with_reducible exact spec_ValidData.mono _ _)
   | (with_reducible exact spec_l1forms.mono _ _)
   | (with_reducible exact spec_l3insOK.mono _ _ _ _ _ _ _ _ _ _)
   | (with_reducible exact LeO.refl _)
   | (with_reducible exact LeO.none _)
   | (with_reducible refine LeO.ite ?_ ?_)
   | (with_reducible refine LeO.bind ?_ (fun _ => ?_))
   | exact ih0 _ _ _ _
   | exact ih1 _ _ _ _ _
   | exact ih2 _ _ _ _ _
   | exact ih3 _ _ _ _
   | exact ih4 _ _ _ _
   | exact ih5 _ _ _ _ _ _ _ _
   | exact spec_ValidData.mono _ _
   | exact spec_l1forms.mono _ _
   | exact spec_l3insOK.mono _ _ _ _ _ _ _ _ _ _
   | exact LeO.none _
   | refine LeO.ite ?_ ?_
   | refine LeO.bind ?_ (fun _ => ?_)
  ·intro y0 y1 y2 y3
   unfold spec_ValidModule.j3
   repeat' first
   | (with_reducible exact ih0 _ _ _ _)
   | (with_reducible exact ih1 _ _ _ _ _)
   | (with_reducible exact ih2 _ _ _ _ _)
   | (with_reducible exact ih3 _ _ _ _)
   | (with_reducible exact ih4 _ _ _ _)
   | (with_reducible exact ih5 _ _ _ _ _ _ _ _)
   | (with_reducible exact spec_ValidData.mono _ _)
   | (with_reducible exact spec_l1forms.mono _ _)
   | (with_reducible exact spec_l3insOK.mono _ _ _ _ _ _ _ _ _ _)
   | (with_reducible exact LeO.refl _)
   | (with_reducible exact LeO.none _)
   | (with_reducible refine LeO.ite ?_ ?_)
   | (with_reducible refine LeO.bind ?_ (fun _ => ?_))
   | exact ih0 _ _ _ _
   | exact ih1 _ _ _ _ _
   | exact ih2 _ _ _ _ _
   | exact ih3 _ _ _ _
   | exact ih4 _ _ _ _
   | exact ih5 _ _ _ _ _ _ _ _
   | exact spec_ValidData.mono _ _
   | exact spec_l1forms.mono _ _
   | exact spec_l3insOK.mono _ _ _ _ _ _ _ _ _ _
   | exact LeO.none _
   | refine LeO.ite ?_ ?_
   | refine LeO.bind ?_ (fun _ => ?_)
  ·intro y0 y1 y2 y3
   unfold spec_ValidModule.l2
   repeat' first
   | (with_reducible exact ih0 _ _ _ _)
   | (with_reducible exact ih1 _ _ _ _ _)
   | (with_reducible exact ih2 _ _ _ _ _)
   | (with_reducible exact ih3 _ _ _ _)
   | (with_reducible exact ih4 _ _ _ _)
   | (with_reducible exact ih5 _ _ _ _ _ _ _ _)
   | (with_reducible exact spec_ValidData.mono _ _)
   | (with_reducible exact spec_l1forms.mono _ _)
   | (with_reducible exact spec_l3insOK.mono _ _ _ _ _ _ _ _ _ _)
   | (with_reducible exact LeO.refl _)
   | (with_reducible exact LeO.none _)
   | (with_reducible refine LeO.ite ?_ ?_)
   | (with_reducible refine LeO.bind ?_ (fun _ => ?_))
   | exact ih0 _ _ _ _
   | exact ih1 _ _ _ _ _
   | exact ih2 _ _ _ _ _
   | exact ih3 _ _ _ _
   | exact ih4 _ _ _ _
   | exact ih5 _ _ _ _ _ _ _ _
   | exact spec_ValidData.mono _ _
   | exact spec_l1forms.mono _ _
   | exact spec_l3insOK.mono _ _ _ _ _ _ _ _ _ _
   | exact LeO.none _
   | refine LeO.ite ?_ ?_
   | refine LeO.bind ?_ (fun _ => ?_)
  ·intro y0 y1 y2 y3 y4 y5 y6 y7
   unfold spec_ValidModule.l3
   repeat' first
   | (with_reducible exact ih0 _ _ _ _)
   | (with_reducible exact ih1 _ _ _ _ _)
   | (with_reducible exact ih2 _ _ _ _ _)
   | (with_reducible exact ih3 _ _ _ _)
   | (with_reducible exact ih4 _ _ _ _)
   | (with_reducible exact ih5 _ _ _ _ _ _ _ _)
   | (with_reducible exact spec_ValidData.mono _ _)
   | (with_reducible exact spec_l1forms.mono _ _)
   | (with_reducible exact spec_l3insOK.mono _ _ _ _ _ _ _ _ _ _)
   | (with_reducible exact LeO.refl _)
   | (with_reducible exact LeO.none _)
   | (with_reducible refine LeO.ite ?_ ?_)
   | (with_reducible refine LeO.bind ?_ (fun _ => ?_))
   | exact ih0 _ _ _ _
   | exact ih1 _ _ _ _ _
   | exact ih2 _ _ _ _ _
   | exact ih3 _ _ _ _
   | exact ih4 _ _ _ _
   | exact ih5 _ _ _ _ _ _ _ _
   | exact spec_ValidData.mono _ _
   | exact spec_l1forms.mono _ _
   | exact spec_l3insOK.mono _ _ _ _ _ _ _ _ _ _
   | exact LeO.none _
   | refine LeO.ite ?_ ?_
   | refine LeO.bind ?_ (fun _ => ?_)
theorem spec_ValidModule.mono : ∀ a0 a1 a2 k, LeO (spec_ValidModule.f k a0 a1 a2) (spec_ValidModule.f (k + 1) a0 a1 a2) := by
 intro a0 a1 a2 k
 obtain ⟨ih0, ih1, ih2, ih3, ih4, ih5⟩ := spec_ValidModule.mono_l k
 unfold spec_ValidModule.f
 repeat' first
   | (with_reducible exact ih0 _ _ _ _)
   | (with_reducible exact ih1 _ _ _ _ _)
   | (with_reducible exact ih2 _ _ _ _ _)
   | (with_reducible exact ih3 _ _ _ _)
   | (with_reducible exact ih4 _ _ _ _)
   | (with_reducible exact ih5 _ _ _ _ _ _ _ _)
   | (with_reducible exact spec_ValidData.mono _ _)
   | (with_reducible exact spec_l1forms.mono _ _)
   | (with_reducible exact spec_l3insOK.mono _ _ _ _ _ _ _ _ _ _)
   | (with_reducible exact LeO.refl _)
   | (with_reducible exact LeO.none _)
   | (with_reducible refine LeO.ite ?_ ?_)
   | (with_reducible refine LeO.bind ?_ (fun _ => ?_))
   | exact ih0 _ _ _ _
   | exact ih1 _ _ _ _ _
   | exact ih2 _ _ _ _ _
   | exact ih3 _ _ _ _
   | exact ih4 _ _ _ _
   | exact ih5 _ _ _ _ _ _ _ _
   | exact spec_ValidData.mono _ _
   | exact spec_l1forms.mono _ _
   | exact spec_l3insOK.mono _ _ _ _ _ _ _ _ _ _
   | exact LeO.none _
   | refine LeO.ite ?_ ?_
   | refine LeO.bind ?_ (fun _ => ?_)
def spec_ValidModule.T27 : Bool × List (List Nat × List Nat) := (true, [([], []), ([], []), ([], []), ([2], [2]), ([], []), ([3, 4], [3, 4]), ([5], [5]), ([0, 1, 6], [0, 1, 6]), ([7], [7])])
def spec_ValidModule.B27 : List Nat := [0, 0, 0, 4, 0, 28, 60, 127, 255]
theorem spec_ValidModule.tab27 : rtab .any (opsOf Tryd.f14 27) = spec_ValidModule.T27 := by kernel_rfl
theorem spec_ValidModule.bits27 : waitsOk spec_ValidModule.T27.2 spec_ValidModule.B27 = true := by kernel_rfl
theorem spec_ValidModule.calls (k : Nat) (A0_0 : Option Addr) (c0_0 : Nat) (l0_0 : List (List (S57))) (a0_1 : Int) (A0_2 : Option Addr) (c0_2 : Nat) (l0_2 : List (S68)) (r : Bool) (w : World) (hr0_0 : Kd.C (Kd.slice 57 k57) w A0_0 l0_0.length l0_0) (hc0_0 : l0_0.length ≤ c0_0) (hr0_2 : Kd.C k68 w A0_2 l0_2.length l0_2) (hc0_2 : l0_2.length ≤ c0_2) (h : spec_ValidModule.f k l0_0 a0_1 l0_2 = some r) :
  Calls Tryd.prog 14 #[.agg #[.slice A0_0 l0_0.length c0_0, .int .i64 a0_1, .slice A0_2 l0_2.length c0_2]] w fun e w' => e = .returned (.bool r) ∧ Below w.heap.size w w' := by
 have hu38 := Tryd.underlying38
 have hu68 := Tryd.underlying68
 have hu71 := Tryd.underlying71
 have HR0_0 := zA hr0_0
 have HC0_0 := zA hc0_0
 clear hr0_0 hc0_0
 have HR0_2 := zA hr0_2
 have HC0_2 := zA hc0_2
 clear hr0_2 hc0_2
 have HB := zA (Below.refl w.heap.size w)
 have H : (if (l0_2.length : Int) < 1 then (spec_ValidModule.j0 k true l0_0 a0_1 l0_2) else (if (l0_2.length : Int) > 200 then (spec_ValidModule.j0 k true l0_0 a0_1 l0_2) else (if (l0_0.length : Int) > 500 then (spec_ValidModule.j0 k true l0_0 a0_1 l0_2) else (if a0_1 < 0 then (spec_ValidModule.j0 k true l0_0 a0_1 l0_2) else (spec_ValidModule.j0 k (decide (a0_1 > 200)) l0_0 a0_1 l0_2))))) = some r := h
 clear h
 have HC2 := zA H
 clear H
 go_enter Tryd.func14, Tryd.ntmps14
 go_upto_region 1 with (first | ((with_reducible refine gate_dst (N := 1) rfl ?_); (try (refine gate_guard (by rfl) ?_; dsimp only)); refine box_event ?hg (N := 1) ?hd (cs := #[.slice A0_0 l0_0.length c0_0, .int .i64 a0_1, .slice A0_2 l0_2.length c0_2]) (t := 38) ?hr ?_; (case hd => rfl); (case hg => rfl); (case hr => first | (go_simp; done) | (go_simp; rfl)); intro gb158 hg w3 hbox hb; have n0_ := zA (zX (by repeat (first | (with_reducible first | exact HB.out | apply zE | apply zC | apply zD) | exact HB.out)) hb); have n1_ := zA (hbox); have n2_ := zA ((by rw [hg]; exact (below_size (by repeat (first | (with_reducible first | exact HB.out | apply zE | apply zC | apply zD) | exact HB.out))) : w.heap.size ≤ gb158)); have n3_ := zA ((by rw [hg]; exact (below_size (by repeat (first | (with_reducible first | exact HB.out | apply zE | apply zC | apply zD) | exact HB.out))) : w.heap.size ≤ gb158)); clear HB; have HB := n0_; have BK158 := n1_; have GW158 := n2_; have GE158 := n3_; clear n0_ n1_ n2_ n3_; clear hb hbox hg))
 (try simp only [Act.put, List.setIfInBounds_toArray, List.set_cons_zero, List.set_cons_succ])
 go_cut [36] (fun v36 wc => ∃ (kq : Nat) (x36_1 : Bool), v36 = .bool x36_1 ∧ Aside0 (spec_ValidModule.j0 kq x36_1 l0_0 a0_1 l0_2 = some r) ∧ Aside0 (kq ≤ k) ∧ Aside0 (wc.heap[gb158]? = some (.cells #[(.slice A0_0 l0_0.length c0_0), .int .i64 a0_1, (.slice A0_2 l0_2.length c0_2)] 38 (0, 0))) ∧ Aside0 (Below w.heap.size w wc))
 case first =>
  have H := HC2.out
  clear HC2
  by_cases c4 : (l0_2.length : Int) < 1
  ·rw [if_pos c4] at H
   have c4b0 : decide ((l0_2.length : Int) < 1) = true := zG c4
   have c4b1 : decide (l0_2.length < 1) = true := zG (by omega)
   clear c4
   (first | rw [c4b0] | (simp only [i64_w, i32_w]; rw [c4b0]) | skip)
   have H' := zA H
   clear H
   have hcz5_0 : w3.cell? ⟨gb158, 0, none⟩ = some (.slice A0_0 l0_0.length c0_0) := (zZ BK158.out 0).trans rfl
   have hcz5_1 : w3.cell? ⟨gb158, 1, none⟩ = some (.int .i64 a0_1) := (zZ BK158.out 1).trans rfl
   have hcz5_2 : w3.cell? ⟨gb158, 2, none⟩ = some (.slice A0_2 l0_2.length c0_2) := (zZ BK158.out 2).trans rfl
   have hfz5_0 := zY BK158.out 0
   have hfz5_1 := zY BK158.out 1
   have hfz5_2 := zY BK158.out 2
   go_wp2
   go_meet
   case rel => exact ⟨_, (true), (by first | rfl | (simp; done) | (simp [*]; done)), H', ⟨by first | omega | exact Nat.le_refl _⟩, ⟨by exact kUp BK158.out⟩, ⟨by repeat (first | (with_reducible first | exact HB.out | apply zE | apply zC | apply zD | refine zB ?_ GE158.out) | exact HB.out)⟩⟩
  ·rw [if_neg c4] at H
   have c4b0 : decide ((l0_2.length : Int) < 1) = false := zH c4
   have c4b1 : decide (l0_2.length < 1) = false := zH (by omega)
   clear c4
   (first | rw [c4b0] | (simp only [i64_w, i32_w]; rw [c4b0]) | skip)
   by_cases c6 : (l0_2.length : Int) > 200
   ·rw [if_pos c6] at H
    have c6b0 : decide (200 < (l0_2.length : Int)) = true := zG c6
    have c6b1 : decide (200 < l0_2.length) = true := zG (by omega)
    clear c6
    have H' := zA H
    clear H
    have hcz7_0 : w3.cell? ⟨gb158, 0, none⟩ = some (.slice A0_0 l0_0.length c0_0) := (zZ BK158.out 0).trans rfl
    have hcz7_1 : w3.cell? ⟨gb158, 1, none⟩ = some (.int .i64 a0_1) := (zZ BK158.out 1).trans rfl
    have hcz7_2 : w3.cell? ⟨gb158, 2, none⟩ = some (.slice A0_2 l0_2.length c0_2) := (zZ BK158.out 2).trans rfl
    have hfz7_0 := zY BK158.out 0
    have hfz7_1 := zY BK158.out 1
    have hfz7_2 := zY BK158.out 2
    go_wp2
    go_meet
    case rel => exact ⟨_, (true), (by first | rfl | (simp; done) | (simp [*]; done)), H', ⟨by first | omega | exact Nat.le_refl _⟩, ⟨by exact kUp BK158.out⟩, ⟨by repeat (first | (with_reducible first | exact HB.out | apply zE | apply zC | apply zD | refine zB ?_ GE158.out) | exact HB.out)⟩⟩
   ·rw [if_neg c6] at H
    have c6b0 : decide (200 < (l0_2.length : Int)) = false := zH c6
    have c6b1 : decide (200 < l0_2.length) = false := zH (by omega)
    clear c6
    by_cases c8 : (l0_0.length : Int) > 500
    ·rw [if_pos c8] at H
     have c8b0 : decide (500 < (l0_0.length : Int)) = true := zG c8
     have c8b1 : decide (500 < l0_0.length) = true := zG (by omega)
     clear c8
     have H' := zA H
     clear H
     have hcz9_0 : w3.cell? ⟨gb158, 0, none⟩ = some (.slice A0_0 l0_0.length c0_0) := (zZ BK158.out 0).trans rfl
     have hcz9_1 : w3.cell? ⟨gb158, 1, none⟩ = some (.int .i64 a0_1) := (zZ BK158.out 1).trans rfl
     have hcz9_2 : w3.cell? ⟨gb158, 2, none⟩ = some (.slice A0_2 l0_2.length c0_2) := (zZ BK158.out 2).trans rfl
     have hfz9_0 := zY BK158.out 0
     have hfz9_1 := zY BK158.out 1
     have hfz9_2 := zY BK158.out 2
     go_wp2
     go_meet
     case rel => exact ⟨_, (true), (by first | rfl | (simp; done) | (simp [*]; done)), H', ⟨by first | omega | exact Nat.le_refl _⟩, ⟨by exact kUp BK158.out⟩, ⟨by repeat (first | (with_reducible first | exact HB.out | apply zE | apply zC | apply zD | refine zB ?_ GE158.out) | exact HB.out)⟩⟩
    ·rw [if_neg c8] at H
     have c8b0 : decide (500 < (l0_0.length : Int)) = false := zH c8
     have c8b1 : decide (500 < l0_0.length) = false := zH (by omega)
     clear c8
     by_cases c10 : a0_1 < 0
     ·rw [if_pos c10] at H
      have c10b0 : decide (a0_1 < 0) = true := zG c10
      clear c10
      have H' := zA H
      clear H
      have hcz11_0 : w3.cell? ⟨gb158, 0, none⟩ = some (.slice A0_0 l0_0.length c0_0) := (zZ BK158.out 0).trans rfl
      have hcz11_1 : w3.cell? ⟨gb158, 1, none⟩ = some (.int .i64 a0_1) := (zZ BK158.out 1).trans rfl
      have hcz11_2 : w3.cell? ⟨gb158, 2, none⟩ = some (.slice A0_2 l0_2.length c0_2) := (zZ BK158.out 2).trans rfl
      have hfz11_0 := zY BK158.out 0
      have hfz11_1 := zY BK158.out 1
      have hfz11_2 := zY BK158.out 2
      go_wp2
      go_meet
      case rel => exact ⟨_, (true), (by first | rfl | (simp; done) | (simp [*]; done)), H', ⟨by first | omega | exact Nat.le_refl _⟩, ⟨by exact kUp BK158.out⟩, ⟨by repeat (first | (with_reducible first | exact HB.out | apply zE | apply zC | apply zD | refine zB ?_ GE158.out) | exact HB.out)⟩⟩
     ·rw [if_neg c10] at H
      have c10b0 : decide (a0_1 < 0) = false := zH c10
      clear c10
      have H' := zA H
      clear H
      have hcz12_0 : w3.cell? ⟨gb158, 0, none⟩ = some (.slice A0_0 l0_0.length c0_0) := (zZ BK158.out 0).trans rfl
      have hcz12_1 : w3.cell? ⟨gb158, 1, none⟩ = some (.int .i64 a0_1) := (zZ BK158.out 1).trans rfl
      have hcz12_2 : w3.cell? ⟨gb158, 2, none⟩ = some (.slice A0_2 l0_2.length c0_2) := (zZ BK158.out 2).trans rfl
      have hfz12_0 := zY BK158.out 0
      have hfz12_1 := zY BK158.out 1
      have hfz12_2 := zY BK158.out 2
      go_wp2
      go_meet
      case rel => exact ⟨_, (decide (a0_1 > 200)), (by first | rfl | (simp; done) | (simp [*]; done)), H', ⟨by first | omega | exact Nat.le_refl _⟩, ⟨by exact kUp BK158.out⟩, ⟨by repeat (first | (with_reducible first | exact HB.out | apply zE | apply zC | apply zD | refine zB ?_ GE158.out) | exact HB.out)⟩⟩
 case rest =>
  clear HC2
  try clear c1
  try clear p2
  try clear c4
  try clear c4b0
  try clear c4b1
  try clear c6
  try clear c6b0
  try clear c6b1
  try clear c8
  try clear c8b0
  try clear c8b1
  try clear c10
  try clear c10b0
  try clear hcz11_0
  try clear hcz11_1
  try clear hcz11_2
  try clear hcz12_0
  try clear hcz12_1
  try clear hcz12_2
  try clear hcz5_0
  try clear hcz5_1
  try clear hcz5_2
  try clear hcz7_0
  try clear hcz7_1
  try clear hcz7_2
  try clear hcz9_0
  try clear hcz9_1
  try clear hcz9_2
  try clear hfz11_0
  try clear hfz11_1
  try clear hfz11_2
  try clear hfz12_0
  try clear hfz12_1
  try clear hfz12_2
  try clear hfz5_0
  try clear hfz5_1
  try clear hfz5_2
  try clear hfz7_0
  try clear hfz7_1
  try clear hfz7_2
  try clear hfz9_0
  try clear hfz9_1
  try clear hfz9_2
  obtain ⟨kq, x36_1, rfl, HA, HJ1, BK158, HB⟩ := hcut
  cases kq with
  | zero => exact absurd HA.out (by simp [spec_ValidModule.j0])
  | succ kj1 =>
   have H := HA.out
   clear HA
   simp only [spec_ValidModule.j0] at H
   by_cases c13 : x36_1 = true
   ·subst c13
    have H1 : (some false) = some r := by rw [if_pos rfl] at H; exact H
    clear H
    have H := H1
    clear H1
    obtain rfl := zl H
    go_wp2
    go_ret
    exact ⟨by first | rfl | (simp [errW_none, errW_some] <;> rfl) | (simp [*, errW_none, errW_some] <;> rfl), by repeat (first | (with_reducible first | exact HB.out | apply zE | apply zC | apply zD | refine zB ?_ GE158.out) | exact HB.out)⟩
   ·replace c13 := zp.mpr c13
    subst c13
    have H1 : (spec_ValidModule.l0 kj1 0 0 l0_0 a0_1 l0_2) = some r := by rw [if_neg (show ¬ (false = true) by decide)] at H; exact H
    clear H
    have H := H1
    clear H1
    have H' := zA H
    clear H
    go_wp2
    go_loopg [3, 4] kj1 (fun kq v3 v4 w' => ∃ (x3_2 : Int) (x4_2 : Int), v3 = .int .i64 x3_2 ∧ v4 = .int .i64 x4_2 ∧ Aside0 (spec_ValidModule.l0 kq x3_2 x4_2 l0_0 a0_1 l0_2 = some r) ∧ Aside0 (kq ≤ kj1) ∧ Aside0 (w'.heap[gb158]? = some (.cells #[(.slice A0_0 l0_0.length c0_0), .int .i64 a0_1, (.slice A0_2 l0_2.length c0_2)] 38 (0, 0))) ∧ Aside0 (Below w.heap.size w w'))
    case atStart => exact ⟨(0), (0), (by first | rfl | (simp; done) | (simp [*]; done)), (by first | rfl | (simp; done) | (simp [*]; done)), H', ⟨Nat.le_refl _⟩, ⟨by exact kUp BK158.out⟩, ⟨by repeat (first | (with_reducible first | exact HB.out | apply zE | apply zC | apply zD | refine zB ?_ GE158.out) | exact HB.out)⟩⟩
    case round =>
     clear H'
     try clear c1
     try clear p2
     try clear c4
     try clear c4b0
     try clear c4b1
     try clear c6
     try clear c6b0
     try clear c6b1
     try clear c8
     try clear c8b0
     try clear c8b1
     try clear c10
     try clear c10b0
     try clear c13
     try clear hcz11_0
     try clear hcz11_1
     try clear hcz11_2
     try clear hcz12_0
     try clear hcz12_1
     try clear hcz12_2
     try clear hcz5_0
     try clear hcz5_1
     try clear hcz5_2
     try clear hcz7_0
     try clear hcz7_1
     try clear hcz7_2
     try clear hcz9_0
     try clear hcz9_1
     try clear hcz9_2
     try clear hfz11_0
     try clear hfz11_1
     try clear hfz11_2
     try clear hfz12_0
     try clear hfz12_1
     try clear hfz12_2
     try clear hfz5_0
     try clear hfz5_1
     try clear hfz5_2
     try clear hfz7_0
     try clear hfz7_1
     try clear hfz7_2
     try clear hfz9_0
     try clear hfz9_1
     try clear hfz9_2
     try clear p2
     obtain ⟨x3_2, x4_2, rfl, rfl, HA, HK2, BK158, HB⟩ := hrel
     cases gk with
     | zero => exact absurd HA.out (by simp [spec_ValidModule.l0])
     | succ k2 =>
      have H := HA.out
      clear HA
      simp only [spec_ValidModule.l0] at H
      by_cases c14 : x4_2 < (l0_0.length : Int)
      ·rw [if_pos c14] at H
       have c14b0 : decide (x4_2 < (l0_0.length : Int)) = true := zG c14
       clear c14
       by_cases c15 : 0 ≤ x4_2
       ·rw [if_pos c15] at H
        have c15b0 : decide (0 ≤ x4_2) = true := zG c15
        clear c15
        by_cases c16 : (wrap64 (x3_2 + ((rd_L14 l0_0 x4_2).length : Int))) > 3000
        ·rw [if_pos c16] at H
         have c16b0 : decide (3000 < (wrap64 (x3_2 + ((rd_L14 l0_0 x4_2).length : Int)))) = true := zG c16
         clear c16
         obtain rfl := zl H
         have hcz17_0 : wr.cell? ⟨gb158, 0, none⟩ = some (.slice A0_0 l0_0.length c0_0) := (zZ BK158.out 0).trans rfl
         have hcz17_1 : wr.cell? ⟨gb158, 1, none⟩ = some (.int .i64 a0_1) := (zZ BK158.out 1).trans rfl
         have hcz17_2 : wr.cell? ⟨gb158, 2, none⟩ = some (.slice A0_2 l0_2.length c0_2) := (zZ BK158.out 2).trans rfl
         have hfz17_0 := zY BK158.out 0
         have hfz17_1 := zY BK158.out 1
         have hfz17_2 := zY BK158.out 2
         have p159 : 0 ≤ (x4_2 : Int) := zF (by first | (with_reducible assumption) | assumption)
         have q159 : x4_2 < (l0_0.length : Int) := zF (by first | (with_reducible assumption) | assumption)
         obtain ⟨ad159, A159_0, c159_0, e159, hx159_0, hl159_0, hi159_0⟩ := at_L14 HR0_0.out x4_2 p159 q159
         cases e159
         replace hx159_0 := (HB.out.cell (zk? w _ hx159_0)).trans hx159_0
         have HR159_0 := zA hi159_0
         have HC159_0 := zA hl159_0
         clear hi159_0 hl159_0
         replace p159 := eq_true p159
         replace q159 := eq_true q159
         go_wp2
         go_ret
         exact ⟨by first | rfl | (simp [errW_none, errW_some] <;> rfl) | (simp [*, errW_none, errW_some] <;> rfl), by repeat (first | (with_reducible first | exact HB.out | apply zE | apply zC | apply zD | refine zB ?_ GE158.out) | exact HB.out)⟩
        ·rw [if_neg c16] at H
         have c16b0 : decide (3000 < (wrap64 (x3_2 + ((rd_L14 l0_0 x4_2).length : Int)))) = false := zH c16
         clear c16
         replace H := zo.mp H
         obtain ⟨t161, A180, H⟩ := H
         replace H : (if t161 = true then ((spec_l1forms.f k2 (rd_L14 l0_0 x4_2)).bind fun t163 => (if (t163.length : Int) = 1 then (spec_ValidModule.l0 k2 (wrap64 (x3_2 + ((rd_L14 l0_0 x4_2).length : Int))) (wrap64 (x4_2 + 1)) l0_0 a0_1 l0_2) else (some false))) else (some false)) = some r := H
         have A18 := zA A180
         clear A180
         by_cases c19 : t161 = true
         ·subst c19
          have H1 : ((spec_l1forms.f k2 (rd_L14 l0_0 x4_2)).bind fun t163 => (if (t163.length : Int) = 1 then (spec_ValidModule.l0 k2 (wrap64 (x3_2 + ((rd_L14 l0_0 x4_2).length : Int))) (wrap64 (x4_2 + 1)) l0_0 a0_1 l0_2) else (some false))) = some r := by rw [if_pos rfl] at H; exact H
          clear H
          have H := H1
          clear H1
          replace H := zo.mp H
          obtain ⟨t163, A200, H⟩ := H
          replace H : (if (t163.length : Int) = 1 then (spec_ValidModule.l0 k2 (wrap64 (x3_2 + ((rd_L14 l0_0 x4_2).length : Int))) (wrap64 (x4_2 + 1)) l0_0 a0_1 l0_2) else (some false)) = some r := H
          have A20 := zA A200
          clear A200
          by_cases c21 : (t163.length : Int) = 1
          ·rw [if_pos c21] at H
           have c21b0 : ((t163.length : Int) == 1) = true := beq_iff_eq.mpr c21
           have c21b1 : ((t163.length : Int) != 1) = false := zn.mpr c21
           clear c21
           have H' := zA H
           clear H
           have hcz22_0 : wr.cell? ⟨gb158, 0, none⟩ = some (.slice A0_0 l0_0.length c0_0) := (zZ BK158.out 0).trans rfl
           have hcz22_1 : wr.cell? ⟨gb158, 1, none⟩ = some (.int .i64 a0_1) := (zZ BK158.out 1).trans rfl
           have hcz22_2 : wr.cell? ⟨gb158, 2, none⟩ = some (.slice A0_2 l0_2.length c0_2) := (zZ BK158.out 2).trans rfl
           have hfz22_0 := zY BK158.out 0
           have hfz22_1 := zY BK158.out 1
           have hfz22_2 := zY BK158.out 2
           have p159 : 0 ≤ (x4_2 : Int) := zF (by first | (with_reducible assumption) | assumption)
           have q159 : x4_2 < (l0_0.length : Int) := zF (by first | (with_reducible assumption) | assumption)
           obtain ⟨ad159, A159_0, c159_0, e159, hx159_0, hl159_0, hi159_0⟩ := at_L14 HR0_0.out x4_2 p159 q159
           cases e159
           replace hx159_0 := (HB.out.cell (zk? w _ hx159_0)).trans hx159_0
           have HR159_0 := zA hi159_0
           have HC159_0 := zA hl159_0
           clear hi159_0 hl159_0
           replace p159 := eq_true p159
           replace q159 := eq_true q159
           have p160 : 0 ≤ (x4_2 : Int) := zF (by first | (with_reducible assumption) | assumption)
           have q160 : x4_2 < (l0_0.length : Int) := zF (by first | (with_reducible assumption) | assumption)
           obtain ⟨ad160, A160_0, c160_0, e160, hx160_0, hl160_0, hi160_0⟩ := at_L14 HR0_0.out x4_2 p160 q160
           obtain rfl : ad159 = ad160 := (by injection e160)
           replace hx160_0 := (HB.out.cell (zk? w _ hx160_0)).trans hx160_0
           have HR160_0 := zA hi160_0
           have HC160_0 := zA hl160_0
           clear hi160_0 hl160_0
           replace p160 := eq_true p160
           replace q160 := eq_true q160
           have ea_ := zl (hx159_0.symm.trans hx160_0)
           injection ea_ with ea_ en_ ec_
           subst ea_
           subst ec_
           clear en_
           go_wp2_with (first | (go_at_call 9; (with_reducible refine (spec_ValidData.calls k2 _ _ (rd_L14 l0_0 x4_2) true _ ?side1 ?side2 A18.out).mono ?_); (case side1 => repeat (first | exact (Kd.C_below HR160_0.out HB.out) | (with_reducible refine zc ?_ _) | (with_reducible refine zd ?_ _) | (with_reducible refine ze ?_))); (case side2 => exact HC160_0.out); rintro e w23 ⟨rfl, hb⟩; have n0_ := zA (zN (g := gb158) (o := .cells #[.slice (some ad159) l0_0.length c0_0, .int .i64 a0_1, .slice A0_2 l0_2.length c0_2] 38 (0, 0)) (kUp BK158.out) hb); have n1_ := zA (zX (by repeat (first | (with_reducible first | exact HB.out | apply zE | apply zC | apply zD | refine zB ?_ GE158.out) | exact HB.out)) hb); clear BK158 HB; have BK158 := n0_; have HB := n1_; clear n0_ n1_; (try clear hb); (try clear hb2); (try clear hk); (try clear hi); have hcz24_0 : w23.cell? ⟨gb158, 0, none⟩ = some (.slice (some ad159) l0_0.length c0_0) := (zZ BK158.out 0).trans rfl; have hcz24_1 : w23.cell? ⟨gb158, 1, none⟩ = some (.int .i64 a0_1) := (zZ BK158.out 1).trans rfl; have hcz24_2 : w23.cell? ⟨gb158, 2, none⟩ = some (.slice A0_2 l0_2.length c0_2) := (zZ BK158.out 2).trans rfl; have hfz24_0 := zY BK158.out 0; have hfz24_1 := zY BK158.out 1; have hfz24_2 := zY BK158.out 2; have p162 : 0 ≤ (x4_2 : Int) := zF (by first | (with_reducible assumption) | assumption); have q162 : x4_2 < (l0_0.length : Int) := zF (by first | (with_reducible assumption) | assumption); obtain ⟨ad162, A162_0, c162_0, e162, hx162_0, hl162_0, hi162_0⟩ := at_L14 HR0_0.out x4_2 p162 q162; obtain rfl : ad159 = ad162 := (by injection e162); replace hx162_0 := (HB.out.cell (zk? w _ hx162_0)).trans hx162_0; have HR162_0 := zA hi162_0; have HC162_0 := zA hl162_0; clear hi162_0 hl162_0; replace p162 := eq_true p162; replace q162 := eq_true q162) | (go_at_call 38; (with_reducible refine (spec_l1forms.calls k2 _ _ (rd_L14 l0_0 x4_2) t163 _ ?side1 ?side2 A20.out).mono ?_); (case side1 => repeat (first | exact (Kd.C_below HR162_0.out HB.out) | (with_reducible refine zc ?_ _) | (with_reducible refine zd ?_ _) | (with_reducible refine ze ?_))); (case side2 => exact HC162_0.out); rintro e w25 ⟨v164, rfl, ho0, hb⟩; have n0_ := zA (Kd.R_lower ho0 (below_size (by repeat (first | (with_reducible first | exact HB.out | apply zE | apply zC | apply zD | refine zB ?_ GE158.out) | exact HB.out)))); have n1_ := zA (zN (g := gb158) (o := .cells #[.slice (some ad159) l0_0.length c0_0, .int .i64 a0_1, .slice A0_2 l0_2.length c0_2] 38 (0, 0)) (kUp BK158.out) hb); have n2_ := zA (zX (by repeat (first | (with_reducible first | exact HB.out | apply zE | apply zC | apply zD | refine zB ?_ GE158.out) | exact HB.out)) hb); clear BK158 HB; have HO165 := n0_; have BK158 := n1_; have HB := n2_; clear n0_ n1_ n2_; (try clear hb); (try clear hb2); (try clear hk); (try clear hi); (try clear ho0); obtain ⟨Ao26, co26, eo26⟩ := Kd.R_slice HO165.out; subst eo26))
           go_roundg k2
           case measure => have := HJ1.out; have := HK2.out; omega
           case rel => exact ⟨(wrap64 (x3_2 + ((rd_L14 l0_0 x4_2).length : Int))), (wrap64 (x4_2 + 1)), (by first | rfl | (simp; done) | (simp [*]; done)), (by first | rfl | (simp; done) | (simp [*]; done)), H', ⟨by have := HJ1.out; have := HK2.out; omega⟩, ⟨by exact kUp BK158.out⟩, ⟨by repeat (first | (with_reducible first | exact HB.out | apply zE | apply zC | apply zD | refine zB ?_ GE158.out) | exact HB.out)⟩⟩
          ·rw [if_neg c21] at H
           have c21b0 : ((t163.length : Int) == 1) = false := zm.mpr c21
           have c21b1 : ((t163.length : Int) != 1) = true := bne_iff_ne.mpr c21
           obtain rfl := zl H
           have hcz27_0 : wr.cell? ⟨gb158, 0, none⟩ = some (.slice A0_0 l0_0.length c0_0) := (zZ BK158.out 0).trans rfl
           have hcz27_1 : wr.cell? ⟨gb158, 1, none⟩ = some (.int .i64 a0_1) := (zZ BK158.out 1).trans rfl
           have hcz27_2 : wr.cell? ⟨gb158, 2, none⟩ = some (.slice A0_2 l0_2.length c0_2) := (zZ BK158.out 2).trans rfl
           have hfz27_0 := zY BK158.out 0
           have hfz27_1 := zY BK158.out 1
           have hfz27_2 := zY BK158.out 2
           have p159 : 0 ≤ (x4_2 : Int) := zF (by first | (with_reducible assumption) | assumption)
           have q159 : x4_2 < (l0_0.length : Int) := zF (by first | (with_reducible assumption) | assumption)
           obtain ⟨ad159, A159_0, c159_0, e159, hx159_0, hl159_0, hi159_0⟩ := at_L14 HR0_0.out x4_2 p159 q159
           cases e159
           replace hx159_0 := (HB.out.cell (zk? w _ hx159_0)).trans hx159_0
           have HR159_0 := zA hi159_0
           have HC159_0 := zA hl159_0
           clear hi159_0 hl159_0
           replace p159 := eq_true p159
           replace q159 := eq_true q159
           have p160 : 0 ≤ (x4_2 : Int) := zF (by first | (with_reducible assumption) | assumption)
           have q160 : x4_2 < (l0_0.length : Int) := zF (by first | (with_reducible assumption) | assumption)
           obtain ⟨ad160, A160_0, c160_0, e160, hx160_0, hl160_0, hi160_0⟩ := at_L14 HR0_0.out x4_2 p160 q160
           obtain rfl : ad159 = ad160 := (by injection e160)
           replace hx160_0 := (HB.out.cell (zk? w _ hx160_0)).trans hx160_0
           have HR160_0 := zA hi160_0
           have HC160_0 := zA hl160_0
           clear hi160_0 hl160_0
           replace p160 := eq_true p160
           replace q160 := eq_true q160
           have ea_ := zl (hx159_0.symm.trans hx160_0)
           injection ea_ with ea_ en_ ec_
           subst ea_
           subst ec_
           clear en_
           go_wp2_with (first | (go_at_call 9; (with_reducible refine (spec_ValidData.calls k2 _ _ (rd_L14 l0_0 x4_2) true _ ?side1 ?side2 A18.out).mono ?_); (case side1 => repeat (first | exact (Kd.C_below HR160_0.out HB.out) | (with_reducible refine zc ?_ _) | (with_reducible refine zd ?_ _) | (with_reducible refine ze ?_))); (case side2 => exact HC160_0.out); rintro e w28 ⟨rfl, hb⟩; have n0_ := zA (zN (g := gb158) (o := .cells #[.slice (some ad159) l0_0.length c0_0, .int .i64 a0_1, .slice A0_2 l0_2.length c0_2] 38 (0, 0)) (kUp BK158.out) hb); have n1_ := zA (zX (by repeat (first | (with_reducible first | exact HB.out | apply zE | apply zC | apply zD | refine zB ?_ GE158.out) | exact HB.out)) hb); clear BK158 HB; have BK158 := n0_; have HB := n1_; clear n0_ n1_; (try clear hb); (try clear hb2); (try clear hk); (try clear hi); have hcz29_0 : w28.cell? ⟨gb158, 0, none⟩ = some (.slice (some ad159) l0_0.length c0_0) := (zZ BK158.out 0).trans rfl; have hcz29_1 : w28.cell? ⟨gb158, 1, none⟩ = some (.int .i64 a0_1) := (zZ BK158.out 1).trans rfl; have hcz29_2 : w28.cell? ⟨gb158, 2, none⟩ = some (.slice A0_2 l0_2.length c0_2) := (zZ BK158.out 2).trans rfl; have hfz29_0 := zY BK158.out 0; have hfz29_1 := zY BK158.out 1; have hfz29_2 := zY BK158.out 2; have p162 : 0 ≤ (x4_2 : Int) := zF (by first | (with_reducible assumption) | assumption); have q162 : x4_2 < (l0_0.length : Int) := zF (by first | (with_reducible assumption) | assumption); obtain ⟨ad162, A162_0, c162_0, e162, hx162_0, hl162_0, hi162_0⟩ := at_L14 HR0_0.out x4_2 p162 q162; obtain rfl : ad159 = ad162 := (by injection e162); replace hx162_0 := (HB.out.cell (zk? w _ hx162_0)).trans hx162_0; have HR162_0 := zA hi162_0; have HC162_0 := zA hl162_0; clear hi162_0 hl162_0; replace p162 := eq_true p162; replace q162 := eq_true q162) | (go_at_call 38; (with_reducible refine (spec_l1forms.calls k2 _ _ (rd_L14 l0_0 x4_2) t163 _ ?side1 ?side2 A20.out).mono ?_); (case side1 => repeat (first | exact (Kd.C_below HR162_0.out HB.out) | (with_reducible refine zc ?_ _) | (with_reducible refine zd ?_ _) | (with_reducible refine ze ?_))); (case side2 => exact HC162_0.out); rintro e w30 ⟨v164, rfl, ho0, hb⟩; have n0_ := zA (Kd.R_lower ho0 (below_size (by repeat (first | (with_reducible first | exact HB.out | apply zE | apply zC | apply zD | refine zB ?_ GE158.out) | exact HB.out)))); have n1_ := zA (zN (g := gb158) (o := .cells #[.slice (some ad159) l0_0.length c0_0, .int .i64 a0_1, .slice A0_2 l0_2.length c0_2] 38 (0, 0)) (kUp BK158.out) hb); have n2_ := zA (zX (by repeat (first | (with_reducible first | exact HB.out | apply zE | apply zC | apply zD | refine zB ?_ GE158.out) | exact HB.out)) hb); clear BK158 HB; have HO165 := n0_; have BK158 := n1_; have HB := n2_; clear n0_ n1_ n2_; (try clear hb); (try clear hb2); (try clear hk); (try clear hi); (try clear ho0); obtain ⟨Ao31, co31, eo31⟩ := Kd.R_slice HO165.out; subst eo31))
           go_ret
           exact ⟨by first | rfl | (simp [errW_none, errW_some] <;> rfl) | (simp [*, errW_none, errW_some] <;> rfl), by repeat (first | (with_reducible first | exact HB.out | apply zE | apply zC | apply zD | refine zB ?_ GE158.out) | exact HB.out)⟩
         ·replace c19 := zp.mpr c19
          subst c19
          have H1 : (some false) = some r := by rw [if_neg (show ¬ (false = true) by decide)] at H; exact H
          clear H
          have H := H1
          clear H1
          obtain rfl := zl H
          have hcz32_0 : wr.cell? ⟨gb158, 0, none⟩ = some (.slice A0_0 l0_0.length c0_0) := (zZ BK158.out 0).trans rfl
          have hcz32_1 : wr.cell? ⟨gb158, 1, none⟩ = some (.int .i64 a0_1) := (zZ BK158.out 1).trans rfl
          have hcz32_2 : wr.cell? ⟨gb158, 2, none⟩ = some (.slice A0_2 l0_2.length c0_2) := (zZ BK158.out 2).trans rfl
          have hfz32_0 := zY BK158.out 0
          have hfz32_1 := zY BK158.out 1
          have hfz32_2 := zY BK158.out 2
          have p159 : 0 ≤ (x4_2 : Int) := zF (by first | (with_reducible assumption) | assumption)
          have q159 : x4_2 < (l0_0.length : Int) := zF (by first | (with_reducible assumption) | assumption)
          obtain ⟨ad159, A159_0, c159_0, e159, hx159_0, hl159_0, hi159_0⟩ := at_L14 HR0_0.out x4_2 p159 q159
          cases e159
          replace hx159_0 := (HB.out.cell (zk? w _ hx159_0)).trans hx159_0
          have HR159_0 := zA hi159_0
          have HC159_0 := zA hl159_0
          clear hi159_0 hl159_0
          replace p159 := eq_true p159
          replace q159 := eq_true q159
          have p160 : 0 ≤ (x4_2 : Int) := zF (by first | (with_reducible assumption) | assumption)
          have q160 : x4_2 < (l0_0.length : Int) := zF (by first | (with_reducible assumption) | assumption)
          obtain ⟨ad160, A160_0, c160_0, e160, hx160_0, hl160_0, hi160_0⟩ := at_L14 HR0_0.out x4_2 p160 q160
          obtain rfl : ad159 = ad160 := (by injection e160)
          replace hx160_0 := (HB.out.cell (zk? w _ hx160_0)).trans hx160_0
          have HR160_0 := zA hi160_0
          have HC160_0 := zA hl160_0
          clear hi160_0 hl160_0
          replace p160 := eq_true p160
          replace q160 := eq_true q160
          have ea_ := zl (hx159_0.symm.trans hx160_0)
          injection ea_ with ea_ en_ ec_
          subst ea_
          subst ec_
          clear en_
          go_wp2_with (first | (go_at_call 9; (with_reducible refine (spec_ValidData.calls k2 _ _ (rd_L14 l0_0 x4_2) false _ ?side1 ?side2 A18.out).mono ?_); (case side1 => repeat (first | exact (Kd.C_below HR160_0.out HB.out) | (with_reducible refine zc ?_ _) | (with_reducible refine zd ?_ _) | (with_reducible refine ze ?_))); (case side2 => exact HC160_0.out); rintro e w33 ⟨rfl, hb⟩; have n0_ := zA (zN (g := gb158) (o := .cells #[.slice (some ad159) l0_0.length c0_0, .int .i64 a0_1, .slice A0_2 l0_2.length c0_2] 38 (0, 0)) (kUp BK158.out) hb); have n1_ := zA (zX (by repeat (first | (with_reducible first | exact HB.out | apply zE | apply zC | apply zD | refine zB ?_ GE158.out) | exact HB.out)) hb); clear BK158 HB; have BK158 := n0_; have HB := n1_; clear n0_ n1_; (try clear hb); (try clear hb2); (try clear hk); (try clear hi)))
          go_ret
          exact ⟨by first | rfl | (simp [errW_none, errW_some] <;> rfl) | (simp [*, errW_none, errW_some] <;> rfl), by repeat (first | (with_reducible first | exact HB.out | apply zE | apply zC | apply zD | refine zB ?_ GE158.out) | exact HB.out)⟩
       ·rw [if_neg c15] at H
        exact absurd H (by simp)
      ·rw [if_neg c14] at H
       have c14b0 : decide (x4_2 < (l0_0.length : Int)) = false := zH c14
       clear c14
       have H' := zA H
       clear H
       have hcz34_0 : wr.cell? ⟨gb158, 0, none⟩ = some (.slice A0_0 l0_0.length c0_0) := (zZ BK158.out 0).trans rfl
       have hcz34_1 : wr.cell? ⟨gb158, 1, none⟩ = some (.int .i64 a0_1) := (zZ BK158.out 1).trans rfl
       have hcz34_2 : wr.cell? ⟨gb158, 2, none⟩ = some (.slice A0_2 l0_2.length c0_2) := (zZ BK158.out 2).trans rfl
       have hfz34_0 := zY BK158.out 0
       have hfz34_1 := zY BK158.out 1
       have hfz34_2 := zY BK158.out 2
       go_wp2
       go_loopg [5, 6] k2 (fun kq v5 v6 w' => ∃ (x5_3 : Int) (x6_3 : Int), v5 = .int .i64 x5_3 ∧ v6 = .int .i64 x6_3 ∧ Aside0 (spec_ValidModule.l1 kq x5_3 x6_3 l0_0 a0_1 l0_2 = some r) ∧ Aside0 (kq ≤ k2) ∧ Aside0 (w'.heap[gb158]? = some (.cells #[(.slice A0_0 l0_0.length c0_0), .int .i64 a0_1, (.slice A0_2 l0_2.length c0_2)] 38 (0, 0))) ∧ Aside0 (Below w.heap.size w w'))
       case atStart => exact ⟨(0), (0), (by first | rfl | (simp; done) | (simp [*]; done)), (by first | rfl | (simp; done) | (simp [*]; done)), H', ⟨Nat.le_refl _⟩, ⟨by exact kUp BK158.out⟩, ⟨by repeat (first | (with_reducible first | exact HB.out | apply zE | apply zC | apply zD | refine zB ?_ GE158.out) | exact HB.out)⟩⟩
       case round =>
        clear H'
        try clear c1
        try clear p1
        try clear q1
        try clear hx1
        try clear c2
        try clear p2
        try clear c4
        try clear c4b0
        try clear c4b1
        try clear c6
        try clear c6b0
        try clear c6b1
        try clear p6
        try clear c8
        try clear c8b0
        try clear c8b1
        try clear c10
        try clear c10b0
        try clear c13
        try clear c14
        try clear c14b0
        try clear c15
        try clear c15b0
        try clear p15
        try clear q15
        try clear hx15
        try clear c16
        try clear c16b0
        try clear p16
        try clear q16
        try clear hx16
        try clear c19
        try clear c21
        try clear c21b0
        try clear c21b1
        try clear hcz11_0
        try clear hcz11_1
        try clear hcz11_2
        try clear hcz12_0
        try clear hcz12_1
        try clear hcz12_2
        try clear hcz17_0
        try clear hcz17_1
        try clear hcz17_2
        try clear hcz22_0
        try clear hcz22_1
        try clear hcz22_2
        try clear hcz24_0
        try clear hcz24_1
        try clear hcz24_2
        try clear hcz27_0
        try clear hcz27_1
        try clear hcz27_2
        try clear hcz29_0
        try clear hcz29_1
        try clear hcz29_2
        try clear hcz32_0
        try clear hcz32_1
        try clear hcz32_2
        try clear hcz34_0
        try clear hcz34_1
        try clear hcz34_2
        try clear hcz5_0
        try clear hcz5_1
        try clear hcz5_2
        try clear hcz7_0
        try clear hcz7_1
        try clear hcz7_2
        try clear hcz9_0
        try clear hcz9_1
        try clear hcz9_2
        try clear hfz11_0
        try clear hfz11_1
        try clear hfz11_2
        try clear hfz12_0
        try clear hfz12_1
        try clear hfz12_2
        try clear hfz17_0
        try clear hfz17_1
        try clear hfz17_2
        try clear hfz22_0
        try clear hfz22_1
        try clear hfz22_2
        try clear hfz24_0
        try clear hfz24_1
        try clear hfz24_2
        try clear hfz27_0
        try clear hfz27_1
        try clear hfz27_2
        try clear hfz29_0
        try clear hfz29_1
        try clear hfz29_2
        try clear hfz32_0
        try clear hfz32_1
        try clear hfz32_2
        try clear hfz34_0
        try clear hfz34_1
        try clear hfz34_2
        try clear hfz5_0
        try clear hfz5_1
        try clear hfz5_2
        try clear hfz7_0
        try clear hfz7_1
        try clear hfz7_2
        try clear hfz9_0
        try clear hfz9_1
        try clear hfz9_2
        try clear hx159_0
        try clear hx160_0
        try clear hx162_0
        try clear p159
        try clear p160
        try clear p162
        try clear p2
        try clear q159
        try clear q160
        try clear q162
        obtain ⟨x5_3, x6_3, rfl, rfl, HA, HK3, BK158, HB⟩ := hrel
        cases gk with
        | zero => exact absurd HA.out (by simp [spec_ValidModule.l1])
        | succ k3 =>
         have H := HA.out
         clear HA
         simp only [spec_ValidModule.l1] at H
         by_cases c35 : x6_3 < (l0_2.length : Int)
         ·rw [if_pos c35] at H
          have c35b0 : decide (x6_3 < (l0_2.length : Int)) = true := zG c35
          clear c35
          by_cases c36 : 0 ≤ x6_3
          ·rw [if_pos c36] at H
           have c36b0 : decide (0 ≤ x6_3) = true := zG c36
           clear c36
           by_cases c37 : ((rd_T68 l0_2 x6_3).f0) < 0
           ·rw [if_pos c37] at H
            have c37b0 : decide (((rd_T68 l0_2 x6_3).f0) < 0) = true := zG c37
            clear c37
            obtain rfl := zl H
            have hcz38_0 : wr.cell? ⟨gb158, 0, none⟩ = some (.slice A0_0 l0_0.length c0_0) := (zZ BK158.out 0).trans rfl
            have hcz38_1 : wr.cell? ⟨gb158, 1, none⟩ = some (.int .i64 a0_1) := (zZ BK158.out 1).trans rfl
            have hcz38_2 : wr.cell? ⟨gb158, 2, none⟩ = some (.slice A0_2 l0_2.length c0_2) := (zZ BK158.out 2).trans rfl
            have hfz38_0 := zY BK158.out 0
            have hfz38_1 := zY BK158.out 1
            have hfz38_2 := zY BK158.out 2
            have p166 : 0 ≤ (x6_3 : Int) := zF (by first | (with_reducible assumption) | assumption)
            have q166 : x6_3 < (l0_2.length : Int) := zF (by first | (with_reducible assumption) | assumption)
            obtain ⟨ad166, A166_1, c166_1, A166_2, c166_2, e166, hx166_0, hx166_1, hx166_2, hl166_1, hi166_1, hl166_2, hi166_2⟩ := at_T68 HR0_2.out x6_3 p166 q166
            cases e166
            replace hx166_0 := (HB.out.cell (zk? w _ hx166_0)).trans hx166_0
            replace hx166_1 := (HB.out.cell (zk? w _ hx166_1)).trans hx166_1
            replace hx166_2 := (HB.out.cell (zk? w _ hx166_2)).trans hx166_2
            have HR166_1 := zA hi166_1
            have HC166_1 := zA hl166_1
            clear hi166_1 hl166_1
            have HR166_2 := zA hi166_2
            have HC166_2 := zA hl166_2
            clear hi166_2 hl166_2
            replace p166 := eq_true p166
            replace q166 := eq_true q166
            go_wp2_with (first | ((with_reducible refine gate_dst (N := 7) rfl ?_); (try (refine gate_guard (by rfl) ?_; dsimp only)); refine box_event ?hg (N := 7) ?hd (cs := #[.int .i64 0, .slice none 0 0, .slice none 0 0]) (t := 68) ?hr ?_; (case hd => rfl); (case hg => rfl); (case hr => first | (go_simp; done) | (go_simp; rfl)); intro gb167 hg w39 hbox hb; have n0_ := zA (zN (g := gb158) (o := .cells #[.slice A0_0 l0_0.length c0_0, .int .i64 a0_1, .slice (some ad166) l0_2.length c0_2] 38 (0, 0)) (kUp BK158.out) hb); have n1_ := zA (zX (by repeat (first | (with_reducible first | exact HB.out | apply zE | apply zC | apply zD | refine zB ?_ GE158.out) | exact HB.out)) hb); have n2_ := zA (hbox); have n3_ := zA ((by rw [hg]; exact (below_size (by repeat (first | (with_reducible first | exact HB.out | apply zE | apply zC | apply zD | refine zB ?_ GE158.out) | exact HB.out))) : w.heap.size ≤ gb167)); have n4_ := zA ((by rw [hg]; exact (below_size (by repeat (first | (with_reducible first | exact HB.out | apply zE | apply zC | apply zD | refine zB ?_ GE158.out) | exact HB.out))) : w.heap.size ≤ gb167)); have n5_ := zA ((by rw [hg]; exact Nat.ne_of_lt (blk_lt (g := gb158) (o := .cells #[.slice A0_0 l0_0.length c0_0, .int .i64 a0_1, .slice (some ad166) l0_2.length c0_2] 38 (0, 0)) (kUp BK158.out)) : gb158 ≠ gb167)); have n6_ := zA ((by rw [hg]; exact Nat.ne_of_gt (blk_lt (g := gb158) (o := .cells #[.slice A0_0 l0_0.length c0_0, .int .i64 a0_1, .slice (some ad166) l0_2.length c0_2] 38 (0, 0)) (kUp BK158.out)) : gb167 ≠ gb158)); clear BK158 HB; have BK158 := n0_; have HB := n1_; have BK167 := n2_; have GW167 := n3_; have GE167 := n4_; have NB158_167 := n5_; have NB167_158 := n6_; clear n0_ n1_ n2_ n3_ n4_ n5_ n6_; clear hb hbox hg; have hnb40 := NB167_158.out; have hnc40 := NB158_167.out; have hcz41_0 : w39.cell? ⟨gb167, 0, none⟩ = some (.int .i64 0) := (zZ BK167.out 0).trans rfl; have hcz41_1 : w39.cell? ⟨gb167, 1, none⟩ = some (.slice none 0 0) := (zZ BK167.out 1).trans rfl; have hcz41_2 : w39.cell? ⟨gb167, 2, none⟩ = some (.slice none 0 0) := (zZ BK167.out 2).trans rfl; have hfz41_0 := zY BK167.out 0; have hfz41_1 := zY BK167.out 1; have hfz41_2 := zY BK167.out 2))
            go_ret
            exact ⟨by first | rfl | (simp [errW_none, errW_some] <;> rfl) | (simp [*, errW_none, errW_some] <;> rfl), by repeat (first | (with_reducible first | exact HB.out | apply zE | apply zC | apply zD | refine zB ?_ GE158.out | refine zB ?_ GE167.out) | exact HB.out)⟩
           ·rw [if_neg c37] at H
            have c37b0 : decide (((rd_T68 l0_2 x6_3).f0) < 0) = false := zH c37
            clear c37
            by_cases c42 : ((rd_T68 l0_2 x6_3).f0) > 20
            ·rw [if_pos c42] at H
             have c42b0 : decide (20 < ((rd_T68 l0_2 x6_3).f0)) = true := zG c42
             clear c42
             obtain rfl := zl H
             have hcz43_0 : wr.cell? ⟨gb158, 0, none⟩ = some (.slice A0_0 l0_0.length c0_0) := (zZ BK158.out 0).trans rfl
             have hcz43_1 : wr.cell? ⟨gb158, 1, none⟩ = some (.int .i64 a0_1) := (zZ BK158.out 1).trans rfl
             have hcz43_2 : wr.cell? ⟨gb158, 2, none⟩ = some (.slice A0_2 l0_2.length c0_2) := (zZ BK158.out 2).trans rfl
             have hfz43_0 := zY BK158.out 0
             have hfz43_1 := zY BK158.out 1
             have hfz43_2 := zY BK158.out 2
             have p166 : 0 ≤ (x6_3 : Int) := zF (by first | (with_reducible assumption) | assumption)
             have q166 : x6_3 < (l0_2.length : Int) := zF (by first | (with_reducible assumption) | assumption)
             obtain ⟨ad166, A166_1, c166_1, A166_2, c166_2, e166, hx166_0, hx166_1, hx166_2, hl166_1, hi166_1, hl166_2, hi166_2⟩ := at_T68 HR0_2.out x6_3 p166 q166
             cases e166
             replace hx166_0 := (HB.out.cell (zk? w _ hx166_0)).trans hx166_0
             replace hx166_1 := (HB.out.cell (zk? w _ hx166_1)).trans hx166_1
             replace hx166_2 := (HB.out.cell (zk? w _ hx166_2)).trans hx166_2
             have HR166_1 := zA hi166_1
             have HC166_1 := zA hl166_1
             clear hi166_1 hl166_1
             have HR166_2 := zA hi166_2
             have HC166_2 := zA hl166_2
             clear hi166_2 hl166_2
             replace p166 := eq_true p166
             replace q166 := eq_true q166
             go_wp2_with (first | ((with_reducible refine gate_dst (N := 7) rfl ?_); (try (refine gate_guard (by rfl) ?_; dsimp only)); refine box_event ?hg (N := 7) ?hd (cs := #[.int .i64 0, .slice none 0 0, .slice none 0 0]) (t := 68) ?hr ?_; (case hd => rfl); (case hg => rfl); (case hr => first | (go_simp; done) | (go_simp; rfl)); intro gb167 hg w44 hbox hb; have n0_ := zA (zN (g := gb158) (o := .cells #[.slice A0_0 l0_0.length c0_0, .int .i64 a0_1, .slice (some ad166) l0_2.length c0_2] 38 (0, 0)) (kUp BK158.out) hb); have n1_ := zA (zX (by repeat (first | (with_reducible first | exact HB.out | apply zE | apply zC | apply zD | refine zB ?_ GE158.out) | exact HB.out)) hb); have n2_ := zA (hbox); have n3_ := zA ((by rw [hg]; exact (below_size (by repeat (first | (with_reducible first | exact HB.out | apply zE | apply zC | apply zD | refine zB ?_ GE158.out) | exact HB.out))) : w.heap.size ≤ gb167)); have n4_ := zA ((by rw [hg]; exact (below_size (by repeat (first | (with_reducible first | exact HB.out | apply zE | apply zC | apply zD | refine zB ?_ GE158.out) | exact HB.out))) : w.heap.size ≤ gb167)); have n5_ := zA ((by rw [hg]; exact Nat.ne_of_lt (blk_lt (g := gb158) (o := .cells #[.slice A0_0 l0_0.length c0_0, .int .i64 a0_1, .slice (some ad166) l0_2.length c0_2] 38 (0, 0)) (kUp BK158.out)) : gb158 ≠ gb167)); have n6_ := zA ((by rw [hg]; exact Nat.ne_of_gt (blk_lt (g := gb158) (o := .cells #[.slice A0_0 l0_0.length c0_0, .int .i64 a0_1, .slice (some ad166) l0_2.length c0_2] 38 (0, 0)) (kUp BK158.out)) : gb167 ≠ gb158)); clear BK158 HB; have BK158 := n0_; have HB := n1_; have BK167 := n2_; have GW167 := n3_; have GE167 := n4_; have NB158_167 := n5_; have NB167_158 := n6_; clear n0_ n1_ n2_ n3_ n4_ n5_ n6_; clear hb hbox hg; have hnb45 := NB167_158.out; have hnc45 := NB158_167.out; have hcz46_0 : w44.cell? ⟨gb167, 0, none⟩ = some (.int .i64 0) := (zZ BK167.out 0).trans rfl; have hcz46_1 : w44.cell? ⟨gb167, 1, none⟩ = some (.slice none 0 0) := (zZ BK167.out 1).trans rfl; have hcz46_2 : w44.cell? ⟨gb167, 2, none⟩ = some (.slice none 0 0) := (zZ BK167.out 2).trans rfl; have hfz46_0 := zY BK167.out 0; have hfz46_1 := zY BK167.out 1; have hfz46_2 := zY BK167.out 2))
             go_ret
             exact ⟨by first | rfl | (simp [errW_none, errW_some] <;> rfl) | (simp [*, errW_none, errW_some] <;> rfl), by repeat (first | (with_reducible first | exact HB.out | apply zE | apply zC | apply zD | refine zB ?_ GE158.out | refine zB ?_ GE167.out) | exact HB.out)⟩
            ·rw [if_neg c42] at H
             have c42b0 : decide (20 < ((rd_T68 l0_2 x6_3).f0)) = false := zH c42
             clear c42
             by_cases c47 : (((rd_T68 l0_2 x6_3).f1).length : Int) > 50
             ·rw [if_pos c47] at H
              have c47b0 : decide (50 < (((rd_T68 l0_2 x6_3).f1).length : Int)) = true := zG c47
              have c47b1 : decide (50 < ((rd_T68 l0_2 x6_3).f1).length) = true := zG (by omega)
              clear c47
              obtain rfl := zl H
              have hcz48_0 : wr.cell? ⟨gb158, 0, none⟩ = some (.slice A0_0 l0_0.length c0_0) := (zZ BK158.out 0).trans rfl
              have hcz48_1 : wr.cell? ⟨gb158, 1, none⟩ = some (.int .i64 a0_1) := (zZ BK158.out 1).trans rfl
              have hcz48_2 : wr.cell? ⟨gb158, 2, none⟩ = some (.slice A0_2 l0_2.length c0_2) := (zZ BK158.out 2).trans rfl
              have hfz48_0 := zY BK158.out 0
              have hfz48_1 := zY BK158.out 1
              have hfz48_2 := zY BK158.out 2
              have p166 : 0 ≤ (x6_3 : Int) := zF (by first | (with_reducible assumption) | assumption)
              have q166 : x6_3 < (l0_2.length : Int) := zF (by first | (with_reducible assumption) | assumption)
              obtain ⟨ad166, A166_1, c166_1, A166_2, c166_2, e166, hx166_0, hx166_1, hx166_2, hl166_1, hi166_1, hl166_2, hi166_2⟩ := at_T68 HR0_2.out x6_3 p166 q166
              cases e166
              replace hx166_0 := (HB.out.cell (zk? w _ hx166_0)).trans hx166_0
              replace hx166_1 := (HB.out.cell (zk? w _ hx166_1)).trans hx166_1
              replace hx166_2 := (HB.out.cell (zk? w _ hx166_2)).trans hx166_2
              have HR166_1 := zA hi166_1
              have HC166_1 := zA hl166_1
              clear hi166_1 hl166_1
              have HR166_2 := zA hi166_2
              have HC166_2 := zA hl166_2
              clear hi166_2 hl166_2
              replace p166 := eq_true p166
              replace q166 := eq_true q166
              go_wp2_with (first | ((with_reducible refine gate_dst (N := 7) rfl ?_); (try (refine gate_guard (by rfl) ?_; dsimp only)); refine box_event ?hg (N := 7) ?hd (cs := #[.int .i64 0, .slice none 0 0, .slice none 0 0]) (t := 68) ?hr ?_; (case hd => rfl); (case hg => rfl); (case hr => first | (go_simp; done) | (go_simp; rfl)); intro gb167 hg w49 hbox hb; have n0_ := zA (zN (g := gb158) (o := .cells #[.slice A0_0 l0_0.length c0_0, .int .i64 a0_1, .slice (some ad166) l0_2.length c0_2] 38 (0, 0)) (kUp BK158.out) hb); have n1_ := zA (zX (by repeat (first | (with_reducible first | exact HB.out | apply zE | apply zC | apply zD | refine zB ?_ GE158.out) | exact HB.out)) hb); have n2_ := zA (hbox); have n3_ := zA ((by rw [hg]; exact (below_size (by repeat (first | (with_reducible first | exact HB.out | apply zE | apply zC | apply zD | refine zB ?_ GE158.out) | exact HB.out))) : w.heap.size ≤ gb167)); have n4_ := zA ((by rw [hg]; exact (below_size (by repeat (first | (with_reducible first | exact HB.out | apply zE | apply zC | apply zD | refine zB ?_ GE158.out) | exact HB.out))) : w.heap.size ≤ gb167)); have n5_ := zA ((by rw [hg]; exact Nat.ne_of_lt (blk_lt (g := gb158) (o := .cells #[.slice A0_0 l0_0.length c0_0, .int .i64 a0_1, .slice (some ad166) l0_2.length c0_2] 38 (0, 0)) (kUp BK158.out)) : gb158 ≠ gb167)); have n6_ := zA ((by rw [hg]; exact Nat.ne_of_gt (blk_lt (g := gb158) (o := .cells #[.slice A0_0 l0_0.length c0_0, .int .i64 a0_1, .slice (some ad166) l0_2.length c0_2] 38 (0, 0)) (kUp BK158.out)) : gb167 ≠ gb158)); clear BK158 HB; have BK158 := n0_; have HB := n1_; have BK167 := n2_; have GW167 := n3_; have GE167 := n4_; have NB158_167 := n5_; have NB167_158 := n6_; clear n0_ n1_ n2_ n3_ n4_ n5_ n6_; clear hb hbox hg; have hnb50 := NB167_158.out; have hnc50 := NB158_167.out; have hcz51_0 : w49.cell? ⟨gb167, 0, none⟩ = some (.int .i64 0) := (zZ BK167.out 0).trans rfl; have hcz51_1 : w49.cell? ⟨gb167, 1, none⟩ = some (.slice none 0 0) := (zZ BK167.out 1).trans rfl; have hcz51_2 : w49.cell? ⟨gb167, 2, none⟩ = some (.slice none 0 0) := (zZ BK167.out 2).trans rfl; have hfz51_0 := zY BK167.out 0; have hfz51_1 := zY BK167.out 1; have hfz51_2 := zY BK167.out 2))
              go_ret
              exact ⟨by first | rfl | (simp [errW_none, errW_some] <;> rfl) | (simp [*, errW_none, errW_some] <;> rfl), by repeat (first | (with_reducible first | exact HB.out | apply zE | apply zC | apply zD | refine zB ?_ GE158.out | refine zB ?_ GE167.out) | exact HB.out)⟩
             ·rw [if_neg c47] at H
              have c47b0 : decide (50 < (((rd_T68 l0_2 x6_3).f1).length : Int)) = false := zH c47
              have c47b1 : decide (50 < ((rd_T68 l0_2 x6_3).f1).length) = false := zH (by omega)
              clear c47
              by_cases c52 : (((rd_T68 l0_2 x6_3).f2).length : Int) < 1
              ·rw [if_pos c52] at H
               have c52b0 : decide ((((rd_T68 l0_2 x6_3).f2).length : Int) < 1) = true := zG c52
               have c52b1 : decide (((rd_T68 l0_2 x6_3).f2).length < 1) = true := zG (by omega)
               clear c52
               obtain rfl := zl H
               have hcz53_0 : wr.cell? ⟨gb158, 0, none⟩ = some (.slice A0_0 l0_0.length c0_0) := (zZ BK158.out 0).trans rfl
               have hcz53_1 : wr.cell? ⟨gb158, 1, none⟩ = some (.int .i64 a0_1) := (zZ BK158.out 1).trans rfl
               have hcz53_2 : wr.cell? ⟨gb158, 2, none⟩ = some (.slice A0_2 l0_2.length c0_2) := (zZ BK158.out 2).trans rfl
               have hfz53_0 := zY BK158.out 0
               have hfz53_1 := zY BK158.out 1
               have hfz53_2 := zY BK158.out 2
               have p166 : 0 ≤ (x6_3 : Int) := zF (by first | (with_reducible assumption) | assumption)
               have q166 : x6_3 < (l0_2.length : Int) := zF (by first | (with_reducible assumption) | assumption)
               obtain ⟨ad166, A166_1, c166_1, A166_2, c166_2, e166, hx166_0, hx166_1, hx166_2, hl166_1, hi166_1, hl166_2, hi166_2⟩ := at_T68 HR0_2.out x6_3 p166 q166
               cases e166
               replace hx166_0 := (HB.out.cell (zk? w _ hx166_0)).trans hx166_0
               replace hx166_1 := (HB.out.cell (zk? w _ hx166_1)).trans hx166_1
               replace hx166_2 := (HB.out.cell (zk? w _ hx166_2)).trans hx166_2
               have HR166_1 := zA hi166_1
               have HC166_1 := zA hl166_1
               clear hi166_1 hl166_1
               have HR166_2 := zA hi166_2
               have HC166_2 := zA hl166_2
               clear hi166_2 hl166_2
               replace p166 := eq_true p166
               replace q166 := eq_true q166
               go_wp2_with (first | ((with_reducible refine gate_dst (N := 7) rfl ?_); (try (refine gate_guard (by rfl) ?_; dsimp only)); refine box_event ?hg (N := 7) ?hd (cs := #[.int .i64 0, .slice none 0 0, .slice none 0 0]) (t := 68) ?hr ?_; (case hd => rfl); (case hg => rfl); (case hr => first | (go_simp; done) | (go_simp; rfl)); intro gb167 hg w54 hbox hb; have n0_ := zA (zN (g := gb158) (o := .cells #[.slice A0_0 l0_0.length c0_0, .int .i64 a0_1, .slice (some ad166) l0_2.length c0_2] 38 (0, 0)) (kUp BK158.out) hb); have n1_ := zA (zX (by repeat (first | (with_reducible first | exact HB.out | apply zE | apply zC | apply zD | refine zB ?_ GE158.out) | exact HB.out)) hb); have n2_ := zA (hbox); have n3_ := zA ((by rw [hg]; exact (below_size (by repeat (first | (with_reducible first | exact HB.out | apply zE | apply zC | apply zD | refine zB ?_ GE158.out) | exact HB.out))) : w.heap.size ≤ gb167)); have n4_ := zA ((by rw [hg]; exact (below_size (by repeat (first | (with_reducible first | exact HB.out | apply zE | apply zC | apply zD | refine zB ?_ GE158.out) | exact HB.out))) : w.heap.size ≤ gb167)); have n5_ := zA ((by rw [hg]; exact Nat.ne_of_lt (blk_lt (g := gb158) (o := .cells #[.slice A0_0 l0_0.length c0_0, .int .i64 a0_1, .slice (some ad166) l0_2.length c0_2] 38 (0, 0)) (kUp BK158.out)) : gb158 ≠ gb167)); have n6_ := zA ((by rw [hg]; exact Nat.ne_of_gt (blk_lt (g := gb158) (o := .cells #[.slice A0_0 l0_0.length c0_0, .int .i64 a0_1, .slice (some ad166) l0_2.length c0_2] 38 (0, 0)) (kUp BK158.out)) : gb167 ≠ gb158)); clear BK158 HB; have BK158 := n0_; have HB := n1_; have BK167 := n2_; have GW167 := n3_; have GE167 := n4_; have NB158_167 := n5_; have NB167_158 := n6_; clear n0_ n1_ n2_ n3_ n4_ n5_ n6_; clear hb hbox hg; have hnb55 := NB167_158.out; have hnc55 := NB158_167.out; have hcz56_0 : w54.cell? ⟨gb167, 0, none⟩ = some (.int .i64 0) := (zZ BK167.out 0).trans rfl; have hcz56_1 : w54.cell? ⟨gb167, 1, none⟩ = some (.slice none 0 0) := (zZ BK167.out 1).trans rfl; have hcz56_2 : w54.cell? ⟨gb167, 2, none⟩ = some (.slice none 0 0) := (zZ BK167.out 2).trans rfl; have hfz56_0 := zY BK167.out 0; have hfz56_1 := zY BK167.out 1; have hfz56_2 := zY BK167.out 2))
               go_ret
               exact ⟨by first | rfl | (simp [errW_none, errW_some] <;> rfl) | (simp [*, errW_none, errW_some] <;> rfl), by repeat (first | (with_reducible first | exact HB.out | apply zE | apply zC | apply zD | refine zB ?_ GE158.out | refine zB ?_ GE167.out) | exact HB.out)⟩
              ·rw [if_neg c52] at H
               have c52b0 : decide ((((rd_T68 l0_2 x6_3).f2).length : Int) < 1) = false := zH c52
               have c52b1 : decide (((rd_T68 l0_2 x6_3).f2).length < 1) = false := zH (by omega)
               clear c52
               by_cases c57 : (wrap64 (x5_3 + (((rd_T68 l0_2 x6_3).f2).length : Int))) > 5000
               ·rw [if_pos c57] at H
                have c57b0 : decide (5000 < (wrap64 (x5_3 + (((rd_T68 l0_2 x6_3).f2).length : Int)))) = true := zG c57
                clear c57
                obtain rfl := zl H
                have hcz58_0 : wr.cell? ⟨gb158, 0, none⟩ = some (.slice A0_0 l0_0.length c0_0) := (zZ BK158.out 0).trans rfl
                have hcz58_1 : wr.cell? ⟨gb158, 1, none⟩ = some (.int .i64 a0_1) := (zZ BK158.out 1).trans rfl
                have hcz58_2 : wr.cell? ⟨gb158, 2, none⟩ = some (.slice A0_2 l0_2.length c0_2) := (zZ BK158.out 2).trans rfl
                have hfz58_0 := zY BK158.out 0
                have hfz58_1 := zY BK158.out 1
                have hfz58_2 := zY BK158.out 2
                have p166 : 0 ≤ (x6_3 : Int) := zF (by first | (with_reducible assumption) | assumption)
                have q166 : x6_3 < (l0_2.length : Int) := zF (by first | (with_reducible assumption) | assumption)
                obtain ⟨ad166, A166_1, c166_1, A166_2, c166_2, e166, hx166_0, hx166_1, hx166_2, hl166_1, hi166_1, hl166_2, hi166_2⟩ := at_T68 HR0_2.out x6_3 p166 q166
                cases e166
                replace hx166_0 := (HB.out.cell (zk? w _ hx166_0)).trans hx166_0
                replace hx166_1 := (HB.out.cell (zk? w _ hx166_1)).trans hx166_1
                replace hx166_2 := (HB.out.cell (zk? w _ hx166_2)).trans hx166_2
                have HR166_1 := zA hi166_1
                have HC166_1 := zA hl166_1
                clear hi166_1 hl166_1
                have HR166_2 := zA hi166_2
                have HC166_2 := zA hl166_2
                clear hi166_2 hl166_2
                replace p166 := eq_true p166
                replace q166 := eq_true q166
                go_wp2_with (first | ((with_reducible refine gate_dst (N := 7) rfl ?_); (try (refine gate_guard (by rfl) ?_; dsimp only)); refine box_event ?hg (N := 7) ?hd (cs := #[.int .i64 0, .slice none 0 0, .slice none 0 0]) (t := 68) ?hr ?_; (case hd => rfl); (case hg => rfl); (case hr => first | (go_simp; done) | (go_simp; rfl)); intro gb167 hg w59 hbox hb; have n0_ := zA (zN (g := gb158) (o := .cells #[.slice A0_0 l0_0.length c0_0, .int .i64 a0_1, .slice (some ad166) l0_2.length c0_2] 38 (0, 0)) (kUp BK158.out) hb); have n1_ := zA (zX (by repeat (first | (with_reducible first | exact HB.out | apply zE | apply zC | apply zD | refine zB ?_ GE158.out) | exact HB.out)) hb); have n2_ := zA (hbox); have n3_ := zA ((by rw [hg]; exact (below_size (by repeat (first | (with_reducible first | exact HB.out | apply zE | apply zC | apply zD | refine zB ?_ GE158.out) | exact HB.out))) : w.heap.size ≤ gb167)); have n4_ := zA ((by rw [hg]; exact (below_size (by repeat (first | (with_reducible first | exact HB.out | apply zE | apply zC | apply zD | refine zB ?_ GE158.out) | exact HB.out))) : w.heap.size ≤ gb167)); have n5_ := zA ((by rw [hg]; exact Nat.ne_of_lt (blk_lt (g := gb158) (o := .cells #[.slice A0_0 l0_0.length c0_0, .int .i64 a0_1, .slice (some ad166) l0_2.length c0_2] 38 (0, 0)) (kUp BK158.out)) : gb158 ≠ gb167)); have n6_ := zA ((by rw [hg]; exact Nat.ne_of_gt (blk_lt (g := gb158) (o := .cells #[.slice A0_0 l0_0.length c0_0, .int .i64 a0_1, .slice (some ad166) l0_2.length c0_2] 38 (0, 0)) (kUp BK158.out)) : gb167 ≠ gb158)); clear BK158 HB; have BK158 := n0_; have HB := n1_; have BK167 := n2_; have GW167 := n3_; have GE167 := n4_; have NB158_167 := n5_; have NB167_158 := n6_; clear n0_ n1_ n2_ n3_ n4_ n5_ n6_; clear hb hbox hg; have hnb60 := NB167_158.out; have hnc60 := NB158_167.out; have hcz61_0 : w59.cell? ⟨gb167, 0, none⟩ = some (.int .i64 0) := (zZ BK167.out 0).trans rfl; have hcz61_1 : w59.cell? ⟨gb167, 1, none⟩ = some (.slice none 0 0) := (zZ BK167.out 1).trans rfl; have hcz61_2 : w59.cell? ⟨gb167, 2, none⟩ = some (.slice none 0 0) := (zZ BK167.out 2).trans rfl; have hfz61_0 := zY BK167.out 0; have hfz61_1 := zY BK167.out 1; have hfz61_2 := zY BK167.out 2))
                go_ret
                exact ⟨by first | rfl | (simp [errW_none, errW_some] <;> rfl) | (simp [*, errW_none, errW_some] <;> rfl), by repeat (first | (with_reducible first | exact HB.out | apply zE | apply zC | apply zD | refine zB ?_ GE158.out | refine zB ?_ GE167.out) | exact HB.out)⟩
               ·rw [if_neg c57] at H
                have c57b0 : decide (5000 < (wrap64 (x5_3 + (((rd_T68 l0_2 x6_3).f2).length : Int)))) = false := zH c57
                clear c57
                have H' := zA H
                clear H
                have hcz62_0 : wr.cell? ⟨gb158, 0, none⟩ = some (.slice A0_0 l0_0.length c0_0) := (zZ BK158.out 0).trans rfl
                have hcz62_1 : wr.cell? ⟨gb158, 1, none⟩ = some (.int .i64 a0_1) := (zZ BK158.out 1).trans rfl
                have hcz62_2 : wr.cell? ⟨gb158, 2, none⟩ = some (.slice A0_2 l0_2.length c0_2) := (zZ BK158.out 2).trans rfl
                have hfz62_0 := zY BK158.out 0
                have hfz62_1 := zY BK158.out 1
                have hfz62_2 := zY BK158.out 2
                have p166 : 0 ≤ (x6_3 : Int) := zF (by first | (with_reducible assumption) | assumption)
                have q166 : x6_3 < (l0_2.length : Int) := zF (by first | (with_reducible assumption) | assumption)
                obtain ⟨ad166, A166_1, c166_1, A166_2, c166_2, e166, hx166_0, hx166_1, hx166_2, hl166_1, hi166_1, hl166_2, hi166_2⟩ := at_T68 HR0_2.out x6_3 p166 q166
                cases e166
                replace hx166_0 := (HB.out.cell (zk? w _ hx166_0)).trans hx166_0
                replace hx166_1 := (HB.out.cell (zk? w _ hx166_1)).trans hx166_1
                replace hx166_2 := (HB.out.cell (zk? w _ hx166_2)).trans hx166_2
                have HR166_1 := zA hi166_1
                have HC166_1 := zA hl166_1
                clear hi166_1 hl166_1
                have HR166_2 := zA hi166_2
                have HC166_2 := zA hl166_2
                clear hi166_2 hl166_2
                replace p166 := eq_true p166
                replace q166 := eq_true q166
                go_wp2_with (first | ((with_reducible refine gate_dst (N := 7) rfl ?_); (try (refine gate_guard (by rfl) ?_; dsimp only)); refine box_event ?hg (N := 7) ?hd (cs := #[.int .i64 0, .slice none 0 0, .slice none 0 0]) (t := 68) ?hr ?_; (case hd => rfl); (case hg => rfl); (case hr => first | (go_simp; done) | (go_simp; rfl)); intro gb167 hg w63 hbox hb; have n0_ := zA (zN (g := gb158) (o := .cells #[.slice A0_0 l0_0.length c0_0, .int .i64 a0_1, .slice (some ad166) l0_2.length c0_2] 38 (0, 0)) (kUp BK158.out) hb); have n1_ := zA (zX (by repeat (first | (with_reducible first | exact HB.out | apply zE | apply zC | apply zD | refine zB ?_ GE158.out) | exact HB.out)) hb); have n2_ := zA (hbox); have n3_ := zA ((by rw [hg]; exact (below_size (by repeat (first | (with_reducible first | exact HB.out | apply zE | apply zC | apply zD | refine zB ?_ GE158.out) | exact HB.out))) : w.heap.size ≤ gb167)); have n4_ := zA ((by rw [hg]; exact (below_size (by repeat (first | (with_reducible first | exact HB.out | apply zE | apply zC | apply zD | refine zB ?_ GE158.out) | exact HB.out))) : w.heap.size ≤ gb167)); have n5_ := zA ((by rw [hg]; exact Nat.ne_of_lt (blk_lt (g := gb158) (o := .cells #[.slice A0_0 l0_0.length c0_0, .int .i64 a0_1, .slice (some ad166) l0_2.length c0_2] 38 (0, 0)) (kUp BK158.out)) : gb158 ≠ gb167)); have n6_ := zA ((by rw [hg]; exact Nat.ne_of_gt (blk_lt (g := gb158) (o := .cells #[.slice A0_0 l0_0.length c0_0, .int .i64 a0_1, .slice (some ad166) l0_2.length c0_2] 38 (0, 0)) (kUp BK158.out)) : gb167 ≠ gb158)); clear BK158 HB; have BK158 := n0_; have HB := n1_; have BK167 := n2_; have GW167 := n3_; have GE167 := n4_; have NB158_167 := n5_; have NB167_158 := n6_; clear n0_ n1_ n2_ n3_ n4_ n5_ n6_; clear hb hbox hg; have hnb64 := NB167_158.out; have hnc64 := NB158_167.out; have hcz65_0 : w63.cell? ⟨gb167, 0, none⟩ = some (.int .i64 0) := (zZ BK167.out 0).trans rfl; have hcz65_1 : w63.cell? ⟨gb167, 1, none⟩ = some (.slice none 0 0) := (zZ BK167.out 1).trans rfl; have hcz65_2 : w63.cell? ⟨gb167, 2, none⟩ = some (.slice none 0 0) := (zZ BK167.out 2).trans rfl; have hfz65_0 := zY BK167.out 0; have hfz65_1 := zY BK167.out 1; have hfz65_2 := zY BK167.out 2))
                go_roundg k3
                case measure => have := HJ1.out; have := HK2.out; have := HK3.out; omega
                case rel => exact ⟨(wrap64 (x5_3 + (((rd_T68 l0_2 x6_3).f2).length : Int))), (wrap64 (x6_3 + 1)), (by first | rfl | (simp; done) | (simp [*]; done)), (by first | rfl | (simp; done) | (simp [*]; done)), H', ⟨by have := HJ1.out; have := HK2.out; have := HK3.out; omega⟩, ⟨by (with_reducible repeat (first | refine blk_drewN ?_ _ | refine blk_drew ?_ | refine blk_alloc ?_ _)); refine blk_far ?_ NB158_167.out _; (with_reducible repeat (first | refine blk_drewN ?_ _ | refine blk_drew ?_ | refine blk_alloc ?_ _)); refine blk_far ?_ NB158_167.out _; (with_reducible repeat (first | refine blk_drewN ?_ _ | refine blk_drew ?_ | refine blk_alloc ?_ _)); refine blk_far ?_ NB158_167.out _; exact kUp BK158.out⟩, ⟨by repeat (first | (with_reducible first | exact HB.out | apply zE | apply zC | apply zD | refine zB ?_ GE158.out | refine zB ?_ GE167.out) | exact HB.out)⟩⟩
          ·rw [if_neg c36] at H
           exact absurd H (by simp)
         ·rw [if_neg c35] at H
          have c35b0 : decide (x6_3 < (l0_2.length : Int)) = false := zH c35
          clear c35
          have HC66 := zA H
          clear H
          have hcz67_0 : wr.cell? ⟨gb158, 0, none⟩ = some (.slice A0_0 l0_0.length c0_0) := (zZ BK158.out 0).trans rfl
          have hcz67_1 : wr.cell? ⟨gb158, 1, none⟩ = some (.int .i64 a0_1) := (zZ BK158.out 1).trans rfl
          have hcz67_2 : wr.cell? ⟨gb158, 2, none⟩ = some (.slice A0_2 l0_2.length c0_2) := (zZ BK158.out 2).trans rfl
          have hfz67_0 := zY BK158.out 0
          have hfz67_1 := zY BK158.out 1
          have hfz67_2 := zY BK158.out 2
          go_upto_region 18 with (fail)
          go_cut [128] (fun v128 wc => ∃ (kq : Nat) (x128_65 : Bool), v128 = .bool x128_65 ∧ Aside0 (spec_ValidModule.j3 kq x128_65 l0_0 a0_1 l0_2 = some r) ∧ Aside0 (kq ≤ k3) ∧ Aside0 (wc.heap[gb158]? = some (.cells #[(.slice A0_0 l0_0.length c0_0), .int .i64 a0_1, (.slice A0_2 l0_2.length c0_2)] 38 (0, 0))) ∧ Aside0 (Below w.heap.size w wc))
          case first =>
           have H := HC66.out
           clear HC66
           by_cases c68 : 0 < (l0_2.length : Int)
           ·rw [if_pos c68] at H
            have c68b0 : decide (0 < (l0_2.length : Int)) = true := zG c68
            have c68b1 : decide (0 < l0_2.length) = true := zG (by omega)
            clear c68
            (first | rw [c68b0] | (simp only [i64_w, i32_w]; rw [c68b0]) | skip)
            by_cases c69 : ((rd_T68 l0_2 0).f0) = 0
            ·rw [if_pos c69] at H
             have c69b0 : (((rd_T68 l0_2 0).f0) == 0) = true := beq_iff_eq.mpr c69
             have c69b1 : (((rd_T68 l0_2 0).f0) != 0) = false := zn.mpr c69
             clear c69
             have H' := zA H
             clear H
             have hcz70_0 : wr.cell? ⟨gb158, 0, none⟩ = some (.slice A0_0 l0_0.length c0_0) := (zZ BK158.out 0).trans rfl
             have hcz70_1 : wr.cell? ⟨gb158, 1, none⟩ = some (.int .i64 a0_1) := (zZ BK158.out 1).trans rfl
             have hcz70_2 : wr.cell? ⟨gb158, 2, none⟩ = some (.slice A0_2 l0_2.length c0_2) := (zZ BK158.out 2).trans rfl
             have hfz70_0 := zY BK158.out 0
             have hfz70_1 := zY BK158.out 1
             have hfz70_2 := zY BK158.out 2
             have p168 : 0 ≤ (0 : Int) := (by omega)
             have q168 : 0 < (l0_2.length : Int) := zF (by first | (with_reducible assumption) | assumption)
             obtain ⟨ad168, A168_1, c168_1, A168_2, c168_2, e168, hx168_0, hx168_1, hx168_2, hl168_1, hi168_1, hl168_2, hi168_2⟩ := at_T68 HR0_2.out 0 p168 q168
             cases e168
             have qi168 : (0 < l0_2.length) = True := eq_true (by omega)
             (try rw [show ((0 : Int)).toNat = 0 from rfl] at hx168_0)
             (try rw [show 0 * 3 = 0 from rfl] at hx168_0)
             (try rw [Addr.add_zero'] at hx168_0)
             (try rw [show ((0 : Int)).toNat = 0 from rfl] at hx168_1)
             (try rw [show 0 * 3 = 0 from rfl] at hx168_1)
             (try rw [Addr.add_zero'] at hx168_1)
             (try rw [show ((0 : Int)).toNat = 0 from rfl] at hx168_2)
             (try rw [show 0 * 3 = 0 from rfl] at hx168_2)
             (try rw [Addr.add_zero'] at hx168_2)
             replace hx168_0 := (HB.out.cell (zk? w _ hx168_0)).trans hx168_0
             replace hx168_1 := (HB.out.cell (zk? w _ hx168_1)).trans hx168_1
             replace hx168_2 := (HB.out.cell (zk? w _ hx168_2)).trans hx168_2
             have HR168_1 := zA hi168_1
             have HC168_1 := zA hl168_1
             clear hi168_1 hl168_1
             have HR168_2 := zA hi168_2
             have HC168_2 := zA hl168_2
             clear hi168_2 hl168_2
             replace p168 := eq_true p168
             replace q168 := eq_true q168
             have p169 : 0 ≤ (0 : Int) := (by omega)
             have q169 : 0 < (l0_2.length : Int) := zF (by first | (with_reducible assumption) | assumption)
             obtain ⟨ad169, A169_1, c169_1, A169_2, c169_2, e169, hx169_0, hx169_1, hx169_2, hl169_1, hi169_1, hl169_2, hi169_2⟩ := at_T68 HR0_2.out 0 p169 q169
             obtain rfl : ad168 = ad169 := (by injection e169)
             have qi169 : (0 < l0_2.length) = True := eq_true (by omega)
             (try rw [show ((0 : Int)).toNat = 0 from rfl] at hx169_0)
             (try rw [show 0 * 3 = 0 from rfl] at hx169_0)
             (try rw [Addr.add_zero'] at hx169_0)
             (try rw [show ((0 : Int)).toNat = 0 from rfl] at hx169_1)
             (try rw [show 0 * 3 = 0 from rfl] at hx169_1)
             (try rw [Addr.add_zero'] at hx169_1)
             (try rw [show ((0 : Int)).toNat = 0 from rfl] at hx169_2)
             (try rw [show 0 * 3 = 0 from rfl] at hx169_2)
             (try rw [Addr.add_zero'] at hx169_2)
             replace hx169_0 := (HB.out.cell (zk? w _ hx169_0)).trans hx169_0
             replace hx169_1 := (HB.out.cell (zk? w _ hx169_1)).trans hx169_1
             replace hx169_2 := (HB.out.cell (zk? w _ hx169_2)).trans hx169_2
             have HR169_1 := zA hi169_1
             have HC169_1 := zA hl169_1
             clear hi169_1 hl169_1
             have HR169_2 := zA hi169_2
             have HC169_2 := zA hl169_2
             clear hi169_2 hl169_2
             replace p169 := eq_true p169
             replace q169 := eq_true q169
             have ea_ := zl (hx168_1.symm.trans hx169_1)
             injection ea_ with ea_ en_ ec_
             subst ea_
             subst ec_
             clear en_
             have ea_ := zl (hx168_2.symm.trans hx169_2)
             injection ea_ with ea_ en_ ec_
             subst ea_
             subst ec_
             clear en_
             go_wp2
             go_meet
             case rel => exact ⟨_, (((((rd_T68 l0_2 0).f1).length : Int) != 0)), (by first | rfl | (simp; done) | (simp [*]; done)), H', ⟨by have := HJ1.out; have := HK2.out; have := HK3.out; first | omega | exact Nat.le_refl _⟩, ⟨by exact kUp BK158.out⟩, ⟨by repeat (first | (with_reducible first | exact HB.out | apply zE | apply zC | apply zD | refine zB ?_ GE158.out) | exact HB.out)⟩⟩
            ·rw [if_neg c69] at H
             have c69b0 : (((rd_T68 l0_2 0).f0) == 0) = false := zm.mpr c69
             have c69b1 : (((rd_T68 l0_2 0).f0) != 0) = true := bne_iff_ne.mpr c69
             have H' := zA H
             clear H
             have hcz71_0 : wr.cell? ⟨gb158, 0, none⟩ = some (.slice A0_0 l0_0.length c0_0) := (zZ BK158.out 0).trans rfl
             have hcz71_1 : wr.cell? ⟨gb158, 1, none⟩ = some (.int .i64 a0_1) := (zZ BK158.out 1).trans rfl
             have hcz71_2 : wr.cell? ⟨gb158, 2, none⟩ = some (.slice A0_2 l0_2.length c0_2) := (zZ BK158.out 2).trans rfl
             have hfz71_0 := zY BK158.out 0
             have hfz71_1 := zY BK158.out 1
             have hfz71_2 := zY BK158.out 2
             have p168 : 0 ≤ (0 : Int) := (by omega)
             have q168 : 0 < (l0_2.length : Int) := zF (by first | (with_reducible assumption) | assumption)
             obtain ⟨ad168, A168_1, c168_1, A168_2, c168_2, e168, hx168_0, hx168_1, hx168_2, hl168_1, hi168_1, hl168_2, hi168_2⟩ := at_T68 HR0_2.out 0 p168 q168
             cases e168
             have qi168 : (0 < l0_2.length) = True := eq_true (by omega)
             (try rw [show ((0 : Int)).toNat = 0 from rfl] at hx168_0)
             (try rw [show 0 * 3 = 0 from rfl] at hx168_0)
             (try rw [Addr.add_zero'] at hx168_0)
             (try rw [show ((0 : Int)).toNat = 0 from rfl] at hx168_1)
             (try rw [show 0 * 3 = 0 from rfl] at hx168_1)
             (try rw [Addr.add_zero'] at hx168_1)
             (try rw [show ((0 : Int)).toNat = 0 from rfl] at hx168_2)
             (try rw [show 0 * 3 = 0 from rfl] at hx168_2)
             (try rw [Addr.add_zero'] at hx168_2)
             replace hx168_0 := (HB.out.cell (zk? w _ hx168_0)).trans hx168_0
             replace hx168_1 := (HB.out.cell (zk? w _ hx168_1)).trans hx168_1
             replace hx168_2 := (HB.out.cell (zk? w _ hx168_2)).trans hx168_2
             have HR168_1 := zA hi168_1
             have HC168_1 := zA hl168_1
             clear hi168_1 hl168_1
             have HR168_2 := zA hi168_2
             have HC168_2 := zA hl168_2
             clear hi168_2 hl168_2
             replace p168 := eq_true p168
             replace q168 := eq_true q168
             go_wp2
             go_meet
             case rel => exact ⟨_, (true), (by first | rfl | (simp; done) | (simp [*]; done)), H', ⟨by have := HJ1.out; have := HK2.out; have := HK3.out; first | omega | exact Nat.le_refl _⟩, ⟨by exact kUp BK158.out⟩, ⟨by repeat (first | (with_reducible first | exact HB.out | apply zE | apply zC | apply zD | refine zB ?_ GE158.out) | exact HB.out)⟩⟩
           ·rw [if_neg c68] at H
            exact absurd H (by simp)
          case rest =>
           clear HC66
           try clear c1
           try clear p1
           try clear q1
           try clear hx1
           try clear qi1
           try clear c2
           try clear p2
           try clear c3
           try clear c4
           try clear c4b0
           try clear c4b1
           try clear c5
           try clear c6
           try clear c6b0
           try clear c6b1
           try clear p6
           try clear c8
           try clear c8b0
           try clear c8b1
           try clear c10
           try clear c10b0
           try clear c13
           try clear c14
           try clear c14b0
           try clear c15
           try clear c15b0
           try clear p15
           try clear q15
           try clear hx15
           try clear c16
           try clear c16b0
           try clear p16
           try clear q16
           try clear hx16
           try clear qi16
           try clear c19
           try clear c21
           try clear c21b0
           try clear c21b1
           try clear c35
           try clear c35b0
           try clear c36
           try clear c36b0
           try clear c37
           try clear c37b0
           try clear c40
           try clear c42
           try clear c42b0
           try clear c45
           try clear c47
           try clear c47b0
           try clear c47b1
           try clear c50
           try clear c52
           try clear c52b0
           try clear c52b1
           try clear c55
           try clear c57
           try clear c57b0
           try clear c60
           try clear c64
           try clear p64
           try clear c68
           try clear c68b0
           try clear c68b1
           try clear c69
           try clear c69b0
           try clear c69b1
           try clear hcz11_0
           try clear hcz11_1
           try clear hcz11_2
           try clear hcz12_0
           try clear hcz12_1
           try clear hcz12_2
           try clear hcz17_0
           try clear hcz17_1
           try clear hcz17_2
           try clear hcz22_0
           try clear hcz22_1
           try clear hcz22_2
           try clear hcz24_0
           try clear hcz24_1
           try clear hcz24_2
           try clear hcz27_0
           try clear hcz27_1
           try clear hcz27_2
           try clear hcz29_0
           try clear hcz29_1
           try clear hcz29_2
           try clear hcz32_0
           try clear hcz32_1
           try clear hcz32_2
           try clear hcz34_0
           try clear hcz34_1
           try clear hcz34_2
           try clear hcz38_0
           try clear hcz38_1
           try clear hcz38_2
           try clear hcz41_0
           try clear hcz41_1
           try clear hcz41_2
           try clear hcz43_0
           try clear hcz43_1
           try clear hcz43_2
           try clear hcz46_0
           try clear hcz46_1
           try clear hcz46_2
           try clear hcz48_0
           try clear hcz48_1
           try clear hcz48_2
           try clear hcz51_0
           try clear hcz51_1
           try clear hcz51_2
           try clear hcz53_0
           try clear hcz53_1
           try clear hcz53_2
           try clear hcz56_0
           try clear hcz56_1
           try clear hcz56_2
           try clear hcz58_0
           try clear hcz58_1
           try clear hcz58_2
           try clear hcz5_0
           try clear hcz5_1
           try clear hcz5_2
           try clear hcz61_0
           try clear hcz61_1
           try clear hcz61_2
           try clear hcz62_0
           try clear hcz62_1
           try clear hcz62_2
           try clear hcz65_0
           try clear hcz65_1
           try clear hcz65_2
           try clear hcz67_0
           try clear hcz67_1
           try clear hcz67_2
           try clear hcz70_0
           try clear hcz70_1
           try clear hcz70_2
           try clear hcz71_0
           try clear hcz71_1
           try clear hcz71_2
           try clear hcz7_0
           try clear hcz7_1
           try clear hcz7_2
           try clear hcz9_0
           try clear hcz9_1
           try clear hcz9_2
           try clear hfz11_0
           try clear hfz11_1
           try clear hfz11_2
           try clear hfz12_0
           try clear hfz12_1
           try clear hfz12_2
           try clear hfz17_0
           try clear hfz17_1
           try clear hfz17_2
           try clear hfz22_0
           try clear hfz22_1
           try clear hfz22_2
           try clear hfz24_0
           try clear hfz24_1
           try clear hfz24_2
           try clear hfz27_0
           try clear hfz27_1
           try clear hfz27_2
           try clear hfz29_0
           try clear hfz29_1
           try clear hfz29_2
           try clear hfz32_0
           try clear hfz32_1
           try clear hfz32_2
           try clear hfz34_0
           try clear hfz34_1
           try clear hfz34_2
           try clear hfz38_0
           try clear hfz38_1
           try clear hfz38_2
           try clear hfz41_0
           try clear hfz41_1
           try clear hfz41_2
           try clear hfz43_0
           try clear hfz43_1
           try clear hfz43_2
           try clear hfz46_0
           try clear hfz46_1
           try clear hfz46_2
           try clear hfz48_0
           try clear hfz48_1
           try clear hfz48_2
           try clear hfz51_0
           try clear hfz51_1
           try clear hfz51_2
           try clear hfz53_0
           try clear hfz53_1
           try clear hfz53_2
           try clear hfz56_0
           try clear hfz56_1
           try clear hfz56_2
           try clear hfz58_0
           try clear hfz58_1
           try clear hfz58_2
           try clear hfz5_0
           try clear hfz5_1
           try clear hfz5_2
           try clear hfz61_0
           try clear hfz61_1
           try clear hfz61_2
           try clear hfz62_0
           try clear hfz62_1
           try clear hfz62_2
           try clear hfz65_0
           try clear hfz65_1
           try clear hfz65_2
           try clear hfz67_0
           try clear hfz67_1
           try clear hfz67_2
           try clear hfz70_0
           try clear hfz70_1
           try clear hfz70_2
           try clear hfz71_0
           try clear hfz71_1
           try clear hfz71_2
           try clear hfz7_0
           try clear hfz7_1
           try clear hfz7_2
           try clear hfz9_0
           try clear hfz9_1
           try clear hfz9_2
           try clear hx159_0
           try clear hx160_0
           try clear hx162_0
           try clear hx166_0
           try clear hx166_1
           try clear hx166_2
           try clear hx168_0
           try clear hx168_1
           try clear hx168_2
           try clear hx169_0
           try clear hx169_1
           try clear hx169_2
           try clear p1
           try clear p15
           try clear p159
           try clear p16
           try clear p160
           try clear p162
           try clear p166
           try clear p168
           try clear p169
           try clear p2
           try clear p6
           try clear q1
           try clear q15
           try clear q159
           try clear q16
           try clear q160
           try clear q162
           try clear q166
           try clear q168
           try clear q169
           obtain ⟨kq, x128_65, rfl, HA, HJ65, BK158, HB⟩ := hcut
           cases kq with
           | zero => exact absurd HA.out (by simp [spec_ValidModule.j3])
           | succ kj65 =>
            have H := HA.out
            clear HA
            simp only [spec_ValidModule.j3] at H
            by_cases c72 : x128_65 = true
            ·subst c72
             have H1 : (some false) = some r := by rw [if_pos rfl] at H; exact H
             clear H
             have H := H1
             clear H1
             obtain rfl := zl H
             go_wp2
             go_ret
             exact ⟨by first | rfl | (simp [errW_none, errW_some] <;> rfl) | (simp [*, errW_none, errW_some] <;> rfl), by repeat (first | (with_reducible first | exact HB.out | apply zE | apply zC | apply zD | refine zB ?_ GE158.out) | exact HB.out)⟩
            ·replace c72 := zp.mpr c72
             subst c72
             have H1 : (spec_ValidModule.l2 kj65 0 l0_0 a0_1 l0_2) = some r := by rw [if_neg (show ¬ (false = true) by decide)] at H; exact H
             clear H
             have H := H1
             clear H1
             have H' := zA H
             clear H
             go_wp2
             go_loopg [8] kj65 (fun kq v8 w' => ∃ (x8_5 : Int), v8 = .int .i64 x8_5 ∧ Aside0 (spec_ValidModule.l2 kq x8_5 l0_0 a0_1 l0_2 = some r) ∧ Aside0 (kq ≤ kj65) ∧ Aside0 (w'.heap[gb158]? = some (.cells #[(.slice A0_0 l0_0.length c0_0), .int .i64 a0_1, (.slice A0_2 l0_2.length c0_2)] 38 (0, 0))) ∧ Aside0 (Below w.heap.size w w'))
             case atStart => exact ⟨(0), (by first | rfl | (simp; done) | (simp [*]; done)), H', ⟨Nat.le_refl _⟩, ⟨by exact kUp BK158.out⟩, ⟨by repeat (first | (with_reducible first | exact HB.out | apply zE | apply zC | apply zD | refine zB ?_ GE158.out) | exact HB.out)⟩⟩
             case round =>
              clear H'
              try clear c1
              try clear p1
              try clear q1
              try clear hx1
              try clear qi1
              try clear c2
              try clear p2
              try clear c3
              try clear c4
              try clear c4b0
              try clear c4b1
              try clear c5
              try clear c6
              try clear c6b0
              try clear c6b1
              try clear p6
              try clear c7
              try clear c8
              try clear c8b0
              try clear c8b1
              try clear c10
              try clear c10b0
              try clear c13
              try clear c14
              try clear c14b0
              try clear c15
              try clear c15b0
              try clear p15
              try clear q15
              try clear hx15
              try clear c16
              try clear c16b0
              try clear p16
              try clear q16
              try clear hx16
              try clear qi16
              try clear c19
              try clear c21
              try clear c21b0
              try clear c21b1
              try clear c35
              try clear c35b0
              try clear c36
              try clear c36b0
              try clear c37
              try clear c37b0
              try clear c40
              try clear c42
              try clear c42b0
              try clear c45
              try clear c47
              try clear c47b0
              try clear c47b1
              try clear c50
              try clear c52
              try clear c52b0
              try clear c52b1
              try clear c55
              try clear c57
              try clear c57b0
              try clear c60
              try clear c64
              try clear p64
              try clear c68
              try clear c68b0
              try clear c68b1
              try clear c69
              try clear c69b0
              try clear c69b1
              try clear c72
              try clear hcz11_0
              try clear hcz11_1
              try clear hcz11_2
              try clear hcz12_0
              try clear hcz12_1
              try clear hcz12_2
              try clear hcz17_0
              try clear hcz17_1
              try clear hcz17_2
              try clear hcz22_0
              try clear hcz22_1
              try clear hcz22_2
              try clear hcz24_0
              try clear hcz24_1
              try clear hcz24_2
              try clear hcz27_0
              try clear hcz27_1
              try clear hcz27_2
              try clear hcz29_0
              try clear hcz29_1
              try clear hcz29_2
              try clear hcz32_0
              try clear hcz32_1
              try clear hcz32_2
              try clear hcz34_0
              try clear hcz34_1
              try clear hcz34_2
              try clear hcz38_0
              try clear hcz38_1
              try clear hcz38_2
              try clear hcz41_0
              try clear hcz41_1
              try clear hcz41_2
              try clear hcz43_0
              try clear hcz43_1
              try clear hcz43_2
              try clear hcz46_0
              try clear hcz46_1
              try clear hcz46_2
              try clear hcz48_0
              try clear hcz48_1
              try clear hcz48_2
              try clear hcz51_0
              try clear hcz51_1
              try clear hcz51_2
              try clear hcz53_0
              try clear hcz53_1
              try clear hcz53_2
              try clear hcz56_0
              try clear hcz56_1
              try clear hcz56_2
              try clear hcz58_0
              try clear hcz58_1
              try clear hcz58_2
              try clear hcz5_0
              try clear hcz5_1
              try clear hcz5_2
              try clear hcz61_0
              try clear hcz61_1
              try clear hcz61_2
              try clear hcz62_0
              try clear hcz62_1
              try clear hcz62_2
              try clear hcz65_0
              try clear hcz65_1
              try clear hcz65_2
              try clear hcz67_0
              try clear hcz67_1
              try clear hcz67_2
              try clear hcz70_0
              try clear hcz70_1
              try clear hcz70_2
              try clear hcz71_0
              try clear hcz71_1
              try clear hcz71_2
              try clear hcz7_0
              try clear hcz7_1
              try clear hcz7_2
              try clear hcz9_0
              try clear hcz9_1
              try clear hcz9_2
              try clear hfz11_0
              try clear hfz11_1
              try clear hfz11_2
              try clear hfz12_0
              try clear hfz12_1
              try clear hfz12_2
              try clear hfz17_0
              try clear hfz17_1
              try clear hfz17_2
              try clear hfz22_0
              try clear hfz22_1
              try clear hfz22_2
              try clear hfz24_0
              try clear hfz24_1
              try clear hfz24_2
              try clear hfz27_0
              try clear hfz27_1
              try clear hfz27_2
              try clear hfz29_0
              try clear hfz29_1
              try clear hfz29_2
              try clear hfz32_0
              try clear hfz32_1
              try clear hfz32_2
              try clear hfz34_0
              try clear hfz34_1
              try clear hfz34_2
              try clear hfz38_0
              try clear hfz38_1
              try clear hfz38_2
              try clear hfz41_0
              try clear hfz41_1
              try clear hfz41_2
              try clear hfz43_0
              try clear hfz43_1
              try clear hfz43_2
              try clear hfz46_0
              try clear hfz46_1
              try clear hfz46_2
              try clear hfz48_0
              try clear hfz48_1
              try clear hfz48_2
              try clear hfz51_0
              try clear hfz51_1
              try clear hfz51_2
              try clear hfz53_0
              try clear hfz53_1
              try clear hfz53_2
              try clear hfz56_0
              try clear hfz56_1
              try clear hfz56_2
              try clear hfz58_0
              try clear hfz58_1
              try clear hfz58_2
              try clear hfz5_0
              try clear hfz5_1
              try clear hfz5_2
              try clear hfz61_0
              try clear hfz61_1
              try clear hfz61_2
              try clear hfz62_0
              try clear hfz62_1
              try clear hfz62_2
              try clear hfz65_0
              try clear hfz65_1
              try clear hfz65_2
              try clear hfz67_0
              try clear hfz67_1
              try clear hfz67_2
              try clear hfz70_0
              try clear hfz70_1
              try clear hfz70_2
              try clear hfz71_0
              try clear hfz71_1
              try clear hfz71_2
              try clear hfz7_0
              try clear hfz7_1
              try clear hfz7_2
              try clear hfz9_0
              try clear hfz9_1
              try clear hfz9_2
              try clear hx159_0
              try clear hx160_0
              try clear hx162_0
              try clear hx166_0
              try clear hx166_1
              try clear hx166_2
              try clear hx168_0
              try clear hx168_1
              try clear hx168_2
              try clear hx169_0
              try clear hx169_1
              try clear hx169_2
              try clear p1
              try clear p15
              try clear p159
              try clear p16
              try clear p160
              try clear p162
              try clear p166
              try clear p168
              try clear p169
              try clear p2
              try clear p6
              try clear p64
              try clear q1
              try clear q15
              try clear q159
              try clear q16
              try clear q160
              try clear q162
              try clear q166
              try clear q168
              try clear q169
              obtain ⟨x8_5, rfl, HA, HK5, BK158, HB⟩ := hrel
              cases gk with
              | zero => exact absurd HA.out (by simp [spec_ValidModule.l2])
              | succ k5 =>
               have H := HA.out
               clear HA
               simp only [spec_ValidModule.l2] at H
               by_cases c73 : x8_5 < (l0_2.length : Int)
               ·rw [if_pos c73] at H
                have c73b0 : decide (x8_5 < (l0_2.length : Int)) = true := zG c73
                clear c73
                by_cases c74 : 0 ≤ x8_5
                ·rw [if_pos c74] at H
                 have c74b0 : decide (0 ≤ x8_5) = true := zG c74
                 clear c74
                 have H' := zA H
                 clear H
                 have hcz75_0 : wr.cell? ⟨gb158, 0, none⟩ = some (.slice A0_0 l0_0.length c0_0) := (zZ BK158.out 0).trans rfl
                 have hcz75_1 : wr.cell? ⟨gb158, 1, none⟩ = some (.int .i64 a0_1) := (zZ BK158.out 1).trans rfl
                 have hcz75_2 : wr.cell? ⟨gb158, 2, none⟩ = some (.slice A0_2 l0_2.length c0_2) := (zZ BK158.out 2).trans rfl
                 have hfz75_0 := zY BK158.out 0
                 have hfz75_1 := zY BK158.out 1
                 have hfz75_2 := zY BK158.out 2
                 have p170 : 0 ≤ (x8_5 : Int) := zF (by first | (with_reducible assumption) | assumption)
                 have q170 : x8_5 < (l0_2.length : Int) := zF (by first | (with_reducible assumption) | assumption)
                 obtain ⟨ad170, A170_1, c170_1, A170_2, c170_2, e170, hx170_0, hx170_1, hx170_2, hl170_1, hi170_1, hl170_2, hi170_2⟩ := at_T68 HR0_2.out x8_5 p170 q170
                 cases e170
                 replace hx170_0 := (HB.out.cell (zk? w _ hx170_0)).trans hx170_0
                 replace hx170_1 := (HB.out.cell (zk? w _ hx170_1)).trans hx170_1
                 replace hx170_2 := (HB.out.cell (zk? w _ hx170_2)).trans hx170_2
                 have HR170_1 := zA hi170_1
                 have HC170_1 := zA hl170_1
                 clear hi170_1 hl170_1
                 have HR170_2 := zA hi170_2
                 have HC170_2 := zA hl170_2
                 clear hi170_2 hl170_2
                 replace p170 := eq_true p170
                 replace q170 := eq_true q170
                 go_wp2_with (first | ((with_reducible refine gate_dst (N := 9) rfl ?_); (try (refine gate_guard (by rfl) ?_; dsimp only)); refine box_event ?hg (N := 9) ?hd (cs := #[.int .i64 0, .slice none 0 0, .slice none 0 0]) (t := 68) ?hr ?_; (case hd => rfl); (case hg => rfl); (case hr => first | (go_simp; done) | (go_simp; rfl)); intro gb171 hg w76 hbox hb; have n0_ := zA (zN (g := gb158) (o := .cells #[.slice A0_0 l0_0.length c0_0, .int .i64 a0_1, .slice (some ad170) l0_2.length c0_2] 38 (0, 0)) (kUp BK158.out) hb); have n1_ := zA (zX (by repeat (first | (with_reducible first | exact HB.out | apply zE | apply zC | apply zD | refine zB ?_ GE158.out) | exact HB.out)) hb); have n2_ := zA (hbox); have n3_ := zA ((by rw [hg]; exact (below_size (by repeat (first | (with_reducible first | exact HB.out | apply zE | apply zC | apply zD | refine zB ?_ GE158.out) | exact HB.out))) : w.heap.size ≤ gb171)); have n4_ := zA ((by rw [hg]; exact (below_size (by repeat (first | (with_reducible first | exact HB.out | apply zE | apply zC | apply zD | refine zB ?_ GE158.out) | exact HB.out))) : w.heap.size ≤ gb171)); have n5_ := zA ((by rw [hg]; exact Nat.ne_of_lt (blk_lt (g := gb158) (o := .cells #[.slice A0_0 l0_0.length c0_0, .int .i64 a0_1, .slice (some ad170) l0_2.length c0_2] 38 (0, 0)) (kUp BK158.out)) : gb158 ≠ gb171)); have n6_ := zA ((by rw [hg]; exact Nat.ne_of_gt (blk_lt (g := gb158) (o := .cells #[.slice A0_0 l0_0.length c0_0, .int .i64 a0_1, .slice (some ad170) l0_2.length c0_2] 38 (0, 0)) (kUp BK158.out)) : gb171 ≠ gb158)); clear BK158 HB; have BK158 := n0_; have HB := n1_; have BK171 := n2_; have GW171 := n3_; have GE171 := n4_; have NB158_171 := n5_; have NB171_158 := n6_; clear n0_ n1_ n2_ n3_ n4_ n5_ n6_; clear hb hbox hg; have hnb77 := NB171_158.out; have hnc77 := NB158_171.out; have hcz78_0 : w76.cell? ⟨gb171, 0, none⟩ = some (.int .i64 0) := (zZ BK171.out 0).trans rfl; have hcz78_1 : w76.cell? ⟨gb171, 1, none⟩ = some (.slice none 0 0) := (zZ BK171.out 1).trans rfl; have hcz78_2 : w76.cell? ⟨gb171, 2, none⟩ = some (.slice none 0 0) := (zZ BK171.out 2).trans rfl; have hfz78_0 := zY BK171.out 0; have hfz78_1 := zY BK171.out 1; have hfz78_2 := zY BK171.out 2))
                 go_loopg [10] k5 (fun kq v10 w' => ∃ (x10_6 : Int), v10 = .int .i64 x10_6 ∧ Aside0 (spec_ValidModule.l3 kq x8_5 x10_6 l0_0 a0_1 l0_2 ((rd_T68 l0_2 x8_5).f0) ((rd_T68 l0_2 x8_5).f1) ((rd_T68 l0_2 x8_5).f2) = some r) ∧ Aside0 (kq ≤ k5) ∧ Aside0 (w'.heap[gb158]? = some (.cells #[(.slice A0_0 l0_0.length c0_0), .int .i64 a0_1, (.slice (some ad170) l0_2.length c0_2)] 38 (0, 0))) ∧ Aside0 (w'.heap[gb171]? = some (.cells #[.int .i64 ((rd_T68 l0_2 x8_5).f0), (.slice A170_1 ((rd_T68 l0_2 x8_5).f1).length c170_1), (.slice A170_2 ((rd_T68 l0_2 x8_5).f2).length c170_2)] 68 (0, 0))) ∧ Aside0 (Below w.heap.size w w'))
                 case atStart => exact ⟨(0), (by first | rfl | (simp; done) | (simp [*]; done)), H', ⟨Nat.le_refl _⟩, ⟨by (with_reducible repeat (first | refine blk_drewN ?_ _ | refine blk_drew ?_ | refine blk_alloc ?_ _)); refine blk_far ?_ NB158_171.out _; (with_reducible repeat (first | refine blk_drewN ?_ _ | refine blk_drew ?_ | refine blk_alloc ?_ _)); refine blk_far ?_ NB158_171.out _; (with_reducible repeat (first | refine blk_drewN ?_ _ | refine blk_drew ?_ | refine blk_alloc ?_ _)); refine blk_far ?_ NB158_171.out _; exact kUp BK158.out⟩, ⟨by (with_reducible repeat (first | refine blk_drewN ?_ _ | refine blk_drew ?_ | refine blk_alloc ?_ _)); refine blk_put (cs := #[.int .i64 ((rd_T68 l0_2 x8_5).f0), .slice A170_1 ((rd_T68 l0_2 x8_5).f1).length c170_1, .slice none 0 0]) ?_ 2 _ rfl; (with_reducible repeat (first | refine blk_drewN ?_ _ | refine blk_drew ?_ | refine blk_alloc ?_ _)); refine blk_put (cs := #[.int .i64 ((rd_T68 l0_2 x8_5).f0), .slice none 0 0, .slice none 0 0]) ?_ 1 _ rfl; (with_reducible repeat (first | refine blk_drewN ?_ _ | refine blk_drew ?_ | refine blk_alloc ?_ _)); refine blk_put (cs := #[.int .i64 0, .slice none 0 0, .slice none 0 0]) ?_ 0 _ rfl; exact kUp BK171.out⟩, ⟨by repeat (first | (with_reducible first | exact HB.out | apply zE | apply zC | apply zD | refine zB ?_ GE158.out | refine zB ?_ GE171.out) | exact HB.out)⟩⟩
                 case round =>
                  clear H'
                  try clear c1
                  try clear p1
                  try clear q1
                  try clear hx1
                  try clear qi1
                  try clear c2
                  try clear p2
                  try clear c3
                  try clear c4
                  try clear c4b0
                  try clear c4b1
                  try clear c5
                  try clear c6
                  try clear c6b0
                  try clear c6b1
                  try clear p6
                  try clear c7
                  try clear c8
                  try clear c8b0
                  try clear c8b1
                  try clear c10
                  try clear c10b0
                  try clear c13
                  try clear c14
                  try clear c14b0
                  try clear c15
                  try clear c15b0
                  try clear p15
                  try clear q15
                  try clear hx15
                  try clear c16
                  try clear c16b0
                  try clear p16
                  try clear q16
                  try clear hx16
                  try clear qi16
                  try clear c17
                  try clear p17
                  try clear q17
                  try clear hx17
                  try clear c19
                  try clear c21
                  try clear c21b0
                  try clear c21b1
                  try clear c35
                  try clear c35b0
                  try clear c36
                  try clear c36b0
                  try clear c37
                  try clear c37b0
                  try clear c40
                  try clear c42
                  try clear c42b0
                  try clear c45
                  try clear c47
                  try clear c47b0
                  try clear c47b1
                  try clear c50
                  try clear c52
                  try clear c52b0
                  try clear c52b1
                  try clear c55
                  try clear c57
                  try clear c57b0
                  try clear c60
                  try clear c64
                  try clear p64
                  try clear c68
                  try clear c68b0
                  try clear c68b1
                  try clear c69
                  try clear c69b0
                  try clear c69b1
                  try clear c72
                  try clear c73
                  try clear c73b0
                  try clear c74
                  try clear c74b0
                  try clear c77
                  try clear hcz11_0
                  try clear hcz11_1
                  try clear hcz11_2
                  try clear hcz12_0
                  try clear hcz12_1
                  try clear hcz12_2
                  try clear hcz17_0
                  try clear hcz17_1
                  try clear hcz17_2
                  try clear hcz22_0
                  try clear hcz22_1
                  try clear hcz22_2
                  try clear hcz24_0
                  try clear hcz24_1
                  try clear hcz24_2
                  try clear hcz27_0
                  try clear hcz27_1
                  try clear hcz27_2
                  try clear hcz29_0
                  try clear hcz29_1
                  try clear hcz29_2
                  try clear hcz32_0
                  try clear hcz32_1
                  try clear hcz32_2
                  try clear hcz34_0
                  try clear hcz34_1
                  try clear hcz34_2
                  try clear hcz38_0
                  try clear hcz38_1
                  try clear hcz38_2
                  try clear hcz41_0
                  try clear hcz41_1
                  try clear hcz41_2
                  try clear hcz43_0
                  try clear hcz43_1
                  try clear hcz43_2
                  try clear hcz46_0
                  try clear hcz46_1
                  try clear hcz46_2
                  try clear hcz48_0
                  try clear hcz48_1
                  try clear hcz48_2
                  try clear hcz51_0
                  try clear hcz51_1
                  try clear hcz51_2
                  try clear hcz53_0
                  try clear hcz53_1
                  try clear hcz53_2
                  try clear hcz56_0
                  try clear hcz56_1
                  try clear hcz56_2
                  try clear hcz58_0
                  try clear hcz58_1
                  try clear hcz58_2
                  try clear hcz5_0
                  try clear hcz5_1
                  try clear hcz5_2
                  try clear hcz61_0
                  try clear hcz61_1
                  try clear hcz61_2
                  try clear hcz62_0
                  try clear hcz62_1
                  try clear hcz62_2
                  try clear hcz65_0
                  try clear hcz65_1
                  try clear hcz65_2
                  try clear hcz67_0
                  try clear hcz67_1
                  try clear hcz67_2
                  try clear hcz70_0
                  try clear hcz70_1
                  try clear hcz70_2
                  try clear hcz71_0
                  try clear hcz71_1
                  try clear hcz71_2
                  try clear hcz75_0
                  try clear hcz75_1
                  try clear hcz75_2
                  try clear hcz78_0
                  try clear hcz78_1
                  try clear hcz78_2
                  try clear hcz7_0
                  try clear hcz7_1
                  try clear hcz7_2
                  try clear hcz9_0
                  try clear hcz9_1
                  try clear hcz9_2
                  try clear hfz11_0
                  try clear hfz11_1
                  try clear hfz11_2
                  try clear hfz12_0
                  try clear hfz12_1
                  try clear hfz12_2
                  try clear hfz17_0
                  try clear hfz17_1
                  try clear hfz17_2
                  try clear hfz22_0
                  try clear hfz22_1
                  try clear hfz22_2
                  try clear hfz24_0
                  try clear hfz24_1
                  try clear hfz24_2
                  try clear hfz27_0
                  try clear hfz27_1
                  try clear hfz27_2
                  try clear hfz29_0
                  try clear hfz29_1
                  try clear hfz29_2
                  try clear hfz32_0
                  try clear hfz32_1
                  try clear hfz32_2
                  try clear hfz34_0
                  try clear hfz34_1
                  try clear hfz34_2
                  try clear hfz38_0
                  try clear hfz38_1
                  try clear hfz38_2
                  try clear hfz41_0
                  try clear hfz41_1
                  try clear hfz41_2
                  try clear hfz43_0
                  try clear hfz43_1
                  try clear hfz43_2
                  try clear hfz46_0
                  try clear hfz46_1
                  try clear hfz46_2
                  try clear hfz48_0
                  try clear hfz48_1
                  try clear hfz48_2
                  try clear hfz51_0
                  try clear hfz51_1
                  try clear hfz51_2
                  try clear hfz53_0
                  try clear hfz53_1
                  try clear hfz53_2
                  try clear hfz56_0
                  try clear hfz56_1
                  try clear hfz56_2
                  try clear hfz58_0
                  try clear hfz58_1
                  try clear hfz58_2
                  try clear hfz5_0
                  try clear hfz5_1
                  try clear hfz5_2
                  try clear hfz61_0
                  try clear hfz61_1
                  try clear hfz61_2
                  try clear hfz62_0
                  try clear hfz62_1
                  try clear hfz62_2
                  try clear hfz65_0
                  try clear hfz65_1
                  try clear hfz65_2
                  try clear hfz67_0
                  try clear hfz67_1
                  try clear hfz67_2
                  try clear hfz70_0
                  try clear hfz70_1
                  try clear hfz70_2
                  try clear hfz71_0
                  try clear hfz71_1
                  try clear hfz71_2
                  try clear hfz75_0
                  try clear hfz75_1
                  try clear hfz75_2
                  try clear hfz78_0
                  try clear hfz78_1
                  try clear hfz78_2
                  try clear hfz7_0
                  try clear hfz7_1
                  try clear hfz7_2
                  try clear hfz9_0
                  try clear hfz9_1
                  try clear hfz9_2
                  try clear hx159_0
                  try clear hx160_0
                  try clear hx162_0
                  try clear hx166_0
                  try clear hx166_1
                  try clear hx166_2
                  try clear hx168_0
                  try clear hx168_1
                  try clear hx168_2
                  try clear hx169_0
                  try clear hx169_1
                  try clear hx169_2
                  try clear hx170_0
                  try clear hx170_1
                  try clear hx170_2
                  try clear p1
                  try clear p15
                  try clear p159
                  try clear p16
                  try clear p160
                  try clear p162
                  try clear p166
                  try clear p168
                  try clear p169
                  try clear p170
                  try clear p2
                  try clear p6
                  try clear p64
                  try clear q1
                  try clear q15
                  try clear q159
                  try clear q16
                  try clear q160
                  try clear q162
                  try clear q166
                  try clear q168
                  try clear q169
                  try clear q170
                  obtain ⟨x10_6, rfl, HA, HK6, BK158, BK171, HB⟩ := hrel
                  cases gk with
                  | zero => exact absurd HA.out (by simp [spec_ValidModule.l3])
                  | succ k6 =>
                   have H := HA.out
                   clear HA
                   simp only [spec_ValidModule.l3] at H
                   by_cases c79 : x10_6 < (((rd_T68 l0_2 x8_5).f2).length : Int)
                   ·rw [if_pos c79] at H
                    have c79b0 : decide (x10_6 < (((rd_T68 l0_2 x8_5).f2).length : Int)) = true := zG c79
                    clear c79
                    by_cases c80 : 0 ≤ x10_6
                    ·rw [if_pos c80] at H
                     have c80b0 : decide (0 ≤ x10_6) = true := zG c80
                     clear c80
                     replace H := zo.mp H
                     obtain ⟨t173, A810, H⟩ := H
                     replace H : (if t173 = true then (spec_ValidModule.l3 k6 x8_5 (wrap64 (x10_6 + 1)) l0_0 a0_1 l0_2 ((rd_T68 l0_2 x8_5).f0) ((rd_T68 l0_2 x8_5).f1) ((rd_T68 l0_2 x8_5).f2)) else (some false)) = some r := H
                     have A81 := zA A810
                     clear A810
                     by_cases c82 : t173 = true
                     ·subst c82
                      have H1 : (spec_ValidModule.l3 k6 x8_5 (wrap64 (x10_6 + 1)) l0_0 a0_1 l0_2 ((rd_T68 l0_2 x8_5).f0) ((rd_T68 l0_2 x8_5).f1) ((rd_T68 l0_2 x8_5).f2)) = some r := by rw [if_pos rfl] at H; exact H
                      clear H
                      have H := H1
                      clear H1
                      have H' := zA H
                      clear H
                      have hnb83 := NB171_158.out
                      have hnc83 := NB158_171.out
                      have hcz84_0 : wr.cell? ⟨gb171, 0, none⟩ = some (.int .i64 ((rd_T68 l0_2 x8_5).f0)) := (zZ BK171.out 0).trans rfl
                      have hcz84_1 : wr.cell? ⟨gb171, 1, none⟩ = some (.slice A170_1 ((rd_T68 l0_2 x8_5).f1).length c170_1) := (zZ BK171.out 1).trans rfl
                      have hcz84_2 : wr.cell? ⟨gb171, 2, none⟩ = some (.slice A170_2 ((rd_T68 l0_2 x8_5).f2).length c170_2) := (zZ BK171.out 2).trans rfl
                      have hfz84_0 := zY BK171.out 0
                      have hfz84_1 := zY BK171.out 1
                      have hfz84_2 := zY BK171.out 2
                      try go_wp2
                      have n0_ := zA (blk_drew BK158.out)
                      have n1_ := zA (blk_drew BK171.out)
                      have n2_ := zA (zD HB.out)
                      clear BK158
                      clear BK171
                      clear HB
                      have BK158 := n0_
                      have BK171 := n1_
                      have HB := n2_
                      clear n0_ n1_ n2_
                      have p172 : 0 ≤ (x10_6 : Int) := zF (by first | (with_reducible assumption) | assumption)
                      have q172 : x10_6 < (((rd_T68 l0_2 x8_5).f2).length : Int) := zF (by first | (with_reducible assumption) | assumption)
                      obtain ⟨ad172, e172, hx172_0, hx172_1, hx172_2⟩ := at_T71 HR170_2.out x10_6 p172 q172
                      have hw172_2 := hx172_2
                      have hw172_1 := hx172_1
                      have hw172_0 := hx172_0
                      cases e172
                      replace hx172_0 := (HB.out.cell (zk? w _ hx172_0)).trans hx172_0
                      replace hx172_1 := (HB.out.cell (zk? w _ hx172_1)).trans hx172_1
                      replace hx172_2 := (HB.out.cell (zk? w _ hx172_2)).trans hx172_2
                      replace p172 := eq_true p172
                      replace q172 := eq_true q172
                      refine start_ (n := 9) (S := fun w' => w'.cell? ⟨gb158, 0, none⟩ = some (.slice A0_0 l0_0.length c0_0) ∧ w'.cell? ⟨gb158, 1, none⟩ = some (.int .i64 a0_1) ∧ w'.cell? ⟨gb158, 2, none⟩ = some (.slice (some ad170) l0_2.length c0_2) ∧ w'.cell? ⟨gb171, 0, none⟩ = some (.int .i64 ((rd_T68 l0_2 x8_5).f0)) ∧ w'.cell? ⟨gb171, 1, none⟩ = some (.slice A170_1 ((rd_T68 l0_2 x8_5).f1).length c170_1) ∧ w'.cell? ⟨gb171, 2, none⟩ = some (.slice (some ad172) ((rd_T68 l0_2 x8_5).f2).length c170_2) ∧ w'.cell? (ad172.add ((x10_6).toNat * 3)) = some (.int .i64 ((rd_T71 ((rd_T68 l0_2 x8_5).f2) x10_6).f0)) ∧ w'.cell? ⟨(ad172.add ((x10_6).toNat * 3)).block, (ad172.add ((x10_6).toNat * 3)).off + 1, none⟩ = some (.int .i64 ((rd_T71 ((rd_T68 l0_2 x8_5).f2) x10_6).f1)) ∧ w'.cell? ⟨(ad172.add ((x10_6).toNat * 3)).block, (ad172.add ((x10_6).toNat * 3)).off + 2, none⟩ = some (.int .i64 ((rd_T71 ((rd_T68 l0_2 x8_5).f2) x10_6).f2))) (ds := []) #[false, false, false, false, false, false, false, false, false] (by kernel_rfl) rfl rfl ⟨(zZ BK158.out 0).trans rfl, (zZ BK158.out 1).trans rfl, (zZ BK158.out 2).trans rfl, (zZ BK171.out 0).trans rfl, (zZ BK171.out 1).trans rfl, (zZ BK171.out 2).trans rfl, ((HB.out.cell (zk? w _ hw172_0)).trans hw172_0), ((HB.out.cell (zk? w _ hw172_1)).trans hw172_1), ((HB.out.cell (zk? w _ hw172_2)).trans hw172_2)⟩ (fun hHeld => ?_); refine with_tabW spec_ValidModule.tab27 spec_ValidModule.bits27 (fun HT_ HW_ => ?_)
                      generalize wr.drew = w85 at BK158 BK171 HB hx172_0 hx172_1 hx172_2 hHeld ⊢
                      refine pure_ (i := 2) (N := some 150) (v := ?_) (a' := ?_) #[false, false, true, false, false, false, false, false, false] rfl rfl (any_of HT_.out (by kernel_rfl)) (fun _ _ _ h => h) (Or.inl ⟨by rfl, ?_⟩) ?_ ?_
                      rotate_left
                      ·intro w'
                       go_simp
                       with_reducible rfl
                      rotate_left
                      ·simp only [Act.put, List.setIfInBounds_toArray, List.set_cons_zero, List.set_cons_succ, i64_w, i32_w]
                       rfl
                      refine pure_ (i := 4) (N := some 152) (v := ?_) (a' := ?_) #[false, false, true, false, true, false, false, false, false] rfl rfl (any_of HT_.out (by kernel_rfl)) (fun _ _ _ h => h) (Or.inl ⟨by rfl, ?_⟩) ?_ ?_
                      rotate_left
                      ·intro w'
                       go_simp
                       with_reducible rfl
                      rotate_left
                      ·simp only [Act.put, List.setIfInBounds_toArray, List.set_cons_zero, List.set_cons_succ, i64_w, i32_w]
                       rfl
                      refine take_ (i := 0) (N := some 148) (v := ?_) (a' := ?_) #[true, false, true, false, true, false, false, false, false] rfl rfl (take_ofW HT_.out HW_.out (by kernel_rfl)) (fun _ _ _ h => h) (Or.inl ⟨by rfl, ?_⟩) hHeld ?_ ?_
                      rotate_left
                      ·rintro w' ⟨s0, s1, s2, s3, s4, s5, s6, s7, s8⟩
                       go_simp
                       with_reducible rfl
                      rotate_left
                      ·simp only [Act.put, List.setIfInBounds_toArray, List.set_cons_zero, List.set_cons_succ, i64_w, i32_w]
                       rfl
                      refine take_ (i := 1) (N := some 149) (v := ?_) (a' := ?_) #[true, true, true, false, true, false, false, false, false] rfl rfl (take_ofW HT_.out HW_.out (by kernel_rfl)) (fun _ _ _ h => h) (Or.inl ⟨by rfl, ?_⟩) hHeld ?_ ?_
                      rotate_left
                      ·rintro w' ⟨s0, s1, s2, s3, s4, s5, s6, s7, s8⟩
                       go_simp
                       with_reducible rfl
                      rotate_left
                      ·simp only [Act.put, List.setIfInBounds_toArray, List.set_cons_zero, List.set_cons_succ, i64_w, i32_w]
                       rfl
                      refine take_ (i := 3) (N := some 151) (v := ?_) (a' := ?_) #[true, true, true, true, true, false, false, false, false] rfl rfl (take_ofW HT_.out HW_.out (by kernel_rfl)) (fun _ _ _ h => h) (Or.inl ⟨by rfl, ?_⟩) hHeld ?_ ?_
                      rotate_left
                      ·rintro w' ⟨s0, s1, s2, s3, s4, s5, s6, s7, s8⟩
                       go_simp
                       with_reducible rfl
                      rotate_left
                      ·simp only [Act.put, List.setIfInBounds_toArray, List.set_cons_zero, List.set_cons_succ, i64_w, i32_w]
                       rfl
                      refine pure_ (i := 5) (N := some 153) (v := ?_) (a' := ?_) #[true, true, true, true, true, true, false, false, false] rfl rfl (any_of HT_.out (by kernel_rfl)) (fun _ _ _ h => h) (Or.inl ⟨by rfl, ?_⟩) ?_ ?_
                      rotate_left
                      ·intro w'
                       go_simp
                       with_reducible rfl
                      rotate_left
                      ·simp only [Act.put, List.setIfInBounds_toArray, List.set_cons_zero, List.set_cons_succ, i64_w, i32_w]
                       rfl
                      refine take_ (i := 6) (N := some 154) (v := ?_) (a' := ?_) #[true, true, true, true, true, true, true, false, false] rfl rfl (take_ofW HT_.out HW_.out (by kernel_rfl)) (fun _ _ _ h => h) (Or.inl ⟨by rfl, ?_⟩) hHeld ?_ ?_
                      rotate_left
                      ·rintro w' ⟨s0, s1, s2, s3, s4, s5, s6, s7, s8⟩
                       go_simp
                       with_reducible rfl
                      rotate_left
                      ·simp only [Act.put, List.setIfInBounds_toArray, List.set_cons_zero, List.set_cons_succ, i64_w, i32_w]
                       rfl
                      refine one_ (i := 7) (N := some 155) #[true, true, true, true, true, true, true, true, false] rfl rfl (one_of HT_.out (by kernel_rfl)) (by decide) (fun K hK => ?_)
                      refine goes_ Tryd.func39 (by kernel_rfl) rfl #[.agg #[.slice A0_0 l0_0.length c0_0, .int .i64 a0_1, .slice (some ad170) l0_2.length c0_2], .agg #[.int .i64 ((rd_T68 l0_2 x8_5).f0), .slice A170_1 ((rd_T68 l0_2 x8_5).f1).length c170_1, .slice (some ad172) ((rd_T68 l0_2 x8_5).f2).length c170_2], .agg #[.int .i64 ((rd_T71 ((rd_T68 l0_2 x8_5).f2) x10_6).f0), .int .i64 ((rd_T71 ((rd_T68 l0_2 x8_5).f2) x10_6).f1), .int .i64 ((rd_T71 ((rd_T68 l0_2 x8_5).f2) x10_6).f2)]] (by rfl) rfl rfl (by (try simp only [List.map_toArray, List.map_cons, List.map_nil]); first | done | rfl | (simp only [List.length_drop, List.length_take]; rfl)) ?_
                      with_reducible refine (spec_l3insOK.calls k6 _ _ l0_0 a0_1 _ _ l0_2 ((rd_T68 l0_2 x8_5).f0) _ _ ((rd_T68 l0_2 x8_5).f1) _ _ ((rd_T68 l0_2 x8_5).f2) ((rd_T71 ((rd_T68 l0_2 x8_5).f2) x10_6).f0) ((rd_T71 ((rd_T68 l0_2 x8_5).f2) x10_6).f1) ((rd_T71 ((rd_T68 l0_2 x8_5).f2) x10_6).f2) true _ ?side1 ?side2 ?side3 ?side4 ?side5 ?side6 ?side7 ?side8 A81.out).mono ?_
                      (case side1 => repeat (first | exact (Kd.C_below HR0_0.out HB.out) | (with_reducible refine zc ?_ _) | (with_reducible refine zd ?_ _) | (with_reducible refine ze ?_)))
                      (case side2 => exact HC0_0.out)
                      (case side3 => repeat (first | exact (Kd.C_below HR0_2.out HB.out) | (with_reducible refine zc ?_ _) | (with_reducible refine zd ?_ _) | (with_reducible refine ze ?_)))
                      (case side4 => exact HC0_2.out)
                      (case side5 => repeat (first | exact (Kd.C_below HR170_1.out HB.out) | (with_reducible refine zc ?_ _) | (with_reducible refine zd ?_ _) | (with_reducible refine ze ?_)))
                      (case side6 => exact HC170_1.out)
                      (case side7 => repeat (first | exact (Kd.C_below HR170_2.out HB.out) | (with_reducible refine zc ?_ _) | (with_reducible refine zd ?_ _) | (with_reducible refine ze ?_)))
                      (case side8 => exact HC170_2.out)
                      rintro e w86 ⟨rfl, hb⟩
                      refine ⟨_, rfl, ?_⟩
                      have n0_ := zA (zN (g := gb158) (o := .cells #[.slice A0_0 l0_0.length c0_0, .int .i64 a0_1, .slice (some ad170) l0_2.length c0_2] 38 (0, 0)) (kUp BK158.out) hb)
                      have n1_ := zA (zN (g := gb171) (o := .cells #[.int .i64 ((rd_T68 l0_2 x8_5).f0), .slice A170_1 ((rd_T68 l0_2 x8_5).f1).length c170_1, .slice (some ad172) ((rd_T68 l0_2 x8_5).f2).length c170_2] 68 (0, 0)) (kUp BK171.out) hb)
                      have n2_ := zA (zX (by repeat (first | (with_reducible first | exact HB.out | apply zE | apply zC | apply zD | refine zB ?_ GE158.out | refine zB ?_ GE171.out) | exact HB.out)) hb)
                      clear BK158
                      clear BK171
                      clear HB
                      have BK158 := n0_
                      have BK171 := n1_
                      have HB := n2_
                      clear n0_ n1_ n2_
                      (try clear hb)
                      (try clear hb2)
                      (try clear hk)
                      (try clear hi)
                      refine hK.out _ _ ⟨(zZ BK158.out 0).trans rfl, (zZ BK158.out 1).trans rfl, (zZ BK158.out 2).trans rfl, (zZ BK171.out 0).trans rfl, (zZ BK171.out 1).trans rfl, (zZ BK171.out 2).trans rfl, ((HB.out.cell (zk? w _ hw172_0)).trans hw172_0), ((HB.out.cell (zk? w _ hw172_1)).trans hw172_1), ((HB.out.cell (zk? w _ hw172_2)).trans hw172_2)⟩ (fun hHeld => ?_)
                      clear hK K
                      refine norm_ (a' := ?_) ?_ ?_
                      rotate_left
                      ·show Act.put _ (some 155) _ = _
                       simp only [Act.put, List.setIfInBounds_toArray, List.set_cons_zero, List.set_cons_succ, i64_w, i32_w]
                       rfl
                      refine pure_ (i := 8) (N := some 156) (v := ?_) (a' := ?_) #[true, true, true, true, true, true, true, true, true] rfl rfl (any_of HT_.out (by kernel_rfl)) (fun _ _ _ h => h) (Or.inl ⟨by rfl, ?_⟩) ?_ ?_
                      rotate_left
                      ·intro w'
                       go_simp
                       with_reducible rfl
                      rotate_left
                      ·simp only [Act.put, List.setIfInBounds_toArray, List.set_cons_zero, List.set_cons_succ, i64_w, i32_w]
                       rfl
                      refine done_ (done_of HT_.out (by kernel_rfl)) ?_
                      try go_wp2
                      go_roundg k6
                      case measure => have := HJ1.out; have := HK2.out; have := HK3.out; have := HJ65.out; have := HK5.out; have := HK6.out; omega
                      case rel => exact ⟨(wrap64 (x10_6 + 1)), (by first | rfl | (simp; done) | (simp [*]; done)), H', ⟨by have := HJ1.out; have := HK2.out; have := HK3.out; have := HJ65.out; have := HK5.out; have := HK6.out; omega⟩, ⟨by exact kUp BK158.out⟩, ⟨by exact kUp BK171.out⟩, ⟨by repeat (first | (with_reducible first | exact HB.out | apply zE | apply zC | apply zD | refine zB ?_ GE158.out | refine zB ?_ GE171.out) | exact HB.out)⟩⟩
                     ·replace c82 := zp.mpr c82
                      subst c82
                      have H1 : (some false) = some r := by rw [if_neg (show ¬ (false = true) by decide)] at H; exact H
                      clear H
                      have H := H1
                      clear H1
                      obtain rfl := zl H
                      have hnb87 := NB171_158.out
                      have hnc87 := NB158_171.out
                      have hcz88_0 : wr.cell? ⟨gb171, 0, none⟩ = some (.int .i64 ((rd_T68 l0_2 x8_5).f0)) := (zZ BK171.out 0).trans rfl
                      have hcz88_1 : wr.cell? ⟨gb171, 1, none⟩ = some (.slice A170_1 ((rd_T68 l0_2 x8_5).f1).length c170_1) := (zZ BK171.out 1).trans rfl
                      have hcz88_2 : wr.cell? ⟨gb171, 2, none⟩ = some (.slice A170_2 ((rd_T68 l0_2 x8_5).f2).length c170_2) := (zZ BK171.out 2).trans rfl
                      have hfz88_0 := zY BK171.out 0
                      have hfz88_1 := zY BK171.out 1
                      have hfz88_2 := zY BK171.out 2
                      try go_wp2
                      have n0_ := zA (blk_drew BK158.out)
                      have n1_ := zA (blk_drew BK171.out)
                      have n2_ := zA (zD HB.out)
                      clear BK158
                      clear BK171
                      clear HB
                      have BK158 := n0_
                      have BK171 := n1_
                      have HB := n2_
                      clear n0_ n1_ n2_
                      have p172 : 0 ≤ (x10_6 : Int) := zF (by first | (with_reducible assumption) | assumption)
                      have q172 : x10_6 < (((rd_T68 l0_2 x8_5).f2).length : Int) := zF (by first | (with_reducible assumption) | assumption)
                      obtain ⟨ad172, e172, hx172_0, hx172_1, hx172_2⟩ := at_T71 HR170_2.out x10_6 p172 q172
                      have hw172_2 := hx172_2
                      have hw172_1 := hx172_1
                      have hw172_0 := hx172_0
                      cases e172
                      replace hx172_0 := (HB.out.cell (zk? w _ hx172_0)).trans hx172_0
                      replace hx172_1 := (HB.out.cell (zk? w _ hx172_1)).trans hx172_1
                      replace hx172_2 := (HB.out.cell (zk? w _ hx172_2)).trans hx172_2
                      replace p172 := eq_true p172
                      replace q172 := eq_true q172
                      refine start_ (n := 9) (S := fun w' => w'.cell? ⟨gb158, 0, none⟩ = some (.slice A0_0 l0_0.length c0_0) ∧ w'.cell? ⟨gb158, 1, none⟩ = some (.int .i64 a0_1) ∧ w'.cell? ⟨gb158, 2, none⟩ = some (.slice (some ad170) l0_2.length c0_2) ∧ w'.cell? ⟨gb171, 0, none⟩ = some (.int .i64 ((rd_T68 l0_2 x8_5).f0)) ∧ w'.cell? ⟨gb171, 1, none⟩ = some (.slice A170_1 ((rd_T68 l0_2 x8_5).f1).length c170_1) ∧ w'.cell? ⟨gb171, 2, none⟩ = some (.slice (some ad172) ((rd_T68 l0_2 x8_5).f2).length c170_2) ∧ w'.cell? (ad172.add ((x10_6).toNat * 3)) = some (.int .i64 ((rd_T71 ((rd_T68 l0_2 x8_5).f2) x10_6).f0)) ∧ w'.cell? ⟨(ad172.add ((x10_6).toNat * 3)).block, (ad172.add ((x10_6).toNat * 3)).off + 1, none⟩ = some (.int .i64 ((rd_T71 ((rd_T68 l0_2 x8_5).f2) x10_6).f1)) ∧ w'.cell? ⟨(ad172.add ((x10_6).toNat * 3)).block, (ad172.add ((x10_6).toNat * 3)).off + 2, none⟩ = some (.int .i64 ((rd_T71 ((rd_T68 l0_2 x8_5).f2) x10_6).f2))) (ds := []) #[false, false, false, false, false, false, false, false, false] (by kernel_rfl) rfl rfl ⟨(zZ BK158.out 0).trans rfl, (zZ BK158.out 1).trans rfl, (zZ BK158.out 2).trans rfl, (zZ BK171.out 0).trans rfl, (zZ BK171.out 1).trans rfl, (zZ BK171.out 2).trans rfl, ((HB.out.cell (zk? w _ hw172_0)).trans hw172_0), ((HB.out.cell (zk? w _ hw172_1)).trans hw172_1), ((HB.out.cell (zk? w _ hw172_2)).trans hw172_2)⟩ (fun hHeld => ?_); refine with_tabW spec_ValidModule.tab27 spec_ValidModule.bits27 (fun HT_ HW_ => ?_)
                      generalize wr.drew = w89 at BK158 BK171 HB hx172_0 hx172_1 hx172_2 hHeld ⊢
                      refine pure_ (i := 2) (N := some 150) (v := ?_) (a' := ?_) #[false, false, true, false, false, false, false, false, false] rfl rfl (any_of HT_.out (by kernel_rfl)) (fun _ _ _ h => h) (Or.inl ⟨by rfl, ?_⟩) ?_ ?_
                      rotate_left
                      ·intro w'
                       go_simp
                       with_reducible rfl
                      rotate_left
                      ·simp only [Act.put, List.setIfInBounds_toArray, List.set_cons_zero, List.set_cons_succ, i64_w, i32_w]
                       rfl
                      refine pure_ (i := 4) (N := some 152) (v := ?_) (a' := ?_) #[false, false, true, false, true, false, false, false, false] rfl rfl (any_of HT_.out (by kernel_rfl)) (fun _ _ _ h => h) (Or.inl ⟨by rfl, ?_⟩) ?_ ?_
                      rotate_left
                      ·intro w'
                       go_simp
                       with_reducible rfl
                      rotate_left
                      ·simp only [Act.put, List.setIfInBounds_toArray, List.set_cons_zero, List.set_cons_succ, i64_w, i32_w]
                       rfl
                      refine take_ (i := 0) (N := some 148) (v := ?_) (a' := ?_) #[true, false, true, false, true, false, false, false, false] rfl rfl (take_ofW HT_.out HW_.out (by kernel_rfl)) (fun _ _ _ h => h) (Or.inl ⟨by rfl, ?_⟩) hHeld ?_ ?_
                      rotate_left
                      ·rintro w' ⟨s0, s1, s2, s3, s4, s5, s6, s7, s8⟩
                       go_simp
                       with_reducible rfl
                      rotate_left
                      ·simp only [Act.put, List.setIfInBounds_toArray, List.set_cons_zero, List.set_cons_succ, i64_w, i32_w]
                       rfl
                      refine take_ (i := 1) (N := some 149) (v := ?_) (a' := ?_) #[true, true, true, false, true, false, false, false, false] rfl rfl (take_ofW HT_.out HW_.out (by kernel_rfl)) (fun _ _ _ h => h) (Or.inl ⟨by rfl, ?_⟩) hHeld ?_ ?_
                      rotate_left
                      ·rintro w' ⟨s0, s1, s2, s3, s4, s5, s6, s7, s8⟩
                       go_simp
                       with_reducible rfl
                      rotate_left
                      ·simp only [Act.put, List.setIfInBounds_toArray, List.set_cons_zero, List.set_cons_succ, i64_w, i32_w]
                       rfl
                      refine take_ (i := 3) (N := some 151) (v := ?_) (a' := ?_) #[true, true, true, true, true, false, false, false, false] rfl rfl (take_ofW HT_.out HW_.out (by kernel_rfl)) (fun _ _ _ h => h) (Or.inl ⟨by rfl, ?_⟩) hHeld ?_ ?_
                      rotate_left
                      ·rintro w' ⟨s0, s1, s2, s3, s4, s5, s6, s7, s8⟩
                       go_simp
                       with_reducible rfl
                      rotate_left
                      ·simp only [Act.put, List.setIfInBounds_toArray, List.set_cons_zero, List.set_cons_succ, i64_w, i32_w]
                       rfl
                      refine pure_ (i := 5) (N := some 153) (v := ?_) (a' := ?_) #[true, true, true, true, true, true, false, false, false] rfl rfl (any_of HT_.out (by kernel_rfl)) (fun _ _ _ h => h) (Or.inl ⟨by rfl, ?_⟩) ?_ ?_
                      rotate_left
                      ·intro w'
                       go_simp
                       with_reducible rfl
                      rotate_left
                      ·simp only [Act.put, List.setIfInBounds_toArray, List.set_cons_zero, List.set_cons_succ, i64_w, i32_w]
                       rfl
                      refine take_ (i := 6) (N := some 154) (v := ?_) (a' := ?_) #[true, true, true, true, true, true, true, false, false] rfl rfl (take_ofW HT_.out HW_.out (by kernel_rfl)) (fun _ _ _ h => h) (Or.inl ⟨by rfl, ?_⟩) hHeld ?_ ?_
                      rotate_left
                      ·rintro w' ⟨s0, s1, s2, s3, s4, s5, s6, s7, s8⟩
                       go_simp
                       with_reducible rfl
                      rotate_left
                      ·simp only [Act.put, List.setIfInBounds_toArray, List.set_cons_zero, List.set_cons_succ, i64_w, i32_w]
                       rfl
                      refine one_ (i := 7) (N := some 155) #[true, true, true, true, true, true, true, true, false] rfl rfl (one_of HT_.out (by kernel_rfl)) (by decide) (fun K hK => ?_)
                      refine goes_ Tryd.func39 (by kernel_rfl) rfl #[.agg #[.slice A0_0 l0_0.length c0_0, .int .i64 a0_1, .slice (some ad170) l0_2.length c0_2], .agg #[.int .i64 ((rd_T68 l0_2 x8_5).f0), .slice A170_1 ((rd_T68 l0_2 x8_5).f1).length c170_1, .slice (some ad172) ((rd_T68 l0_2 x8_5).f2).length c170_2], .agg #[.int .i64 ((rd_T71 ((rd_T68 l0_2 x8_5).f2) x10_6).f0), .int .i64 ((rd_T71 ((rd_T68 l0_2 x8_5).f2) x10_6).f1), .int .i64 ((rd_T71 ((rd_T68 l0_2 x8_5).f2) x10_6).f2)]] (by rfl) rfl rfl (by (try simp only [List.map_toArray, List.map_cons, List.map_nil]); first | done | rfl | (simp only [List.length_drop, List.length_take]; rfl)) ?_
                      with_reducible refine (spec_l3insOK.calls k6 _ _ l0_0 a0_1 _ _ l0_2 ((rd_T68 l0_2 x8_5).f0) _ _ ((rd_T68 l0_2 x8_5).f1) _ _ ((rd_T68 l0_2 x8_5).f2) ((rd_T71 ((rd_T68 l0_2 x8_5).f2) x10_6).f0) ((rd_T71 ((rd_T68 l0_2 x8_5).f2) x10_6).f1) ((rd_T71 ((rd_T68 l0_2 x8_5).f2) x10_6).f2) false _ ?side1 ?side2 ?side3 ?side4 ?side5 ?side6 ?side7 ?side8 A81.out).mono ?_
                      (case side1 => repeat (first | exact (Kd.C_below HR0_0.out HB.out) | (with_reducible refine zc ?_ _) | (with_reducible refine zd ?_ _) | (with_reducible refine ze ?_)))
                      (case side2 => exact HC0_0.out)
                      (case side3 => repeat (first | exact (Kd.C_below HR0_2.out HB.out) | (with_reducible refine zc ?_ _) | (with_reducible refine zd ?_ _) | (with_reducible refine ze ?_)))
                      (case side4 => exact HC0_2.out)
                      (case side5 => repeat (first | exact (Kd.C_below HR170_1.out HB.out) | (with_reducible refine zc ?_ _) | (with_reducible refine zd ?_ _) | (with_reducible refine ze ?_)))
                      (case side6 => exact HC170_1.out)
                      (case side7 => repeat (first | exact (Kd.C_below HR170_2.out HB.out) | (with_reducible refine zc ?_ _) | (with_reducible refine zd ?_ _) | (with_reducible refine ze ?_)))
                      (case side8 => exact HC170_2.out)
                      rintro e w90 ⟨rfl, hb⟩
                      refine ⟨_, rfl, ?_⟩
                      have n0_ := zA (zN (g := gb158) (o := .cells #[.slice A0_0 l0_0.length c0_0, .int .i64 a0_1, .slice (some ad170) l0_2.length c0_2] 38 (0, 0)) (kUp BK158.out) hb)
                      have n1_ := zA (zN (g := gb171) (o := .cells #[.int .i64 ((rd_T68 l0_2 x8_5).f0), .slice A170_1 ((rd_T68 l0_2 x8_5).f1).length c170_1, .slice (some ad172) ((rd_T68 l0_2 x8_5).f2).length c170_2] 68 (0, 0)) (kUp BK171.out) hb)
                      have n2_ := zA (zX (by repeat (first | (with_reducible first | exact HB.out | apply zE | apply zC | apply zD | refine zB ?_ GE158.out | refine zB ?_ GE171.out) | exact HB.out)) hb)
                      clear BK158
                      clear BK171
                      clear HB
                      have BK158 := n0_
                      have BK171 := n1_
                      have HB := n2_
                      clear n0_ n1_ n2_
                      (try clear hb)
                      (try clear hb2)
                      (try clear hk)
                      (try clear hi)
                      refine hK.out _ _ ⟨(zZ BK158.out 0).trans rfl, (zZ BK158.out 1).trans rfl, (zZ BK158.out 2).trans rfl, (zZ BK171.out 0).trans rfl, (zZ BK171.out 1).trans rfl, (zZ BK171.out 2).trans rfl, ((HB.out.cell (zk? w _ hw172_0)).trans hw172_0), ((HB.out.cell (zk? w _ hw172_1)).trans hw172_1), ((HB.out.cell (zk? w _ hw172_2)).trans hw172_2)⟩ (fun hHeld => ?_)
                      clear hK K
                      refine norm_ (a' := ?_) ?_ ?_
                      rotate_left
                      ·show Act.put _ (some 155) _ = _
                       simp only [Act.put, List.setIfInBounds_toArray, List.set_cons_zero, List.set_cons_succ, i64_w, i32_w]
                       rfl
                      refine pure_ (i := 8) (N := some 156) (v := ?_) (a' := ?_) #[true, true, true, true, true, true, true, true, true] rfl rfl (any_of HT_.out (by kernel_rfl)) (fun _ _ _ h => h) (Or.inl ⟨by rfl, ?_⟩) ?_ ?_
                      rotate_left
                      ·intro w'
                       go_simp
                       with_reducible rfl
                      rotate_left
                      ·simp only [Act.put, List.setIfInBounds_toArray, List.set_cons_zero, List.set_cons_succ, i64_w, i32_w]
                       rfl
                      refine done_ (done_of HT_.out (by kernel_rfl)) ?_
                      try go_wp2
                      go_ret
                      exact ⟨by first | rfl | (simp [errW_none, errW_some] <;> rfl) | (simp [*, errW_none, errW_some] <;> rfl), by repeat (first | (with_reducible first | exact HB.out | apply zE | apply zC | apply zD | refine zB ?_ GE158.out | refine zB ?_ GE171.out) | exact HB.out)⟩
                    ·rw [if_neg c80] at H
                     exact absurd H (by simp)
                   ·rw [if_neg c79] at H
                    have c79b0 : decide (x10_6 < (((rd_T68 l0_2 x8_5).f2).length : Int)) = false := zH c79
                    clear c79
                    have H' := zA H
                    clear H
                    have hnb91 := NB171_158.out
                    have hnc91 := NB158_171.out
                    have hcz92_0 : wr.cell? ⟨gb171, 0, none⟩ = some (.int .i64 ((rd_T68 l0_2 x8_5).f0)) := (zZ BK171.out 0).trans rfl
                    have hcz92_1 : wr.cell? ⟨gb171, 1, none⟩ = some (.slice A170_1 ((rd_T68 l0_2 x8_5).f1).length c170_1) := (zZ BK171.out 1).trans rfl
                    have hcz92_2 : wr.cell? ⟨gb171, 2, none⟩ = some (.slice A170_2 ((rd_T68 l0_2 x8_5).f2).length c170_2) := (zZ BK171.out 2).trans rfl
                    have hfz92_0 := zY BK171.out 0
                    have hfz92_1 := zY BK171.out 1
                    have hfz92_2 := zY BK171.out 2
                    go_wp2
                    go_roundg k6
                    case measure => have := HJ1.out; have := HK2.out; have := HK3.out; have := HJ65.out; have := HK5.out; have := HK6.out; omega
                    case rel => exact ⟨(wrap64 (x8_5 + 1)), (by first | rfl | (simp; done) | (simp [*]; done)), H', ⟨by have := HJ1.out; have := HK2.out; have := HK3.out; have := HJ65.out; have := HK5.out; have := HK6.out; omega⟩, ⟨by exact kUp BK158.out⟩, ⟨by repeat (first | (with_reducible first | exact HB.out | apply zE | apply zC | apply zD | refine zB ?_ GE158.out | refine zB ?_ GE171.out) | exact HB.out)⟩⟩
                ·rw [if_neg c74] at H
                 exact absurd H (by simp)
               ·rw [if_neg c73] at H
                have c73b0 : decide (x8_5 < (l0_2.length : Int)) = false := zH c73
                clear c73
                obtain rfl := zl H
                have hcz93_0 : wr.cell? ⟨gb158, 0, none⟩ = some (.slice A0_0 l0_0.length c0_0) := (zZ BK158.out 0).trans rfl
                have hcz93_1 : wr.cell? ⟨gb158, 1, none⟩ = some (.int .i64 a0_1) := (zZ BK158.out 1).trans rfl
                have hcz93_2 : wr.cell? ⟨gb158, 2, none⟩ = some (.slice A0_2 l0_2.length c0_2) := (zZ BK158.out 2).trans rfl
                have hfz93_0 := zY BK158.out 0
                have hfz93_1 := zY BK158.out 1
                have hfz93_2 := zY BK158.out 2
                go_wp2
                go_ret
                exact ⟨by first | rfl | (simp [errW_none, errW_some] <;> rfl) | (simp [*, errW_none, errW_some] <;> rfl), by repeat (first | (with_reducible first | exact HB.out | apply zE | apply zC | apply zD | refine zB ?_ GE158.out) | exact HB.out)⟩
end Go.Proofs.YtogmphjhdkgdjaaDoor.QFnExactValidModule
