import Derived.Test.YtogmphjhdkgdjaaDoorZQFnExactValidModulex0
import Derived.Test.YtogmphjhdkgdjaaDoorZQFnExactValidModulex8
import Derived.Test.YtogmphjhdkgdjaaDoorZQFnExactValidModulex9
import Derived.Test.YtogmphjhdkgdjaaDoorZHandIns
namespace Go.Proofs.YtogmphjhdkgdjaaDoor.QFnExactValidModule
set_option maxHeartbeats 8000000
set_option maxRecDepth 100000
open Go.RowKit Go.Proofs.YtogmphjhdkgdjaaDoorW.PrintWords Go.Proofs.YtogmphjhdkgdjaaDoorW.PrintLast Go.Proofs.YtogmphjhdkgdjaaDoorW.PrintMore
attribute [local go_sem] max2_int min2_int max_two min_two max_three min_three max_four min_four
set_option linter.unusedVariables false
set_option linter.unusedSimpArgs false
mutual
def impl_ValidModule.j0 : Nat → Bool → List (List (S57)) → Int → List (S68) → Option (Bool)
 | 0, _, _, _, _ => none
 | k + 1, x44, x282000, x282001, x282002 => if x44 = true then (some false) else (impl_ValidModule.l0 k 0 x282000 (x282000.length : Int) 0 x282000 x282001 x282002)
def impl_ValidModule.l0 : Nat → Int → List (List (S57)) → Int → Int → List (List (S57)) → Int → List (S68) → Option (Bool)
 | 0, _, _, _, _, _, _, _ => none
 | k + 1, x3, x46, x47, x48, x282000, x282001, x282002 => if x48 < x47 then (if 0 ≤ x48 then (if x48 < (x46.length : Int) then (if (wrap64 (x3 + ((rd_L14 x46 x48).length : Int))) > 3000 then (some false) else ((impl_oneDatum.f k (rd_L14 x46 x48)).bind fun t287 => (if t287 = true then (impl_ValidModule.l0 k (wrap64 (x3 + ((rd_L14 x46 x48).length : Int))) x46 x47 (wrap64 (x48 + 1)) x282000 x282001 x282002) else (some false)))) else (none)) else (none)) else (impl_ValidModule.l1 k 0 x282002 (x282002.length : Int) 0 x282000 x282001 x282002)
def impl_ValidModule.l1 : Nat → Int → List (S68) → Int → Int → List (List (S57)) → Int → List (S68) → Option (Bool)
 | 0, _, _, _, _, _, _, _ => none
 | k + 1, x6, x65, x66, x67, x282000, x282001, x282002 => if x67 < x66 then (if 0 ≤ x67 then (if x67 < (x65.length : Int) then (if (wrap64 (x6 + (((rd_T68 x65 x67).f2).length : Int))) > 5000 then (impl_ValidModule.j3 k (wrap64 (x6 + (((rd_T68 x65 x67).f2).length : Int))) x65 x66 x67 true x282000 x282001 x282002 ((rd_T68 x65 x67).f0) ((rd_T68 x65 x67).f1) ((rd_T68 x65 x67).f2)) else ((impl_within.f ((rd_T68 x65 x67).f0) 0 20).bind fun t290 => (if t290 = true then (if (((rd_T68 x65 x67).f1).length : Int) > 50 then (impl_ValidModule.j3 k (wrap64 (x6 + (((rd_T68 x65 x67).f2).length : Int))) x65 x66 x67 true x282000 x282001 x282002 ((rd_T68 x65 x67).f0) ((rd_T68 x65 x67).f1) ((rd_T68 x65 x67).f2)) else (impl_ValidModule.j3 k (wrap64 (x6 + (((rd_T68 x65 x67).f2).length : Int))) x65 x66 x67 ((((rd_T68 x65 x67).f2).length : Int) == 0) x282000 x282001 x282002 ((rd_T68 x65 x67).f0) ((rd_T68 x65 x67).f1) ((rd_T68 x65 x67).f2))) else (impl_ValidModule.j3 k (wrap64 (x6 + (((rd_T68 x65 x67).f2).length : Int))) x65 x66 x67 true x282000 x282001 x282002 ((rd_T68 x65 x67).f0) ((rd_T68 x65 x67).f1) ((rd_T68 x65 x67).f2))))) else (none)) else (none)) else (some true)
def impl_ValidModule.j3 : Nat → Int → List (S68) → Int → Int → Bool → List (List (S57)) → Int → List (S68) → Int → List Bool → List (S71) → Option (Bool)
 | 0, _, _, _, _, _, _, _, _, _, _, _ => none
 | k + 1, x6, x65, x66, x67, x95, x282000, x282001, x282002, x290000, x290001, x290002 => if x95 = true then (some false) else (impl_ValidModule.l2 k x6 x65 x66 x67 x290002 (x290002.length : Int) 0 x282000 x282001 x282002 x290000 x290001 x290002)
def impl_ValidModule.l2 : Nat → Int → List (S68) → Int → Int → List (S71) → Int → Int → List (List (S57)) → Int → List (S68) → Int → List Bool → List (S71) → Option (Bool)
 | 0, _, _, _, _, _, _, _, _, _, _, _, _, _ => none
 | k + 1, x6, x65, x66, x67, x97, x98, x99, x282000, x282001, x282002, x290000, x290001, x290002 => if x99 < x98 then (if 0 ≤ x99 then (if x99 < (x97.length : Int) then ((impl_Module_insOk.f x282000 x282001 x282002 x290000 x290001 x290002 ((rd_T71 x97 x99).f0) ((rd_T71 x97 x99).f1) ((rd_T71 x97 x99).f2)).bind fun t293 => (if t293 = true then (impl_ValidModule.l2 k x6 x65 x66 x67 x97 x98 (wrap64 (x99 + 1)) x282000 x282001 x282002 x290000 x290001 x290002) else (some false))) else (none)) else (none)) else (impl_ValidModule.l1 k x6 x65 x66 (wrap64 (x67 + 1)) x282000 x282001 x282002)
end
def impl_ValidModule.f (k : Nat) (l0_0 : List (List (S57))) (a0_1 : Int) (l0_2 : List (S68)) : Option (Bool) := (impl_within.f (l0_2.length : Int) 1 200).bind fun t282 => (if t282 = true then (if (l0_0.length : Int) > 500 then (impl_ValidModule.j0 k true l0_0 a0_1 l0_2) else ((impl_within.f a0_1 0 200).bind fun t283 => (if t283 = true then (if 0 < (l0_2.length : Int) then (if ((rd_T68 l0_2 0).f0) = 0 then (impl_ValidModule.j0 k ((((rd_T68 l0_2 0).f1).length : Int) != 0) l0_0 a0_1 l0_2) else (impl_ValidModule.j0 k true l0_0 a0_1 l0_2)) else (none)) else (impl_ValidModule.j0 k true l0_0 a0_1 l0_2)))) else (impl_ValidModule.j0 k true l0_0 a0_1 l0_2))
theorem impl_ValidModule.mono_l : ∀ k, (∀ y0 y1 y2 y3, LeO (impl_ValidModule.j0 k y0 y1 y2 y3) (impl_ValidModule.j0 (k + 1) y0 y1 y2 y3)) ∧ (∀ y0 y1 y2 y3 y4 y5 y6, LeO (impl_ValidModule.l0 k y0 y1 y2 y3 y4 y5 y6) (impl_ValidModule.l0 (k + 1) y0 y1 y2 y3 y4 y5 y6)) ∧ (∀ y0 y1 y2 y3 y4 y5 y6, LeO (impl_ValidModule.l1 k y0 y1 y2 y3 y4 y5 y6) (impl_ValidModule.l1 (k + 1) y0 y1 y2 y3 y4 y5 y6)) ∧ (∀ y0 y1 y2 y3 y4 y5 y6 y7 y8 y9 y10, LeO (impl_ValidModule.j3 k y0 y1 y2 y3 y4 y5 y6 y7 y8 y9 y10) (impl_ValidModule.j3 (k + 1) y0 y1 y2 y3 y4 y5 y6 y7 y8 y9 y10)) ∧ (∀ y0 y1 y2 y3 y4 y5 y6 y7 y8 y9 y10 y11 y12, LeO (impl_ValidModule.l2 k y0 y1 y2 y3 y4 y5 y6 y7 y8 y9 y10 y11 y12) (impl_ValidModule.l2 (k + 1) y0 y1 y2 y3 y4 y5 y6 y7 y8 y9 y10 y11 y12))
 | 0 => ⟨fun _ _ _ _ r h => by simp [impl_ValidModule.j0] at h, fun _ _ _ _ _ _ _ r h => by simp [impl_ValidModule.l0] at h, fun _ _ _ _ _ _ _ r h => by simp [impl_ValidModule.l1] at h, fun _ _ _ _ _ _ _ _ _ _ _ r h => by simp [impl_ValidModule.j3] at h, fun _ _ _ _ _ _ _ _ _ _ _ _ _ r h => by simp [impl_ValidModule.l2] at h⟩
 | k + 1 => by
  obtain ⟨ih0, ih1, ih2, ih3, ih4⟩ := impl_ValidModule.mono_l k
  refine ⟨?_, ?_, ?_, ?_, ?_⟩
  ·intro y0 y1 y2 y3
   unfold impl_ValidModule.j0
   repeat' first
   | (with_reducible exact ih0 _ _ _ _)
   | (with_reducible exact ih1 _ _ _ _ _ _ _)
   | (with_reducible exact ih2 _ _ _ _ _ _ _)
   | (with_reducible exact ih3 _ _ _ _ _ _ _ _ _ _ _)
   | (with_reducible exact ih4 _ _ _ _ _ _ _ _ _ _ _ _ _)
   | (with_reducible exact impl_oneDatum.mono _ _)
   | (with_reducible exact LeO.refl _)
   | (with_reducible exact LeO.none _)
   | (with_reducible refine LeO.ite ?_ ?_)
   | (with_reducible refine LeO.bind ?_ (fun _ => ?_))
   | exact ih0 _ _ _ _
   | exact ih1 _ _ _ _ _ _ _
   | exact ih2 _ _ _ _ _ _ _
   | exact ih3 _ _ _ _ _ _ _ _ _ _ _
   | exact ih4 _ _ _ _ _ _ _ _ _ _ _ _ _
   | exact impl_oneDatum.mono _ _
   | exact LeO.none _
   | refine LeO.ite ?_ ?_
   | refine LeO.bind ?_ (fun _ => ?_)
  ·intro y0 y1 y2 y3 y4 y5 y6
   unfold impl_ValidModule.l0
   repeat' first
   | (with_reducible exact ih0 _ _ _ _)
   | (with_reducible exact ih1 _ _ _ _ _ _ _)
   | (with_reducible exact ih2 _ _ _ _ _ _ _)
   | (with_reducible exact ih3 _ _ _ _ _ _ _ _ _ _ _)
   | (with_reducible exact ih4 _ _ _ _ _ _ _ _ _ _ _ _ _)
   | (with_reducible exact impl_oneDatum.mono _ _)
   | (with_reducible exact LeO.refl _)
   | (with_reducible exact LeO.none _)
   | (with_reducible refine LeO.ite ?_ ?_)
   | (with_reducible refine LeO.bind ?_ (fun _ => ?_))
   | exact ih0 _ _ _ _
   | exact ih1 _ _ _ _ _ _ _
   | exact ih2 _ _ _ _ _ _ _
   | exact ih3 _ _ _ _ _ _ _ _ _ _ _
   | exact ih4 _ _ _ _ _ _ _ _ _ _ _ _ _
   | exact impl_oneDatum.mono _ _
   | exact LeO.none _
   | refine LeO.ite ?_ ?_
   | refine LeO.bind ?_ (fun _ => ?_)
  ·intro y0 y1 y2 y3 y4 y5 y6
   unfold impl_ValidModule.l1
   repeat' first
   | (with_reducible exact ih0 _ _ _ _)
   | (with_reducible exact ih1 _ _ _ _ _ _ _)
   | (with_reducible exact ih2 _ _ _ _ _ _ _)
   | (with_reducible exact ih3 _ _ _ _ _ _ _ _ _ _ _)
   | (with_reducible exact ih4 _ _ _ _ _ _ _ _ _ _ _ _ _)
   | (with_reducible exact impl_oneDatum.mono _ _)
   | (with_reducible exact LeO.refl _)
   | (with_reducible exact LeO.none _)
   | (with_reducible refine LeO.ite ?_ ?_)
   | (with_reducible refine LeO.bind ?_ (fun _ => ?_))
   | exact ih0 _ _ _ _
   | exact ih1 _ _ _ _ _ _ _
   | exact ih2 _ _ _ _ _ _ _
   | exact ih3 _ _ _ _ _ _ _ _ _ _ _
   | exact ih4 _ _ _ _ _ _ _ _ _ _ _ _ _
   | exact impl_oneDatum.mono _ _
   | exact LeO.none _
   | refine LeO.ite ?_ ?_
   | refine LeO.bind ?_ (fun _ => ?_)
  ·intro y0 y1 y2 y3 y4 y5 y6 y7 y8 y9 y10
   unfold impl_ValidModule.j3
   repeat' first
   | (with_reducible exact ih0 _ _ _ _)
   | (with_reducible exact ih1 _ _ _ _ _ _ _)
   | (with_reducible exact ih2 _ _ _ _ _ _ _)
   | (with_reducible exact ih3 _ _ _ _ _ _ _ _ _ _ _)
   | (with_reducible exact ih4 _ _ _ _ _ _ _ _ _ _ _ _ _)
   | (with_reducible exact impl_oneDatum.mono _ _)
   | (with_reducible exact LeO.refl _)
   | (with_reducible exact LeO.none _)
   | (with_reducible refine LeO.ite ?_ ?_)
   | (with_reducible refine LeO.bind ?_ (fun _ => ?_))
   | exact ih0 _ _ _ _
   | exact ih1 _ _ _ _ _ _ _
   | exact ih2 _ _ _ _ _ _ _
   | exact ih3 _ _ _ _ _ _ _ _ _ _ _
   | exact ih4 _ _ _ _ _ _ _ _ _ _ _ _ _
   | exact impl_oneDatum.mono _ _
   | exact LeO.none _
   | refine LeO.ite ?_ ?_
   | refine LeO.bind ?_ (fun _ => ?_)
  ·intro y0 y1 y2 y3 y4 y5 y6 y7 y8 y9 y10 y11 y12
   unfold impl_ValidModule.l2
   repeat' first
   | (with_reducible exact ih0 _ _ _ _)
   | (with_reducible exact ih1 _ _ _ _ _ _ _)
   | (with_reducible exact ih2 _ _ _ _ _ _ _)
   | (with_reducible exact ih3 _ _ _ _ _ _ _ _ _ _ _)
   | (with_reducible exact ih4 _ _ _ _ _ _ _ _ _ _ _ _ _)
   | (with_reducible exact impl_oneDatum.mono _ _)
   | (with_reducible exact LeO.refl _)
   | (with_reducible exact LeO.none _)
   | (with_reducible refine LeO.ite ?_ ?_)
   | (with_reducible refine LeO.bind ?_ (fun _ => ?_))
   | exact ih0 _ _ _ _
   | exact ih1 _ _ _ _ _ _ _
   | exact ih2 _ _ _ _ _ _ _
   | exact ih3 _ _ _ _ _ _ _ _ _ _ _
   | exact ih4 _ _ _ _ _ _ _ _ _ _ _ _ _
   | exact impl_oneDatum.mono _ _
   | exact LeO.none _
   | refine LeO.ite ?_ ?_
   | refine LeO.bind ?_ (fun _ => ?_)
theorem impl_ValidModule.mono : ∀ a0 a1 a2 k, LeO (impl_ValidModule.f k a0 a1 a2) (impl_ValidModule.f (k + 1) a0 a1 a2) := by
 intro a0 a1 a2 k
 obtain ⟨ih0, ih1, ih2, ih3, ih4⟩ := impl_ValidModule.mono_l k
 unfold impl_ValidModule.f
 repeat' first
   | (with_reducible exact ih0 _ _ _ _)
   | (with_reducible exact ih1 _ _ _ _ _ _ _)
   | (with_reducible exact ih2 _ _ _ _ _ _ _)
   | (with_reducible exact ih3 _ _ _ _ _ _ _ _ _ _ _)
   | (with_reducible exact ih4 _ _ _ _ _ _ _ _ _ _ _ _ _)
   | (with_reducible exact impl_oneDatum.mono _ _)
   | (with_reducible exact LeO.refl _)
   | (with_reducible exact LeO.none _)
   | (with_reducible refine LeO.ite ?_ ?_)
   | (with_reducible refine LeO.bind ?_ (fun _ => ?_))
   | exact ih0 _ _ _ _
   | exact ih1 _ _ _ _ _ _ _
   | exact ih2 _ _ _ _ _ _ _
   | exact ih3 _ _ _ _ _ _ _ _ _ _ _
   | exact ih4 _ _ _ _ _ _ _ _ _ _ _ _ _
   | exact impl_oneDatum.mono _ _
   | exact LeO.none _
   | refine LeO.ite ?_ ?_
   | refine LeO.bind ?_ (fun _ => ?_)
theorem impl_ValidModule.calls (k : Nat) (A0_0 : Option Addr) (c0_0 : Nat) (l0_0 : List (List (S57))) (a0_1 : Int) (A0_2 : Option Addr) (c0_2 : Nat) (l0_2 : List (S68)) (r : Bool) (w : World) (hr0_0 : Kd.C (Kd.slice 57 k57) w A0_0 l0_0.length l0_0) (hc0_0 : l0_0.length ≤ c0_0) (hr0_2 : Kd.C k68 w A0_2 l0_2.length l0_2) (hc0_2 : l0_2.length ≤ c0_2) (h : impl_ValidModule.f k l0_0 a0_1 l0_2 = some r) :
  Calls Tryd.prog 16 #[.agg #[.slice A0_0 l0_0.length c0_0, .int .i64 a0_1, .slice A0_2 l0_2.length c0_2]] w fun e w' => e = .returned (.bool r) ∧ Below w.heap.size w w' := by
 have hu38 := Tryd.underlying38
 have hu68 := Tryd.underlying68
 have hu71 := Tryd.underlying71
 have HR0_0 := zA hr0_0
 have HC0_0 := zA hc0_0
 clear hr0_0 hc0_0
 have HR0_2 := zA hr0_2
 have HC0_2 := zA hc0_2
 clear hr0_2 hc0_2
 have HB := zA (Below.refl w.heap.size w)
 have H : ((impl_within.f (l0_2.length : Int) 1 200).bind fun t282 => (if t282 = true then (if (l0_0.length : Int) > 500 then (impl_ValidModule.j0 k true l0_0 a0_1 l0_2) else ((impl_within.f a0_1 0 200).bind fun t283 => (if t283 = true then (if 0 < (l0_2.length : Int) then (if ((rd_T68 l0_2 0).f0) = 0 then (impl_ValidModule.j0 k ((((rd_T68 l0_2 0).f1).length : Int) != 0) l0_0 a0_1 l0_2) else (impl_ValidModule.j0 k true l0_0 a0_1 l0_2)) else (none)) else (impl_ValidModule.j0 k true l0_0 a0_1 l0_2)))) else (impl_ValidModule.j0 k true l0_0 a0_1 l0_2))) = some r := h
 clear h
 have HC2 := zA H
 clear H
 go_enter Tryd.func16, Tryd.ntmps16
 go_upto_region 1 with (first | ((with_reducible refine gate_dst (N := 1) rfl ?_); (try (refine gate_guard (by rfl) ?_; dsimp only)); refine box_event ?hg (N := 1) ?hd (cs := #[.slice A0_0 l0_0.length c0_0, .int .i64 a0_1, .slice A0_2 l0_2.length c0_2]) (t := 38) ?hr ?_; (case hd => rfl); (case hg => rfl); (case hr => first | (go_simp; done) | (go_simp; rfl)); intro gb281 hg w3 hbox hb; have n0_ := zA (zX (by repeat (first | (with_reducible first | exact HB.out | apply zE | apply zC | apply zD) | exact HB.out)) hb); have n1_ := zA (hbox); have n2_ := zA ((by rw [hg]; exact (below_size (by repeat (first | (with_reducible first | exact HB.out | apply zE | apply zC | apply zD) | exact HB.out))) : w.heap.size ≤ gb281)); have n3_ := zA ((by rw [hg]; exact (below_size (by repeat (first | (with_reducible first | exact HB.out | apply zE | apply zC | apply zD) | exact HB.out))) : w.heap.size ≤ gb281)); clear HB; have HB := n0_; have BK281 := n1_; have GW281 := n2_; have GE281 := n3_; clear n0_ n1_ n2_ n3_; clear hb hbox hg))
 (try simp only [Act.put, List.setIfInBounds_toArray, List.set_cons_zero, List.set_cons_succ])
 go_cut [44] (fun v44 wc => ∃ (kq : Nat) (x44_1 : Bool), v44 = .bool x44_1 ∧ Aside0 (impl_ValidModule.j0 kq x44_1 l0_0 a0_1 l0_2 = some r) ∧ Aside0 (kq ≤ k) ∧ Aside0 (wc.heap[gb281]? = some (.cells #[(.slice A0_0 l0_0.length c0_0), .int .i64 a0_1, (.slice A0_2 l0_2.length c0_2)] 38 (0, 0))) ∧ Aside0 (Below w.heap.size w wc))
 case first =>
  have H := HC2.out
  clear HC2
  replace H := zo.mp H
  obtain ⟨t282, A40, H⟩ := H
  replace H : (if t282 = true then (if (l0_0.length : Int) > 500 then (impl_ValidModule.j0 k true l0_0 a0_1 l0_2) else ((impl_within.f a0_1 0 200).bind fun t283 => (if t283 = true then (if 0 < (l0_2.length : Int) then (if ((rd_T68 l0_2 0).f0) = 0 then (impl_ValidModule.j0 k ((((rd_T68 l0_2 0).f1).length : Int) != 0) l0_0 a0_1 l0_2) else (impl_ValidModule.j0 k true l0_0 a0_1 l0_2)) else (none)) else (impl_ValidModule.j0 k true l0_0 a0_1 l0_2)))) else (impl_ValidModule.j0 k true l0_0 a0_1 l0_2)) = some r := H
  have A4 := zA A40
  clear A40
  by_cases c5 : t282 = true
  ·subst c5
   have H1 : (if (l0_0.length : Int) > 500 then (impl_ValidModule.j0 k true l0_0 a0_1 l0_2) else ((impl_within.f a0_1 0 200).bind fun t283 => (if t283 = true then (if 0 < (l0_2.length : Int) then (if ((rd_T68 l0_2 0).f0) = 0 then (impl_ValidModule.j0 k ((((rd_T68 l0_2 0).f1).length : Int) != 0) l0_0 a0_1 l0_2) else (impl_ValidModule.j0 k true l0_0 a0_1 l0_2)) else (none)) else (impl_ValidModule.j0 k true l0_0 a0_1 l0_2)))) = some r := by rw [if_pos rfl] at H; exact H
   clear H
   have H := H1
   clear H1
   by_cases c6 : (l0_0.length : Int) > 500
   ·rw [if_pos c6] at H
    have c6b0 : decide (500 < (l0_0.length : Int)) = true := zG c6
    have c6b1 : decide (500 < l0_0.length) = true := zG (by omega)
    clear c6
    (first | rw [c6b0] | (simp only [i64_w, i32_w]; rw [c6b0]) | skip)
    have H' := zA H
    clear H
    have hcz7_0 : w3.cell? ⟨gb281, 0, none⟩ = some (.slice A0_0 l0_0.length c0_0) := (zZ BK281.out 0).trans rfl
    have hcz7_1 : w3.cell? ⟨gb281, 1, none⟩ = some (.int .i64 a0_1) := (zZ BK281.out 1).trans rfl
    have hcz7_2 : w3.cell? ⟨gb281, 2, none⟩ = some (.slice A0_2 l0_2.length c0_2) := (zZ BK281.out 2).trans rfl
    have hfz7_0 := zY BK281.out 0
    have hfz7_1 := zY BK281.out 1
    have hfz7_2 := zY BK281.out 2
    go_wp2_with (first | ((with_reducible refine gate_callee (f := 42) rfl ?_); refine goesL_ (some 14) rfl rfl Tryd.func42 (by kernel_rfl) rfl #[.int .i64 (l0_2.length : Int), .int .i64 1, .int .i64 200] rfl (by (try simp only [List.map_toArray, List.map_cons, List.map_nil]); first | done | rfl | (simp only [List.length_drop, List.length_take]; rfl)) ?_; (with_reducible refine (impl_within.calls (l0_2.length : Int) 1 200 true _ A4.out).mono ?_); rintro e w' ⟨rfl, ⟨nd, rfl⟩⟩; refine ⟨_, rfl, ?_⟩))
    go_meet
    case rel => exact ⟨_, (true), (by first | rfl | (simp; done) | (simp [*]; done)), H', ⟨by first | omega | exact Nat.le_refl _⟩, ⟨by exact kUp BK281.out⟩, ⟨by repeat (first | (with_reducible first | exact HB.out | apply zE | apply zC | apply zD | refine zB ?_ GE281.out) | exact HB.out)⟩⟩
   ·rw [if_neg c6] at H
    have c6b0 : decide (500 < (l0_0.length : Int)) = false := zH c6
    have c6b1 : decide (500 < l0_0.length) = false := zH (by omega)
    clear c6
    (first | rw [c6b0] | (simp only [i64_w, i32_w]; rw [c6b0]) | skip)
    replace H := zo.mp H
    obtain ⟨t283, A80, H⟩ := H
    replace H : (if t283 = true then (if 0 < (l0_2.length : Int) then (if ((rd_T68 l0_2 0).f0) = 0 then (impl_ValidModule.j0 k ((((rd_T68 l0_2 0).f1).length : Int) != 0) l0_0 a0_1 l0_2) else (impl_ValidModule.j0 k true l0_0 a0_1 l0_2)) else (none)) else (impl_ValidModule.j0 k true l0_0 a0_1 l0_2)) = some r := H
    have A8 := zA A80
    clear A80
    by_cases c9 : t283 = true
    ·subst c9
     have H1 : (if 0 < (l0_2.length : Int) then (if ((rd_T68 l0_2 0).f0) = 0 then (impl_ValidModule.j0 k ((((rd_T68 l0_2 0).f1).length : Int) != 0) l0_0 a0_1 l0_2) else (impl_ValidModule.j0 k true l0_0 a0_1 l0_2)) else (none)) = some r := by rw [if_pos rfl] at H; exact H
     clear H
     have H := H1
     clear H1
     by_cases c10 : 0 < (l0_2.length : Int)
     ·rw [if_pos c10] at H
      have c10b0 : decide (0 < (l0_2.length : Int)) = true := zG c10
      have c10b1 : decide (0 < l0_2.length) = true := zG (by omega)
      clear c10
      by_cases c11 : ((rd_T68 l0_2 0).f0) = 0
      ·rw [if_pos c11] at H
       have c11b0 : (((rd_T68 l0_2 0).f0) == 0) = true := beq_iff_eq.mpr c11
       have c11b1 : (((rd_T68 l0_2 0).f0) != 0) = false := zn.mpr c11
       clear c11
       have H' := zA H
       clear H
       have hcz12_0 : w3.cell? ⟨gb281, 0, none⟩ = some (.slice A0_0 l0_0.length c0_0) := (zZ BK281.out 0).trans rfl
       have hcz12_1 : w3.cell? ⟨gb281, 1, none⟩ = some (.int .i64 a0_1) := (zZ BK281.out 1).trans rfl
       have hcz12_2 : w3.cell? ⟨gb281, 2, none⟩ = some (.slice A0_2 l0_2.length c0_2) := (zZ BK281.out 2).trans rfl
       have hfz12_0 := zY BK281.out 0
       have hfz12_1 := zY BK281.out 1
       have hfz12_2 := zY BK281.out 2
       go_wp2_with (first | ((with_reducible refine gate_callee (f := 42) rfl ?_); refine goesL_ (some 14) rfl rfl Tryd.func42 (by kernel_rfl) rfl #[.int .i64 (l0_2.length : Int), .int .i64 1, .int .i64 200] rfl (by (try simp only [List.map_toArray, List.map_cons, List.map_nil]); first | done | rfl | (simp only [List.length_drop, List.length_take]; rfl)) ?_; (with_reducible refine (impl_within.calls (l0_2.length : Int) 1 200 true _ A4.out).mono ?_); rintro e w' ⟨rfl, ⟨nd, rfl⟩⟩; refine ⟨_, rfl, ?_⟩) | (go_at_call 42; (with_reducible refine (impl_within.calls a0_1 0 200 true _ A8.out).mono ?_); rintro e w' ⟨rfl, ⟨nd, rfl⟩⟩; have p284 : 0 ≤ (0 : Int) := (by omega); have q284 : 0 < (l0_2.length : Int) := zF (by first | (with_reducible assumption) | assumption); obtain ⟨ad284, A284_1, c284_1, A284_2, c284_2, e284, hx284_0, hx284_1, hx284_2, hl284_1, hi284_1, hl284_2, hi284_2⟩ := at_T68 HR0_2.out 0 p284 q284; cases e284; have qi284 : (0 < l0_2.length) = True := eq_true (by omega); (try rw [show ((0 : Int)).toNat = 0 from rfl] at hx284_0); (try rw [show 0 * 3 = 0 from rfl] at hx284_0); (try rw [Addr.add_zero'] at hx284_0); (try rw [show ((0 : Int)).toNat = 0 from rfl] at hx284_1); (try rw [show 0 * 3 = 0 from rfl] at hx284_1); (try rw [Addr.add_zero'] at hx284_1); (try rw [show ((0 : Int)).toNat = 0 from rfl] at hx284_2); (try rw [show 0 * 3 = 0 from rfl] at hx284_2); (try rw [Addr.add_zero'] at hx284_2); replace hx284_0 := (HB.out.cell (zk? w _ hx284_0)).trans hx284_0; replace hx284_1 := (HB.out.cell (zk? w _ hx284_1)).trans hx284_1; replace hx284_2 := (HB.out.cell (zk? w _ hx284_2)).trans hx284_2; have HR284_1 := zA hi284_1; have HC284_1 := zA hl284_1; clear hi284_1 hl284_1; have HR284_2 := zA hi284_2; have HC284_2 := zA hl284_2; clear hi284_2 hl284_2; replace p284 := eq_true p284; replace q284 := eq_true q284; have p285 : 0 ≤ (0 : Int) := (by omega); have q285 : 0 < (l0_2.length : Int) := zF (by first | (with_reducible assumption) | assumption); obtain ⟨ad285, A285_1, c285_1, A285_2, c285_2, e285, hx285_0, hx285_1, hx285_2, hl285_1, hi285_1, hl285_2, hi285_2⟩ := at_T68 HR0_2.out 0 p285 q285; obtain rfl : ad284 = ad285 := (by injection e285); have qi285 : (0 < l0_2.length) = True := eq_true (by omega); (try rw [show ((0 : Int)).toNat = 0 from rfl] at hx285_0); (try rw [show 0 * 3 = 0 from rfl] at hx285_0); (try rw [Addr.add_zero'] at hx285_0); (try rw [show ((0 : Int)).toNat = 0 from rfl] at hx285_1); (try rw [show 0 * 3 = 0 from rfl] at hx285_1); (try rw [Addr.add_zero'] at hx285_1); (try rw [show ((0 : Int)).toNat = 0 from rfl] at hx285_2); (try rw [show 0 * 3 = 0 from rfl] at hx285_2); (try rw [Addr.add_zero'] at hx285_2); replace hx285_0 := (HB.out.cell (zk? w _ hx285_0)).trans hx285_0; replace hx285_1 := (HB.out.cell (zk? w _ hx285_1)).trans hx285_1; replace hx285_2 := (HB.out.cell (zk? w _ hx285_2)).trans hx285_2; have HR285_1 := zA hi285_1; have HC285_1 := zA hl285_1; clear hi285_1 hl285_1; have HR285_2 := zA hi285_2; have HC285_2 := zA hl285_2; clear hi285_2 hl285_2; replace p285 := eq_true p285; replace q285 := eq_true q285; have ea_ := zl (hx284_1.symm.trans hx285_1); injection ea_ with ea_ en_ ec_; subst ea_; subst ec_; clear en_; have ea_ := zl (hx284_2.symm.trans hx285_2); injection ea_ with ea_ en_ ec_; subst ea_; subst ec_; clear en_))
       go_meet
       case rel => exact ⟨_, (((((rd_T68 l0_2 0).f1).length : Int) != 0)), (by first | rfl | (simp; done) | (simp [*]; done)), H', ⟨by first | omega | exact Nat.le_refl _⟩, ⟨by exact kUp BK281.out⟩, ⟨by repeat (first | (with_reducible first | exact HB.out | apply zE | apply zC | apply zD | refine zB ?_ GE281.out) | exact HB.out)⟩⟩
      ·rw [if_neg c11] at H
       have c11b0 : (((rd_T68 l0_2 0).f0) == 0) = false := zm.mpr c11
       have c11b1 : (((rd_T68 l0_2 0).f0) != 0) = true := bne_iff_ne.mpr c11
       have H' := zA H
       clear H
       have hcz13_0 : w3.cell? ⟨gb281, 0, none⟩ = some (.slice A0_0 l0_0.length c0_0) := (zZ BK281.out 0).trans rfl
       have hcz13_1 : w3.cell? ⟨gb281, 1, none⟩ = some (.int .i64 a0_1) := (zZ BK281.out 1).trans rfl
       have hcz13_2 : w3.cell? ⟨gb281, 2, none⟩ = some (.slice A0_2 l0_2.length c0_2) := (zZ BK281.out 2).trans rfl
       have hfz13_0 := zY BK281.out 0
       have hfz13_1 := zY BK281.out 1
       have hfz13_2 := zY BK281.out 2
       go_wp2_with (first | ((with_reducible refine gate_callee (f := 42) rfl ?_); refine goesL_ (some 14) rfl rfl Tryd.func42 (by kernel_rfl) rfl #[.int .i64 (l0_2.length : Int), .int .i64 1, .int .i64 200] rfl (by (try simp only [List.map_toArray, List.map_cons, List.map_nil]); first | done | rfl | (simp only [List.length_drop, List.length_take]; rfl)) ?_; (with_reducible refine (impl_within.calls (l0_2.length : Int) 1 200 true _ A4.out).mono ?_); rintro e w' ⟨rfl, ⟨nd, rfl⟩⟩; refine ⟨_, rfl, ?_⟩) | (go_at_call 42; (with_reducible refine (impl_within.calls a0_1 0 200 true _ A8.out).mono ?_); rintro e w' ⟨rfl, ⟨nd, rfl⟩⟩; have p284 : 0 ≤ (0 : Int) := (by omega); have q284 : 0 < (l0_2.length : Int) := zF (by first | (with_reducible assumption) | assumption); obtain ⟨ad284, A284_1, c284_1, A284_2, c284_2, e284, hx284_0, hx284_1, hx284_2, hl284_1, hi284_1, hl284_2, hi284_2⟩ := at_T68 HR0_2.out 0 p284 q284; cases e284; have qi284 : (0 < l0_2.length) = True := eq_true (by omega); (try rw [show ((0 : Int)).toNat = 0 from rfl] at hx284_0); (try rw [show 0 * 3 = 0 from rfl] at hx284_0); (try rw [Addr.add_zero'] at hx284_0); (try rw [show ((0 : Int)).toNat = 0 from rfl] at hx284_1); (try rw [show 0 * 3 = 0 from rfl] at hx284_1); (try rw [Addr.add_zero'] at hx284_1); (try rw [show ((0 : Int)).toNat = 0 from rfl] at hx284_2); (try rw [show 0 * 3 = 0 from rfl] at hx284_2); (try rw [Addr.add_zero'] at hx284_2); replace hx284_0 := (HB.out.cell (zk? w _ hx284_0)).trans hx284_0; replace hx284_1 := (HB.out.cell (zk? w _ hx284_1)).trans hx284_1; replace hx284_2 := (HB.out.cell (zk? w _ hx284_2)).trans hx284_2; have HR284_1 := zA hi284_1; have HC284_1 := zA hl284_1; clear hi284_1 hl284_1; have HR284_2 := zA hi284_2; have HC284_2 := zA hl284_2; clear hi284_2 hl284_2; replace p284 := eq_true p284; replace q284 := eq_true q284))
       go_meet
       case rel => exact ⟨_, (true), (by first | rfl | (simp; done) | (simp [*]; done)), H', ⟨by first | omega | exact Nat.le_refl _⟩, ⟨by exact kUp BK281.out⟩, ⟨by repeat (first | (with_reducible first | exact HB.out | apply zE | apply zC | apply zD | refine zB ?_ GE281.out) | exact HB.out)⟩⟩
     ·rw [if_neg c10] at H
      exact absurd H (by simp)
    ·replace c9 := zp.mpr c9
     subst c9
     have H1 : (impl_ValidModule.j0 k true l0_0 a0_1 l0_2) = some r := by rw [if_neg (show ¬ (false = true) by decide)] at H; exact H
     clear H
     have H := H1
     clear H1
     have H' := zA H
     clear H
     have hcz14_0 : w3.cell? ⟨gb281, 0, none⟩ = some (.slice A0_0 l0_0.length c0_0) := (zZ BK281.out 0).trans rfl
     have hcz14_1 : w3.cell? ⟨gb281, 1, none⟩ = some (.int .i64 a0_1) := (zZ BK281.out 1).trans rfl
     have hcz14_2 : w3.cell? ⟨gb281, 2, none⟩ = some (.slice A0_2 l0_2.length c0_2) := (zZ BK281.out 2).trans rfl
     have hfz14_0 := zY BK281.out 0
     have hfz14_1 := zY BK281.out 1
     have hfz14_2 := zY BK281.out 2
     go_wp2_with (first | ((with_reducible refine gate_callee (f := 42) rfl ?_); refine goesL_ (some 14) rfl rfl Tryd.func42 (by kernel_rfl) rfl #[.int .i64 (l0_2.length : Int), .int .i64 1, .int .i64 200] rfl (by (try simp only [List.map_toArray, List.map_cons, List.map_nil]); first | done | rfl | (simp only [List.length_drop, List.length_take]; rfl)) ?_; (with_reducible refine (impl_within.calls (l0_2.length : Int) 1 200 true _ A4.out).mono ?_); rintro e w' ⟨rfl, ⟨nd, rfl⟩⟩; refine ⟨_, rfl, ?_⟩) | (go_at_call 42; (with_reducible refine (impl_within.calls a0_1 0 200 false _ A8.out).mono ?_); rintro e w' ⟨rfl, ⟨nd, rfl⟩⟩))
     go_meet
     case rel => exact ⟨_, (true), (by first | rfl | (simp; done) | (simp [*]; done)), H', ⟨by first | omega | exact Nat.le_refl _⟩, ⟨by exact kUp BK281.out⟩, ⟨by repeat (first | (with_reducible first | exact HB.out | apply zE | apply zC | apply zD | refine zB ?_ GE281.out) | exact HB.out)⟩⟩
  ·replace c5 := zp.mpr c5
   subst c5
   have H1 : (impl_ValidModule.j0 k true l0_0 a0_1 l0_2) = some r := by rw [if_neg (show ¬ (false = true) by decide)] at H; exact H
   clear H
   have H := H1
   clear H1
   have H' := zA H
   clear H
   have hcz15_0 : w3.cell? ⟨gb281, 0, none⟩ = some (.slice A0_0 l0_0.length c0_0) := (zZ BK281.out 0).trans rfl
   have hcz15_1 : w3.cell? ⟨gb281, 1, none⟩ = some (.int .i64 a0_1) := (zZ BK281.out 1).trans rfl
   have hcz15_2 : w3.cell? ⟨gb281, 2, none⟩ = some (.slice A0_2 l0_2.length c0_2) := (zZ BK281.out 2).trans rfl
   have hfz15_0 := zY BK281.out 0
   have hfz15_1 := zY BK281.out 1
   have hfz15_2 := zY BK281.out 2
   go_wp2_with (first | ((with_reducible refine gate_callee (f := 42) rfl ?_); refine goesL_ (some 14) rfl rfl Tryd.func42 (by kernel_rfl) rfl #[.int .i64 (l0_2.length : Int), .int .i64 1, .int .i64 200] rfl (by (try simp only [List.map_toArray, List.map_cons, List.map_nil]); first | done | rfl | (simp only [List.length_drop, List.length_take]; rfl)) ?_; (with_reducible refine (impl_within.calls (l0_2.length : Int) 1 200 false _ A4.out).mono ?_); rintro e w' ⟨rfl, ⟨nd, rfl⟩⟩; refine ⟨_, rfl, ?_⟩))
   go_meet
   case rel => exact ⟨_, (true), (by first | rfl | (simp; done) | (simp [*]; done)), H', ⟨by first | omega | exact Nat.le_refl _⟩, ⟨by exact kUp BK281.out⟩, ⟨by repeat (first | (with_reducible first | exact HB.out | apply zE | apply zC | apply zD | refine zB ?_ GE281.out) | exact HB.out)⟩⟩
 case rest =>
  clear HC2
  try clear c1
  try clear c2
  try clear p2
  try clear q2
  try clear hx2
  try clear qi2
  try clear c4
  try clear c5
  try clear c6
  try clear c6b0
  try clear c6b1
  try clear c9
  try clear c10
  try clear c10b0
  try clear c10b1
  try clear c11
  try clear c11b0
  try clear c11b1
  try clear hcz12_0
  try clear hcz12_1
  try clear hcz12_2
  try clear hcz13_0
  try clear hcz13_1
  try clear hcz13_2
  try clear hcz14_0
  try clear hcz14_1
  try clear hcz14_2
  try clear hcz15_0
  try clear hcz15_1
  try clear hcz15_2
  try clear hcz7_0
  try clear hcz7_1
  try clear hcz7_2
  try clear hfz12_0
  try clear hfz12_1
  try clear hfz12_2
  try clear hfz13_0
  try clear hfz13_1
  try clear hfz13_2
  try clear hfz14_0
  try clear hfz14_1
  try clear hfz14_2
  try clear hfz15_0
  try clear hfz15_1
  try clear hfz15_2
  try clear hfz7_0
  try clear hfz7_1
  try clear hfz7_2
  try clear hx284_0
  try clear hx284_1
  try clear hx284_2
  try clear hx285_0
  try clear hx285_1
  try clear hx285_2
  try clear p284
  try clear p285
  try clear q284
  try clear q285
  obtain ⟨kq, x44_1, rfl, HA, HJ1, BK281, HB⟩ := hcut
  cases kq with
  | zero => exact absurd HA.out (by simp [impl_ValidModule.j0])
  | succ kj1 =>
   have H := HA.out
   clear HA
   simp only [impl_ValidModule.j0] at H
   by_cases c16 : x44_1 = true
   ·subst c16
    have H1 : (some false) = some r := by rw [if_pos rfl] at H; exact H
    clear H
    have H := H1
    clear H1
    obtain rfl := zl H
    go_wp2
    go_ret
    exact ⟨by first | rfl | (simp [errW_none, errW_some] <;> rfl) | (simp [*, errW_none, errW_some] <;> rfl), by repeat (first | (with_reducible first | exact HB.out | apply zE | apply zC | apply zD | refine zB ?_ GE281.out) | exact HB.out)⟩
   ·replace c16 := zp.mpr c16
    subst c16
    have H1 : (impl_ValidModule.l0 kj1 0 l0_0 (l0_0.length : Int) 0 l0_0 a0_1 l0_2) = some r := by rw [if_neg (show ¬ (false = true) by decide)] at H; exact H
    clear H
    have H := H1
    clear H1
    have H' := zA H
    clear H
    have hcz17_0 : wc.cell? ⟨gb281, 0, none⟩ = some (.slice A0_0 l0_0.length c0_0) := (zZ BK281.out 0).trans rfl
    have hcz17_1 : wc.cell? ⟨gb281, 1, none⟩ = some (.int .i64 a0_1) := (zZ BK281.out 1).trans rfl
    have hcz17_2 : wc.cell? ⟨gb281, 2, none⟩ = some (.slice A0_2 l0_2.length c0_2) := (zZ BK281.out 2).trans rfl
    have hfz17_0 := zY BK281.out 0
    have hfz17_1 := zY BK281.out 1
    have hfz17_2 := zY BK281.out 2
    go_wp2
    go_loopg [3, 48] kj1 (fun kq v3 v48 w' => ∃ (x3_2 : Int) (x48_2 : Int), v3 = .int .i64 x3_2 ∧ v48 = .int .i64 x48_2 ∧ Aside0 (impl_ValidModule.l0 kq x3_2 l0_0 (l0_0.length : Int) x48_2 l0_0 a0_1 l0_2 = some r) ∧ Aside0 (kq ≤ kj1) ∧ Aside0 (w'.heap[gb281]? = some (.cells #[(.slice A0_0 l0_0.length c0_0), .int .i64 a0_1, (.slice A0_2 l0_2.length c0_2)] 38 (0, 0))) ∧ Aside0 (Below w.heap.size w w'))
    case atStart => exact ⟨(0), (0), (by first | rfl | (simp; done) | (simp [*]; done)), (by first | rfl | (simp; done) | (simp [*]; done)), H', ⟨Nat.le_refl _⟩, ⟨by exact kUp BK281.out⟩, ⟨by repeat (first | (with_reducible first | exact HB.out | apply zE | apply zC | apply zD | refine zB ?_ GE281.out) | exact HB.out)⟩⟩
    case round =>
     clear H'
     try clear c1
     try clear c2
     try clear p2
     try clear q2
     try clear hx2
     try clear qi2
     try clear c4
     try clear c5
     try clear c6
     try clear c6b0
     try clear c6b1
     try clear c9
     try clear c10
     try clear c10b0
     try clear c10b1
     try clear c11
     try clear c11b0
     try clear c11b1
     try clear c16
     try clear hcz12_0
     try clear hcz12_1
     try clear hcz12_2
     try clear hcz13_0
     try clear hcz13_1
     try clear hcz13_2
     try clear hcz14_0
     try clear hcz14_1
     try clear hcz14_2
     try clear hcz15_0
     try clear hcz15_1
     try clear hcz15_2
     try clear hcz17_0
     try clear hcz17_1
     try clear hcz17_2
     try clear hcz7_0
     try clear hcz7_1
     try clear hcz7_2
     try clear hfz12_0
     try clear hfz12_1
     try clear hfz12_2
     try clear hfz13_0
     try clear hfz13_1
     try clear hfz13_2
     try clear hfz14_0
     try clear hfz14_1
     try clear hfz14_2
     try clear hfz15_0
     try clear hfz15_1
     try clear hfz15_2
     try clear hfz17_0
     try clear hfz17_1
     try clear hfz17_2
     try clear hfz7_0
     try clear hfz7_1
     try clear hfz7_2
     try clear hx284_0
     try clear hx284_1
     try clear hx284_2
     try clear hx285_0
     try clear hx285_1
     try clear hx285_2
     try clear p2
     try clear p284
     try clear p285
     try clear q2
     try clear q284
     try clear q285
     obtain ⟨x3_2, x48_2, rfl, rfl, HA, HK2, BK281, HB⟩ := hrel
     cases gk with
     | zero => exact absurd HA.out (by simp [impl_ValidModule.l0])
     | succ k2 =>
      have H := HA.out
      clear HA
      simp only [impl_ValidModule.l0] at H
      by_cases c18 : x48_2 < (l0_0.length : Int)
      ·rw [if_pos c18] at H
       have c18b0 : decide (x48_2 < (l0_0.length : Int)) = true := zG c18
       clear c18
       by_cases c19 : 0 ≤ x48_2
       ·rw [if_pos c19] at H
        have c19b0 : decide (0 ≤ x48_2) = true := zG c19
        clear c19
        by_cases c20 : x48_2 < (l0_0.length : Int)
        ·rw [if_pos c20] at H
         have c20b0 : decide (x48_2 < (l0_0.length : Int)) = true := zG c20
         clear c20
         by_cases c21 : (wrap64 (x3_2 + ((rd_L14 l0_0 x48_2).length : Int))) > 3000
         ·rw [if_pos c21] at H
          have c21b0 : decide (3000 < (wrap64 (x3_2 + ((rd_L14 l0_0 x48_2).length : Int)))) = true := zG c21
          clear c21
          obtain rfl := zl H
          have p286 : 0 ≤ (x48_2 : Int) := zF (by first | (with_reducible assumption) | assumption)
          have q286 : x48_2 < (l0_0.length : Int) := zF (by first | (with_reducible assumption) | assumption)
          obtain ⟨ad286, A286_0, c286_0, e286, hx286_0, hl286_0, hi286_0⟩ := at_L14 HR0_0.out x48_2 p286 q286
          cases e286
          replace hx286_0 := (HB.out.cell (zk? w _ hx286_0)).trans hx286_0
          have HR286_0 := zA hi286_0
          have HC286_0 := zA hl286_0
          clear hi286_0 hl286_0
          replace p286 := eq_true p286
          replace q286 := eq_true q286
          go_wp2
          go_ret
          exact ⟨by first | rfl | (simp [errW_none, errW_some] <;> rfl) | (simp [*, errW_none, errW_some] <;> rfl), by repeat (first | (with_reducible first | exact HB.out | apply zE | apply zC | apply zD | refine zB ?_ GE281.out) | exact HB.out)⟩
         ·rw [if_neg c21] at H
          have c21b0 : decide (3000 < (wrap64 (x3_2 + ((rd_L14 l0_0 x48_2).length : Int)))) = false := zH c21
          clear c21
          replace H := zo.mp H
          obtain ⟨t287, A220, H⟩ := H
          replace H : (if t287 = true then (impl_ValidModule.l0 k2 (wrap64 (x3_2 + ((rd_L14 l0_0 x48_2).length : Int))) l0_0 (l0_0.length : Int) (wrap64 (x48_2 + 1)) l0_0 a0_1 l0_2) else (some false)) = some r := H
          have A22 := zA A220
          clear A220
          by_cases c23 : t287 = true
          ·subst c23
           have H1 : (impl_ValidModule.l0 k2 (wrap64 (x3_2 + ((rd_L14 l0_0 x48_2).length : Int))) l0_0 (l0_0.length : Int) (wrap64 (x48_2 + 1)) l0_0 a0_1 l0_2) = some r := by rw [if_pos rfl] at H; exact H
           clear H
           have H := H1
           clear H1
           have H' := zA H
           clear H
           have p286 : 0 ≤ (x48_2 : Int) := zF (by first | (with_reducible assumption) | assumption)
           have q286 : x48_2 < (l0_0.length : Int) := zF (by first | (with_reducible assumption) | assumption)
           obtain ⟨ad286, A286_0, c286_0, e286, hx286_0, hl286_0, hi286_0⟩ := at_L14 HR0_0.out x48_2 p286 q286
           cases e286
           replace hx286_0 := (HB.out.cell (zk? w _ hx286_0)).trans hx286_0
           have HR286_0 := zA hi286_0
           have HC286_0 := zA hl286_0
           clear hi286_0 hl286_0
           replace p286 := eq_true p286
           replace q286 := eq_true q286
           go_wp2_with (first | (go_at_call 43; (with_reducible refine (impl_oneDatum.calls k2 _ _ (rd_L14 l0_0 x48_2) true _ ?side1 ?side2 A22.out).mono ?_); (case side1 => repeat (first | exact (Kd.C_below HR286_0.out HB.out) | (with_reducible refine zc ?_ _) | (with_reducible refine zd ?_ _) | (with_reducible refine ze ?_))); (case side2 => exact HC286_0.out); rintro e w24 ⟨rfl, hb⟩; have n0_ := zA (zN (g := gb281) (o := .cells #[.slice (some ad286) l0_0.length c0_0, .int .i64 a0_1, .slice A0_2 l0_2.length c0_2] 38 (0, 0)) (kUp BK281.out) hb); have n1_ := zA (zX (by repeat (first | (with_reducible first | exact HB.out | apply zE | apply zC | apply zD | refine zB ?_ GE281.out) | exact HB.out)) hb); clear BK281 HB; have BK281 := n0_; have HB := n1_; clear n0_ n1_; (try clear hb); (try clear hb2); (try clear hk); (try clear hi)))
           go_roundg k2
           case measure => have := HJ1.out; have := HK2.out; omega
           case rel => exact ⟨(wrap64 (x3_2 + ((rd_L14 l0_0 x48_2).length : Int))), (wrap64 (x48_2 + 1)), (by first | rfl | (simp; done) | (simp [*]; done)), (by first | rfl | (simp; done) | (simp [*]; done)), H', ⟨by have := HJ1.out; have := HK2.out; omega⟩, ⟨by exact kUp BK281.out⟩, ⟨by repeat (first | (with_reducible first | exact HB.out | apply zE | apply zC | apply zD | refine zB ?_ GE281.out) | exact HB.out)⟩⟩
          ·replace c23 := zp.mpr c23
           subst c23
           have H1 : (some false) = some r := by rw [if_neg (show ¬ (false = true) by decide)] at H; exact H
           clear H
           have H := H1
           clear H1
           obtain rfl := zl H
           have p286 : 0 ≤ (x48_2 : Int) := zF (by first | (with_reducible assumption) | assumption)
           have q286 : x48_2 < (l0_0.length : Int) := zF (by first | (with_reducible assumption) | assumption)
           obtain ⟨ad286, A286_0, c286_0, e286, hx286_0, hl286_0, hi286_0⟩ := at_L14 HR0_0.out x48_2 p286 q286
           cases e286
           replace hx286_0 := (HB.out.cell (zk? w _ hx286_0)).trans hx286_0
           have HR286_0 := zA hi286_0
           have HC286_0 := zA hl286_0
           clear hi286_0 hl286_0
           replace p286 := eq_true p286
           replace q286 := eq_true q286
           go_wp2_with (first | (go_at_call 43; (with_reducible refine (impl_oneDatum.calls k2 _ _ (rd_L14 l0_0 x48_2) false _ ?side1 ?side2 A22.out).mono ?_); (case side1 => repeat (first | exact (Kd.C_below HR286_0.out HB.out) | (with_reducible refine zc ?_ _) | (with_reducible refine zd ?_ _) | (with_reducible refine ze ?_))); (case side2 => exact HC286_0.out); rintro e w25 ⟨rfl, hb⟩; have n0_ := zA (zN (g := gb281) (o := .cells #[.slice (some ad286) l0_0.length c0_0, .int .i64 a0_1, .slice A0_2 l0_2.length c0_2] 38 (0, 0)) (kUp BK281.out) hb); have n1_ := zA (zX (by repeat (first | (with_reducible first | exact HB.out | apply zE | apply zC | apply zD | refine zB ?_ GE281.out) | exact HB.out)) hb); clear BK281 HB; have BK281 := n0_; have HB := n1_; clear n0_ n1_; (try clear hb); (try clear hb2); (try clear hk); (try clear hi)))
           go_ret
           exact ⟨by first | rfl | (simp [errW_none, errW_some] <;> rfl) | (simp [*, errW_none, errW_some] <;> rfl), by repeat (first | (with_reducible first | exact HB.out | apply zE | apply zC | apply zD | refine zB ?_ GE281.out) | exact HB.out)⟩
        ·rw [if_neg c20] at H
         exact absurd H (by simp)
       ·rw [if_neg c19] at H
        exact absurd H (by simp)
      ·rw [if_neg c18] at H
       have c18b0 : decide (x48_2 < (l0_0.length : Int)) = false := zH c18
       clear c18
       have H' := zA H
       clear H
       have hcz26_0 : wr.cell? ⟨gb281, 0, none⟩ = some (.slice A0_0 l0_0.length c0_0) := (zZ BK281.out 0).trans rfl
       have hcz26_1 : wr.cell? ⟨gb281, 1, none⟩ = some (.int .i64 a0_1) := (zZ BK281.out 1).trans rfl
       have hcz26_2 : wr.cell? ⟨gb281, 2, none⟩ = some (.slice A0_2 l0_2.length c0_2) := (zZ BK281.out 2).trans rfl
       have hfz26_0 := zY BK281.out 0
       have hfz26_1 := zY BK281.out 1
       have hfz26_2 := zY BK281.out 2
       go_wp2
       go_loopg [6, 67] k2 (fun kq v6 v67 w' => ∃ (x6_3 : Int) (x67_3 : Int), v6 = .int .i64 x6_3 ∧ v67 = .int .i64 x67_3 ∧ Aside0 (impl_ValidModule.l1 kq x6_3 l0_2 (l0_2.length : Int) x67_3 l0_0 a0_1 l0_2 = some r) ∧ Aside0 (kq ≤ k2) ∧ Aside0 (w'.heap[gb281]? = some (.cells #[(.slice A0_0 l0_0.length c0_0), .int .i64 a0_1, (.slice A0_2 l0_2.length c0_2)] 38 (0, 0))) ∧ Aside0 (Below w.heap.size w w'))
       case atStart => exact ⟨(0), (0), (by first | rfl | (simp; done) | (simp [*]; done)), (by first | rfl | (simp; done) | (simp [*]; done)), H', ⟨Nat.le_refl _⟩, ⟨by exact kUp BK281.out⟩, ⟨by repeat (first | (with_reducible first | exact HB.out | apply zE | apply zC | apply zD | refine zB ?_ GE281.out) | exact HB.out)⟩⟩
       case round =>
        clear H'
        try clear c1
        try clear c2
        try clear p2
        try clear q2
        try clear hx2
        try clear qi2
        try clear c4
        try clear c5
        try clear c6
        try clear c6b0
        try clear c6b1
        try clear p6
        try clear c9
        try clear c10
        try clear c10b0
        try clear c10b1
        try clear c11
        try clear c11b0
        try clear c11b1
        try clear c16
        try clear c18
        try clear c18b0
        try clear c19
        try clear c19b0
        try clear c20
        try clear c20b0
        try clear c21
        try clear c21b0
        try clear c23
        try clear hcz12_0
        try clear hcz12_1
        try clear hcz12_2
        try clear hcz13_0
        try clear hcz13_1
        try clear hcz13_2
        try clear hcz14_0
        try clear hcz14_1
        try clear hcz14_2
        try clear hcz15_0
        try clear hcz15_1
        try clear hcz15_2
        try clear hcz17_0
        try clear hcz17_1
        try clear hcz17_2
        try clear hcz26_0
        try clear hcz26_1
        try clear hcz26_2
        try clear hcz7_0
        try clear hcz7_1
        try clear hcz7_2
        try clear hfz12_0
        try clear hfz12_1
        try clear hfz12_2
        try clear hfz13_0
        try clear hfz13_1
        try clear hfz13_2
        try clear hfz14_0
        try clear hfz14_1
        try clear hfz14_2
        try clear hfz15_0
        try clear hfz15_1
        try clear hfz15_2
        try clear hfz17_0
        try clear hfz17_1
        try clear hfz17_2
        try clear hfz26_0
        try clear hfz26_1
        try clear hfz26_2
        try clear hfz7_0
        try clear hfz7_1
        try clear hfz7_2
        try clear hx284_0
        try clear hx284_1
        try clear hx284_2
        try clear hx285_0
        try clear hx285_1
        try clear hx285_2
        try clear hx286_0
        try clear p2
        try clear p284
        try clear p285
        try clear p286
        try clear q2
        try clear q284
        try clear q285
        try clear q286
        obtain ⟨x6_3, x67_3, rfl, rfl, HA, HK3, BK281, HB⟩ := hrel
        cases gk with
        | zero => exact absurd HA.out (by simp [impl_ValidModule.l1])
        | succ k3 =>
         have H := HA.out
         clear HA
         simp only [impl_ValidModule.l1] at H
         by_cases c27 : x67_3 < (l0_2.length : Int)
         ·rw [if_pos c27] at H
          have c27b0 : decide (x67_3 < (l0_2.length : Int)) = true := zG c27
          clear c27
          by_cases c28 : 0 ≤ x67_3
          ·rw [if_pos c28] at H
           have c28b0 : decide (0 ≤ x67_3) = true := zG c28
           clear c28
           by_cases c29 : x67_3 < (l0_2.length : Int)
           ·rw [if_pos c29] at H
            have c29b0 : decide (x67_3 < (l0_2.length : Int)) = true := zG c29
            clear c29
            have HC30 := zA H
            clear H
            have p288 : 0 ≤ (x67_3 : Int) := zF (by first | (with_reducible assumption) | assumption)
            have q288 : x67_3 < (l0_2.length : Int) := zF (by first | (with_reducible assumption) | assumption)
            obtain ⟨ad288, A288_1, c288_1, A288_2, c288_2, e288, hx288_0, hx288_1, hx288_2, hl288_1, hi288_1, hl288_2, hi288_2⟩ := at_T68 HR0_2.out x67_3 p288 q288
            cases e288
            replace hx288_0 := (HB.out.cell (zk? w _ hx288_0)).trans hx288_0
            replace hx288_1 := (HB.out.cell (zk? w _ hx288_1)).trans hx288_1
            replace hx288_2 := (HB.out.cell (zk? w _ hx288_2)).trans hx288_2
            have HR288_1 := zA hi288_1
            have HC288_1 := zA hl288_1
            clear hi288_1 hl288_1
            have HR288_2 := zA hi288_2
            have HC288_2 := zA hl288_2
            clear hi288_2 hl288_2
            replace p288 := eq_true p288
            replace q288 := eq_true q288
            go_upto_region 16 with (first | ((with_reducible refine gate_dst (N := 8) rfl ?_); (try (refine gate_guard (by rfl) ?_; dsimp only)); refine box_event ?hg (N := 8) ?hd (cs := #[.int .i64 0, .slice none 0 0, .slice none 0 0]) (t := 68) ?hr ?_; (case hd => rfl); (case hg => rfl); (case hr => first | (go_simp; done) | (go_simp; rfl)); intro gb289 hg w31 hbox hb; have n0_ := zA (zN (g := gb281) (o := .cells #[.slice A0_0 l0_0.length c0_0, .int .i64 a0_1, .slice (some ad288) l0_2.length c0_2] 38 (0, 0)) (kUp BK281.out) hb); have n1_ := zA (zX (by repeat (first | (with_reducible first | exact HB.out | apply zE | apply zC | apply zD | refine zB ?_ GE281.out) | exact HB.out)) hb); have n2_ := zA (hbox); have n3_ := zA ((by rw [hg]; exact (below_size (by repeat (first | (with_reducible first | exact HB.out | apply zE | apply zC | apply zD | refine zB ?_ GE281.out) | exact HB.out))) : w.heap.size ≤ gb289)); have n4_ := zA ((by rw [hg]; exact (below_size (by repeat (first | (with_reducible first | exact HB.out | apply zE | apply zC | apply zD | refine zB ?_ GE281.out) | exact HB.out))) : w.heap.size ≤ gb289)); have n5_ := zA ((by rw [hg]; exact Nat.ne_of_lt (blk_lt (g := gb281) (o := .cells #[.slice A0_0 l0_0.length c0_0, .int .i64 a0_1, .slice (some ad288) l0_2.length c0_2] 38 (0, 0)) (kUp BK281.out)) : gb281 ≠ gb289)); have n6_ := zA ((by rw [hg]; exact Nat.ne_of_gt (blk_lt (g := gb281) (o := .cells #[.slice A0_0 l0_0.length c0_0, .int .i64 a0_1, .slice (some ad288) l0_2.length c0_2] 38 (0, 0)) (kUp BK281.out)) : gb289 ≠ gb281)); clear BK281 HB; have BK281 := n0_; have HB := n1_; have BK289 := n2_; have GW289 := n3_; have GE289 := n4_; have NB281_289 := n5_; have NB289_281 := n6_; clear n0_ n1_ n2_ n3_ n4_ n5_ n6_; clear hb hbox hg; have hnb32 := NB289_281.out; have hnc32 := NB281_289.out; have hcz33_0 : w31.cell? ⟨gb289, 0, none⟩ = some (.int .i64 0) := (zZ BK289.out 0).trans rfl; have hcz33_1 : w31.cell? ⟨gb289, 1, none⟩ = some (.slice none 0 0) := (zZ BK289.out 1).trans rfl; have hcz33_2 : w31.cell? ⟨gb289, 2, none⟩ = some (.slice none 0 0) := (zZ BK289.out 2).trans rfl; have hfz33_0 := zY BK289.out 0; have hfz33_1 := zY BK289.out 1; have hfz33_2 := zY BK289.out 2))
            (try simp only [Act.put, List.setIfInBounds_toArray, List.set_cons_zero, List.set_cons_succ])
            go_cut [95] (fun v95 wc => ∃ (kq : Nat) (x95_29 : Bool), v95 = .bool x95_29 ∧ Aside0 (impl_ValidModule.j3 kq (wrap64 (x6_3 + (((rd_T68 l0_2 x67_3).f2).length : Int))) l0_2 (l0_2.length : Int) x67_3 x95_29 l0_0 a0_1 l0_2 ((rd_T68 l0_2 x67_3).f0) ((rd_T68 l0_2 x67_3).f1) ((rd_T68 l0_2 x67_3).f2) = some r) ∧ Aside0 (kq ≤ k3) ∧ Aside0 (wc.heap[gb281]? = some (.cells #[(.slice A0_0 l0_0.length c0_0), .int .i64 a0_1, (.slice (some ad288) l0_2.length c0_2)] 38 (0, 0))) ∧ Aside0 (wc.heap[gb289]? = some (.cells #[.int .i64 ((rd_T68 l0_2 x67_3).f0), (.slice A288_1 ((rd_T68 l0_2 x67_3).f1).length c288_1), (.slice A288_2 ((rd_T68 l0_2 x67_3).f2).length c288_2)] 68 (0, 0))) ∧ Aside0 (Below w.heap.size w wc))
            case first =>
             have H := HC30.out
             clear HC30
             by_cases c34 : (wrap64 (x6_3 + (((rd_T68 l0_2 x67_3).f2).length : Int))) > 5000
             ·rw [if_pos c34] at H
              have c34b0 : decide (5000 < (wrap64 (x6_3 + (((rd_T68 l0_2 x67_3).f2).length : Int)))) = true := zG c34
              clear c34
              (first | rw [c34b0] | (simp only [i64_w, i32_w]; rw [c34b0]) | skip)
              have H' := zA H
              clear H
              go_wp2
              go_meet
              case rel => exact ⟨_, (true), (by first | rfl | (simp; done) | (simp [*]; done)), H', ⟨by have := HJ1.out; have := HK2.out; have := HK3.out; first | omega | exact Nat.le_refl _⟩, ⟨by (with_reducible repeat (first | refine blk_drewN ?_ _ | refine blk_drew ?_ | refine blk_alloc ?_ _)); refine blk_far ?_ NB281_289.out _; (with_reducible repeat (first | refine blk_drewN ?_ _ | refine blk_drew ?_ | refine blk_alloc ?_ _)); refine blk_far ?_ NB281_289.out _; (with_reducible repeat (first | refine blk_drewN ?_ _ | refine blk_drew ?_ | refine blk_alloc ?_ _)); refine blk_far ?_ NB281_289.out _; exact kUp BK281.out⟩, ⟨by (with_reducible repeat (first | refine blk_drewN ?_ _ | refine blk_drew ?_ | refine blk_alloc ?_ _)); refine blk_put (cs := #[.int .i64 ((rd_T68 l0_2 x67_3).f0), .slice A288_1 ((rd_T68 l0_2 x67_3).f1).length c288_1, .slice none 0 0]) ?_ 2 _ rfl; (with_reducible repeat (first | refine blk_drewN ?_ _ | refine blk_drew ?_ | refine blk_alloc ?_ _)); refine blk_put (cs := #[.int .i64 ((rd_T68 l0_2 x67_3).f0), .slice none 0 0, .slice none 0 0]) ?_ 1 _ rfl; (with_reducible repeat (first | refine blk_drewN ?_ _ | refine blk_drew ?_ | refine blk_alloc ?_ _)); refine blk_put (cs := #[.int .i64 0, .slice none 0 0, .slice none 0 0]) ?_ 0 _ rfl; exact kUp BK289.out⟩, ⟨by repeat (first | (with_reducible first | exact HB.out | apply zE | apply zC | apply zD | refine zB ?_ GE281.out | refine zB ?_ GE289.out) | exact HB.out)⟩⟩
             ·rw [if_neg c34] at H
              have c34b0 : decide (5000 < (wrap64 (x6_3 + (((rd_T68 l0_2 x67_3).f2).length : Int)))) = false := zH c34
              clear c34
              (first | rw [c34b0] | (simp only [i64_w, i32_w]; rw [c34b0]) | skip)
              replace H := zo.mp H
              obtain ⟨t290, A350, H⟩ := H
              replace H : (if t290 = true then (if (((rd_T68 l0_2 x67_3).f1).length : Int) > 50 then (impl_ValidModule.j3 k3 (wrap64 (x6_3 + (((rd_T68 l0_2 x67_3).f2).length : Int))) l0_2 (l0_2.length : Int) x67_3 true l0_0 a0_1 l0_2 ((rd_T68 l0_2 x67_3).f0) ((rd_T68 l0_2 x67_3).f1) ((rd_T68 l0_2 x67_3).f2)) else (impl_ValidModule.j3 k3 (wrap64 (x6_3 + (((rd_T68 l0_2 x67_3).f2).length : Int))) l0_2 (l0_2.length : Int) x67_3 ((((rd_T68 l0_2 x67_3).f2).length : Int) == 0) l0_0 a0_1 l0_2 ((rd_T68 l0_2 x67_3).f0) ((rd_T68 l0_2 x67_3).f1) ((rd_T68 l0_2 x67_3).f2))) else (impl_ValidModule.j3 k3 (wrap64 (x6_3 + (((rd_T68 l0_2 x67_3).f2).length : Int))) l0_2 (l0_2.length : Int) x67_3 true l0_0 a0_1 l0_2 ((rd_T68 l0_2 x67_3).f0) ((rd_T68 l0_2 x67_3).f1) ((rd_T68 l0_2 x67_3).f2))) = some r := H
              have A35 := zA A350
              clear A350
              by_cases c36 : t290 = true
              ·subst c36
               have H1 : (if (((rd_T68 l0_2 x67_3).f1).length : Int) > 50 then (impl_ValidModule.j3 k3 (wrap64 (x6_3 + (((rd_T68 l0_2 x67_3).f2).length : Int))) l0_2 (l0_2.length : Int) x67_3 true l0_0 a0_1 l0_2 ((rd_T68 l0_2 x67_3).f0) ((rd_T68 l0_2 x67_3).f1) ((rd_T68 l0_2 x67_3).f2)) else (impl_ValidModule.j3 k3 (wrap64 (x6_3 + (((rd_T68 l0_2 x67_3).f2).length : Int))) l0_2 (l0_2.length : Int) x67_3 ((((rd_T68 l0_2 x67_3).f2).length : Int) == 0) l0_0 a0_1 l0_2 ((rd_T68 l0_2 x67_3).f0) ((rd_T68 l0_2 x67_3).f1) ((rd_T68 l0_2 x67_3).f2))) = some r := by rw [if_pos rfl] at H; exact H
               clear H
               have H := H1
               clear H1
               by_cases c37 : (((rd_T68 l0_2 x67_3).f1).length : Int) > 50
               ·rw [if_pos c37] at H
                have c37b0 : decide (50 < (((rd_T68 l0_2 x67_3).f1).length : Int)) = true := zG c37
                have c37b1 : decide (50 < ((rd_T68 l0_2 x67_3).f1).length) = true := zG (by omega)
                clear c37
                have H' := zA H
                clear H
                have hnb38 := NB289_281.out
                have hnc38 := NB281_289.out
                have hcz39_0 : w31.cell? ⟨gb289, 0, none⟩ = some (.int .i64 0) := (zZ BK289.out 0).trans rfl
                have hcz39_1 : w31.cell? ⟨gb289, 1, none⟩ = some (.slice none 0 0) := (zZ BK289.out 1).trans rfl
                have hcz39_2 : w31.cell? ⟨gb289, 2, none⟩ = some (.slice none 0 0) := (zZ BK289.out 2).trans rfl
                have hfz39_0 := zY BK289.out 0
                have hfz39_1 := zY BK289.out 1
                have hfz39_2 := zY BK289.out 2
                go_wp2_with (first | (go_at_call 42; (with_reducible refine (impl_within.calls ((rd_T68 l0_2 x67_3).f0) 0 20 true _ A35.out).mono ?_); rintro e w' ⟨rfl, ⟨nd, rfl⟩⟩))
                go_meet
                case rel => exact ⟨_, (true), (by first | rfl | (simp; done) | (simp [*]; done)), H', ⟨by have := HJ1.out; have := HK2.out; have := HK3.out; first | omega | exact Nat.le_refl _⟩, ⟨by (with_reducible repeat (first | refine blk_drewN ?_ _ | refine blk_drew ?_ | refine blk_alloc ?_ _)); refine blk_far ?_ NB281_289.out _; (with_reducible repeat (first | refine blk_drewN ?_ _ | refine blk_drew ?_ | refine blk_alloc ?_ _)); refine blk_far ?_ NB281_289.out _; (with_reducible repeat (first | refine blk_drewN ?_ _ | refine blk_drew ?_ | refine blk_alloc ?_ _)); refine blk_far ?_ NB281_289.out _; exact kUp BK281.out⟩, ⟨by (with_reducible repeat (first | refine blk_drewN ?_ _ | refine blk_drew ?_ | refine blk_alloc ?_ _)); refine blk_put (cs := #[.int .i64 ((rd_T68 l0_2 x67_3).f0), .slice A288_1 ((rd_T68 l0_2 x67_3).f1).length c288_1, .slice none 0 0]) ?_ 2 _ rfl; (with_reducible repeat (first | refine blk_drewN ?_ _ | refine blk_drew ?_ | refine blk_alloc ?_ _)); refine blk_put (cs := #[.int .i64 ((rd_T68 l0_2 x67_3).f0), .slice none 0 0, .slice none 0 0]) ?_ 1 _ rfl; (with_reducible repeat (first | refine blk_drewN ?_ _ | refine blk_drew ?_ | refine blk_alloc ?_ _)); refine blk_put (cs := #[.int .i64 0, .slice none 0 0, .slice none 0 0]) ?_ 0 _ rfl; exact kUp BK289.out⟩, ⟨by repeat (first | (with_reducible first | exact HB.out | apply zE | apply zC | apply zD | refine zB ?_ GE281.out | refine zB ?_ GE289.out) | exact HB.out)⟩⟩
               ·rw [if_neg c37] at H
                have c37b0 : decide (50 < (((rd_T68 l0_2 x67_3).f1).length : Int)) = false := zH c37
                have c37b1 : decide (50 < ((rd_T68 l0_2 x67_3).f1).length) = false := zH (by omega)
                clear c37
                have H' := zA H
                clear H
                have hnb40 := NB289_281.out
                have hnc40 := NB281_289.out
                have hcz41_0 : w31.cell? ⟨gb289, 0, none⟩ = some (.int .i64 0) := (zZ BK289.out 0).trans rfl
                have hcz41_1 : w31.cell? ⟨gb289, 1, none⟩ = some (.slice none 0 0) := (zZ BK289.out 1).trans rfl
                have hcz41_2 : w31.cell? ⟨gb289, 2, none⟩ = some (.slice none 0 0) := (zZ BK289.out 2).trans rfl
                have hfz41_0 := zY BK289.out 0
                have hfz41_1 := zY BK289.out 1
                have hfz41_2 := zY BK289.out 2
                go_wp2_with (first | (go_at_call 42; (with_reducible refine (impl_within.calls ((rd_T68 l0_2 x67_3).f0) 0 20 true _ A35.out).mono ?_); rintro e w' ⟨rfl, ⟨nd, rfl⟩⟩))
                go_meet
                case rel => exact ⟨_, (((((rd_T68 l0_2 x67_3).f2).length : Int) == 0)), (by first | rfl | (simp; done) | (simp [*]; done)), H', ⟨by have := HJ1.out; have := HK2.out; have := HK3.out; first | omega | exact Nat.le_refl _⟩, ⟨by (with_reducible repeat (first | refine blk_drewN ?_ _ | refine blk_drew ?_ | refine blk_alloc ?_ _)); refine blk_far ?_ NB281_289.out _; (with_reducible repeat (first | refine blk_drewN ?_ _ | refine blk_drew ?_ | refine blk_alloc ?_ _)); refine blk_far ?_ NB281_289.out _; (with_reducible repeat (first | refine blk_drewN ?_ _ | refine blk_drew ?_ | refine blk_alloc ?_ _)); refine blk_far ?_ NB281_289.out _; exact kUp BK281.out⟩, ⟨by (with_reducible repeat (first | refine blk_drewN ?_ _ | refine blk_drew ?_ | refine blk_alloc ?_ _)); refine blk_put (cs := #[.int .i64 ((rd_T68 l0_2 x67_3).f0), .slice A288_1 ((rd_T68 l0_2 x67_3).f1).length c288_1, .slice none 0 0]) ?_ 2 _ rfl; (with_reducible repeat (first | refine blk_drewN ?_ _ | refine blk_drew ?_ | refine blk_alloc ?_ _)); refine blk_put (cs := #[.int .i64 ((rd_T68 l0_2 x67_3).f0), .slice none 0 0, .slice none 0 0]) ?_ 1 _ rfl; (with_reducible repeat (first | refine blk_drewN ?_ _ | refine blk_drew ?_ | refine blk_alloc ?_ _)); refine blk_put (cs := #[.int .i64 0, .slice none 0 0, .slice none 0 0]) ?_ 0 _ rfl; exact kUp BK289.out⟩, ⟨by repeat (first | (with_reducible first | exact HB.out | apply zE | apply zC | apply zD | refine zB ?_ GE281.out | refine zB ?_ GE289.out) | exact HB.out)⟩⟩
              ·replace c36 := zp.mpr c36
               subst c36
               have H1 : (impl_ValidModule.j3 k3 (wrap64 (x6_3 + (((rd_T68 l0_2 x67_3).f2).length : Int))) l0_2 (l0_2.length : Int) x67_3 true l0_0 a0_1 l0_2 ((rd_T68 l0_2 x67_3).f0) ((rd_T68 l0_2 x67_3).f1) ((rd_T68 l0_2 x67_3).f2)) = some r := by rw [if_neg (show ¬ (false = true) by decide)] at H; exact H
               clear H
               have H := H1
               clear H1
               have H' := zA H
               clear H
               have hnb42 := NB289_281.out
               have hnc42 := NB281_289.out
               have hcz43_0 : w31.cell? ⟨gb289, 0, none⟩ = some (.int .i64 0) := (zZ BK289.out 0).trans rfl
               have hcz43_1 : w31.cell? ⟨gb289, 1, none⟩ = some (.slice none 0 0) := (zZ BK289.out 1).trans rfl
               have hcz43_2 : w31.cell? ⟨gb289, 2, none⟩ = some (.slice none 0 0) := (zZ BK289.out 2).trans rfl
               have hfz43_0 := zY BK289.out 0
               have hfz43_1 := zY BK289.out 1
               have hfz43_2 := zY BK289.out 2
               go_wp2_with (first | (go_at_call 42; (with_reducible refine (impl_within.calls ((rd_T68 l0_2 x67_3).f0) 0 20 false _ A35.out).mono ?_); rintro e w' ⟨rfl, ⟨nd, rfl⟩⟩))
               go_meet
               case rel => exact ⟨_, (true), (by first | rfl | (simp; done) | (simp [*]; done)), H', ⟨by have := HJ1.out; have := HK2.out; have := HK3.out; first | omega | exact Nat.le_refl _⟩, ⟨by (with_reducible repeat (first | refine blk_drewN ?_ _ | refine blk_drew ?_ | refine blk_alloc ?_ _)); refine blk_far ?_ NB281_289.out _; (with_reducible repeat (first | refine blk_drewN ?_ _ | refine blk_drew ?_ | refine blk_alloc ?_ _)); refine blk_far ?_ NB281_289.out _; (with_reducible repeat (first | refine blk_drewN ?_ _ | refine blk_drew ?_ | refine blk_alloc ?_ _)); refine blk_far ?_ NB281_289.out _; exact kUp BK281.out⟩, ⟨by (with_reducible repeat (first | refine blk_drewN ?_ _ | refine blk_drew ?_ | refine blk_alloc ?_ _)); refine blk_put (cs := #[.int .i64 ((rd_T68 l0_2 x67_3).f0), .slice A288_1 ((rd_T68 l0_2 x67_3).f1).length c288_1, .slice none 0 0]) ?_ 2 _ rfl; (with_reducible repeat (first | refine blk_drewN ?_ _ | refine blk_drew ?_ | refine blk_alloc ?_ _)); refine blk_put (cs := #[.int .i64 ((rd_T68 l0_2 x67_3).f0), .slice none 0 0, .slice none 0 0]) ?_ 1 _ rfl; (with_reducible repeat (first | refine blk_drewN ?_ _ | refine blk_drew ?_ | refine blk_alloc ?_ _)); refine blk_put (cs := #[.int .i64 0, .slice none 0 0, .slice none 0 0]) ?_ 0 _ rfl; exact kUp BK289.out⟩, ⟨by repeat (first | (with_reducible first | exact HB.out | apply zE | apply zC | apply zD | refine zB ?_ GE281.out | refine zB ?_ GE289.out) | exact HB.out)⟩⟩
            case rest =>
             clear HC30
             try clear c1
             try clear c2
             try clear p2
             try clear q2
             try clear hx2
             try clear qi2
             try clear c3
             try clear c4
             try clear c5
             try clear c6
             try clear c6b0
             try clear c6b1
             try clear p6
             try clear c9
             try clear c10
             try clear c10b0
             try clear c10b1
             try clear c11
             try clear c11b0
             try clear c11b1
             try clear c16
             try clear c18
             try clear c18b0
             try clear c19
             try clear c19b0
             try clear c20
             try clear c20b0
             try clear c21
             try clear c21b0
             try clear c23
             try clear c27
             try clear c27b0
             try clear c28
             try clear c28b0
             try clear p28
             try clear q28
             try clear hx28
             try clear qi28
             try clear c29
             try clear c29b0
             try clear c32
             try clear c34
             try clear c34b0
             try clear c36
             try clear c37
             try clear c37b0
             try clear c37b1
             try clear c38
             try clear c40
             try clear c42
             try clear hcz12_0
             try clear hcz12_1
             try clear hcz12_2
             try clear hcz13_0
             try clear hcz13_1
             try clear hcz13_2
             try clear hcz14_0
             try clear hcz14_1
             try clear hcz14_2
             try clear hcz15_0
             try clear hcz15_1
             try clear hcz15_2
             try clear hcz17_0
             try clear hcz17_1
             try clear hcz17_2
             try clear hcz26_0
             try clear hcz26_1
             try clear hcz26_2
             try clear hcz33_0
             try clear hcz33_1
             try clear hcz33_2
             try clear hcz39_0
             try clear hcz39_1
             try clear hcz39_2
             try clear hcz41_0
             try clear hcz41_1
             try clear hcz41_2
             try clear hcz43_0
             try clear hcz43_1
             try clear hcz43_2
             try clear hcz7_0
             try clear hcz7_1
             try clear hcz7_2
             try clear hfz12_0
             try clear hfz12_1
             try clear hfz12_2
             try clear hfz13_0
             try clear hfz13_1
             try clear hfz13_2
             try clear hfz14_0
             try clear hfz14_1
             try clear hfz14_2
             try clear hfz15_0
             try clear hfz15_1
             try clear hfz15_2
             try clear hfz17_0
             try clear hfz17_1
             try clear hfz17_2
             try clear hfz26_0
             try clear hfz26_1
             try clear hfz26_2
             try clear hfz33_0
             try clear hfz33_1
             try clear hfz33_2
             try clear hfz39_0
             try clear hfz39_1
             try clear hfz39_2
             try clear hfz41_0
             try clear hfz41_1
             try clear hfz41_2
             try clear hfz43_0
             try clear hfz43_1
             try clear hfz43_2
             try clear hfz7_0
             try clear hfz7_1
             try clear hfz7_2
             try clear hx284_0
             try clear hx284_1
             try clear hx284_2
             try clear hx285_0
             try clear hx285_1
             try clear hx285_2
             try clear hx286_0
             try clear hx288_0
             try clear hx288_1
             try clear hx288_2
             try clear p2
             try clear p284
             try clear p285
             try clear p286
             try clear p288
             try clear p6
             try clear q2
             try clear q284
             try clear q285
             try clear q286
             try clear q288
             obtain ⟨kq, x95_29, rfl, HA, HJ29, BK281, BK289, HB⟩ := hcut
             cases kq with
             | zero => exact absurd HA.out (by simp [impl_ValidModule.j3])
             | succ kj29 =>
              have H := HA.out
              clear HA
              simp only [impl_ValidModule.j3] at H
              by_cases c44 : x95_29 = true
              ·subst c44
               have H1 : (some false) = some r := by rw [if_pos rfl] at H; exact H
               clear H
               have H := H1
               clear H1
               obtain rfl := zl H
               go_wp2
               go_ret
               exact ⟨by first | rfl | (simp [errW_none, errW_some] <;> rfl) | (simp [*, errW_none, errW_some] <;> rfl), by repeat (first | (with_reducible first | exact HB.out | apply zE | apply zC | apply zD | refine zB ?_ GE281.out | refine zB ?_ GE289.out) | exact HB.out)⟩
              ·replace c44 := zp.mpr c44
               subst c44
               have H1 : (impl_ValidModule.l2 kj29 (wrap64 (x6_3 + (((rd_T68 l0_2 x67_3).f2).length : Int))) l0_2 (l0_2.length : Int) x67_3 ((rd_T68 l0_2 x67_3).f2) (((rd_T68 l0_2 x67_3).f2).length : Int) 0 l0_0 a0_1 l0_2 ((rd_T68 l0_2 x67_3).f0) ((rd_T68 l0_2 x67_3).f1) ((rd_T68 l0_2 x67_3).f2)) = some r := by rw [if_neg (show ¬ (false = true) by decide)] at H; exact H
               clear H
               have H := H1
               clear H1
               have H' := zA H
               clear H
               have hnb45 := NB289_281.out
               have hnc45 := NB281_289.out
               have hcz46_0 : wc.cell? ⟨gb289, 0, none⟩ = some (.int .i64 ((rd_T68 l0_2 x67_3).f0)) := (zZ BK289.out 0).trans rfl
               have hcz46_1 : wc.cell? ⟨gb289, 1, none⟩ = some (.slice A288_1 ((rd_T68 l0_2 x67_3).f1).length c288_1) := (zZ BK289.out 1).trans rfl
               have hcz46_2 : wc.cell? ⟨gb289, 2, none⟩ = some (.slice A288_2 ((rd_T68 l0_2 x67_3).f2).length c288_2) := (zZ BK289.out 2).trans rfl
               have hfz46_0 := zY BK289.out 0
               have hfz46_1 := zY BK289.out 1
               have hfz46_2 := zY BK289.out 2
               go_wp2
               go_loopg [99] kj29 (fun kq v99 w' => ∃ (x99_5 : Int), v99 = .int .i64 x99_5 ∧ Aside0 (impl_ValidModule.l2 kq (wrap64 (x6_3 + (((rd_T68 l0_2 x67_3).f2).length : Int))) l0_2 (l0_2.length : Int) x67_3 ((rd_T68 l0_2 x67_3).f2) (((rd_T68 l0_2 x67_3).f2).length : Int) x99_5 l0_0 a0_1 l0_2 ((rd_T68 l0_2 x67_3).f0) ((rd_T68 l0_2 x67_3).f1) ((rd_T68 l0_2 x67_3).f2) = some r) ∧ Aside0 (kq ≤ kj29) ∧ Aside0 (w'.heap[gb281]? = some (.cells #[(.slice A0_0 l0_0.length c0_0), .int .i64 a0_1, (.slice (some ad288) l0_2.length c0_2)] 38 (0, 0))) ∧ Aside0 (w'.heap[gb289]? = some (.cells #[.int .i64 ((rd_T68 l0_2 x67_3).f0), (.slice A288_1 ((rd_T68 l0_2 x67_3).f1).length c288_1), (.slice A288_2 ((rd_T68 l0_2 x67_3).f2).length c288_2)] 68 (0, 0))) ∧ Aside0 (Below w.heap.size w w'))
               case atStart => exact ⟨(0), (by first | rfl | (simp; done) | (simp [*]; done)), H', ⟨Nat.le_refl _⟩, ⟨by exact kUp BK281.out⟩, ⟨by exact kUp BK289.out⟩, ⟨by repeat (first | (with_reducible first | exact HB.out | apply zE | apply zC | apply zD | refine zB ?_ GE281.out | refine zB ?_ GE289.out) | exact HB.out)⟩⟩
               case round =>
                clear H'
                try clear c1
                try clear c2
                try clear p2
                try clear q2
                try clear hx2
                try clear qi2
                try clear c3
                try clear c4
                try clear c5
                try clear c6
                try clear c6b0
                try clear c6b1
                try clear p6
                try clear c9
                try clear c10
                try clear c10b0
                try clear c10b1
                try clear c11
                try clear c11b0
                try clear c11b1
                try clear c16
                try clear c18
                try clear c18b0
                try clear c19
                try clear c19b0
                try clear c20
                try clear c20b0
                try clear c21
                try clear c21b0
                try clear c23
                try clear c27
                try clear c27b0
                try clear c28
                try clear c28b0
                try clear p28
                try clear q28
                try clear hx28
                try clear qi28
                try clear c29
                try clear c29b0
                try clear c32
                try clear c34
                try clear c34b0
                try clear c36
                try clear c37
                try clear c37b0
                try clear c37b1
                try clear c38
                try clear c40
                try clear c42
                try clear c44
                try clear c45
                try clear hcz12_0
                try clear hcz12_1
                try clear hcz12_2
                try clear hcz13_0
                try clear hcz13_1
                try clear hcz13_2
                try clear hcz14_0
                try clear hcz14_1
                try clear hcz14_2
                try clear hcz15_0
                try clear hcz15_1
                try clear hcz15_2
                try clear hcz17_0
                try clear hcz17_1
                try clear hcz17_2
                try clear hcz26_0
                try clear hcz26_1
                try clear hcz26_2
                try clear hcz33_0
                try clear hcz33_1
                try clear hcz33_2
                try clear hcz39_0
                try clear hcz39_1
                try clear hcz39_2
                try clear hcz41_0
                try clear hcz41_1
                try clear hcz41_2
                try clear hcz43_0
                try clear hcz43_1
                try clear hcz43_2
                try clear hcz46_0
                try clear hcz46_1
                try clear hcz46_2
                try clear hcz7_0
                try clear hcz7_1
                try clear hcz7_2
                try clear hfz12_0
                try clear hfz12_1
                try clear hfz12_2
                try clear hfz13_0
                try clear hfz13_1
                try clear hfz13_2
                try clear hfz14_0
                try clear hfz14_1
                try clear hfz14_2
                try clear hfz15_0
                try clear hfz15_1
                try clear hfz15_2
                try clear hfz17_0
                try clear hfz17_1
                try clear hfz17_2
                try clear hfz26_0
                try clear hfz26_1
                try clear hfz26_2
                try clear hfz33_0
                try clear hfz33_1
                try clear hfz33_2
                try clear hfz39_0
                try clear hfz39_1
                try clear hfz39_2
                try clear hfz41_0
                try clear hfz41_1
                try clear hfz41_2
                try clear hfz43_0
                try clear hfz43_1
                try clear hfz43_2
                try clear hfz46_0
                try clear hfz46_1
                try clear hfz46_2
                try clear hfz7_0
                try clear hfz7_1
                try clear hfz7_2
                try clear hx284_0
                try clear hx284_1
                try clear hx284_2
                try clear hx285_0
                try clear hx285_1
                try clear hx285_2
                try clear hx286_0
                try clear hx288_0
                try clear hx288_1
                try clear hx288_2
                try clear p2
                try clear p28
                try clear p284
                try clear p285
                try clear p286
                try clear p288
                try clear p6
                try clear q2
                try clear q28
                try clear q284
                try clear q285
                try clear q286
                try clear q288
                obtain ⟨x99_5, rfl, HA, HK5, BK281, BK289, HB⟩ := hrel
                cases gk with
                | zero => exact absurd HA.out (by simp [impl_ValidModule.l2])
                | succ k5 =>
                 have H := HA.out
                 clear HA
                 simp only [impl_ValidModule.l2] at H
                 by_cases c47 : x99_5 < (((rd_T68 l0_2 x67_3).f2).length : Int)
                 ·rw [if_pos c47] at H
                  have c47b0 : decide (x99_5 < (((rd_T68 l0_2 x67_3).f2).length : Int)) = true := zG c47
                  clear c47
                  by_cases c48 : 0 ≤ x99_5
                  ·rw [if_pos c48] at H
                   have c48b0 : decide (0 ≤ x99_5) = true := zG c48
                   clear c48
                   by_cases c49 : x99_5 < (((rd_T68 l0_2 x67_3).f2).length : Int)
                   ·rw [if_pos c49] at H
                    have c49b0 : decide (x99_5 < (((rd_T68 l0_2 x67_3).f2).length : Int)) = true := zG c49
                    clear c49
                    replace H := zo.mp H
                    obtain ⟨t293, A500, H⟩ := H
                    replace H : (if t293 = true then (impl_ValidModule.l2 k5 (wrap64 (x6_3 + (((rd_T68 l0_2 x67_3).f2).length : Int))) l0_2 (l0_2.length : Int) x67_3 ((rd_T68 l0_2 x67_3).f2) (((rd_T68 l0_2 x67_3).f2).length : Int) (wrap64 (x99_5 + 1)) l0_0 a0_1 l0_2 ((rd_T68 l0_2 x67_3).f0) ((rd_T68 l0_2 x67_3).f1) ((rd_T68 l0_2 x67_3).f2)) else (some false)) = some r := H
                    have A50 := zA A500
                    clear A500
                    by_cases c51 : t293 = true
                    ·subst c51
                     have H1 : (impl_ValidModule.l2 k5 (wrap64 (x6_3 + (((rd_T68 l0_2 x67_3).f2).length : Int))) l0_2 (l0_2.length : Int) x67_3 ((rd_T68 l0_2 x67_3).f2) (((rd_T68 l0_2 x67_3).f2).length : Int) (wrap64 (x99_5 + 1)) l0_0 a0_1 l0_2 ((rd_T68 l0_2 x67_3).f0) ((rd_T68 l0_2 x67_3).f1) ((rd_T68 l0_2 x67_3).f2)) = some r := by rw [if_pos rfl] at H; exact H
                     clear H
                     have H := H1
                     clear H1
                     have H' := zA H
                     clear H
                     have p291 : 0 ≤ (x99_5 : Int) := zF (by first | (with_reducible assumption) | assumption)
                     have q291 : x99_5 < (((rd_T68 l0_2 x67_3).f2).length : Int) := zF (by first | (with_reducible assumption) | assumption)
                     obtain ⟨ad291, e291, hx291_0, hx291_1, hx291_2⟩ := at_T71 HR288_2.out x99_5 p291 q291
                     cases e291
                     replace hx291_0 := (HB.out.cell (zk? w _ hx291_0)).trans hx291_0
                     replace hx291_1 := (HB.out.cell (zk? w _ hx291_1)).trans hx291_1
                     replace hx291_2 := (HB.out.cell (zk? w _ hx291_2)).trans hx291_2
                     replace p291 := eq_true p291
                     replace q291 := eq_true q291
                     go_wp2_with (first | ((with_reducible refine gate_dst (N := 10) rfl ?_); (try (refine gate_guard (by rfl) ?_; dsimp only)); refine box_event ?hg (N := 10) ?hd (cs := #[.int .i64 0, .int .i64 0, .int .i64 0]) (t := 71) ?hr ?_; (case hd => rfl); (case hg => rfl); (case hr => first | (go_simp; done) | (go_simp; rfl)); intro gb292 hg w52 hbox hb; have n0_ := zA (zN (g := gb281) (o := .cells #[.slice A0_0 l0_0.length c0_0, .int .i64 a0_1, .slice (some ad288) l0_2.length c0_2] 38 (0, 0)) (kUp BK281.out) hb); have n1_ := zA (zN (g := gb289) (o := .cells #[.int .i64 ((rd_T68 l0_2 x67_3).f0), .slice A288_1 ((rd_T68 l0_2 x67_3).f1).length c288_1, .slice (some ad291) ((rd_T68 l0_2 x67_3).f2).length c288_2] 68 (0, 0)) (kUp BK289.out) hb); have n2_ := zA (zX (by repeat (first | (with_reducible first | exact HB.out | apply zE | apply zC | apply zD | refine zB ?_ GE281.out | refine zB ?_ GE289.out) | exact HB.out)) hb); have n3_ := zA (hbox); have n4_ := zA ((by rw [hg]; exact (below_size (by repeat (first | (with_reducible first | exact HB.out | apply zE | apply zC | apply zD | refine zB ?_ GE281.out | refine zB ?_ GE289.out) | exact HB.out))) : w.heap.size ≤ gb292)); have n5_ := zA ((by rw [hg]; exact (below_size (by repeat (first | (with_reducible first | exact HB.out | apply zE | apply zC | apply zD | refine zB ?_ GE281.out | refine zB ?_ GE289.out) | exact HB.out))) : w.heap.size ≤ gb292)); have n6_ := zA ((by rw [hg]; exact Nat.ne_of_lt (blk_lt (g := gb281) (o := .cells #[.slice A0_0 l0_0.length c0_0, .int .i64 a0_1, .slice (some ad288) l0_2.length c0_2] 38 (0, 0)) (kUp BK281.out)) : gb281 ≠ gb292)); have n7_ := zA ((by rw [hg]; exact Nat.ne_of_gt (blk_lt (g := gb281) (o := .cells #[.slice A0_0 l0_0.length c0_0, .int .i64 a0_1, .slice (some ad288) l0_2.length c0_2] 38 (0, 0)) (kUp BK281.out)) : gb292 ≠ gb281)); have n8_ := zA ((by rw [hg]; exact Nat.ne_of_lt (blk_lt (g := gb289) (o := .cells #[.int .i64 ((rd_T68 l0_2 x67_3).f0), .slice A288_1 ((rd_T68 l0_2 x67_3).f1).length c288_1, .slice (some ad291) ((rd_T68 l0_2 x67_3).f2).length c288_2] 68 (0, 0)) (kUp BK289.out)) : gb289 ≠ gb292)); have n9_ := zA ((by rw [hg]; exact Nat.ne_of_gt (blk_lt (g := gb289) (o := .cells #[.int .i64 ((rd_T68 l0_2 x67_3).f0), .slice A288_1 ((rd_T68 l0_2 x67_3).f1).length c288_1, .slice (some ad291) ((rd_T68 l0_2 x67_3).f2).length c288_2] 68 (0, 0)) (kUp BK289.out)) : gb292 ≠ gb289)); clear BK281 BK289 HB; have BK281 := n0_; have BK289 := n1_; have HB := n2_; have BK292 := n3_; have GW292 := n4_; have GE292 := n5_; have NB281_292 := n6_; have NB292_281 := n7_; have NB289_292 := n8_; have NB292_289 := n9_; clear n0_ n1_ n2_ n3_ n4_ n5_ n6_ n7_ n8_ n9_; clear hb hbox hg; have hnb53 := NB292_281.out; have hnc53 := NB281_292.out; have hnb54 := NB292_289.out; have hnc54 := NB289_292.out; have hcz55_0 : w52.cell? ⟨gb292, 0, none⟩ = some (.int .i64 0) := (zZ BK292.out 0).trans rfl; have hcz55_1 : w52.cell? ⟨gb292, 1, none⟩ = some (.int .i64 0) := (zZ BK292.out 1).trans rfl; have hcz55_2 : w52.cell? ⟨gb292, 2, none⟩ = some (.int .i64 0) := (zZ BK292.out 2).trans rfl; have hfz55_0 := zY BK292.out 0; have hfz55_1 := zY BK292.out 1; have hfz55_2 := zY BK292.out 2; have hnb56 := NB281_289.out; have hnc56 := NB289_281.out; have hcz57_0 : w52.cell? ⟨gb281, 0, none⟩ = some (.slice A0_0 l0_0.length c0_0) := (zZ BK281.out 0).trans rfl; have hcz57_1 : w52.cell? ⟨gb281, 1, none⟩ = some (.int .i64 a0_1) := (zZ BK281.out 1).trans rfl; have hcz57_2 : w52.cell? ⟨gb281, 2, none⟩ = some (.slice (some ad288) l0_2.length c0_2) := (zZ BK281.out 2).trans rfl; have hfz57_0 := zY BK281.out 0; have hfz57_1 := zY BK281.out 1; have hfz57_2 := zY BK281.out 2; have hcz58_0 : w52.cell? ⟨gb289, 0, none⟩ = some (.int .i64 ((rd_T68 l0_2 x67_3).f0)) := (zZ BK289.out 0).trans rfl; have hcz58_1 : w52.cell? ⟨gb289, 1, none⟩ = some (.slice A288_1 ((rd_T68 l0_2 x67_3).f1).length c288_1) := (zZ BK289.out 1).trans rfl; have hcz58_2 : w52.cell? ⟨gb289, 2, none⟩ = some (.slice (some ad291) ((rd_T68 l0_2 x67_3).f2).length c288_2) := (zZ BK289.out 2).trans rfl; have hfz58_0 := zY BK289.out 0; have hfz58_1 := zY BK289.out 1; have hfz58_2 := zY BK289.out 2) | ((with_reducible refine gate_callee (f := 44) rfl ?_); refine goesL_ (some 106) rfl rfl Tryd.func44 (by kernel_rfl) rfl #[.agg #[.slice A0_0 l0_0.length c0_0, .int .i64 a0_1, .slice (some ad288) l0_2.length c0_2], .agg #[.int .i64 ((rd_T68 l0_2 x67_3).f0), .slice A288_1 ((rd_T68 l0_2 x67_3).f1).length c288_1, .slice (some ad291) ((rd_T68 l0_2 x67_3).f2).length c288_2], .agg #[.int .i64 ((rd_T71 ((rd_T68 l0_2 x67_3).f2) x99_5).f0), .int .i64 ((rd_T71 ((rd_T68 l0_2 x67_3).f2) x99_5).f1), .int .i64 ((rd_T71 ((rd_T68 l0_2 x67_3).f2) x99_5).f2)]] rfl (by (try simp only [List.map_toArray, List.map_cons, List.map_nil]); first | done | rfl | (simp only [List.length_drop, List.length_take]; rfl)) ?_; (with_reducible refine (impl_Module_insOk.calls _ _ l0_0 a0_1 _ _ l0_2 ((rd_T68 l0_2 x67_3).f0) _ _ ((rd_T68 l0_2 x67_3).f1) _ _ ((rd_T68 l0_2 x67_3).f2) ((rd_T71 ((rd_T68 l0_2 x67_3).f2) x99_5).f0) ((rd_T71 ((rd_T68 l0_2 x67_3).f2) x99_5).f1) ((rd_T71 ((rd_T68 l0_2 x67_3).f2) x99_5).f2) true _ ?side1 ?side2 ?side3 ?side4 ?side5 ?side6 ?side7 ?side8 A50.out).mono ?_); (case side1 => exact Kd.C_below HR0_0.out (by repeat (first | (with_reducible first | exact HB.out | apply zE | apply zC | apply zD | refine zB ?_ GE281.out | refine zB ?_ GE289.out | refine zB ?_ GE292.out) | exact HB.out))); (case side2 => exact HC0_0.out); (case side3 => exact Kd.C_below HR0_2.out (by repeat (first | (with_reducible first | exact HB.out | apply zE | apply zC | apply zD | refine zB ?_ GE281.out | refine zB ?_ GE289.out | refine zB ?_ GE292.out) | exact HB.out))); (case side4 => exact HC0_2.out); (case side5 => exact Kd.C_below HR288_1.out (by repeat (first | (with_reducible first | exact HB.out | apply zE | apply zC | apply zD | refine zB ?_ GE281.out | refine zB ?_ GE289.out | refine zB ?_ GE292.out) | exact HB.out))); (case side6 => exact HC288_1.out); (case side7 => exact Kd.C_below HR288_2.out (by repeat (first | (with_reducible first | exact HB.out | apply zE | apply zC | apply zD | refine zB ?_ GE281.out | refine zB ?_ GE289.out | refine zB ?_ GE292.out) | exact HB.out))); (case side8 => exact HC288_2.out); rintro e w59 ⟨rfl, hb⟩; refine ⟨_, rfl, ?_⟩; have n0_ := zA (zN (g := gb281) (o := .cells #[.slice A0_0 l0_0.length c0_0, .int .i64 a0_1, .slice (some ad288) l0_2.length c0_2] 38 (0, 0)) (by (with_reducible repeat (first | refine blk_drewN ?_ _ | refine blk_drew ?_ | refine blk_alloc ?_ _)); refine blk_far ?_ NB281_292.out _; (with_reducible repeat (first | refine blk_drewN ?_ _ | refine blk_drew ?_ | refine blk_alloc ?_ _)); refine blk_far ?_ NB281_292.out _; (with_reducible repeat (first | refine blk_drewN ?_ _ | refine blk_drew ?_ | refine blk_alloc ?_ _)); refine blk_far ?_ NB281_292.out _; exact kUp BK281.out) hb); have n1_ := zA (zN (g := gb289) (o := .cells #[.int .i64 ((rd_T68 l0_2 x67_3).f0), .slice A288_1 ((rd_T68 l0_2 x67_3).f1).length c288_1, .slice (some ad291) ((rd_T68 l0_2 x67_3).f2).length c288_2] 68 (0, 0)) (by (with_reducible repeat (first | refine blk_drewN ?_ _ | refine blk_drew ?_ | refine blk_alloc ?_ _)); refine blk_far ?_ NB289_292.out _; (with_reducible repeat (first | refine blk_drewN ?_ _ | refine blk_drew ?_ | refine blk_alloc ?_ _)); refine blk_far ?_ NB289_292.out _; (with_reducible repeat (first | refine blk_drewN ?_ _ | refine blk_drew ?_ | refine blk_alloc ?_ _)); refine blk_far ?_ NB289_292.out _; exact kUp BK289.out) hb); have n2_ := zA (zN (g := gb292) (o := .cells #[.int .i64 ((rd_T71 ((rd_T68 l0_2 x67_3).f2) x99_5).f0), .int .i64 ((rd_T71 ((rd_T68 l0_2 x67_3).f2) x99_5).f1), .int .i64 ((rd_T71 ((rd_T68 l0_2 x67_3).f2) x99_5).f2)] 71 (0, 0)) (by (with_reducible repeat (first | refine blk_drewN ?_ _ | refine blk_drew ?_ | refine blk_alloc ?_ _)); refine blk_put (cs := #[.int .i64 ((rd_T71 ((rd_T68 l0_2 x67_3).f2) x99_5).f0), .int .i64 ((rd_T71 ((rd_T68 l0_2 x67_3).f2) x99_5).f1), .int .i64 0]) ?_ 2 _ rfl; (with_reducible repeat (first | refine blk_drewN ?_ _ | refine blk_drew ?_ | refine blk_alloc ?_ _)); refine blk_put (cs := #[.int .i64 ((rd_T71 ((rd_T68 l0_2 x67_3).f2) x99_5).f0), .int .i64 0, .int .i64 0]) ?_ 1 _ rfl; (with_reducible repeat (first | refine blk_drewN ?_ _ | refine blk_drew ?_ | refine blk_alloc ?_ _)); refine blk_put (cs := #[.int .i64 0, .int .i64 0, .int .i64 0]) ?_ 0 _ rfl; exact kUp BK292.out) hb); have n3_ := zA (zX (by repeat (first | (with_reducible first | exact HB.out | apply zE | apply zC | apply zD | refine zB ?_ GE281.out | refine zB ?_ GE289.out | refine zB ?_ GE292.out) | exact HB.out)) hb); clear BK281 BK289 BK292 HB; have BK281 := n0_; have BK289 := n1_; have BK292 := n2_; have HB := n3_; clear n0_ n1_ n2_ n3_; (try clear hb); (try clear hb2); (try clear hk); (try clear hi)))
                     go_roundg k5
                     case measure => have := HJ1.out; have := HK2.out; have := HK3.out; have := HJ29.out; have := HK5.out; omega
                     case rel => exact ⟨(wrap64 (x99_5 + 1)), (by first | rfl | (simp; done) | (simp [*]; done)), H', ⟨by have := HJ1.out; have := HK2.out; have := HK3.out; have := HJ29.out; have := HK5.out; omega⟩, ⟨by exact kUp BK281.out⟩, ⟨by exact kUp BK289.out⟩, ⟨by repeat (first | (with_reducible first | exact HB.out | apply zE | apply zC | apply zD | refine zB ?_ GE281.out | refine zB ?_ GE289.out | refine zB ?_ GE292.out) | exact HB.out)⟩⟩
                    ·replace c51 := zp.mpr c51
                     subst c51
                     have H1 : (some false) = some r := by rw [if_neg (show ¬ (false = true) by decide)] at H; exact H
                     clear H
                     have H := H1
                     clear H1
                     obtain rfl := zl H
                     have p291 : 0 ≤ (x99_5 : Int) := zF (by first | (with_reducible assumption) | assumption)
                     have q291 : x99_5 < (((rd_T68 l0_2 x67_3).f2).length : Int) := zF (by first | (with_reducible assumption) | assumption)
                     obtain ⟨ad291, e291, hx291_0, hx291_1, hx291_2⟩ := at_T71 HR288_2.out x99_5 p291 q291
                     cases e291
                     replace hx291_0 := (HB.out.cell (zk? w _ hx291_0)).trans hx291_0
                     replace hx291_1 := (HB.out.cell (zk? w _ hx291_1)).trans hx291_1
                     replace hx291_2 := (HB.out.cell (zk? w _ hx291_2)).trans hx291_2
                     replace p291 := eq_true p291
                     replace q291 := eq_true q291
                     go_wp2_with (first | ((with_reducible refine gate_dst (N := 10) rfl ?_); (try (refine gate_guard (by rfl) ?_; dsimp only)); refine box_event ?hg (N := 10) ?hd (cs := #[.int .i64 0, .int .i64 0, .int .i64 0]) (t := 71) ?hr ?_; (case hd => rfl); (case hg => rfl); (case hr => first | (go_simp; done) | (go_simp; rfl)); intro gb292 hg w60 hbox hb; have n0_ := zA (zN (g := gb281) (o := .cells #[.slice A0_0 l0_0.length c0_0, .int .i64 a0_1, .slice (some ad288) l0_2.length c0_2] 38 (0, 0)) (kUp BK281.out) hb); have n1_ := zA (zN (g := gb289) (o := .cells #[.int .i64 ((rd_T68 l0_2 x67_3).f0), .slice A288_1 ((rd_T68 l0_2 x67_3).f1).length c288_1, .slice (some ad291) ((rd_T68 l0_2 x67_3).f2).length c288_2] 68 (0, 0)) (kUp BK289.out) hb); have n2_ := zA (zX (by repeat (first | (with_reducible first | exact HB.out | apply zE | apply zC | apply zD | refine zB ?_ GE281.out | refine zB ?_ GE289.out) | exact HB.out)) hb); have n3_ := zA (hbox); have n4_ := zA ((by rw [hg]; exact (below_size (by repeat (first | (with_reducible first | exact HB.out | apply zE | apply zC | apply zD | refine zB ?_ GE281.out | refine zB ?_ GE289.out) | exact HB.out))) : w.heap.size ≤ gb292)); have n5_ := zA ((by rw [hg]; exact (below_size (by repeat (first | (with_reducible first | exact HB.out | apply zE | apply zC | apply zD | refine zB ?_ GE281.out | refine zB ?_ GE289.out) | exact HB.out))) : w.heap.size ≤ gb292)); have n6_ := zA ((by rw [hg]; exact Nat.ne_of_lt (blk_lt (g := gb281) (o := .cells #[.slice A0_0 l0_0.length c0_0, .int .i64 a0_1, .slice (some ad288) l0_2.length c0_2] 38 (0, 0)) (kUp BK281.out)) : gb281 ≠ gb292)); have n7_ := zA ((by rw [hg]; exact Nat.ne_of_gt (blk_lt (g := gb281) (o := .cells #[.slice A0_0 l0_0.length c0_0, .int .i64 a0_1, .slice (some ad288) l0_2.length c0_2] 38 (0, 0)) (kUp BK281.out)) : gb292 ≠ gb281)); have n8_ := zA ((by rw [hg]; exact Nat.ne_of_lt (blk_lt (g := gb289) (o := .cells #[.int .i64 ((rd_T68 l0_2 x67_3).f0), .slice A288_1 ((rd_T68 l0_2 x67_3).f1).length c288_1, .slice (some ad291) ((rd_T68 l0_2 x67_3).f2).length c288_2] 68 (0, 0)) (kUp BK289.out)) : gb289 ≠ gb292)); have n9_ := zA ((by rw [hg]; exact Nat.ne_of_gt (blk_lt (g := gb289) (o := .cells #[.int .i64 ((rd_T68 l0_2 x67_3).f0), .slice A288_1 ((rd_T68 l0_2 x67_3).f1).length c288_1, .slice (some ad291) ((rd_T68 l0_2 x67_3).f2).length c288_2] 68 (0, 0)) (kUp BK289.out)) : gb292 ≠ gb289)); clear BK281 BK289 HB; have BK281 := n0_; have BK289 := n1_; have HB := n2_; have BK292 := n3_; have GW292 := n4_; have GE292 := n5_; have NB281_292 := n6_; have NB292_281 := n7_; have NB289_292 := n8_; have NB292_289 := n9_; clear n0_ n1_ n2_ n3_ n4_ n5_ n6_ n7_ n8_ n9_; clear hb hbox hg; have hnb61 := NB292_281.out; have hnc61 := NB281_292.out; have hnb62 := NB292_289.out; have hnc62 := NB289_292.out; have hcz63_0 : w60.cell? ⟨gb292, 0, none⟩ = some (.int .i64 0) := (zZ BK292.out 0).trans rfl; have hcz63_1 : w60.cell? ⟨gb292, 1, none⟩ = some (.int .i64 0) := (zZ BK292.out 1).trans rfl; have hcz63_2 : w60.cell? ⟨gb292, 2, none⟩ = some (.int .i64 0) := (zZ BK292.out 2).trans rfl; have hfz63_0 := zY BK292.out 0; have hfz63_1 := zY BK292.out 1; have hfz63_2 := zY BK292.out 2; have hnb64 := NB281_289.out; have hnc64 := NB289_281.out; have hcz65_0 : w60.cell? ⟨gb281, 0, none⟩ = some (.slice A0_0 l0_0.length c0_0) := (zZ BK281.out 0).trans rfl; have hcz65_1 : w60.cell? ⟨gb281, 1, none⟩ = some (.int .i64 a0_1) := (zZ BK281.out 1).trans rfl; have hcz65_2 : w60.cell? ⟨gb281, 2, none⟩ = some (.slice (some ad288) l0_2.length c0_2) := (zZ BK281.out 2).trans rfl; have hfz65_0 := zY BK281.out 0; have hfz65_1 := zY BK281.out 1; have hfz65_2 := zY BK281.out 2; have hcz66_0 : w60.cell? ⟨gb289, 0, none⟩ = some (.int .i64 ((rd_T68 l0_2 x67_3).f0)) := (zZ BK289.out 0).trans rfl; have hcz66_1 : w60.cell? ⟨gb289, 1, none⟩ = some (.slice A288_1 ((rd_T68 l0_2 x67_3).f1).length c288_1) := (zZ BK289.out 1).trans rfl; have hcz66_2 : w60.cell? ⟨gb289, 2, none⟩ = some (.slice (some ad291) ((rd_T68 l0_2 x67_3).f2).length c288_2) := (zZ BK289.out 2).trans rfl; have hfz66_0 := zY BK289.out 0; have hfz66_1 := zY BK289.out 1; have hfz66_2 := zY BK289.out 2) | ((with_reducible refine gate_callee (f := 44) rfl ?_); refine goesL_ (some 106) rfl rfl Tryd.func44 (by kernel_rfl) rfl #[.agg #[.slice A0_0 l0_0.length c0_0, .int .i64 a0_1, .slice (some ad288) l0_2.length c0_2], .agg #[.int .i64 ((rd_T68 l0_2 x67_3).f0), .slice A288_1 ((rd_T68 l0_2 x67_3).f1).length c288_1, .slice (some ad291) ((rd_T68 l0_2 x67_3).f2).length c288_2], .agg #[.int .i64 ((rd_T71 ((rd_T68 l0_2 x67_3).f2) x99_5).f0), .int .i64 ((rd_T71 ((rd_T68 l0_2 x67_3).f2) x99_5).f1), .int .i64 ((rd_T71 ((rd_T68 l0_2 x67_3).f2) x99_5).f2)]] rfl (by (try simp only [List.map_toArray, List.map_cons, List.map_nil]); first | done | rfl | (simp only [List.length_drop, List.length_take]; rfl)) ?_; (with_reducible refine (impl_Module_insOk.calls _ _ l0_0 a0_1 _ _ l0_2 ((rd_T68 l0_2 x67_3).f0) _ _ ((rd_T68 l0_2 x67_3).f1) _ _ ((rd_T68 l0_2 x67_3).f2) ((rd_T71 ((rd_T68 l0_2 x67_3).f2) x99_5).f0) ((rd_T71 ((rd_T68 l0_2 x67_3).f2) x99_5).f1) ((rd_T71 ((rd_T68 l0_2 x67_3).f2) x99_5).f2) false _ ?side1 ?side2 ?side3 ?side4 ?side5 ?side6 ?side7 ?side8 A50.out).mono ?_); (case side1 => exact Kd.C_below HR0_0.out (by repeat (first | (with_reducible first | exact HB.out | apply zE | apply zC | apply zD | refine zB ?_ GE281.out | refine zB ?_ GE289.out | refine zB ?_ GE292.out) | exact HB.out))); (case side2 => exact HC0_0.out); (case side3 => exact Kd.C_below HR0_2.out (by repeat (first | (with_reducible first | exact HB.out | apply zE | apply zC | apply zD | refine zB ?_ GE281.out | refine zB ?_ GE289.out | refine zB ?_ GE292.out) | exact HB.out))); (case side4 => exact HC0_2.out); (case side5 => exact Kd.C_below HR288_1.out (by repeat (first | (with_reducible first | exact HB.out | apply zE | apply zC | apply zD | refine zB ?_ GE281.out | refine zB ?_ GE289.out | refine zB ?_ GE292.out) | exact HB.out))); (case side6 => exact HC288_1.out); (case side7 => exact Kd.C_below HR288_2.out (by repeat (first | (with_reducible first | exact HB.out | apply zE | apply zC | apply zD | refine zB ?_ GE281.out | refine zB ?_ GE289.out | refine zB ?_ GE292.out) | exact HB.out))); (case side8 => exact HC288_2.out); rintro e w67 ⟨rfl, hb⟩; refine ⟨_, rfl, ?_⟩; have n0_ := zA (zN (g := gb281) (o := .cells #[.slice A0_0 l0_0.length c0_0, .int .i64 a0_1, .slice (some ad288) l0_2.length c0_2] 38 (0, 0)) (by (with_reducible repeat (first | refine blk_drewN ?_ _ | refine blk_drew ?_ | refine blk_alloc ?_ _)); refine blk_far ?_ NB281_292.out _; (with_reducible repeat (first | refine blk_drewN ?_ _ | refine blk_drew ?_ | refine blk_alloc ?_ _)); refine blk_far ?_ NB281_292.out _; (with_reducible repeat (first | refine blk_drewN ?_ _ | refine blk_drew ?_ | refine blk_alloc ?_ _)); refine blk_far ?_ NB281_292.out _; exact kUp BK281.out) hb); have n1_ := zA (zN (g := gb289) (o := .cells #[.int .i64 ((rd_T68 l0_2 x67_3).f0), .slice A288_1 ((rd_T68 l0_2 x67_3).f1).length c288_1, .slice (some ad291) ((rd_T68 l0_2 x67_3).f2).length c288_2] 68 (0, 0)) (by (with_reducible repeat (first | refine blk_drewN ?_ _ | refine blk_drew ?_ | refine blk_alloc ?_ _)); refine blk_far ?_ NB289_292.out _; (with_reducible repeat (first | refine blk_drewN ?_ _ | refine blk_drew ?_ | refine blk_alloc ?_ _)); refine blk_far ?_ NB289_292.out _; (with_reducible repeat (first | refine blk_drewN ?_ _ | refine blk_drew ?_ | refine blk_alloc ?_ _)); refine blk_far ?_ NB289_292.out _; exact kUp BK289.out) hb); have n2_ := zA (zN (g := gb292) (o := .cells #[.int .i64 ((rd_T71 ((rd_T68 l0_2 x67_3).f2) x99_5).f0), .int .i64 ((rd_T71 ((rd_T68 l0_2 x67_3).f2) x99_5).f1), .int .i64 ((rd_T71 ((rd_T68 l0_2 x67_3).f2) x99_5).f2)] 71 (0, 0)) (by (with_reducible repeat (first | refine blk_drewN ?_ _ | refine blk_drew ?_ | refine blk_alloc ?_ _)); refine blk_put (cs := #[.int .i64 ((rd_T71 ((rd_T68 l0_2 x67_3).f2) x99_5).f0), .int .i64 ((rd_T71 ((rd_T68 l0_2 x67_3).f2) x99_5).f1), .int .i64 0]) ?_ 2 _ rfl; (with_reducible repeat (first | refine blk_drewN ?_ _ | refine blk_drew ?_ | refine blk_alloc ?_ _)); refine blk_put (cs := #[.int .i64 ((rd_T71 ((rd_T68 l0_2 x67_3).f2) x99_5).f0), .int .i64 0, .int .i64 0]) ?_ 1 _ rfl; (with_reducible repeat (first | refine blk_drewN ?_ _ | refine blk_drew ?_ | refine blk_alloc ?_ _)); refine blk_put (cs := #[.int .i64 0, .int .i64 0, .int .i64 0]) ?_ 0 _ rfl; exact kUp BK292.out) hb); have n3_ := zA (zX (by repeat (first | (with_reducible first | exact HB.out | apply zE | apply zC | apply zD | refine zB ?_ GE281.out | refine zB ?_ GE289.out | refine zB ?_ GE292.out) | exact HB.out)) hb); clear BK281 BK289 BK292 HB; have BK281 := n0_; have BK289 := n1_; have BK292 := n2_; have HB := n3_; clear n0_ n1_ n2_ n3_; (try clear hb); (try clear hb2); (try clear hk); (try clear hi)))
                     go_ret
                     exact ⟨by first | rfl | (simp [errW_none, errW_some] <;> rfl) | (simp [*, errW_none, errW_some] <;> rfl), by repeat (first | (with_reducible first | exact HB.out | apply zE | apply zC | apply zD | refine zB ?_ GE281.out | refine zB ?_ GE289.out | refine zB ?_ GE292.out) | exact HB.out)⟩
                   ·rw [if_neg c49] at H
                    exact absurd H (by simp)
                  ·rw [if_neg c48] at H
                   exact absurd H (by simp)
                 ·rw [if_neg c47] at H
                  have c47b0 : decide (x99_5 < (((rd_T68 l0_2 x67_3).f2).length : Int)) = false := zH c47
                  clear c47
                  have H' := zA H
                  clear H
                  go_wp2
                  go_roundg k5
                  case measure => have := HJ1.out; have := HK2.out; have := HK3.out; have := HJ29.out; have := HK5.out; omega
                  case rel => exact ⟨((wrap64 (x6_3 + (((rd_T68 l0_2 x67_3).f2).length : Int)))), (wrap64 (x67_3 + 1)), (by first | rfl | (simp; done) | (simp [*]; done)), (by first | rfl | (simp; done) | (simp [*]; done)), H', ⟨by have := HJ1.out; have := HK2.out; have := HK3.out; have := HJ29.out; have := HK5.out; omega⟩, ⟨by exact kUp BK281.out⟩, ⟨by repeat (first | (with_reducible first | exact HB.out | apply zE | apply zC | apply zD | refine zB ?_ GE281.out | refine zB ?_ GE289.out) | exact HB.out)⟩⟩
           ·rw [if_neg c29] at H
            exact absurd H (by simp)
          ·rw [if_neg c28] at H
           exact absurd H (by simp)
         ·rw [if_neg c27] at H
          have c27b0 : decide (x67_3 < (l0_2.length : Int)) = false := zH c27
          clear c27
          obtain rfl := zl H
          go_wp2
          go_ret
          exact ⟨by first | rfl | (simp [errW_none, errW_some] <;> rfl) | (simp [*, errW_none, errW_some] <;> rfl), by repeat (first | (with_reducible first | exact HB.out | apply zE | apply zC | apply zD | refine zB ?_ GE281.out) | exact HB.out)⟩
end Go.Proofs.YtogmphjhdkgdjaaDoor.QFnExactValidModule
