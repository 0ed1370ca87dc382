import Derived.Test.YtogmphjhdkgdjaaDoorZQFnExactValidModulex0
import Derived.Test.YtogmphjhdkgdjaaDoorZQFnExactValidModulex4
namespace Go.Proofs.YtogmphjhdkgdjaaDoor.QFnExactValidModule
set_option maxHeartbeats 8000000
set_option maxRecDepth 100000
open Go.RowKit Go.Proofs.YtogmphjhdkgdjaaDoorW.PrintWords Go.Proofs.YtogmphjhdkgdjaaDoorW.PrintLast Go.Proofs.YtogmphjhdkgdjaaDoorW.PrintMore
attribute [local go_sem] max2_int min2_int max_two min_two max_three min_three max_four min_four
set_option linter.unusedVariables false
set_option linter.unusedSimpArgs false
mutual
def spec_l3insOK.j0 : Nat → Bool → List (List (S57)) → Int → List (S68) → Int → List Bool → List (S71) → Int → Int → Int → Option (Bool)
 | 0, _, _, _, _, _, _, _, _, _, _ => none
 | k + 1, x14, x147000, x147001, x147002, x148000, x148001, x148002, x149000, x149001, x149002 => if x14 = true then (some false) else (if x149000 = 8 then (if x149001 ≥ 1 then (if x149001 < (x147002.length : Int) then (if 0 ≤ x149001 then (some (x149002 == (((rd_T68 x147002 x149001).f1).length : Int))) else (none)) else (some false)) else (some false)) else (if x149002 = 0 then (if x149000 = 0 then ((spec_l3range.f x149001 (x147000.length : Int)).bind fun t150 => (some t150)) else (if x149000 = 1 then ((spec_l3range.f x149001 200).bind fun t151 => (some t151)) else (if x149000 = 2 then ((spec_l3range.f x149001 (x148001.length : Int)).bind fun t152 => (some t152)) else (if x149000 = 3 then (spec_l3insOK.j1 k true x147000 x147001 x147002 x148000 x148001 x148002 x149000 x149001 x149002) else (spec_l3insOK.j1 k (x149000 == 4) x147000 x147001 x147002 x148000 x148001 x148002 x149000 x149001 x149002))))) else (some false)))
def spec_l3insOK.j1 : Nat → Bool → List (List (S57)) → Int → List (S68) → Int → List Bool → List (S71) → Int → Int → Int → Option (Bool)
 | 0, _, _, _, _, _, _, _, _, _, _ => none
 | k + 1, x76, x147000, x147001, x147002, x148000, x148001, x148002, x149000, x149001, x149002 => if x76 = true then ((spec_l3range.f x149001 x147001).bind fun t153 => (some t153)) else (if x149000 = 5 then (if x149001 = 0 then (some true) else (some (x149001 == 1))) else (if x149000 = 9 then (spec_l3insOK.j2 k true x148000 x148001 x148002 x149000 x149001 x149002) else (spec_l3insOK.j2 k (x149000 == 10) x148000 x148001 x148002 x149000 x149001 x149002)))
def spec_l3insOK.j2 : Nat → Bool → Int → List Bool → List (S71) → Int → Int → Int → Option (Bool)
 | 0, _, _, _, _, _, _, _ => none
 | k + 1, x100, x148000, x148001, x148002, x149000, x149001, x149002 => if x100 = true then ((spec_l3range.f x149001 21).bind fun t154 => (some t154)) else (if x149000 = 12 then (spec_l3insOK.j3 k true x148000 x148001 x148002 x149000 x149001 x149002) else (spec_l3insOK.j3 k (x149000 == 13) x148000 x148001 x148002 x149000 x149001 x149002))
def spec_l3insOK.j3 : Nat → Bool → Int → List Bool → List (S71) → Int → Int → Int → Option (Bool)
 | 0, _, _, _, _, _, _, _ => none
 | k + 1, x111, x148000, x148001, x148002, x149000, x149001, x149002 => if x111 = true then ((spec_l3range.f x149001 (x148002.length : Int)).bind fun t155 => (some t155)) else (if x149000 = 14 then ((spec_l3range.f x149001 22).bind fun t156 => (some t156)) else (if x149000 = 15 then ((spec_l3range.f x149001 201).bind fun t157 => (some t157)) else (some (x149001 == 0))))
end
def spec_l3insOK.f (k : Nat) (l0_0 : List (List (S57))) (a0_1 : Int) (l0_2 : List (S68)) (a1_0 : Int) (l1_1 : List Bool) (l1_2 : List (S71)) (a2_0 : Int) (a2_1 : Int) (a2_2 : Int) : Option (Bool) := if a2_0 < 0 then (spec_l3insOK.j0 k true l0_0 a0_1 l0_2 a1_0 l1_1 l1_2 a2_0 a2_1 a2_2) else (spec_l3insOK.j0 k (decide (a2_0 > 17)) l0_0 a0_1 l0_2 a1_0 l1_1 l1_2 a2_0 a2_1 a2_2)
theorem spec_l3insOK.mono_l : ∀ k, (∀ y0 y1 y2 y3 y4 y5 y6 y7 y8 y9, LeO (spec_l3insOK.j0 k y0 y1 y2 y3 y4 y5 y6 y7 y8 y9) (spec_l3insOK.j0 (k + 1) y0 y1 y2 y3 y4 y5 y6 y7 y8 y9)) ∧ (∀ y0 y1 y2 y3 y4 y5 y6 y7 y8 y9, LeO (spec_l3insOK.j1 k y0 y1 y2 y3 y4 y5 y6 y7 y8 y9) (spec_l3insOK.j1 (k + 1) y0 y1 y2 y3 y4 y5 y6 y7 y8 y9)) ∧ (∀ y0 y1 y2 y3 y4 y5 y6, LeO (spec_l3insOK.j2 k y0 y1 y2 y3 y4 y5 y6) (spec_l3insOK.j2 (k + 1) y0 y1 y2 y3 y4 y5 y6)) ∧ (∀ y0 y1 y2 y3 y4 y5 y6, LeO (spec_l3insOK.j3 k y0 y1 y2 y3 y4 y5 y6) (spec_l3insOK.j3 (k + 1) y0 y1 y2 y3 y4 y5 y6))
 | 0 => ⟨fun _ _ _ _ _ _ _ _ _ _ r h => by simp [spec_l3insOK.j0] at h, fun _ _ _ _ _ _ _ _ _ _ r h => by simp [spec_l3insOK.j1] at h, fun _ _ _ _ _ _ _ r h => by simp [spec_l3insOK.j2] at h, fun _ _ _ _ _ _ _ r h => by simp [spec_l3insOK.j3] at h⟩
 | k + 1 => by
  obtain ⟨ih0, ih1, ih2, ih3⟩ := spec_l3insOK.mono_l k
  refine ⟨?_, ?_, ?_, ?_⟩
  ·intro y0 y1 y2 y3 y4 y5 y6 y7 y8 y9
   unfold spec_l3insOK.j0
   repeat' first
   | (with_reducible exact ih0 _ _ _ _ _ _ _ _ _ _)
   | (with_reducible exact ih1 _ _ _ _ _ _ _ _ _ _)
   | (with_reducible exact ih2 _ _ _ _ _ _ _)
   | (with_reducible exact ih3 _ _ _ _ _ _ _)
   | (with_reducible exact LeO.refl _)
   | (with_reducible exact LeO.none _)
   | (with_reducible refine LeO.ite ?_ ?_)
   | (with_reducible refine LeO.bind ?_ (fun _ => ?_))
   | exact ih0 _ _ _ _ _ _ _ _ _ _
   | exact ih1 _ _ _ _ _ _ _ _ _ _
   | exact ih2 _ _ _ _ _ _ _
   | exact ih3 _ _ _ _ _ _ _
   | exact LeO.none _
   | refine LeO.ite ?_ ?_
   | refine LeO.bind ?_ (fun _ => ?_)
  ·intro y0 y1 y2 y3 y4 y5 y6 y7 y8 y9
   unfold spec_l3insOK.j1
   repeat' first
   | (with_reducible exact ih0 _ _ _ _ _ _ _ _ _ _)
   | (with_reducible exact ih1 _ _ _ _ _ _ _ _ _ _)
   | (with_reducible exact ih2 _ _ _ _ _ _ _)
   | (with_reducible exact ih3 _ _ _ _ _ _ _)
   | (with_reducible exact LeO.refl _)
   | (with_reducible exact LeO.none _)
   | (with_reducible refine LeO.ite ?_ ?_)
   | (with_reducible refine LeO.bind ?_ (fun _ => ?_))
   | exact ih0 _ _ _ _ _ _ _ _ _ _
   | exact ih1 _ _ _ _ _ _ _ _ _ _
   | exact ih2 _ _ _ _ _ _ _
   | exact ih3 _ _ _ _ _ _ _
   | exact LeO.none _
   | refine LeO.ite ?_ ?_
   | refine LeO.bind ?_ (fun _ => ?_)
  ·intro y0 y1 y2 y3 y4 y5 y6
   unfold spec_l3insOK.j2
   repeat' first
   | (with_reducible exact ih0 _ _ _ _ _ _ _ _ _ _)
   | (with_reducible exact ih1 _ _ _ _ _ _ _ _ _ _)
   | (with_reducible exact ih2 _ _ _ _ _ _ _)
   | (with_reducible exact ih3 _ _ _ _ _ _ _)
   | (with_reducible exact LeO.refl _)
   | (with_reducible exact LeO.none _)
   | (with_reducible refine LeO.ite ?_ ?_)
   | (with_reducible refine LeO.bind ?_ (fun _ => ?_))
   | exact ih0 _ _ _ _ _ _ _ _ _ _
   | exact ih1 _ _ _ _ _ _ _ _ _ _
   | exact ih2 _ _ _ _ _ _ _
   | exact ih3 _ _ _ _ _ _ _
   | exact LeO.none _
   | refine LeO.ite ?_ ?_
   | refine LeO.bind ?_ (fun _ => ?_)
  ·intro y0 y1 y2 y3 y4 y5 y6
   unfold spec_l3insOK.j3
   repeat' first
   | (with_reducible exact ih0 _ _ _ _ _ _ _ _ _ _)
   | (with_reducible exact ih1 _ _ _ _ _ _ _ _ _ _)
   | (with_reducible exact ih2 _ _ _ _ _ _ _)
   | (with_reducible exact ih3 _ _ _ _ _ _ _)
   | (with_reducible exact LeO.refl _)
   | (with_reducible exact LeO.none _)
   | (with_reducible refine LeO.ite ?_ ?_)
   | (with_reducible refine LeO.bind ?_ (fun _ => ?_))
   | exact ih0 _ _ _ _ _ _ _ _ _ _
   | exact ih1 _ _ _ _ _ _ _ _ _ _
   | exact ih2 _ _ _ _ _ _ _
   | exact ih3 _ _ _ _ _ _ _
   | exact LeO.none _
   | refine LeO.ite ?_ ?_
   | refine LeO.bind ?_ (fun _ => ?_)
theorem spec_l3insOK.mono : ∀ a0 a1 a2 a3 a4 a5 a6 a7 a8 k, LeO (spec_l3insOK.f k a0 a1 a2 a3 a4 a5 a6 a7 a8) (spec_l3insOK.f (k + 1) a0 a1 a2 a3 a4 a5 a6 a7 a8) := by
 intro a0 a1 a2 a3 a4 a5 a6 a7 a8 k
 obtain ⟨ih0, ih1, ih2, ih3⟩ := spec_l3insOK.mono_l k
 unfold spec_l3insOK.f
 repeat' first
   | (with_reducible exact ih0 _ _ _ _ _ _ _ _ _ _)
   | (with_reducible exact ih1 _ _ _ _ _ _ _ _ _ _)
   | (with_reducible exact ih2 _ _ _ _ _ _ _)
   | (with_reducible exact ih3 _ _ _ _ _ _ _)
   | (with_reducible exact LeO.refl _)
   | (with_reducible exact LeO.none _)
   | (with_reducible refine LeO.ite ?_ ?_)
   | (with_reducible refine LeO.bind ?_ (fun _ => ?_))
   | exact ih0 _ _ _ _ _ _ _ _ _ _
   | exact ih1 _ _ _ _ _ _ _ _ _ _
   | exact ih2 _ _ _ _ _ _ _
   | exact ih3 _ _ _ _ _ _ _
   | exact LeO.none _
   | refine LeO.ite ?_ ?_
   | refine LeO.bind ?_ (fun _ => ?_)
theorem spec_l3insOK.calls (k : Nat) (A0_0 : Option Addr) (c0_0 : Nat) (l0_0 : List (List (S57))) (a0_1 : Int) (A0_2 : Option Addr) (c0_2 : Nat) (l0_2 : List (S68)) (a1_0 : Int) (A1_1 : Option Addr) (c1_1 : Nat) (l1_1 : List Bool) (A1_2 : Option Addr) (c1_2 : Nat) (l1_2 : List (S71)) (a2_0 : Int) (a2_1 : Int) (a2_2 : Int) (r : Bool) (w : World) (hr0_0 : Kd.C (Kd.slice 57 k57) w A0_0 l0_0.length l0_0) (hc0_0 : l0_0.length ≤ c0_0) (hr0_2 : Kd.C k68 w A0_2 l0_2.length l0_2) (hc0_2 : l0_2.length ≤ c0_2) (hr1_1 : Kd.C Kd.bool w A1_1 l1_1.length l1_1) (hc1_1 : l1_1.length ≤ c1_1) (hr1_2 : Kd.C k71 w A1_2 l1_2.length l1_2) (hc1_2 : l1_2.length ≤ c1_2) (h : spec_l3insOK.f k l0_0 a0_1 l0_2 a1_0 l1_1 l1_2 a2_0 a2_1 a2_2 = some r) :
  Calls Tryd.prog 39 #[.agg #[.slice A0_0 l0_0.length c0_0, .int .i64 a0_1, .slice A0_2 l0_2.length c0_2], .agg #[.int .i64 a1_0, .slice A1_1 l1_1.length c1_1, .slice A1_2 l1_2.length c1_2], .agg #[.int .i64 a2_0, .int .i64 a2_1, .int .i64 a2_2]] w fun e w' => e = .returned (.bool r) ∧ Below w.heap.size w w' := by
 have hu38 := Tryd.underlying38
 have hu68 := Tryd.underlying68
 have hu71 := Tryd.underlying71
 have HR0_0 := zA hr0_0
 have HC0_0 := zA hc0_0
 clear hr0_0 hc0_0
 have HR0_2 := zA hr0_2
 have HC0_2 := zA hc0_2
 clear hr0_2 hc0_2
 have HR1_1 := zA hr1_1
 have HC1_1 := zA hc1_1
 clear hr1_1 hc1_1
 have HR1_2 := zA hr1_2
 have HC1_2 := zA hc1_2
 clear hr1_2 hc1_2
 have HB := zA (Below.refl w.heap.size w)
 have H : (if a2_0 < 0 then (spec_l3insOK.j0 k true l0_0 a0_1 l0_2 a1_0 l1_1 l1_2 a2_0 a2_1 a2_2) else (spec_l3insOK.j0 k (decide (a2_0 > 17)) l0_0 a0_1 l0_2 a1_0 l1_1 l1_2 a2_0 a2_1 a2_2)) = some r := h
 clear h
 have HC4 := zA H
 clear H
 go_enter Tryd.func39, Tryd.ntmps39
 go_upto_region 1 with (first | ((with_reducible refine gate_dst (N := 3) rfl ?_); (try (refine gate_guard (by rfl) ?_; dsimp only)); refine box_event ?hg (N := 3) ?hd (cs := #[.slice A0_0 l0_0.length c0_0, .int .i64 a0_1, .slice A0_2 l0_2.length c0_2]) (t := 38) ?hr ?_; (case hd => rfl); (case hg => rfl); (case hr => first | (go_simp; done) | (go_simp; rfl)); intro gb146 hg w5 hbox hb; have n0_ := zA (zX (by repeat (first | (with_reducible first | exact HB.out | apply zE | apply zC | apply zD) | exact HB.out)) hb); have n1_ := zA (hbox); have n2_ := zA ((by rw [hg]; exact (below_size (by repeat (first | (with_reducible first | exact HB.out | apply zE | apply zC | apply zD) | exact HB.out))) : w.heap.size ≤ gb146)); have n3_ := zA ((by rw [hg]; exact (below_size (by repeat (first | (with_reducible first | exact HB.out | apply zE | apply zC | apply zD) | exact HB.out))) : w.heap.size ≤ gb146)); clear HB; have HB := n0_; have BK146 := n1_; have GW146 := n2_; have GE146 := n3_; clear n0_ n1_ n2_ n3_; clear hb hbox hg) | ((with_reducible refine gate_dst (N := 4) rfl ?_); (try (refine gate_guard (by rfl) ?_; dsimp only)); refine box_event ?hg (N := 4) ?hd (cs := #[.int .i64 a1_0, .slice A1_1 l1_1.length c1_1, .slice A1_2 l1_2.length c1_2]) (t := 68) ?hr ?_; (case hd => rfl); (case hg => rfl); (case hr => first | (go_simp; done) | (go_simp; rfl)); intro gb147 hg w6 hbox hb; have n0_ := zA (zN (g := gb146) (o := .cells #[.slice A0_0 l0_0.length c0_0, .int .i64 a0_1, .slice A0_2 l0_2.length c0_2] 38 (0, 0)) (kUp BK146.out) hb); have n1_ := zA (zX (by repeat (first | (with_reducible first | exact HB.out | apply zE | apply zC | apply zD | refine zB ?_ GE146.out) | exact HB.out)) hb); have n2_ := zA (hbox); have n3_ := zA ((by rw [hg]; exact (below_size (by repeat (first | (with_reducible first | exact HB.out | apply zE | apply zC | apply zD | refine zB ?_ GE146.out) | exact HB.out))) : w.heap.size ≤ gb147)); have n4_ := zA ((by rw [hg]; exact (below_size (by repeat (first | (with_reducible first | exact HB.out | apply zE | apply zC | apply zD | refine zB ?_ GE146.out) | exact HB.out))) : w.heap.size ≤ gb147)); have n5_ := zA ((by rw [hg]; exact Nat.ne_of_lt (blk_lt (g := gb146) (o := .cells #[.slice A0_0 l0_0.length c0_0, .int .i64 a0_1, .slice A0_2 l0_2.length c0_2] 38 (0, 0)) (kUp BK146.out)) : gb146 ≠ gb147)); have n6_ := zA ((by rw [hg]; exact Nat.ne_of_gt (blk_lt (g := gb146) (o := .cells #[.slice A0_0 l0_0.length c0_0, .int .i64 a0_1, .slice A0_2 l0_2.length c0_2] 38 (0, 0)) (kUp BK146.out)) : gb147 ≠ gb146)); clear BK146 HB; have BK146 := n0_; have HB := n1_; have BK147 := n2_; have GW147 := n3_; have GE147 := n4_; have NB146_147 := n5_; have NB147_146 := n6_; clear n0_ n1_ n2_ n3_ n4_ n5_ n6_; clear hb hbox hg) | ((with_reducible refine gate_dst (N := 5) rfl ?_); (try (refine gate_guard (by rfl) ?_; dsimp only)); refine box_event ?hg (N := 5) ?hd (cs := #[.int .i64 a2_0, .int .i64 a2_1, .int .i64 a2_2]) (t := 71) ?hr ?_; (case hd => rfl); (case hg => rfl); (case hr => first | (go_simp; done) | (go_simp; rfl)); intro gb148 hg w7 hbox hb; have n0_ := zA (zN (g := gb146) (o := .cells #[.slice A0_0 l0_0.length c0_0, .int .i64 a0_1, .slice A0_2 l0_2.length c0_2] 38 (0, 0)) (kUp BK146.out) hb); have n1_ := zA (zN (g := gb147) (o := .cells #[.int .i64 a1_0, .slice A1_1 l1_1.length c1_1, .slice A1_2 l1_2.length c1_2] 68 (0, 0)) (kUp BK147.out) hb); have n2_ := zA (zX (by repeat (first | (with_reducible first | exact HB.out | apply zE | apply zC | apply zD | refine zB ?_ GE146.out | refine zB ?_ GE147.out) | exact HB.out)) hb); have n3_ := zA (hbox); have n4_ := zA ((by rw [hg]; exact (below_size (by repeat (first | (with_reducible first | exact HB.out | apply zE | apply zC | apply zD | refine zB ?_ GE146.out | refine zB ?_ GE147.out) | exact HB.out))) : w.heap.size ≤ gb148)); have n5_ := zA ((by rw [hg]; exact (below_size (by repeat (first | (with_reducible first | exact HB.out | apply zE | apply zC | apply zD | refine zB ?_ GE146.out | refine zB ?_ GE147.out) | exact HB.out))) : w.heap.size ≤ gb148)); have n6_ := zA ((by rw [hg]; exact Nat.ne_of_lt (blk_lt (g := gb146) (o := .cells #[.slice A0_0 l0_0.length c0_0, .int .i64 a0_1, .slice A0_2 l0_2.length c0_2] 38 (0, 0)) (kUp BK146.out)) : gb146 ≠ gb148)); have n7_ := zA ((by rw [hg]; exact Nat.ne_of_gt (blk_lt (g := gb146) (o := .cells #[.slice A0_0 l0_0.length c0_0, .int .i64 a0_1, .slice A0_2 l0_2.length c0_2] 38 (0, 0)) (kUp BK146.out)) : gb148 ≠ gb146)); have n8_ := zA ((by rw [hg]; exact Nat.ne_of_lt (blk_lt (g := gb147) (o := .cells #[.int .i64 a1_0, .slice A1_1 l1_1.length c1_1, .slice A1_2 l1_2.length c1_2] 68 (0, 0)) (kUp BK147.out)) : gb147 ≠ gb148)); have n9_ := zA ((by rw [hg]; exact Nat.ne_of_gt (blk_lt (g := gb147) (o := .cells #[.int .i64 a1_0, .slice A1_1 l1_1.length c1_1, .slice A1_2 l1_2.length c1_2] 68 (0, 0)) (kUp BK147.out)) : gb148 ≠ gb147)); clear BK146 BK147 HB; have BK146 := n0_; have BK147 := n1_; have HB := n2_; have BK148 := n3_; have GW148 := n4_; have GE148 := n5_; have NB146_148 := n6_; have NB148_146 := n7_; have NB147_148 := n8_; have NB148_147 := n9_; clear n0_ n1_ n2_ n3_ n4_ n5_ n6_ n7_ n8_ n9_; clear hb hbox hg))
 (try simp only [Act.put, List.setIfInBounds_toArray, List.set_cons_zero, List.set_cons_succ])
 go_cut [14] (fun v14 wc => ∃ (kq : Nat) (x14_3 : Bool), v14 = .bool x14_3 ∧ Aside0 (spec_l3insOK.j0 kq x14_3 l0_0 a0_1 l0_2 a1_0 l1_1 l1_2 a2_0 a2_1 a2_2 = some r) ∧ Aside0 (kq ≤ k) ∧ Aside0 (wc.heap[gb146]? = some (.cells #[(.slice A0_0 l0_0.length c0_0), .int .i64 a0_1, (.slice A0_2 l0_2.length c0_2)] 38 (0, 0))) ∧ Aside0 (wc.heap[gb147]? = some (.cells #[.int .i64 a1_0, (.slice A1_1 l1_1.length c1_1), (.slice A1_2 l1_2.length c1_2)] 68 (0, 0))) ∧ Aside0 (wc.heap[gb148]? = some (.cells #[.int .i64 a2_0, .int .i64 a2_1, .int .i64 a2_2] 71 (0, 0))) ∧ Aside0 (Below w.heap.size w wc))
 case first =>
  have H := HC4.out
  clear HC4
  by_cases c8 : a2_0 < 0
  ·rw [if_pos c8] at H
   have c8b0 : decide (a2_0 < 0) = true := zG c8
   clear c8
   (first | rw [c8b0] | (simp only [i64_w, i32_w]; rw [c8b0]) | skip)
   have H' := zA H
   clear H
   have hnb9 := NB148_146.out
   have hnc9 := NB146_148.out
   have hnb10 := NB148_147.out
   have hnc10 := NB147_148.out
   have hcz11_0 : w7.cell? ⟨gb148, 0, none⟩ = some (.int .i64 a2_0) := (zZ BK148.out 0).trans rfl
   have hcz11_1 : w7.cell? ⟨gb148, 1, none⟩ = some (.int .i64 a2_1) := (zZ BK148.out 1).trans rfl
   have hcz11_2 : w7.cell? ⟨gb148, 2, none⟩ = some (.int .i64 a2_2) := (zZ BK148.out 2).trans rfl
   have hfz11_0 := zY BK148.out 0
   have hfz11_1 := zY BK148.out 1
   have hfz11_2 := zY BK148.out 2
   go_wp2
   repeat (go_quiet (fail); try go_wp2)
   go_meet
   case rel => exact ⟨_, (true), (by first | rfl | (simp; done) | (simp [*]; done)), H', ⟨by first | omega | exact Nat.le_refl _⟩, ⟨by exact kUp BK146.out⟩, ⟨by exact kUp BK147.out⟩, ⟨by exact kUp BK148.out⟩, ⟨by repeat (first | (with_reducible first | exact HB.out | apply zE | apply zC | apply zD | refine zB ?_ GE146.out | refine zB ?_ GE147.out | refine zB ?_ GE148.out) | exact HB.out)⟩⟩
  ·rw [if_neg c8] at H
   have c8b0 : decide (a2_0 < 0) = false := zH c8
   clear c8
   (first | rw [c8b0] | (simp only [i64_w, i32_w]; rw [c8b0]) | skip)
   have H' := zA H
   clear H
   have hnb12 := NB148_146.out
   have hnc12 := NB146_148.out
   have hnb13 := NB148_147.out
   have hnc13 := NB147_148.out
   have hcz14_0 : w7.cell? ⟨gb148, 0, none⟩ = some (.int .i64 a2_0) := (zZ BK148.out 0).trans rfl
   have hcz14_1 : w7.cell? ⟨gb148, 1, none⟩ = some (.int .i64 a2_1) := (zZ BK148.out 1).trans rfl
   have hcz14_2 : w7.cell? ⟨gb148, 2, none⟩ = some (.int .i64 a2_2) := (zZ BK148.out 2).trans rfl
   have hfz14_0 := zY BK148.out 0
   have hfz14_1 := zY BK148.out 1
   have hfz14_2 := zY BK148.out 2
   go_wp2
   repeat (go_quiet (fail); try go_wp2)
   go_meet
   case rel => exact ⟨_, (decide (a2_0 > 17)), (by first | rfl | (simp; done) | (simp [*]; done)), H', ⟨by first | omega | exact Nat.le_refl _⟩, ⟨by exact kUp BK146.out⟩, ⟨by exact kUp BK147.out⟩, ⟨by exact kUp BK148.out⟩, ⟨by repeat (first | (with_reducible first | exact HB.out | apply zE | apply zC | apply zD | refine zB ?_ GE146.out | refine zB ?_ GE147.out | refine zB ?_ GE148.out) | exact HB.out)⟩⟩
 case rest =>
  clear HC4
  try clear c1
  try clear p2
  try clear c3
  try clear c8
  try clear c8b0
  try clear c9
  try clear c10
  try clear c12
  try clear c13
  try clear hcz11_0
  try clear hcz11_1
  try clear hcz11_2
  try clear hcz14_0
  try clear hcz14_1
  try clear hcz14_2
  try clear hfz11_0
  try clear hfz11_1
  try clear hfz11_2
  try clear hfz14_0
  try clear hfz14_1
  try clear hfz14_2
  obtain ⟨kq, x14_3, rfl, HA, HJ3, BK146, BK147, BK148, HB⟩ := hcut
  cases kq with
  | zero => exact absurd HA.out (by simp [spec_l3insOK.j0])
  | succ kj3 =>
   have H := HA.out
   clear HA
   simp only [spec_l3insOK.j0] at H
   by_cases c15 : x14_3 = true
   ·subst c15
    have H1 : (some false) = some r := by rw [if_pos rfl] at H; exact H
    clear H
    have H := H1
    clear H1
    obtain rfl := zl H
    go_wp2
    repeat (go_quiet (fail); try go_wp2)
    go_ret
    exact ⟨by first | rfl | (simp [errW_none, errW_some] <;> rfl) | (simp [*, errW_none, errW_some] <;> rfl), by repeat (first | (with_reducible first | exact HB.out | apply zE | apply zC | apply zD | refine zB ?_ GE146.out | refine zB ?_ GE147.out | refine zB ?_ GE148.out) | exact HB.out)⟩
   ·replace c15 := zp.mpr c15
    subst c15
    have H1 : (if a2_0 = 8 then (if a2_1 ≥ 1 then (if a2_1 < (l0_2.length : Int) then (if 0 ≤ a2_1 then (some (a2_2 == (((rd_T68 l0_2 a2_1).f1).length : Int))) else (none)) else (some false)) else (some false)) else (if a2_2 = 0 then (if a2_0 = 0 then ((spec_l3range.f a2_1 (l0_0.length : Int)).bind fun t150 => (some t150)) else (if a2_0 = 1 then ((spec_l3range.f a2_1 200).bind fun t151 => (some t151)) else (if a2_0 = 2 then ((spec_l3range.f a2_1 (l1_1.length : Int)).bind fun t152 => (some t152)) else (if a2_0 = 3 then (spec_l3insOK.j1 kj3 true l0_0 a0_1 l0_2 a1_0 l1_1 l1_2 a2_0 a2_1 a2_2) else (spec_l3insOK.j1 kj3 (a2_0 == 4) l0_0 a0_1 l0_2 a1_0 l1_1 l1_2 a2_0 a2_1 a2_2))))) else (some false))) = some r := by rw [if_neg (show ¬ (false = true) by decide)] at H; exact H
    clear H
    have H := H1
    clear H1
    by_cases c16 : a2_0 = 8
    ·rw [if_pos c16] at H
     have c16b0 : (a2_0 == 8) = true := beq_iff_eq.mpr c16
     have c16b1 : (a2_0 != 8) = false := zn.mpr c16
     clear c16
     by_cases c17 : a2_1 ≥ 1
     ·rw [if_pos c17] at H
      have c17b0 : decide (1 ≤ a2_1) = true := zG c17
      clear c17
      by_cases c18 : a2_1 < (l0_2.length : Int)
      ·rw [if_pos c18] at H
       have c18b0 : decide (a2_1 < (l0_2.length : Int)) = true := zG c18
       clear c18
       by_cases c19 : 0 ≤ a2_1
       ·rw [if_pos c19] at H
        have c19b0 : decide (0 ≤ a2_1) = true := zG c19
        clear c19
        obtain rfl := zl H
        have hnb20 := NB148_146.out
        have hnc20 := NB146_148.out
        have hnb21 := NB148_147.out
        have hnc21 := NB147_148.out
        have hcz22_0 : wc.cell? ⟨gb148, 0, none⟩ = some (.int .i64 a2_0) := (zZ BK148.out 0).trans rfl
        have hcz22_1 : wc.cell? ⟨gb148, 1, none⟩ = some (.int .i64 a2_1) := (zZ BK148.out 1).trans rfl
        have hcz22_2 : wc.cell? ⟨gb148, 2, none⟩ = some (.int .i64 a2_2) := (zZ BK148.out 2).trans rfl
        have hfz22_0 := zY BK148.out 0
        have hfz22_1 := zY BK148.out 1
        have hfz22_2 := zY BK148.out 2
        have hnb23 := NB146_147.out
        have hnc23 := NB147_146.out
        have hcz24_0 : wc.cell? ⟨gb146, 0, none⟩ = some (.slice A0_0 l0_0.length c0_0) := (zZ BK146.out 0).trans rfl
        have hcz24_1 : wc.cell? ⟨gb146, 1, none⟩ = some (.int .i64 a0_1) := (zZ BK146.out 1).trans rfl
        have hcz24_2 : wc.cell? ⟨gb146, 2, none⟩ = some (.slice A0_2 l0_2.length c0_2) := (zZ BK146.out 2).trans rfl
        have hfz24_0 := zY BK146.out 0
        have hfz24_1 := zY BK146.out 1
        have hfz24_2 := zY BK146.out 2
        have p149 : 0 ≤ (a2_1 : Int) := zF (by first | (with_reducible assumption) | assumption)
        have q149 : a2_1 < (l0_2.length : Int) := zF (by first | (with_reducible assumption) | assumption)
        obtain ⟨ad149, A149_1, c149_1, A149_2, c149_2, e149, hx149_0, hx149_1, hx149_2, hl149_1, hi149_1, hl149_2, hi149_2⟩ := at_T68 HR0_2.out a2_1 p149 q149
        cases e149
        replace hx149_0 := (HB.out.cell (zk? w _ hx149_0)).trans hx149_0
        replace hx149_1 := (HB.out.cell (zk? w _ hx149_1)).trans hx149_1
        replace hx149_2 := (HB.out.cell (zk? w _ hx149_2)).trans hx149_2
        have HR149_1 := zA hi149_1
        have HC149_1 := zA hl149_1
        clear hi149_1 hl149_1
        have HR149_2 := zA hi149_2
        have HC149_2 := zA hl149_2
        clear hi149_2 hl149_2
        replace p149 := eq_true p149
        replace q149 := eq_true q149
        go_wp2
        repeat (go_quiet (fail); try go_wp2)
        go_ret
        exact ⟨by first | rfl | (simp [errW_none, errW_some] <;> rfl) | (simp [*, errW_none, errW_some] <;> rfl), by repeat (first | (with_reducible first | exact HB.out | apply zE | apply zC | apply zD | refine zB ?_ GE146.out | refine zB ?_ GE147.out | refine zB ?_ GE148.out) | exact HB.out)⟩
       ·rw [if_neg c19] at H
        exact absurd H (by simp)
      ·rw [if_neg c18] at H
       have c18b0 : decide (a2_1 < (l0_2.length : Int)) = false := zH c18
       clear c18
       obtain rfl := zl H
       have hnb25 := NB148_146.out
       have hnc25 := NB146_148.out
       have hnb26 := NB148_147.out
       have hnc26 := NB147_148.out
       have hcz27_0 : wc.cell? ⟨gb148, 0, none⟩ = some (.int .i64 a2_0) := (zZ BK148.out 0).trans rfl
       have hcz27_1 : wc.cell? ⟨gb148, 1, none⟩ = some (.int .i64 a2_1) := (zZ BK148.out 1).trans rfl
       have hcz27_2 : wc.cell? ⟨gb148, 2, none⟩ = some (.int .i64 a2_2) := (zZ BK148.out 2).trans rfl
       have hfz27_0 := zY BK148.out 0
       have hfz27_1 := zY BK148.out 1
       have hfz27_2 := zY BK148.out 2
       have hnb28 := NB146_147.out
       have hnc28 := NB147_146.out
       have hcz29_0 : wc.cell? ⟨gb146, 0, none⟩ = some (.slice A0_0 l0_0.length c0_0) := (zZ BK146.out 0).trans rfl
       have hcz29_1 : wc.cell? ⟨gb146, 1, none⟩ = some (.int .i64 a0_1) := (zZ BK146.out 1).trans rfl
       have hcz29_2 : wc.cell? ⟨gb146, 2, none⟩ = some (.slice A0_2 l0_2.length c0_2) := (zZ BK146.out 2).trans rfl
       have hfz29_0 := zY BK146.out 0
       have hfz29_1 := zY BK146.out 1
       have hfz29_2 := zY BK146.out 2
       go_wp2
       repeat (go_quiet (fail); try go_wp2)
       go_ret
       exact ⟨by first | rfl | (simp [errW_none, errW_some] <;> rfl) | (simp [*, errW_none, errW_some] <;> rfl), by repeat (first | (with_reducible first | exact HB.out | apply zE | apply zC | apply zD | refine zB ?_ GE146.out | refine zB ?_ GE147.out | refine zB ?_ GE148.out) | exact HB.out)⟩
     ·rw [if_neg c17] at H
      have c17b0 : decide (1 ≤ a2_1) = false := zH c17
      clear c17
      obtain rfl := zl H
      have hnb30 := NB148_146.out
      have hnc30 := NB146_148.out
      have hnb31 := NB148_147.out
      have hnc31 := NB147_148.out
      have hcz32_0 : wc.cell? ⟨gb148, 0, none⟩ = some (.int .i64 a2_0) := (zZ BK148.out 0).trans rfl
      have hcz32_1 : wc.cell? ⟨gb148, 1, none⟩ = some (.int .i64 a2_1) := (zZ BK148.out 1).trans rfl
      have hcz32_2 : wc.cell? ⟨gb148, 2, none⟩ = some (.int .i64 a2_2) := (zZ BK148.out 2).trans rfl
      have hfz32_0 := zY BK148.out 0
      have hfz32_1 := zY BK148.out 1
      have hfz32_2 := zY BK148.out 2
      go_wp2
      repeat (go_quiet (fail); try go_wp2)
      go_ret
      exact ⟨by first | rfl | (simp [errW_none, errW_some] <;> rfl) | (simp [*, errW_none, errW_some] <;> rfl), by repeat (first | (with_reducible first | exact HB.out | apply zE | apply zC | apply zD | refine zB ?_ GE146.out | refine zB ?_ GE147.out | refine zB ?_ GE148.out) | exact HB.out)⟩
    ·rw [if_neg c16] at H
     have c16b0 : (a2_0 == 8) = false := zm.mpr c16
     have c16b1 : (a2_0 != 8) = true := bne_iff_ne.mpr c16
     by_cases c33 : a2_2 = 0
     ·rw [if_pos c33] at H
      have c33b0 : (a2_2 == 0) = true := beq_iff_eq.mpr c33
      have c33b1 : (a2_2 != 0) = false := zn.mpr c33
      clear c33
      by_cases c34 : a2_0 = 0
      ·rw [if_pos c34] at H
       have c34b0 : (a2_0 == 0) = true := beq_iff_eq.mpr c34
       have c34b1 : (a2_0 != 0) = false := zn.mpr c34
       clear c34
       replace H := zo.mp H
       obtain ⟨t150, A350, H⟩ := H
       replace H : (some t150) = some r := H
       have A35 := zA A350
       clear A350
       obtain rfl := zl H
       have hnb36 := NB148_146.out
       have hnc36 := NB146_148.out
       have hnb37 := NB148_147.out
       have hnc37 := NB147_148.out
       have hcz38_0 : wc.cell? ⟨gb148, 0, none⟩ = some (.int .i64 a2_0) := (zZ BK148.out 0).trans rfl
       have hcz38_1 : wc.cell? ⟨gb148, 1, none⟩ = some (.int .i64 a2_1) := (zZ BK148.out 1).trans rfl
       have hcz38_2 : wc.cell? ⟨gb148, 2, none⟩ = some (.int .i64 a2_2) := (zZ BK148.out 2).trans rfl
       have hfz38_0 := zY BK148.out 0
       have hfz38_1 := zY BK148.out 1
       have hfz38_2 := zY BK148.out 2
       have hnb39 := NB146_147.out
       have hnc39 := NB147_146.out
       have hcz40_0 : wc.cell? ⟨gb146, 0, none⟩ = some (.slice A0_0 l0_0.length c0_0) := (zZ BK146.out 0).trans rfl
       have hcz40_1 : wc.cell? ⟨gb146, 1, none⟩ = some (.int .i64 a0_1) := (zZ BK146.out 1).trans rfl
       have hcz40_2 : wc.cell? ⟨gb146, 2, none⟩ = some (.slice A0_2 l0_2.length c0_2) := (zZ BK146.out 2).trans rfl
       have hfz40_0 := zY BK146.out 0
       have hfz40_1 := zY BK146.out 1
       have hfz40_2 := zY BK146.out 2
       go_wp2_with (first | (go_at_call 69; (with_reducible refine (spec_l3range.calls a2_1 (l0_0.length : Int) t150 _ A35.out).mono ?_); rintro e w' ⟨rfl, ⟨nd, rfl⟩⟩; (try first | exact ⟨rfl, _, World.drewN_drewN _ _ _⟩ | exact ⟨rfl, _, Eq.trans (World.drewN_drewN _ _ _) (congrArg (World.drewN _) (Nat.add_assoc _ _ _))⟩)))
       go_ret
       exact ⟨by first | rfl | (simp [errW_none, errW_some] <;> rfl) | (simp [*, errW_none, errW_some] <;> rfl), by repeat (first | (with_reducible first | exact HB.out | apply zE | apply zC | apply zD | refine zB ?_ GE146.out | refine zB ?_ GE147.out | refine zB ?_ GE148.out) | exact HB.out)⟩
      ·rw [if_neg c34] at H
       have c34b0 : (a2_0 == 0) = false := zm.mpr c34
       have c34b1 : (a2_0 != 0) = true := bne_iff_ne.mpr c34
       by_cases c41 : a2_0 = 1
       ·rw [if_pos c41] at H
        have c41b0 : (a2_0 == 1) = true := beq_iff_eq.mpr c41
        have c41b1 : (a2_0 != 1) = false := zn.mpr c41
        clear c41
        replace H := zo.mp H
        obtain ⟨t151, A420, H⟩ := H
        replace H : (some t151) = some r := H
        have A42 := zA A420
        clear A420
        obtain rfl := zl H
        have hnb43 := NB148_146.out
        have hnc43 := NB146_148.out
        have hnb44 := NB148_147.out
        have hnc44 := NB147_148.out
        have hcz45_0 : wc.cell? ⟨gb148, 0, none⟩ = some (.int .i64 a2_0) := (zZ BK148.out 0).trans rfl
        have hcz45_1 : wc.cell? ⟨gb148, 1, none⟩ = some (.int .i64 a2_1) := (zZ BK148.out 1).trans rfl
        have hcz45_2 : wc.cell? ⟨gb148, 2, none⟩ = some (.int .i64 a2_2) := (zZ BK148.out 2).trans rfl
        have hfz45_0 := zY BK148.out 0
        have hfz45_1 := zY BK148.out 1
        have hfz45_2 := zY BK148.out 2
        go_wp2_with (first | (go_at_call 69; (with_reducible refine (spec_l3range.calls a2_1 200 t151 _ A42.out).mono ?_); rintro e w' ⟨rfl, ⟨nd, rfl⟩⟩; (try first | exact ⟨rfl, _, World.drewN_drewN _ _ _⟩ | exact ⟨rfl, _, Eq.trans (World.drewN_drewN _ _ _) (congrArg (World.drewN _) (Nat.add_assoc _ _ _))⟩)))
        go_ret
        exact ⟨by first | rfl | (simp [errW_none, errW_some] <;> rfl) | (simp [*, errW_none, errW_some] <;> rfl), by repeat (first | (with_reducible first | exact HB.out | apply zE | apply zC | apply zD | refine zB ?_ GE146.out | refine zB ?_ GE147.out | refine zB ?_ GE148.out) | exact HB.out)⟩
       ·rw [if_neg c41] at H
        have c41b0 : (a2_0 == 1) = false := zm.mpr c41
        have c41b1 : (a2_0 != 1) = true := bne_iff_ne.mpr c41
        by_cases c46 : a2_0 = 2
        ·rw [if_pos c46] at H
         have c46b0 : (a2_0 == 2) = true := beq_iff_eq.mpr c46
         have c46b1 : (a2_0 != 2) = false := zn.mpr c46
         clear c46
         replace H := zo.mp H
         obtain ⟨t152, A470, H⟩ := H
         replace H : (some t152) = some r := H
         have A47 := zA A470
         clear A470
         obtain rfl := zl H
         have hnb48 := NB148_146.out
         have hnc48 := NB146_148.out
         have hnb49 := NB148_147.out
         have hnc49 := NB147_148.out
         have hcz50_0 : wc.cell? ⟨gb148, 0, none⟩ = some (.int .i64 a2_0) := (zZ BK148.out 0).trans rfl
         have hcz50_1 : wc.cell? ⟨gb148, 1, none⟩ = some (.int .i64 a2_1) := (zZ BK148.out 1).trans rfl
         have hcz50_2 : wc.cell? ⟨gb148, 2, none⟩ = some (.int .i64 a2_2) := (zZ BK148.out 2).trans rfl
         have hfz50_0 := zY BK148.out 0
         have hfz50_1 := zY BK148.out 1
         have hfz50_2 := zY BK148.out 2
         have hnb51 := NB147_146.out
         have hnc51 := NB146_147.out
         have hcz52_0 : wc.cell? ⟨gb147, 0, none⟩ = some (.int .i64 a1_0) := (zZ BK147.out 0).trans rfl
         have hcz52_1 : wc.cell? ⟨gb147, 1, none⟩ = some (.slice A1_1 l1_1.length c1_1) := (zZ BK147.out 1).trans rfl
         have hcz52_2 : wc.cell? ⟨gb147, 2, none⟩ = some (.slice A1_2 l1_2.length c1_2) := (zZ BK147.out 2).trans rfl
         have hfz52_0 := zY BK147.out 0
         have hfz52_1 := zY BK147.out 1
         have hfz52_2 := zY BK147.out 2
         go_wp2_with (first | (go_at_call 69; (with_reducible refine (spec_l3range.calls a2_1 (l1_1.length : Int) t152 _ A47.out).mono ?_); rintro e w' ⟨rfl, ⟨nd, rfl⟩⟩; (try first | exact ⟨rfl, _, World.drewN_drewN _ _ _⟩ | exact ⟨rfl, _, Eq.trans (World.drewN_drewN _ _ _) (congrArg (World.drewN _) (Nat.add_assoc _ _ _))⟩)))
         go_ret
         exact ⟨by first | rfl | (simp [errW_none, errW_some] <;> rfl) | (simp [*, errW_none, errW_some] <;> rfl), by repeat (first | (with_reducible first | exact HB.out | apply zE | apply zC | apply zD | refine zB ?_ GE146.out | refine zB ?_ GE147.out | refine zB ?_ GE148.out) | exact HB.out)⟩
        ·rw [if_neg c46] at H
         have c46b0 : (a2_0 == 2) = false := zm.mpr c46
         have c46b1 : (a2_0 != 2) = true := bne_iff_ne.mpr c46
         have HC53 := zA H
         clear H
         have hnb54 := NB148_146.out
         have hnc54 := NB146_148.out
         have hnb55 := NB148_147.out
         have hnc55 := NB147_148.out
         have hcz56_0 : wc.cell? ⟨gb148, 0, none⟩ = some (.int .i64 a2_0) := (zZ BK148.out 0).trans rfl
         have hcz56_1 : wc.cell? ⟨gb148, 1, none⟩ = some (.int .i64 a2_1) := (zZ BK148.out 1).trans rfl
         have hcz56_2 : wc.cell? ⟨gb148, 2, none⟩ = some (.int .i64 a2_2) := (zZ BK148.out 2).trans rfl
         have hfz56_0 := zY BK148.out 0
         have hfz56_1 := zY BK148.out 1
         have hfz56_2 := zY BK148.out 2
         go_upto_region 13 with (fail)
         repeat (go_quiet (fail); go_upto_region 13 with (fail))
         go_cut [76] (fun v76 wc => ∃ (kq : Nat) (x76_52 : Bool), v76 = .bool x76_52 ∧ Aside0 (spec_l3insOK.j1 kq x76_52 l0_0 a0_1 l0_2 a1_0 l1_1 l1_2 a2_0 a2_1 a2_2 = some r) ∧ Aside0 (kq ≤ kj3) ∧ Aside0 (wc.heap[gb146]? = some (.cells #[(.slice A0_0 l0_0.length c0_0), .int .i64 a0_1, (.slice A0_2 l0_2.length c0_2)] 38 (0, 0))) ∧ Aside0 (wc.heap[gb147]? = some (.cells #[.int .i64 a1_0, (.slice A1_1 l1_1.length c1_1), (.slice A1_2 l1_2.length c1_2)] 68 (0, 0))) ∧ Aside0 (wc.heap[gb148]? = some (.cells #[.int .i64 a2_0, .int .i64 a2_1, .int .i64 a2_2] 71 (0, 0))) ∧ Aside0 (Below w.heap.size w wc))
         case first =>
          have H := HC53.out
          clear HC53
          by_cases c57 : a2_0 = 3
          ·rw [if_pos c57] at H
           have c57b0 : (a2_0 == 3) = true := beq_iff_eq.mpr c57
           have c57b1 : (a2_0 != 3) = false := zn.mpr c57
           clear c57
           (first | rw [c57b0] | (simp only [i64_w, i32_w]; rw [c57b0]) | skip)
           have H' := zA H
           clear H
           have hnb58 := NB148_146.out
           have hnc58 := NB146_148.out
           have hnb59 := NB148_147.out
           have hnc59 := NB147_148.out
           have hcz60_0 : wc.cell? ⟨gb148, 0, none⟩ = some (.int .i64 a2_0) := (zZ BK148.out 0).trans rfl
           have hcz60_1 : wc.cell? ⟨gb148, 1, none⟩ = some (.int .i64 a2_1) := (zZ BK148.out 1).trans rfl
           have hcz60_2 : wc.cell? ⟨gb148, 2, none⟩ = some (.int .i64 a2_2) := (zZ BK148.out 2).trans rfl
           have hfz60_0 := zY BK148.out 0
           have hfz60_1 := zY BK148.out 1
           have hfz60_2 := zY BK148.out 2
           go_wp2
           repeat (go_quiet (fail); try go_wp2)
           go_meet
           case rel => exact ⟨_, (true), (by first | rfl | (simp; done) | (simp [*]; done)), H', ⟨by have := HJ3.out; first | omega | exact Nat.le_refl _⟩, ⟨by exact kUp BK146.out⟩, ⟨by exact kUp BK147.out⟩, ⟨by exact kUp BK148.out⟩, ⟨by repeat (first | (with_reducible first | exact HB.out | apply zE | apply zC | apply zD | refine zB ?_ GE146.out | refine zB ?_ GE147.out | refine zB ?_ GE148.out) | exact HB.out)⟩⟩
          ·rw [if_neg c57] at H
           have c57b0 : (a2_0 == 3) = false := zm.mpr c57
           have c57b1 : (a2_0 != 3) = true := bne_iff_ne.mpr c57
           (first | rw [c57b0] | (simp only [i64_w, i32_w]; rw [c57b0]) | skip)
           have H' := zA H
           clear H
           have hnb61 := NB148_146.out
           have hnc61 := NB146_148.out
           have hnb62 := NB148_147.out
           have hnc62 := NB147_148.out
           have hcz63_0 : wc.cell? ⟨gb148, 0, none⟩ = some (.int .i64 a2_0) := (zZ BK148.out 0).trans rfl
           have hcz63_1 : wc.cell? ⟨gb148, 1, none⟩ = some (.int .i64 a2_1) := (zZ BK148.out 1).trans rfl
           have hcz63_2 : wc.cell? ⟨gb148, 2, none⟩ = some (.int .i64 a2_2) := (zZ BK148.out 2).trans rfl
           have hfz63_0 := zY BK148.out 0
           have hfz63_1 := zY BK148.out 1
           have hfz63_2 := zY BK148.out 2
           go_wp2
           repeat (go_quiet (fail); try go_wp2)
           go_meet
           case rel => exact ⟨_, ((a2_0 == 4)), (by first | rfl | (simp; done) | (simp [*]; done)), H', ⟨by have := HJ3.out; first | omega | exact Nat.le_refl _⟩, ⟨by exact kUp BK146.out⟩, ⟨by exact kUp BK147.out⟩, ⟨by exact kUp BK148.out⟩, ⟨by repeat (first | (with_reducible first | exact HB.out | apply zE | apply zC | apply zD | refine zB ?_ GE146.out | refine zB ?_ GE147.out | refine zB ?_ GE148.out) | exact HB.out)⟩⟩
         case rest =>
          clear HC53
          try clear c1
          try clear p1
          try clear q1
          try clear hx1
          try clear c2
          try clear p2
          try clear c3
          try clear c4
          try clear c5
          try clear c6
          try clear c8
          try clear c8b0
          try clear c9
          try clear c10
          try clear c12
          try clear c13
          try clear c14
          try clear p14
          try clear q14
          try clear hx14
          try clear c15
          try clear c16
          try clear c16b0
          try clear c16b1
          try clear c17
          try clear c17b0
          try clear c18
          try clear c18b0
          try clear c19
          try clear c19b0
          try clear c20
          try clear c21
          try clear c23
          try clear c25
          try clear c26
          try clear c28
          try clear c30
          try clear c31
          try clear c33
          try clear c33b0
          try clear c33b1
          try clear c34
          try clear c34b0
          try clear c34b1
          try clear c36
          try clear c37
          try clear c39
          try clear c41
          try clear c41b0
          try clear c41b1
          try clear c43
          try clear c44
          try clear c46
          try clear c46b0
          try clear c46b1
          try clear c48
          try clear c49
          try clear c51
          try clear c54
          try clear c55
          try clear c57
          try clear c57b0
          try clear c57b1
          try clear c58
          try clear c59
          try clear c61
          try clear c62
          try clear hcz11_0
          try clear hcz11_1
          try clear hcz11_2
          try clear hcz14_0
          try clear hcz14_1
          try clear hcz14_2
          try clear hcz22_0
          try clear hcz22_1
          try clear hcz22_2
          try clear hcz24_0
          try clear hcz24_1
          try clear hcz24_2
          try clear hcz27_0
          try clear hcz27_1
          try clear hcz27_2
          try clear hcz29_0
          try clear hcz29_1
          try clear hcz29_2
          try clear hcz32_0
          try clear hcz32_1
          try clear hcz32_2
          try clear hcz38_0
          try clear hcz38_1
          try clear hcz38_2
          try clear hcz40_0
          try clear hcz40_1
          try clear hcz40_2
          try clear hcz45_0
          try clear hcz45_1
          try clear hcz45_2
          try clear hcz50_0
          try clear hcz50_1
          try clear hcz50_2
          try clear hcz52_0
          try clear hcz52_1
          try clear hcz52_2
          try clear hcz56_0
          try clear hcz56_1
          try clear hcz56_2
          try clear hcz60_0
          try clear hcz60_1
          try clear hcz60_2
          try clear hcz63_0
          try clear hcz63_1
          try clear hcz63_2
          try clear hfz11_0
          try clear hfz11_1
          try clear hfz11_2
          try clear hfz14_0
          try clear hfz14_1
          try clear hfz14_2
          try clear hfz22_0
          try clear hfz22_1
          try clear hfz22_2
          try clear hfz24_0
          try clear hfz24_1
          try clear hfz24_2
          try clear hfz27_0
          try clear hfz27_1
          try clear hfz27_2
          try clear hfz29_0
          try clear hfz29_1
          try clear hfz29_2
          try clear hfz32_0
          try clear hfz32_1
          try clear hfz32_2
          try clear hfz38_0
          try clear hfz38_1
          try clear hfz38_2
          try clear hfz40_0
          try clear hfz40_1
          try clear hfz40_2
          try clear hfz45_0
          try clear hfz45_1
          try clear hfz45_2
          try clear hfz50_0
          try clear hfz50_1
          try clear hfz50_2
          try clear hfz52_0
          try clear hfz52_1
          try clear hfz52_2
          try clear hfz56_0
          try clear hfz56_1
          try clear hfz56_2
          try clear hfz60_0
          try clear hfz60_1
          try clear hfz60_2
          try clear hfz63_0
          try clear hfz63_1
          try clear hfz63_2
          try clear hx149_0
          try clear hx149_1
          try clear hx149_2
          try clear p149
          try clear p2
          try clear q149
          obtain ⟨kq, x76_52, rfl, HA, HJ52, BK146, BK147, BK148, HB⟩ := hcut
          cases kq with
          | zero => exact absurd HA.out (by simp [spec_l3insOK.j1])
          | succ kj52 =>
           have H := HA.out
           clear HA
           simp only [spec_l3insOK.j1] at H
           by_cases c64 : x76_52 = true
           ·subst c64
            have H1 : ((spec_l3range.f a2_1 a0_1).bind fun t153 => (some t153)) = some r := by rw [if_pos rfl] at H; exact H
            clear H
            have H := H1
            clear H1
            replace H := zo.mp H
            obtain ⟨t153, A650, H⟩ := H
            replace H : (some t153) = some r := H
            have A65 := zA A650
            clear A650
            obtain rfl := zl H
            have hnb66 := NB148_146.out
            have hnc66 := NB146_148.out
            have hnb67 := NB148_147.out
            have hnc67 := NB147_148.out
            have hcz68_0 : wc.cell? ⟨gb148, 0, none⟩ = some (.int .i64 a2_0) := (zZ BK148.out 0).trans rfl
            have hcz68_1 : wc.cell? ⟨gb148, 1, none⟩ = some (.int .i64 a2_1) := (zZ BK148.out 1).trans rfl
            have hcz68_2 : wc.cell? ⟨gb148, 2, none⟩ = some (.int .i64 a2_2) := (zZ BK148.out 2).trans rfl
            have hfz68_0 := zY BK148.out 0
            have hfz68_1 := zY BK148.out 1
            have hfz68_2 := zY BK148.out 2
            have hnb69 := NB146_147.out
            have hnc69 := NB147_146.out
            have hcz70_0 : wc.cell? ⟨gb146, 0, none⟩ = some (.slice A0_0 l0_0.length c0_0) := (zZ BK146.out 0).trans rfl
            have hcz70_1 : wc.cell? ⟨gb146, 1, none⟩ = some (.int .i64 a0_1) := (zZ BK146.out 1).trans rfl
            have hcz70_2 : wc.cell? ⟨gb146, 2, none⟩ = some (.slice A0_2 l0_2.length c0_2) := (zZ BK146.out 2).trans rfl
            have hfz70_0 := zY BK146.out 0
            have hfz70_1 := zY BK146.out 1
            have hfz70_2 := zY BK146.out 2
            go_wp2_with (first | (go_at_call 69; (with_reducible refine (spec_l3range.calls a2_1 a0_1 t153 _ A65.out).mono ?_); rintro e w' ⟨rfl, ⟨nd, rfl⟩⟩; (try first | exact ⟨rfl, _, World.drewN_drewN _ _ _⟩ | exact ⟨rfl, _, Eq.trans (World.drewN_drewN _ _ _) (congrArg (World.drewN _) (Nat.add_assoc _ _ _))⟩)))
            go_ret
            exact ⟨by first | rfl | (simp [errW_none, errW_some] <;> rfl) | (simp [*, errW_none, errW_some] <;> rfl), by repeat (first | (with_reducible first | exact HB.out | apply zE | apply zC | apply zD | refine zB ?_ GE146.out | refine zB ?_ GE147.out | refine zB ?_ GE148.out) | exact HB.out)⟩
           ·replace c64 := zp.mpr c64
            subst c64
            have H1 : (if a2_0 = 5 then (if a2_1 = 0 then (some true) else (some (a2_1 == 1))) else (if a2_0 = 9 then (spec_l3insOK.j2 kj52 true a1_0 l1_1 l1_2 a2_0 a2_1 a2_2) else (spec_l3insOK.j2 kj52 (a2_0 == 10) a1_0 l1_1 l1_2 a2_0 a2_1 a2_2))) = some r := by rw [if_neg (show ¬ (false = true) by decide)] at H; exact H
            clear H
            have H := H1
            clear H1
            by_cases c71 : a2_0 = 5
            ·rw [if_pos c71] at H
             have c71b0 : (a2_0 == 5) = true := beq_iff_eq.mpr c71
             have c71b1 : (a2_0 != 5) = false := zn.mpr c71
             clear c71
             by_cases c72 : a2_1 = 0
             ·rw [if_pos c72] at H
              have c72b0 : (a2_1 == 0) = true := beq_iff_eq.mpr c72
              have c72b1 : (a2_1 != 0) = false := zn.mpr c72
              clear c72
              obtain rfl := zl H
              have hnb73 := NB148_146.out
              have hnc73 := NB146_148.out
              have hnb74 := NB148_147.out
              have hnc74 := NB147_148.out
              have hcz75_0 : wc.cell? ⟨gb148, 0, none⟩ = some (.int .i64 a2_0) := (zZ BK148.out 0).trans rfl
              have hcz75_1 : wc.cell? ⟨gb148, 1, none⟩ = some (.int .i64 a2_1) := (zZ BK148.out 1).trans rfl
              have hcz75_2 : wc.cell? ⟨gb148, 2, none⟩ = some (.int .i64 a2_2) := (zZ BK148.out 2).trans rfl
              have hfz75_0 := zY BK148.out 0
              have hfz75_1 := zY BK148.out 1
              have hfz75_2 := zY BK148.out 2
              go_wp2
              repeat (go_quiet (fail); try go_wp2)
              go_ret
              exact ⟨by first | rfl | (simp [errW_none, errW_some] <;> rfl) | (simp [*, errW_none, errW_some] <;> rfl), by repeat (first | (with_reducible first | exact HB.out | apply zE | apply zC | apply zD | refine zB ?_ GE146.out | refine zB ?_ GE147.out | refine zB ?_ GE148.out) | exact HB.out)⟩
             ·rw [if_neg c72] at H
              have c72b0 : (a2_1 == 0) = false := zm.mpr c72
              have c72b1 : (a2_1 != 0) = true := bne_iff_ne.mpr c72
              obtain rfl := zl H
              have hnb76 := NB148_146.out
              have hnc76 := NB146_148.out
              have hnb77 := NB148_147.out
              have hnc77 := NB147_148.out
              have hcz78_0 : wc.cell? ⟨gb148, 0, none⟩ = some (.int .i64 a2_0) := (zZ BK148.out 0).trans rfl
              have hcz78_1 : wc.cell? ⟨gb148, 1, none⟩ = some (.int .i64 a2_1) := (zZ BK148.out 1).trans rfl
              have hcz78_2 : wc.cell? ⟨gb148, 2, none⟩ = some (.int .i64 a2_2) := (zZ BK148.out 2).trans rfl
              have hfz78_0 := zY BK148.out 0
              have hfz78_1 := zY BK148.out 1
              have hfz78_2 := zY BK148.out 2
              go_wp2
              repeat (go_quiet (fail); try go_wp2)
              go_ret
              exact ⟨by first | rfl | (simp [errW_none, errW_some] <;> rfl) | (simp [*, errW_none, errW_some] <;> rfl), by repeat (first | (with_reducible first | exact HB.out | apply zE | apply zC | apply zD | refine zB ?_ GE146.out | refine zB ?_ GE147.out | refine zB ?_ GE148.out) | exact HB.out)⟩
            ·rw [if_neg c71] at H
             have c71b0 : (a2_0 == 5) = false := zm.mpr c71
             have c71b1 : (a2_0 != 5) = true := bne_iff_ne.mpr c71
             have HC79 := zA H
             clear H
             have hnb80 := NB148_146.out
             have hnc80 := NB146_148.out
             have hnb81 := NB148_147.out
             have hnc81 := NB147_148.out
             have hcz82_0 : wc.cell? ⟨gb148, 0, none⟩ = some (.int .i64 a2_0) := (zZ BK148.out 0).trans rfl
             have hcz82_1 : wc.cell? ⟨gb148, 1, none⟩ = some (.int .i64 a2_1) := (zZ BK148.out 1).trans rfl
             have hcz82_2 : wc.cell? ⟨gb148, 2, none⟩ = some (.int .i64 a2_2) := (zZ BK148.out 2).trans rfl
             have hfz82_0 := zY BK148.out 0
             have hfz82_1 := zY BK148.out 1
             have hfz82_2 := zY BK148.out 2
             go_upto_region 17 with (fail)
             repeat (go_quiet (fail); go_upto_region 17 with (fail))
             go_cut [100] (fun v100 wc => ∃ (kq : Nat) (x100_78 : Bool), v100 = .bool x100_78 ∧ Aside0 (spec_l3insOK.j2 kq x100_78 a1_0 l1_1 l1_2 a2_0 a2_1 a2_2 = some r) ∧ Aside0 (kq ≤ kj52) ∧ Aside0 (wc.heap[gb146]? = some (.cells #[(.slice A0_0 l0_0.length c0_0), .int .i64 a0_1, (.slice A0_2 l0_2.length c0_2)] 38 (0, 0))) ∧ Aside0 (wc.heap[gb147]? = some (.cells #[.int .i64 a1_0, (.slice A1_1 l1_1.length c1_1), (.slice A1_2 l1_2.length c1_2)] 68 (0, 0))) ∧ Aside0 (wc.heap[gb148]? = some (.cells #[.int .i64 a2_0, .int .i64 a2_1, .int .i64 a2_2] 71 (0, 0))) ∧ Aside0 (Below w.heap.size w wc))
             case first =>
              have H := HC79.out
              clear HC79
              by_cases c83 : a2_0 = 9
              ·rw [if_pos c83] at H
               have c83b0 : (a2_0 == 9) = true := beq_iff_eq.mpr c83
               have c83b1 : (a2_0 != 9) = false := zn.mpr c83
               clear c83
               (first | rw [c83b0] | (simp only [i64_w, i32_w]; rw [c83b0]) | skip)
               have H' := zA H
               clear H
               have hnb84 := NB148_146.out
               have hnc84 := NB146_148.out
               have hnb85 := NB148_147.out
               have hnc85 := NB147_148.out
               have hcz86_0 : wc.cell? ⟨gb148, 0, none⟩ = some (.int .i64 a2_0) := (zZ BK148.out 0).trans rfl
               have hcz86_1 : wc.cell? ⟨gb148, 1, none⟩ = some (.int .i64 a2_1) := (zZ BK148.out 1).trans rfl
               have hcz86_2 : wc.cell? ⟨gb148, 2, none⟩ = some (.int .i64 a2_2) := (zZ BK148.out 2).trans rfl
               have hfz86_0 := zY BK148.out 0
               have hfz86_1 := zY BK148.out 1
               have hfz86_2 := zY BK148.out 2
               go_wp2
               repeat (go_quiet (fail); try go_wp2)
               go_meet
               case rel => exact ⟨_, (true), (by first | rfl | (simp; done) | (simp [*]; done)), H', ⟨by have := HJ3.out; have := HJ52.out; first | omega | exact Nat.le_refl _⟩, ⟨by exact kUp BK146.out⟩, ⟨by exact kUp BK147.out⟩, ⟨by exact kUp BK148.out⟩, ⟨by repeat (first | (with_reducible first | exact HB.out | apply zE | apply zC | apply zD | refine zB ?_ GE146.out | refine zB ?_ GE147.out | refine zB ?_ GE148.out) | exact HB.out)⟩⟩
              ·rw [if_neg c83] at H
               have c83b0 : (a2_0 == 9) = false := zm.mpr c83
               have c83b1 : (a2_0 != 9) = true := bne_iff_ne.mpr c83
               (first | rw [c83b0] | (simp only [i64_w, i32_w]; rw [c83b0]) | skip)
               have H' := zA H
               clear H
               have hnb87 := NB148_146.out
               have hnc87 := NB146_148.out
               have hnb88 := NB148_147.out
               have hnc88 := NB147_148.out
               have hcz89_0 : wc.cell? ⟨gb148, 0, none⟩ = some (.int .i64 a2_0) := (zZ BK148.out 0).trans rfl
               have hcz89_1 : wc.cell? ⟨gb148, 1, none⟩ = some (.int .i64 a2_1) := (zZ BK148.out 1).trans rfl
               have hcz89_2 : wc.cell? ⟨gb148, 2, none⟩ = some (.int .i64 a2_2) := (zZ BK148.out 2).trans rfl
               have hfz89_0 := zY BK148.out 0
               have hfz89_1 := zY BK148.out 1
               have hfz89_2 := zY BK148.out 2
               go_wp2
               repeat (go_quiet (fail); try go_wp2)
               go_meet
               case rel => exact ⟨_, ((a2_0 == 10)), (by first | rfl | (simp; done) | (simp [*]; done)), H', ⟨by have := HJ3.out; have := HJ52.out; first | omega | exact Nat.le_refl _⟩, ⟨by exact kUp BK146.out⟩, ⟨by exact kUp BK147.out⟩, ⟨by exact kUp BK148.out⟩, ⟨by repeat (first | (with_reducible first | exact HB.out | apply zE | apply zC | apply zD | refine zB ?_ GE146.out | refine zB ?_ GE147.out | refine zB ?_ GE148.out) | exact HB.out)⟩⟩
             case rest =>
              clear HC79
              try clear c1
              try clear p1
              try clear q1
              try clear hx1
              try clear c2
              try clear p2
              try clear c3
              try clear c4
              try clear c5
              try clear c6
              try clear c7
              try clear c8
              try clear c8b0
              try clear c9
              try clear c10
              try clear c12
              try clear c13
              try clear c14
              try clear p14
              try clear q14
              try clear hx14
              try clear c15
              try clear c16
              try clear c16b0
              try clear c16b1
              try clear c17
              try clear c17b0
              try clear c18
              try clear c18b0
              try clear c19
              try clear c19b0
              try clear c20
              try clear c21
              try clear c23
              try clear c25
              try clear c26
              try clear c28
              try clear c30
              try clear c31
              try clear c33
              try clear c33b0
              try clear c33b1
              try clear c34
              try clear c34b0
              try clear c34b1
              try clear c36
              try clear c37
              try clear c39
              try clear c41
              try clear c41b0
              try clear c41b1
              try clear c43
              try clear c44
              try clear c46
              try clear c46b0
              try clear c46b1
              try clear c48
              try clear c49
              try clear c51
              try clear c54
              try clear c55
              try clear c57
              try clear c57b0
              try clear c57b1
              try clear c58
              try clear c59
              try clear c61
              try clear c62
              try clear c64
              try clear c66
              try clear c67
              try clear c69
              try clear c71
              try clear c71b0
              try clear c71b1
              try clear c72
              try clear c72b0
              try clear c72b1
              try clear c73
              try clear c74
              try clear c76
              try clear c77
              try clear c80
              try clear c81
              try clear c83
              try clear c83b0
              try clear c83b1
              try clear c84
              try clear c85
              try clear c87
              try clear c88
              try clear hcz11_0
              try clear hcz11_1
              try clear hcz11_2
              try clear hcz14_0
              try clear hcz14_1
              try clear hcz14_2
              try clear hcz22_0
              try clear hcz22_1
              try clear hcz22_2
              try clear hcz24_0
              try clear hcz24_1
              try clear hcz24_2
              try clear hcz27_0
              try clear hcz27_1
              try clear hcz27_2
              try clear hcz29_0
              try clear hcz29_1
              try clear hcz29_2
              try clear hcz32_0
              try clear hcz32_1
              try clear hcz32_2
              try clear hcz38_0
              try clear hcz38_1
              try clear hcz38_2
              try clear hcz40_0
              try clear hcz40_1
              try clear hcz40_2
              try clear hcz45_0
              try clear hcz45_1
              try clear hcz45_2
              try clear hcz50_0
              try clear hcz50_1
              try clear hcz50_2
              try clear hcz52_0
              try clear hcz52_1
              try clear hcz52_2
              try clear hcz56_0
              try clear hcz56_1
              try clear hcz56_2
              try clear hcz60_0
              try clear hcz60_1
              try clear hcz60_2
              try clear hcz63_0
              try clear hcz63_1
              try clear hcz63_2
              try clear hcz68_0
              try clear hcz68_1
              try clear hcz68_2
              try clear hcz70_0
              try clear hcz70_1
              try clear hcz70_2
              try clear hcz75_0
              try clear hcz75_1
              try clear hcz75_2
              try clear hcz78_0
              try clear hcz78_1
              try clear hcz78_2
              try clear hcz82_0
              try clear hcz82_1
              try clear hcz82_2
              try clear hcz86_0
              try clear hcz86_1
              try clear hcz86_2
              try clear hcz89_0
              try clear hcz89_1
              try clear hcz89_2
              try clear hfz11_0
              try clear hfz11_1
              try clear hfz11_2
              try clear hfz14_0
              try clear hfz14_1
              try clear hfz14_2
              try clear hfz22_0
              try clear hfz22_1
              try clear hfz22_2
              try clear hfz24_0
              try clear hfz24_1
              try clear hfz24_2
              try clear hfz27_0
              try clear hfz27_1
              try clear hfz27_2
              try clear hfz29_0
              try clear hfz29_1
              try clear hfz29_2
              try clear hfz32_0
              try clear hfz32_1
              try clear hfz32_2
              try clear hfz38_0
              try clear hfz38_1
              try clear hfz38_2
              try clear hfz40_0
              try clear hfz40_1
              try clear hfz40_2
              try clear hfz45_0
              try clear hfz45_1
              try clear hfz45_2
              try clear hfz50_0
              try clear hfz50_1
              try clear hfz50_2
              try clear hfz52_0
              try clear hfz52_1
              try clear hfz52_2
              try clear hfz56_0
              try clear hfz56_1
              try clear hfz56_2
              try clear hfz60_0
              try clear hfz60_1
              try clear hfz60_2
              try clear hfz63_0
              try clear hfz63_1
              try clear hfz63_2
              try clear hfz68_0
              try clear hfz68_1
              try clear hfz68_2
              try clear hfz70_0
              try clear hfz70_1
              try clear hfz70_2
              try clear hfz75_0
              try clear hfz75_1
              try clear hfz75_2
              try clear hfz78_0
              try clear hfz78_1
              try clear hfz78_2
              try clear hfz82_0
              try clear hfz82_1
              try clear hfz82_2
              try clear hfz86_0
              try clear hfz86_1
              try clear hfz86_2
              try clear hfz89_0
              try clear hfz89_1
              try clear hfz89_2
              try clear hx149_0
              try clear hx149_1
              try clear hx149_2
              try clear p1
              try clear p14
              try clear p149
              try clear p2
              try clear q1
              try clear q14
              try clear q149
              obtain ⟨kq, x100_78, rfl, HA, HJ78, BK146, BK147, BK148, HB⟩ := hcut
              cases kq with
              | zero => exact absurd HA.out (by simp [spec_l3insOK.j2])
              | succ kj78 =>
               have H := HA.out
               clear HA
               simp only [spec_l3insOK.j2] at H
               by_cases c90 : x100_78 = true
               ·subst c90
                have H1 : ((spec_l3range.f a2_1 21).bind fun t154 => (some t154)) = some r := by rw [if_pos rfl] at H; exact H
                clear H
                have H := H1
                clear H1
                replace H := zo.mp H
                obtain ⟨t154, A910, H⟩ := H
                replace H : (some t154) = some r := H
                have A91 := zA A910
                clear A910
                obtain rfl := zl H
                have hnb92 := NB148_146.out
                have hnc92 := NB146_148.out
                have hnb93 := NB148_147.out
                have hnc93 := NB147_148.out
                have hcz94_0 : wc.cell? ⟨gb148, 0, none⟩ = some (.int .i64 a2_0) := (zZ BK148.out 0).trans rfl
                have hcz94_1 : wc.cell? ⟨gb148, 1, none⟩ = some (.int .i64 a2_1) := (zZ BK148.out 1).trans rfl
                have hcz94_2 : wc.cell? ⟨gb148, 2, none⟩ = some (.int .i64 a2_2) := (zZ BK148.out 2).trans rfl
                have hfz94_0 := zY BK148.out 0
                have hfz94_1 := zY BK148.out 1
                have hfz94_2 := zY BK148.out 2
                go_wp2_with (first | (go_at_call 69; (with_reducible refine (spec_l3range.calls a2_1 21 t154 _ A91.out).mono ?_); rintro e w' ⟨rfl, ⟨nd, rfl⟩⟩; (try first | exact ⟨rfl, _, World.drewN_drewN _ _ _⟩ | exact ⟨rfl, _, Eq.trans (World.drewN_drewN _ _ _) (congrArg (World.drewN _) (Nat.add_assoc _ _ _))⟩)))
                go_ret
                exact ⟨by first | rfl | (simp [errW_none, errW_some] <;> rfl) | (simp [*, errW_none, errW_some] <;> rfl), by repeat (first | (with_reducible first | exact HB.out | apply zE | apply zC | apply zD | refine zB ?_ GE146.out | refine zB ?_ GE147.out | refine zB ?_ GE148.out) | exact HB.out)⟩
               ·replace c90 := zp.mpr c90
                subst c90
                have H1 : (if a2_0 = 12 then (spec_l3insOK.j3 kj78 true a1_0 l1_1 l1_2 a2_0 a2_1 a2_2) else (spec_l3insOK.j3 kj78 (a2_0 == 13) a1_0 l1_1 l1_2 a2_0 a2_1 a2_2)) = some r := by rw [if_neg (show ¬ (false = true) by decide)] at H; exact H
                clear H
                have H := H1
                clear H1
                have HC95 := zA H
                clear H
                go_upto_region 19 with (fail)
                repeat (go_quiet (fail); go_upto_region 19 with (fail))
                go_cut [111] (fun v111 wc => ∃ (kq : Nat) (x111_94 : Bool), v111 = .bool x111_94 ∧ Aside0 (spec_l3insOK.j3 kq x111_94 a1_0 l1_1 l1_2 a2_0 a2_1 a2_2 = some r) ∧ Aside0 (kq ≤ kj78) ∧ Aside0 (wc.heap[gb146]? = some (.cells #[(.slice A0_0 l0_0.length c0_0), .int .i64 a0_1, (.slice A0_2 l0_2.length c0_2)] 38 (0, 0))) ∧ Aside0 (wc.heap[gb147]? = some (.cells #[.int .i64 a1_0, (.slice A1_1 l1_1.length c1_1), (.slice A1_2 l1_2.length c1_2)] 68 (0, 0))) ∧ Aside0 (wc.heap[gb148]? = some (.cells #[.int .i64 a2_0, .int .i64 a2_1, .int .i64 a2_2] 71 (0, 0))) ∧ Aside0 (Below w.heap.size w wc))
                case first =>
                 have H := HC95.out
                 clear HC95
                 by_cases c96 : a2_0 = 12
                 ·rw [if_pos c96] at H
                  have c96b0 : (a2_0 == 12) = true := beq_iff_eq.mpr c96
                  have c96b1 : (a2_0 != 12) = false := zn.mpr c96
                  clear c96
                  (first | rw [c96b0] | (simp only [i64_w, i32_w]; rw [c96b0]) | skip)
                  have H' := zA H
                  clear H
                  have hnb97 := NB148_146.out
                  have hnc97 := NB146_148.out
                  have hnb98 := NB148_147.out
                  have hnc98 := NB147_148.out
                  have hcz99_0 : wc.cell? ⟨gb148, 0, none⟩ = some (.int .i64 a2_0) := (zZ BK148.out 0).trans rfl
                  have hcz99_1 : wc.cell? ⟨gb148, 1, none⟩ = some (.int .i64 a2_1) := (zZ BK148.out 1).trans rfl
                  have hcz99_2 : wc.cell? ⟨gb148, 2, none⟩ = some (.int .i64 a2_2) := (zZ BK148.out 2).trans rfl
                  have hfz99_0 := zY BK148.out 0
                  have hfz99_1 := zY BK148.out 1
                  have hfz99_2 := zY BK148.out 2
                  go_wp2
                  repeat (go_quiet (fail); try go_wp2)
                  go_meet
                  case rel => exact ⟨_, (true), (by first | rfl | (simp; done) | (simp [*]; done)), H', ⟨by have := HJ3.out; have := HJ52.out; have := HJ78.out; first | omega | exact Nat.le_refl _⟩, ⟨by exact kUp BK146.out⟩, ⟨by exact kUp BK147.out⟩, ⟨by exact kUp BK148.out⟩, ⟨by repeat (first | (with_reducible first | exact HB.out | apply zE | apply zC | apply zD | refine zB ?_ GE146.out | refine zB ?_ GE147.out | refine zB ?_ GE148.out) | exact HB.out)⟩⟩
                 ·rw [if_neg c96] at H
                  have c96b0 : (a2_0 == 12) = false := zm.mpr c96
                  have c96b1 : (a2_0 != 12) = true := bne_iff_ne.mpr c96
                  (first | rw [c96b0] | (simp only [i64_w, i32_w]; rw [c96b0]) | skip)
                  have H' := zA H
                  clear H
                  have hnb100 := NB148_146.out
                  have hnc100 := NB146_148.out
                  have hnb101 := NB148_147.out
                  have hnc101 := NB147_148.out
                  have hcz102_0 : wc.cell? ⟨gb148, 0, none⟩ = some (.int .i64 a2_0) := (zZ BK148.out 0).trans rfl
                  have hcz102_1 : wc.cell? ⟨gb148, 1, none⟩ = some (.int .i64 a2_1) := (zZ BK148.out 1).trans rfl
                  have hcz102_2 : wc.cell? ⟨gb148, 2, none⟩ = some (.int .i64 a2_2) := (zZ BK148.out 2).trans rfl
                  have hfz102_0 := zY BK148.out 0
                  have hfz102_1 := zY BK148.out 1
                  have hfz102_2 := zY BK148.out 2
                  go_wp2
                  repeat (go_quiet (fail); try go_wp2)
                  go_meet
                  case rel => exact ⟨_, ((a2_0 == 13)), (by first | rfl | (simp; done) | (simp [*]; done)), H', ⟨by have := HJ3.out; have := HJ52.out; have := HJ78.out; first | omega | exact Nat.le_refl _⟩, ⟨by exact kUp BK146.out⟩, ⟨by exact kUp BK147.out⟩, ⟨by exact kUp BK148.out⟩, ⟨by repeat (first | (with_reducible first | exact HB.out | apply zE | apply zC | apply zD | refine zB ?_ GE146.out | refine zB ?_ GE147.out | refine zB ?_ GE148.out) | exact HB.out)⟩⟩
                case rest =>
                 clear HC95
                 try clear c1
                 try clear p1
                 try clear q1
                 try clear hx1
                 try clear c2
                 try clear p2
                 try clear c3
                 try clear c4
                 try clear c5
                 try clear c6
                 try clear c7
                 try clear c8
                 try clear c8b0
                 try clear c9
                 try clear c10
                 try clear c12
                 try clear c13
                 try clear c14
                 try clear p14
                 try clear q14
                 try clear hx14
                 try clear c15
                 try clear c16
                 try clear c16b0
                 try clear c16b1
                 try clear c17
                 try clear c17b0
                 try clear c18
                 try clear c18b0
                 try clear c19
                 try clear c19b0
                 try clear c20
                 try clear c21
                 try clear c23
                 try clear c25
                 try clear c26
                 try clear c28
                 try clear c30
                 try clear c31
                 try clear c33
                 try clear c33b0
                 try clear c33b1
                 try clear c34
                 try clear c34b0
                 try clear c34b1
                 try clear c36
                 try clear c37
                 try clear c39
                 try clear c41
                 try clear c41b0
                 try clear c41b1
                 try clear c43
                 try clear c44
                 try clear c46
                 try clear c46b0
                 try clear c46b1
                 try clear c48
                 try clear c49
                 try clear c51
                 try clear c54
                 try clear c55
                 try clear c57
                 try clear c57b0
                 try clear c57b1
                 try clear c58
                 try clear c59
                 try clear c61
                 try clear c62
                 try clear c64
                 try clear c66
                 try clear c67
                 try clear c69
                 try clear c71
                 try clear c71b0
                 try clear c71b1
                 try clear c72
                 try clear c72b0
                 try clear c72b1
                 try clear c73
                 try clear c74
                 try clear c76
                 try clear c77
                 try clear c80
                 try clear c81
                 try clear c83
                 try clear c83b0
                 try clear c83b1
                 try clear c84
                 try clear c85
                 try clear c87
                 try clear c88
                 try clear c90
                 try clear c92
                 try clear c93
                 try clear c96
                 try clear c96b0
                 try clear c96b1
                 try clear c97
                 try clear c98
                 try clear c100
                 try clear c101
                 try clear hcz102_0
                 try clear hcz102_1
                 try clear hcz102_2
                 try clear hcz11_0
                 try clear hcz11_1
                 try clear hcz11_2
                 try clear hcz14_0
                 try clear hcz14_1
                 try clear hcz14_2
                 try clear hcz22_0
                 try clear hcz22_1
                 try clear hcz22_2
                 try clear hcz24_0
                 try clear hcz24_1
                 try clear hcz24_2
                 try clear hcz27_0
                 try clear hcz27_1
                 try clear hcz27_2
                 try clear hcz29_0
                 try clear hcz29_1
                 try clear hcz29_2
                 try clear hcz32_0
                 try clear hcz32_1
                 try clear hcz32_2
                 try clear hcz38_0
                 try clear hcz38_1
                 try clear hcz38_2
                 try clear hcz40_0
                 try clear hcz40_1
                 try clear hcz40_2
                 try clear hcz45_0
                 try clear hcz45_1
                 try clear hcz45_2
                 try clear hcz50_0
                 try clear hcz50_1
                 try clear hcz50_2
                 try clear hcz52_0
                 try clear hcz52_1
                 try clear hcz52_2
                 try clear hcz56_0
                 try clear hcz56_1
                 try clear hcz56_2
                 try clear hcz60_0
                 try clear hcz60_1
                 try clear hcz60_2
                 try clear hcz63_0
                 try clear hcz63_1
                 try clear hcz63_2
                 try clear hcz68_0
                 try clear hcz68_1
                 try clear hcz68_2
                 try clear hcz70_0
                 try clear hcz70_1
                 try clear hcz70_2
                 try clear hcz75_0
                 try clear hcz75_1
                 try clear hcz75_2
                 try clear hcz78_0
                 try clear hcz78_1
                 try clear hcz78_2
                 try clear hcz82_0
                 try clear hcz82_1
                 try clear hcz82_2
                 try clear hcz86_0
                 try clear hcz86_1
                 try clear hcz86_2
                 try clear hcz89_0
                 try clear hcz89_1
                 try clear hcz89_2
                 try clear hcz94_0
                 try clear hcz94_1
                 try clear hcz94_2
                 try clear hcz99_0
                 try clear hcz99_1
                 try clear hcz99_2
                 try clear hfz102_0
                 try clear hfz102_1
                 try clear hfz102_2
                 try clear hfz11_0
                 try clear hfz11_1
                 try clear hfz11_2
                 try clear hfz14_0
                 try clear hfz14_1
                 try clear hfz14_2
                 try clear hfz22_0
                 try clear hfz22_1
                 try clear hfz22_2
                 try clear hfz24_0
                 try clear hfz24_1
                 try clear hfz24_2
                 try clear hfz27_0
                 try clear hfz27_1
                 try clear hfz27_2
                 try clear hfz29_0
                 try clear hfz29_1
                 try clear hfz29_2
                 try clear hfz32_0
                 try clear hfz32_1
                 try clear hfz32_2
                 try clear hfz38_0
                 try clear hfz38_1
                 try clear hfz38_2
                 try clear hfz40_0
                 try clear hfz40_1
                 try clear hfz40_2
                 try clear hfz45_0
                 try clear hfz45_1
                 try clear hfz45_2
                 try clear hfz50_0
                 try clear hfz50_1
                 try clear hfz50_2
                 try clear hfz52_0
                 try clear hfz52_1
                 try clear hfz52_2
                 try clear hfz56_0
                 try clear hfz56_1
                 try clear hfz56_2
                 try clear hfz60_0
                 try clear hfz60_1
                 try clear hfz60_2
                 try clear hfz63_0
                 try clear hfz63_1
                 try clear hfz63_2
                 try clear hfz68_0
                 try clear hfz68_1
                 try clear hfz68_2
                 try clear hfz70_0
                 try clear hfz70_1
                 try clear hfz70_2
                 try clear hfz75_0
                 try clear hfz75_1
                 try clear hfz75_2
                 try clear hfz78_0
                 try clear hfz78_1
                 try clear hfz78_2
                 try clear hfz82_0
                 try clear hfz82_1
                 try clear hfz82_2
                 try clear hfz86_0
                 try clear hfz86_1
                 try clear hfz86_2
                 try clear hfz89_0
                 try clear hfz89_1
                 try clear hfz89_2
                 try clear hfz94_0
                 try clear hfz94_1
                 try clear hfz94_2
                 try clear hfz99_0
                 try clear hfz99_1
                 try clear hfz99_2
                 try clear hx149_0
                 try clear hx149_1
                 try clear hx149_2
                 try clear p1
                 try clear p14
                 try clear p149
                 try clear p2
                 try clear q1
                 try clear q14
                 try clear q149
                 obtain ⟨kq, x111_94, rfl, HA, HJ94, BK146, BK147, BK148, HB⟩ := hcut
                 cases kq with
                 | zero => exact absurd HA.out (by simp [spec_l3insOK.j3])
                 | succ kj94 =>
                  have H := HA.out
                  clear HA
                  simp only [spec_l3insOK.j3] at H
                  by_cases c103 : x111_94 = true
                  ·subst c103
                   have H1 : ((spec_l3range.f a2_1 (l1_2.length : Int)).bind fun t155 => (some t155)) = some r := by rw [if_pos rfl] at H; exact H
                   clear H
                   have H := H1
                   clear H1
                   replace H := zo.mp H
                   obtain ⟨t155, A1040, H⟩ := H
                   replace H : (some t155) = some r := H
                   have A104 := zA A1040
                   clear A1040
                   obtain rfl := zl H
                   have hnb105 := NB148_146.out
                   have hnc105 := NB146_148.out
                   have hnb106 := NB148_147.out
                   have hnc106 := NB147_148.out
                   have hcz107_0 : wc.cell? ⟨gb148, 0, none⟩ = some (.int .i64 a2_0) := (zZ BK148.out 0).trans rfl
                   have hcz107_1 : wc.cell? ⟨gb148, 1, none⟩ = some (.int .i64 a2_1) := (zZ BK148.out 1).trans rfl
                   have hcz107_2 : wc.cell? ⟨gb148, 2, none⟩ = some (.int .i64 a2_2) := (zZ BK148.out 2).trans rfl
                   have hfz107_0 := zY BK148.out 0
                   have hfz107_1 := zY BK148.out 1
                   have hfz107_2 := zY BK148.out 2
                   have hnb108 := NB147_146.out
                   have hnc108 := NB146_147.out
                   have hcz109_0 : wc.cell? ⟨gb147, 0, none⟩ = some (.int .i64 a1_0) := (zZ BK147.out 0).trans rfl
                   have hcz109_1 : wc.cell? ⟨gb147, 1, none⟩ = some (.slice A1_1 l1_1.length c1_1) := (zZ BK147.out 1).trans rfl
                   have hcz109_2 : wc.cell? ⟨gb147, 2, none⟩ = some (.slice A1_2 l1_2.length c1_2) := (zZ BK147.out 2).trans rfl
                   have hfz109_0 := zY BK147.out 0
                   have hfz109_1 := zY BK147.out 1
                   have hfz109_2 := zY BK147.out 2
                   go_wp2_with (first | (go_at_call 69; (with_reducible refine (spec_l3range.calls a2_1 (l1_2.length : Int) t155 _ A104.out).mono ?_); rintro e w' ⟨rfl, ⟨nd, rfl⟩⟩; (try first | exact ⟨rfl, _, World.drewN_drewN _ _ _⟩ | exact ⟨rfl, _, Eq.trans (World.drewN_drewN _ _ _) (congrArg (World.drewN _) (Nat.add_assoc _ _ _))⟩)))
                   go_ret
                   exact ⟨by first | rfl | (simp [errW_none, errW_some] <;> rfl) | (simp [*, errW_none, errW_some] <;> rfl), by repeat (first | (with_reducible first | exact HB.out | apply zE | apply zC | apply zD | refine zB ?_ GE146.out | refine zB ?_ GE147.out | refine zB ?_ GE148.out) | exact HB.out)⟩
                  ·replace c103 := zp.mpr c103
                   subst c103
                   have H1 : (if a2_0 = 14 then ((spec_l3range.f a2_1 22).bind fun t156 => (some t156)) else (if a2_0 = 15 then ((spec_l3range.f a2_1 201).bind fun t157 => (some t157)) else (some (a2_1 == 0)))) = some r := by rw [if_neg (show ¬ (false = true) by decide)] at H; exact H
                   clear H
                   have H := H1
                   clear H1
                   by_cases c110 : a2_0 = 14
                   ·rw [if_pos c110] at H
                    have c110b0 : (a2_0 == 14) = true := beq_iff_eq.mpr c110
                    have c110b1 : (a2_0 != 14) = false := zn.mpr c110
                    clear c110
                    replace H := zo.mp H
                    obtain ⟨t156, A1110, H⟩ := H
                    replace H : (some t156) = some r := H
                    have A111 := zA A1110
                    clear A1110
                    obtain rfl := zl H
                    have hnb112 := NB148_146.out
                    have hnc112 := NB146_148.out
                    have hnb113 := NB148_147.out
                    have hnc113 := NB147_148.out
                    have hcz114_0 : wc.cell? ⟨gb148, 0, none⟩ = some (.int .i64 a2_0) := (zZ BK148.out 0).trans rfl
                    have hcz114_1 : wc.cell? ⟨gb148, 1, none⟩ = some (.int .i64 a2_1) := (zZ BK148.out 1).trans rfl
                    have hcz114_2 : wc.cell? ⟨gb148, 2, none⟩ = some (.int .i64 a2_2) := (zZ BK148.out 2).trans rfl
                    have hfz114_0 := zY BK148.out 0
                    have hfz114_1 := zY BK148.out 1
                    have hfz114_2 := zY BK148.out 2
                    go_wp2_with (first | (go_at_call 69; (with_reducible refine (spec_l3range.calls a2_1 22 t156 _ A111.out).mono ?_); rintro e w' ⟨rfl, ⟨nd, rfl⟩⟩; (try first | exact ⟨rfl, _, World.drewN_drewN _ _ _⟩ | exact ⟨rfl, _, Eq.trans (World.drewN_drewN _ _ _) (congrArg (World.drewN _) (Nat.add_assoc _ _ _))⟩)))
                    go_ret
                    exact ⟨by first | rfl | (simp [errW_none, errW_some] <;> rfl) | (simp [*, errW_none, errW_some] <;> rfl), by repeat (first | (with_reducible first | exact HB.out | apply zE | apply zC | apply zD | refine zB ?_ GE146.out | refine zB ?_ GE147.out | refine zB ?_ GE148.out) | exact HB.out)⟩
                   ·rw [if_neg c110] at H
                    have c110b0 : (a2_0 == 14) = false := zm.mpr c110
                    have c110b1 : (a2_0 != 14) = true := bne_iff_ne.mpr c110
                    by_cases c115 : a2_0 = 15
                    ·rw [if_pos c115] at H
                     have c115b0 : (a2_0 == 15) = true := beq_iff_eq.mpr c115
                     have c115b1 : (a2_0 != 15) = false := zn.mpr c115
                     clear c115
                     replace H := zo.mp H
                     obtain ⟨t157, A1160, H⟩ := H
                     replace H : (some t157) = some r := H
                     have A116 := zA A1160
                     clear A1160
                     obtain rfl := zl H
                     have hnb117 := NB148_146.out
                     have hnc117 := NB146_148.out
                     have hnb118 := NB148_147.out
                     have hnc118 := NB147_148.out
                     have hcz119_0 : wc.cell? ⟨gb148, 0, none⟩ = some (.int .i64 a2_0) := (zZ BK148.out 0).trans rfl
                     have hcz119_1 : wc.cell? ⟨gb148, 1, none⟩ = some (.int .i64 a2_1) := (zZ BK148.out 1).trans rfl
                     have hcz119_2 : wc.cell? ⟨gb148, 2, none⟩ = some (.int .i64 a2_2) := (zZ BK148.out 2).trans rfl
                     have hfz119_0 := zY BK148.out 0
                     have hfz119_1 := zY BK148.out 1
                     have hfz119_2 := zY BK148.out 2
                     go_wp2_with (first | (go_at_call 69; (with_reducible refine (spec_l3range.calls a2_1 201 t157 _ A116.out).mono ?_); rintro e w' ⟨rfl, ⟨nd, rfl⟩⟩; (try first | exact ⟨rfl, _, World.drewN_drewN _ _ _⟩ | exact ⟨rfl, _, Eq.trans (World.drewN_drewN _ _ _) (congrArg (World.drewN _) (Nat.add_assoc _ _ _))⟩)))
                     go_ret
                     exact ⟨by first | rfl | (simp [errW_none, errW_some] <;> rfl) | (simp [*, errW_none, errW_some] <;> rfl), by repeat (first | (with_reducible first | exact HB.out | apply zE | apply zC | apply zD | refine zB ?_ GE146.out | refine zB ?_ GE147.out | refine zB ?_ GE148.out) | exact HB.out)⟩
                    ·rw [if_neg c115] at H
                     have c115b0 : (a2_0 == 15) = false := zm.mpr c115
                     have c115b1 : (a2_0 != 15) = true := bne_iff_ne.mpr c115
                     obtain rfl := zl H
                     have hnb120 := NB148_146.out
                     have hnc120 := NB146_148.out
                     have hnb121 := NB148_147.out
                     have hnc121 := NB147_148.out
                     have hcz122_0 : wc.cell? ⟨gb148, 0, none⟩ = some (.int .i64 a2_0) := (zZ BK148.out 0).trans rfl
                     have hcz122_1 : wc.cell? ⟨gb148, 1, none⟩ = some (.int .i64 a2_1) := (zZ BK148.out 1).trans rfl
                     have hcz122_2 : wc.cell? ⟨gb148, 2, none⟩ = some (.int .i64 a2_2) := (zZ BK148.out 2).trans rfl
                     have hfz122_0 := zY BK148.out 0
                     have hfz122_1 := zY BK148.out 1
                     have hfz122_2 := zY BK148.out 2
                     go_wp2
                     repeat (go_quiet (fail); try go_wp2)
                     go_ret
                     exact ⟨by first | rfl | (simp [errW_none, errW_some] <;> rfl) | (simp [*, errW_none, errW_some] <;> rfl), by repeat (first | (with_reducible first | exact HB.out | apply zE | apply zC | apply zD | refine zB ?_ GE146.out | refine zB ?_ GE147.out | refine zB ?_ GE148.out) | exact HB.out)⟩
     ·rw [if_neg c33] at H
      have c33b0 : (a2_2 == 0) = false := zm.mpr c33
      have c33b1 : (a2_2 != 0) = true := bne_iff_ne.mpr c33
      obtain rfl := zl H
      have hnb123 := NB148_146.out
      have hnc123 := NB146_148.out
      have hnb124 := NB148_147.out
      have hnc124 := NB147_148.out
      have hcz125_0 : wc.cell? ⟨gb148, 0, none⟩ = some (.int .i64 a2_0) := (zZ BK148.out 0).trans rfl
      have hcz125_1 : wc.cell? ⟨gb148, 1, none⟩ = some (.int .i64 a2_1) := (zZ BK148.out 1).trans rfl
      have hcz125_2 : wc.cell? ⟨gb148, 2, none⟩ = some (.int .i64 a2_2) := (zZ BK148.out 2).trans rfl
      have hfz125_0 := zY BK148.out 0
      have hfz125_1 := zY BK148.out 1
      have hfz125_2 := zY BK148.out 2
      go_wp2
      repeat (go_quiet (fail); try go_wp2)
      go_ret
      exact ⟨by first | rfl | (simp [errW_none, errW_some] <;> rfl) | (simp [*, errW_none, errW_some] <;> rfl), by repeat (first | (with_reducible first | exact HB.out | apply zE | apply zC | apply zD | refine zB ?_ GE146.out | refine zB ?_ GE147.out | refine zB ?_ GE148.out) | exact HB.out)⟩
end Go.Proofs.YtogmphjhdkgdjaaDoor.QFnExactValidModule
