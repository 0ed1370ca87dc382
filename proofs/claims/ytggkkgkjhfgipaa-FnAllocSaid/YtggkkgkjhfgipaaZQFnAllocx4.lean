-- Written by a program of this session (wip/tools/ownprint.py) over hand-proved contracts.
import Derived.Test.YtggkkgkjhfgipaaZQFnAllocx0
import Derived.Test.YtggkkgkjhfgipaaZQFnAllocx1
import Derived.Test.YtggkkgkjhfgipaaZQFnAllocx3
namespace Go.Proofs.Ytggkkgkjhfgipaa.QFnAlloc
open Go.RowKit Go.Proofs.YtggkkgkjhfgipaaW.PrintWords Go.Proofs.YtggkkgkjhfgipaaW.PrintLast Go.Proofs.YtggkkgkjhfgipaaW.PrintMore
attribute [local go_sem] max2_int min2_int max_two min_two max_three min_three max_four min_four   -- for this text's walks alone
set_option linter.unusedVariables false
set_option linter.unusedSimpArgs false

/-! ### spec_Alloc: function 26 -/
mutual
def spec_Alloc.j0 : Nat → Int → List Int → List Bool → Int → Bool → List Int → Int → Option (List Int × Int × Int × Int)
 | 0, _, _, _, _, _, _, _ => none
 | k + 1, x1, x2, x9, x11, x35, x134000, x134001 => if x35 = true then (some (([] : List Int), 0, 0, 1)) else (if x1 = 0 then (if x11 = 2 then (if x1 = 3 then (if x11 = 1 then (if x1 = 2 then (if x11 < 1 then (spec_Alloc.j1 k x1 x2 x9 x11 true x134000 x134001) else (if 0 < (x2.length : Int) then (if (rd x2 0) < 0 then (spec_Alloc.j1 k x1 x2 x9 x11 true x134000 x134001) else (spec_Alloc.j1 k x1 x2 x9 x11 ((Int.tmod (rd x2 0) 4) != 0) x134000 x134001)) else (none))) else (spec_Alloc.j1 k x1 x2 x9 x11 false x134000 x134001)) else (spec_Alloc.j1 k x1 x2 x9 x11 true x134000 x134001)) else (if x1 = 2 then (if x11 < 1 then (spec_Alloc.j1 k x1 x2 x9 x11 true x134000 x134001) else (if 0 < (x2.length : Int) then (if (rd x2 0) < 0 then (spec_Alloc.j1 k x1 x2 x9 x11 true x134000 x134001) else (spec_Alloc.j1 k x1 x2 x9 x11 ((Int.tmod (rd x2 0) 4) != 0) x134000 x134001)) else (none))) else (spec_Alloc.j1 k x1 x2 x9 x11 false x134000 x134001))) else (spec_Alloc.j1 k x1 x2 x9 x11 true x134000 x134001)) else (if x1 = 3 then (if x11 = 1 then (if x1 = 2 then (if x11 < 1 then (spec_Alloc.j1 k x1 x2 x9 x11 true x134000 x134001) else (if 0 < (x2.length : Int) then (if (rd x2 0) < 0 then (spec_Alloc.j1 k x1 x2 x9 x11 true x134000 x134001) else (spec_Alloc.j1 k x1 x2 x9 x11 ((Int.tmod (rd x2 0) 4) != 0) x134000 x134001)) else (none))) else (spec_Alloc.j1 k x1 x2 x9 x11 false x134000 x134001)) else (spec_Alloc.j1 k x1 x2 x9 x11 true x134000 x134001)) else (if x1 = 2 then (if x11 < 1 then (spec_Alloc.j1 k x1 x2 x9 x11 true x134000 x134001) else (if 0 < (x2.length : Int) then (if (rd x2 0) < 0 then (spec_Alloc.j1 k x1 x2 x9 x11 true x134000 x134001) else (spec_Alloc.j1 k x1 x2 x9 x11 ((Int.tmod (rd x2 0) 4) != 0) x134000 x134001)) else (none))) else (spec_Alloc.j1 k x1 x2 x9 x11 false x134000 x134001))))
def spec_Alloc.j1 : Nat → Int → List Int → List Bool → Int → Bool → List Int → Int → Option (List Int × Int × Int × Int)
 | 0, _, _, _, _, _, _, _ => none
 | k + 1, x1, x2, x9, x11, x71, x134000, x134001 => if x71 = true then (some (([] : List Int), 0, 0, 1)) else (spec_Alloc.l0 k x1 x2 x9 x11 0 x134000 x134001)
def spec_Alloc.l0 : Nat → Int → List Int → List Bool → Int → Int → List Int → Int → Option (List Int × Int × Int × Int)
 | 0, _, _, _, _, _, _, _ => none
 | k + 1, x1, x2, x9, x11, x12, x134000, x134001 => if x12 < x11 then (if 0 ≤ x12 then (if x12 < (x2.length : Int) then ((spec_l2word.f (rd x2 x12) x9).bind fun t148 => (if t148 = true then (spec_Alloc.l0 k x1 x2 x9 x11 (wrap64 (x12 + 1)) x134000 x134001) else (some (([] : List Int), 0, 0, 1)))) else (none)) else (none)) else (if (wrap64 ((wrap64 (x134001 + 1)) + x11)) > (x134000.length : Int) then (some (([] : List Int), 0, 0, 13)) else ((spec_l2copy.f x134000 x134001).bind fun bt149 => (if 0 ≤ x134001 then (if x134001 < (bt149.1.length : Int) then (spec_Alloc.l1 k x2 x11 0 x134000 x134001 (bt149.1.set (x134001 : Int).toNat (wrap64 ((wrap64 (4 * x11)) + x1))) bt149.2) else (none)) else (none))))
def spec_Alloc.l1 : Nat → List Int → Int → Int → List Int → Int → List Int → Int → Option (List Int × Int × Int × Int)
 | 0, _, _, _, _, _, _, _ => none
 | k + 1, x2, x11, x14, x134000, x134001, x154000, x154001 => if x14 < x11 then (if 0 ≤ x14 then (if x14 < (x2.length : Int) then (if 0 ≤ (wrap64 ((wrap64 (x134001 + 1)) + x14)) then (if (wrap64 ((wrap64 (x134001 + 1)) + x14)) < (x154000.length : Int) then (spec_Alloc.l1 k x2 x11 (wrap64 (x14 + 1)) x134000 x134001 (x154000.set ((wrap64 ((wrap64 (x134001 + 1)) + x14)) : Int).toNat (rd x2 x14)) x154001) else (none)) else (none)) else (none)) else (none)) else (some (x154000, wrap64 ((wrap64 (x134001 + 1)) + x11), wrap64 ((wrap64 (4 * x134001)) + 1), 0))
end
def spec_Alloc.f (k : Nat) (l0_0 : List Int) (a0_1 : Int) (a1 : Int) (l2 : List Int) : Option (List Int × Int × Int × Int) := (spec_l2valid.f k l0_0 a0_1).bind fun bt135 => (if bt135.2 = true then (if a1 < 0 then (spec_Alloc.j0 k a1 l2 bt135.1 (l2.length : Int) true l0_0 a0_1) else (if a1 > 3 then (spec_Alloc.j0 k a1 l2 bt135.1 (l2.length : Int) true l0_0 a0_1) else (spec_Alloc.j0 k a1 l2 bt135.1 (l2.length : Int) (decide ((l2.length : Int) > 1000)) l0_0 a0_1))) else (spec_Alloc.j0 k a1 l2 bt135.1 (l2.length : Int) true l0_0 a0_1))
theorem spec_Alloc.mono_l : ∀ k, (∀ y0 y1 y2 y3 y4 y5 y6, LeO (spec_Alloc.j0 k y0 y1 y2 y3 y4 y5 y6) (spec_Alloc.j0 (k + 1) y0 y1 y2 y3 y4 y5 y6)) ∧ (∀ y0 y1 y2 y3 y4 y5 y6, LeO (spec_Alloc.j1 k y0 y1 y2 y3 y4 y5 y6) (spec_Alloc.j1 (k + 1) y0 y1 y2 y3 y4 y5 y6)) ∧ (∀ y0 y1 y2 y3 y4 y5 y6, LeO (spec_Alloc.l0 k y0 y1 y2 y3 y4 y5 y6) (spec_Alloc.l0 (k + 1) y0 y1 y2 y3 y4 y5 y6)) ∧ (∀ y0 y1 y2 y3 y4 y5 y6, LeO (spec_Alloc.l1 k y0 y1 y2 y3 y4 y5 y6) (spec_Alloc.l1 (k + 1) y0 y1 y2 y3 y4 y5 y6))
 | 0 => ⟨fun _ _ _ _ _ _ _ r h => by simp [spec_Alloc.j0] at h, fun _ _ _ _ _ _ _ r h => by simp [spec_Alloc.j1] at h, fun _ _ _ _ _ _ _ r h => by simp [spec_Alloc.l0] at h, fun _ _ _ _ _ _ _ r h => by simp [spec_Alloc.l1] at h⟩
 | k + 1 => by
  obtain ⟨ih0, ih1, ih2, ih3⟩ := spec_Alloc.mono_l k
  refine ⟨?_, ?_, ?_, ?_⟩
  ·intro y0 y1 y2 y3 y4 y5 y6
   unfold spec_Alloc.j0
   repeat' first
   | (with_reducible exact ih0 _ _ _ _ _ _ _)
   | (with_reducible exact ih1 _ _ _ _ _ _ _)
   | (with_reducible exact ih2 _ _ _ _ _ _ _)
   | (with_reducible exact ih3 _ _ _ _ _ _ _)
   | (with_reducible exact spec_l2valid.mono _ _ _)
   | (with_reducible exact LeO.refl _)
   | (with_reducible exact LeO.none _)
   | (with_reducible refine LeO.ite ?_ ?_)
   | (with_reducible refine LeO.bind ?_ (fun _ => ?_))
   | exact ih0 _ _ _ _ _ _ _
   | exact ih1 _ _ _ _ _ _ _
   | exact ih2 _ _ _ _ _ _ _
   | exact ih3 _ _ _ _ _ _ _
   | exact spec_l2valid.mono _ _ _
   | exact LeO.none _
   | refine LeO.ite ?_ ?_
   | refine LeO.bind ?_ (fun _ => ?_)
  ·intro y0 y1 y2 y3 y4 y5 y6
   unfold spec_Alloc.j1
   repeat' first
   | (with_reducible exact ih0 _ _ _ _ _ _ _)
   | (with_reducible exact ih1 _ _ _ _ _ _ _)
   | (with_reducible exact ih2 _ _ _ _ _ _ _)
   | (with_reducible exact ih3 _ _ _ _ _ _ _)
   | (with_reducible exact spec_l2valid.mono _ _ _)
   | (with_reducible exact LeO.refl _)
   | (with_reducible exact LeO.none _)
   | (with_reducible refine LeO.ite ?_ ?_)
   | (with_reducible refine LeO.bind ?_ (fun _ => ?_))
   | exact ih0 _ _ _ _ _ _ _
   | exact ih1 _ _ _ _ _ _ _
   | exact ih2 _ _ _ _ _ _ _
   | exact ih3 _ _ _ _ _ _ _
   | exact spec_l2valid.mono _ _ _
   | exact LeO.none _
   | refine LeO.ite ?_ ?_
   | refine LeO.bind ?_ (fun _ => ?_)
  ·intro y0 y1 y2 y3 y4 y5 y6
   unfold spec_Alloc.l0
   repeat' first
   | (with_reducible exact ih0 _ _ _ _ _ _ _)
   | (with_reducible exact ih1 _ _ _ _ _ _ _)
   | (with_reducible exact ih2 _ _ _ _ _ _ _)
   | (with_reducible exact ih3 _ _ _ _ _ _ _)
   | (with_reducible exact spec_l2valid.mono _ _ _)
   | (with_reducible exact LeO.refl _)
   | (with_reducible exact LeO.none _)
   | (with_reducible refine LeO.ite ?_ ?_)
   | (with_reducible refine LeO.bind ?_ (fun _ => ?_))
   | exact ih0 _ _ _ _ _ _ _
   | exact ih1 _ _ _ _ _ _ _
   | exact ih2 _ _ _ _ _ _ _
   | exact ih3 _ _ _ _ _ _ _
   | exact spec_l2valid.mono _ _ _
   | exact LeO.none _
   | refine LeO.ite ?_ ?_
   | refine LeO.bind ?_ (fun _ => ?_)
  ·intro y0 y1 y2 y3 y4 y5 y6
   unfold spec_Alloc.l1
   repeat' first
   | (with_reducible exact ih0 _ _ _ _ _ _ _)
   | (with_reducible exact ih1 _ _ _ _ _ _ _)
   | (with_reducible exact ih2 _ _ _ _ _ _ _)
   | (with_reducible exact ih3 _ _ _ _ _ _ _)
   | (with_reducible exact spec_l2valid.mono _ _ _)
   | (with_reducible exact LeO.refl _)
   | (with_reducible exact LeO.none _)
   | (with_reducible refine LeO.ite ?_ ?_)
   | (with_reducible refine LeO.bind ?_ (fun _ => ?_))
   | exact ih0 _ _ _ _ _ _ _
   | exact ih1 _ _ _ _ _ _ _
   | exact ih2 _ _ _ _ _ _ _
   | exact ih3 _ _ _ _ _ _ _
   | exact spec_l2valid.mono _ _ _
   | exact LeO.none _
   | refine LeO.ite ?_ ?_
   | refine LeO.bind ?_ (fun _ => ?_)
theorem spec_Alloc.mono : ∀ a0 a1 a2 a3 k, LeO (spec_Alloc.f k a0 a1 a2 a3) (spec_Alloc.f (k + 1) a0 a1 a2 a3) := by
 intro a0 a1 a2 a3 k
 obtain ⟨ih0, ih1, ih2, ih3⟩ := spec_Alloc.mono_l k
 unfold spec_Alloc.f
 repeat' first
   | (with_reducible exact ih0 _ _ _ _ _ _ _)
   | (with_reducible exact ih1 _ _ _ _ _ _ _)
   | (with_reducible exact ih2 _ _ _ _ _ _ _)
   | (with_reducible exact ih3 _ _ _ _ _ _ _)
   | (with_reducible exact spec_l2valid.mono _ _ _)
   | (with_reducible exact LeO.refl _)
   | (with_reducible exact LeO.none _)
   | (with_reducible refine LeO.ite ?_ ?_)
   | (with_reducible refine LeO.bind ?_ (fun _ => ?_))
   | exact ih0 _ _ _ _ _ _ _
   | exact ih1 _ _ _ _ _ _ _
   | exact ih2 _ _ _ _ _ _ _
   | exact ih3 _ _ _ _ _ _ _
   | exact spec_l2valid.mono _ _ _
   | exact LeO.none _
   | refine LeO.ite ?_ ?_
   | refine LeO.bind ?_ (fun _ => ?_)
def spec_Alloc.T19 : Bool × List (List Nat × List Nat) := (true, [([], []), ([0], [0]), ([], []), ([2], [2]), ([3], [3]), ([], []), ([4, 5], [4, 5]), ([], []), ([], []), ([7, 8], [7, 8]), ([9], [9]), ([1, 6, 0, 1, 2, 3, 4, 5, 6, 7, 8, 9, 10], [1, 6]), ([11, 10, 0, 1, 2, 3, 4, 5, 6, 7, 8, 9, 10], [10, 11])])
def spec_Alloc.B19 : List Nat := [0, 1, 0, 4, 12, 0, 60, 0, 0, 384, 896, 2047, 4095]
theorem spec_Alloc.tab19 : rtab .any (opsOf Try.f26 19) = spec_Alloc.T19 := by kernel_rfl
theorem spec_Alloc.bits19 : waitsOk spec_Alloc.T19.2 spec_Alloc.B19 = true := by kernel_rfl
def spec_Alloc.T21 : Bool × List (List Nat × List Nat) := (true, [([], []), ([], []), ([1], [1]), ([2], [2]), ([3], [3]), ([0, 0], [0]), ([4, 5, 0, 1, 2, 3, 4, 5], [4]), ([6, 0, 1, 2, 3, 4, 5, 6], [])])
def spec_Alloc.B21 : List Nat := [0, 0, 2, 6, 14, 1, 63, 127]
theorem spec_Alloc.tab21 : rtab .any (opsOf Try.f26 21) = spec_Alloc.T21 := by kernel_rfl
theorem spec_Alloc.bits21 : waitsOk spec_Alloc.T21.2 spec_Alloc.B21 = true := by kernel_rfl
set_option maxHeartbeats 8000000 in
set_option maxRecDepth 100000 in
theorem spec_Alloc.calls (k : Nat) (A0_0 : Option Addr) (c0_0 : Nat) (l0_0 : List Int) (a0_1 : Int) (a1 : Int) (A2 : Option Addr) (c2 : Nat) (l2 : List Int) (r1 : List Int) (r2 : Int) (r3 : Int) (r4 : Int) (w : World) (hr0_0 : Kd.C (Kd.int .i64) w A0_0 l0_0.length l0_0) (hc0_0 : l0_0.length ≤ c0_0) (hr2 : Kd.C (Kd.int .i64) w A2 l2.length l2) (hc2 : l2.length ≤ c2) (h : spec_Alloc.f k l0_0 a0_1 a1 l2 = some (r1, r2, r3, r4)) :
  Calls Try.prog 26 #[.agg #[.slice A0_0 l0_0.length c0_0, .int .i64 a0_1], .int .i64 a1, .slice A2 l2.length c2] w fun e w' => ∃ v0_ : Value, e = .returned (.tuple #[.agg #[v0_, .int .i64 r2], .int .i64 r3, .int .i64 r4]) ∧ Kd.R (Kd.int .i64) 3 w' w.heap.size (fun _ => True) v0_ r1 ∧ Below w.heap.size w w' := by
 have hu31 := Try.underlying31
 have HR0_0 := zA hr0_0
 have HC0_0 := zA hc0_0
 clear hr0_0 hc0_0
 have HR2 := zA hr2
 have HC2 := zA hc2
 clear hr2 hc2
 have HB := zA (Below.refl w.heap.size w)
 have H : ((spec_l2valid.f k l0_0 a0_1).bind fun bt135 => (if bt135.2 = true then (if a1 < 0 then (spec_Alloc.j0 k a1 l2 bt135.1 (l2.length : Int) true l0_0 a0_1) else (if a1 > 3 then (spec_Alloc.j0 k a1 l2 bt135.1 (l2.length : Int) true l0_0 a0_1) else (spec_Alloc.j0 k a1 l2 bt135.1 (l2.length : Int) (decide ((l2.length : Int) > 1000)) l0_0 a0_1))) else (spec_Alloc.j0 k a1 l2 bt135.1 (l2.length : Int) true l0_0 a0_1))) = some (r1, r2, r3, r4) := h
 clear h
 replace H := Option.bind_eq_some_iff.mp H
 obtain ⟨⟨t135, t138⟩, A40, H⟩ := H
 replace H : (if t138 = true then (if a1 < 0 then (spec_Alloc.j0 k a1 l2 t135 (l2.length : Int) true l0_0 a0_1) else (if a1 > 3 then (spec_Alloc.j0 k a1 l2 t135 (l2.length : Int) true l0_0 a0_1) else (spec_Alloc.j0 k a1 l2 t135 (l2.length : Int) (decide ((l2.length : Int) > 1000)) l0_0 a0_1))) else (spec_Alloc.j0 k a1 l2 t135 (l2.length : Int) true l0_0 a0_1)) = some (r1, r2, r3, r4) := H
 have A4 := zA A40
 clear A40
 have HC5 := zA H
 clear H
 go_enter Try.func26, Try.ntmps26
 go_upto_region 3 with (first | ((with_reducible refine gate_dst (N := 3) rfl ?_); refine box_event ?hg (N := 3) ?hd (cs := #[.slice A0_0 l0_0.length c0_0, .int .i64 a0_1]) (t := 31) ?hr ?_; (case hd => rfl); (case hg => rfl); (case hr => first | (go_simp; done) | (go_simp; rfl)); intro gb133 hg w6 hbox hb; have n0_ := zA (zX (bE HB.out) hb); have n1_ := zA (hbox); have n2_ := zA ((by rw [hg]; exact (below_size (bE HB.out)) : w.heap.size ≤ gb133)); have n3_ := zA ((by rw [hg]; exact (below_size (bE HB.out)) : w.heap.size ≤ gb133)); clear HB; have HB := n0_; have BK133 := n1_; have GW133 := n2_; have GE133 := n3_; clear n0_ n1_ n2_ n3_; clear hb hbox hg) | ((with_reducible refine gate_dst (N := 6) rfl ?_); refine box_event ?hg (N := 6) ?hd (cs := #[.slice none 0 0, .int .i64 0]) (t := 31) ?hr ?_; (case hd => rfl); (case hg => rfl); (case hr => first | (go_simp; done) | (go_simp; rfl)); intro gb134 hg w7 hbox hb; have n0_ := zA (zN (g := gb133) (o := .cells #[.slice A0_0 l0_0.length c0_0, .int .i64 a0_1] 31 (0, 0)) (bU BK133.out) hb); have n1_ := zA (zX (bA HB.out GE133.out) hb); have n2_ := zA (hbox); have n3_ := zA ((by rw [hg]; exact (below_size (bA HB.out GE133.out)) : w.heap.size ≤ gb134)); have n4_ := zA ((by rw [hg]; exact (below_size (bA HB.out GE133.out)) : w.heap.size ≤ gb134)); have n5_ := zA ((by rw [hg]; exact Nat.ne_of_lt (blk_lt (g := gb133) (o := .cells #[.slice A0_0 l0_0.length c0_0, .int .i64 a0_1] 31 (0, 0)) (bU BK133.out)) : gb133 ≠ gb134)); have n6_ := zA ((by rw [hg]; exact Nat.ne_of_gt (blk_lt (g := gb133) (o := .cells #[.slice A0_0 l0_0.length c0_0, .int .i64 a0_1] 31 (0, 0)) (bU BK133.out)) : gb134 ≠ gb133)); clear BK133 HB; have BK133 := n0_; have HB := n1_; have BK134 := n2_; have GW134 := n3_; have GE134 := n4_; have NB133_134 := n5_; have NB134_133 := n6_; clear n0_ n1_ n2_ n3_ n4_ n5_ n6_; clear hb hbox hg; have hnb8 := NB133_134.out; have hnc8 := NB134_133.out; have hcz9_0 : w7.cell? ⟨gb133, 0, none⟩ = some (.slice A0_0 l0_0.length c0_0) := (zZ BK133.out 0).trans rfl; have hcz9_1 : w7.cell? ⟨gb133, 1, none⟩ = some (.int .i64 a0_1) := (zZ BK133.out 1).trans rfl; have hfz9_0 := zY BK133.out 0; have hfz9_1 := zY BK133.out 1) | ((with_reducible refine gate_callee (f := 37) rfl ?_); refine goesL_ (some 17) rfl rfl Try.func37 (by kernel_rfl) rfl #[.agg #[.slice A0_0 l0_0.length c0_0, .int .i64 a0_1]] rfl (by (try simp only [List.map_toArray, List.map_cons, List.map_nil]); first | done | rfl | (simp only [List.length_drop, List.length_take]; rfl)) ?_; (with_reducible refine (spec_l2valid.calls k _ _ l0_0 a0_1 t135 t138 _ ?side1 ?side2 A4.out).mono ?_); (case side1 => repeat (first | exact (Kd.C_below HR0_0.out HB.out) | (with_reducible refine zc ?_ _) | (with_reducible refine zd ?_ _) | (with_reducible refine ze ?_))); (case side2 => exact HC0_0.out); rintro e w10 ⟨v136, rfl, ho0, hb⟩; refine ⟨_, rfl, ?_⟩; have n0_ := zA (Kd.R_lower ho0 (below_size (bD HB.out GE133.out GE134.out))); have n1_ := zA (zN (g := gb133) (o := .cells #[.slice A0_0 l0_0.length c0_0, .int .i64 a0_1] 31 (0, 0)) (bU BK133.out) hb); have n2_ := zA (zN (g := gb134) (o := .cells #[.slice none 0 0, .int .i64 0] 31 (0, 0)) (bU BK134.out) hb); have n3_ := zA (zX (bD HB.out GE133.out GE134.out) hb); clear BK133 BK134 HB; have HO137 := n0_; have BK133 := n1_; have BK134 := n2_; have HB := n3_; clear n0_ n1_ n2_ n3_; (try clear hb); (try clear hb2); (try clear hk); (try clear hi); (try clear ho0)))
 (try simp only [Act.put, List.setIfInBounds_toArray, List.set_cons_zero, List.set_cons_succ])
 go_cut [35] (fun v35 wc => ∃ (kq : Nat) (x35_4 : Bool), v35 = .bool x35_4 ∧ Aside0 (spec_Alloc.j0 kq a1 l2 t135 (l2.length : Int) x35_4 l0_0 a0_1 = some (r1, r2, r3, r4)) ∧ Aside0 (kq ≤ k) ∧ Aside0 (Kd.R Kd.bool 4 wc w.heap.size (fun _ => True) v136 t135) ∧ Aside0 (wc.heap[gb133]? = some (.cells #[(.slice A0_0 l0_0.length c0_0), .int .i64 a0_1] 31 (0, 0))) ∧ Aside0 (wc.heap[gb134]? = some (.cells #[(.slice none 0 0), .int .i64 0] 31 (0, 0))) ∧ Aside0 (Below w.heap.size w wc))
 case first =>
  have H := HC5.out
  clear HC5
  by_cases c11 : t138 = true
  ·subst c11
   have H1 : (if a1 < 0 then (spec_Alloc.j0 k a1 l2 t135 (l2.length : Int) true l0_0 a0_1) else (if a1 > 3 then (spec_Alloc.j0 k a1 l2 t135 (l2.length : Int) true l0_0 a0_1) else (spec_Alloc.j0 k a1 l2 t135 (l2.length : Int) (decide ((l2.length : Int) > 1000)) l0_0 a0_1))) = some (r1, r2, r3, r4) := by rw [if_pos rfl] at H; exact H
   clear H
   have H := H1
   clear H1
   by_cases c12 : a1 < 0
   ·rw [if_pos c12] at H
    have c12b0 : decide (a1 < 0) = true := zG c12
    clear c12
    (first | rw [c12b0] | (simp only [i64_w, i32_w]; rw [c12b0]) | skip)
    have H' := zA H
    clear H
    go_wp2
    go_meet
    case rel => exact ⟨_, (true), (by first | rfl | (simp; done) | (simp [*]; done)), H', ⟨by first | omega | exact Nat.le_refl _⟩, ⟨bR HO137.out⟩, ⟨bU BK133.out⟩, ⟨bU BK134.out⟩, ⟨bD HB.out GE133.out GE134.out⟩⟩
   ·rw [if_neg c12] at H
    have c12b0 : decide (a1 < 0) = false := zH c12
    clear c12
    (first | rw [c12b0] | (simp only [i64_w, i32_w]; rw [c12b0]) | skip)
    by_cases c13 : a1 > 3
    ·rw [if_pos c13] at H
     have c13b0 : decide (3 < a1) = true := zG c13
     clear c13
     have H' := zA H
     clear H
     go_wp2
     go_meet
     case rel => exact ⟨_, (true), (by first | rfl | (simp; done) | (simp [*]; done)), H', ⟨by first | omega | exact Nat.le_refl _⟩, ⟨bR HO137.out⟩, ⟨bU BK133.out⟩, ⟨bU BK134.out⟩, ⟨bD HB.out GE133.out GE134.out⟩⟩
    ·rw [if_neg c13] at H
     have c13b0 : decide (3 < a1) = false := zH c13
     clear c13
     have H' := zA H
     clear H
     go_wp2
     go_meet
     case rel => exact ⟨_, (decide ((l2.length : Int) > 1000)), (by first | rfl | (simp; done) | (simp [*]; done)), H', ⟨by first | omega | exact Nat.le_refl _⟩, ⟨bR HO137.out⟩, ⟨bU BK133.out⟩, ⟨bU BK134.out⟩, ⟨bD HB.out GE133.out GE134.out⟩⟩
  ·replace c11 := Bool.eq_false_iff.mpr c11
   subst c11
   have H1 : (spec_Alloc.j0 k a1 l2 t135 (l2.length : Int) true l0_0 a0_1) = some (r1, r2, r3, r4) := by rw [if_neg (show ¬ (false = true) by decide)] at H; exact H
   clear H
   have H := H1
   clear H1
   have H' := zA H
   clear H
   go_wp2
   go_meet
   case rel => exact ⟨_, (true), (by first | rfl | (simp; done) | (simp [*]; done)), H', ⟨by first | omega | exact Nat.le_refl _⟩, ⟨bR HO137.out⟩, ⟨bU BK133.out⟩, ⟨bU BK134.out⟩, ⟨bD HB.out GE133.out GE134.out⟩⟩
 case rest =>
  clear HC5
  try clear c1
  try clear c2
  try clear p2
  try clear c3
  try clear c8
  try clear c11
  try clear c12
  try clear c12b0
  try clear c13
  try clear c13b0
  try clear hcz9_0
  try clear hcz9_1
  try clear hfz9_0
  try clear hfz9_1
  obtain ⟨kq, x35_4, rfl, HA, HJ4, HO_9, BK133, BK134, HB⟩ := hcut
  cases kq with
  | zero => exact absurd HA.out (by simp [spec_Alloc.j0])
  | succ kj4 =>
   have H := HA.out
   clear HA
   simp only [spec_Alloc.j0] at H
   by_cases c14 : x35_4 = true
   ·subst c14
    have H1 : (some (([] : List Int), 0, 0, 1)) = some (r1, r2, r3, r4) := by rw [if_pos rfl] at H; exact H
    clear H
    have H := H1
    clear H1
    simp only [Option.some.injEq, Prod.mk.injEq] at H
    obtain ⟨rfl, rfl, rfl, rfl⟩ := H
    have hnb15 := NB134_133.out
    have hnc15 := NB133_134.out
    have hcz16_0 : wc.cell? ⟨gb134, 0, none⟩ = some (.slice none 0 0) := (zZ BK134.out 0).trans rfl
    have hcz16_1 : wc.cell? ⟨gb134, 1, none⟩ = some (.int .i64 0) := (zZ BK134.out 1).trans rfl
    have hfz16_0 := zY BK134.out 0
    have hfz16_1 := zY BK134.out 1
    go_wp2
    refine bodyPost_ret (results_ctt rfl _ _ gb134 31 #[.slice none 0 0, .int .i64 0] (0, 0) _ rfl (by (with_reducible repeat (first | refine blk_drewN ?_ _ | refine blk_drew ?_ | refine blk_alloc ?_ _)); refine blk_put (cs := #[.slice none 0 0, .int .i64 0]) ?_ 1 _ rfl; (with_reducible repeat (first | refine blk_drewN ?_ _ | refine blk_drew ?_ | refine blk_alloc ?_ _)); refine blk_put (cs := #[.slice none 0 0, .int .i64 0]) ?_ 0 _ rfl; exact bU BK134.out) Try.underlying31 rfl (by kernel_rfl)) rfl ?_
    exact ⟨_, by first | rfl | (simp [errW_none, errW_some] <;> rfl) | (simp [*, errW_none, errW_some] <;> rfl), by first | exact Kd.R_nil _ _ _ _ _ | exact Kd.N_nil _ _ _ _ _ | exact Kd.V_nil _ _ _ _ _ | exact Kd.Q_nil _ _ _ _ _ | exact Kd.S_nil _ _ _ _ _, bD HB.out GE133.out GE134.out⟩
   ·replace c14 := Bool.eq_false_iff.mpr c14
    subst c14
    have H1 : (if a1 = 0 then (if (l2.length : Int) = 2 then (if a1 = 3 then (if (l2.length : Int) = 1 then (if a1 = 2 then (if (l2.length : Int) < 1 then (spec_Alloc.j1 kj4 a1 l2 t135 (l2.length : Int) true l0_0 a0_1) else (if 0 < (l2.length : Int) then (if (rd l2 0) < 0 then (spec_Alloc.j1 kj4 a1 l2 t135 (l2.length : Int) true l0_0 a0_1) else (spec_Alloc.j1 kj4 a1 l2 t135 (l2.length : Int) ((Int.tmod (rd l2 0) 4) != 0) l0_0 a0_1)) else (none))) else (spec_Alloc.j1 kj4 a1 l2 t135 (l2.length : Int) false l0_0 a0_1)) else (spec_Alloc.j1 kj4 a1 l2 t135 (l2.length : Int) true l0_0 a0_1)) else (if a1 = 2 then (if (l2.length : Int) < 1 then (spec_Alloc.j1 kj4 a1 l2 t135 (l2.length : Int) true l0_0 a0_1) else (if 0 < (l2.length : Int) then (if (rd l2 0) < 0 then (spec_Alloc.j1 kj4 a1 l2 t135 (l2.length : Int) true l0_0 a0_1) else (spec_Alloc.j1 kj4 a1 l2 t135 (l2.length : Int) ((Int.tmod (rd l2 0) 4) != 0) l0_0 a0_1)) else (none))) else (spec_Alloc.j1 kj4 a1 l2 t135 (l2.length : Int) false l0_0 a0_1))) else (spec_Alloc.j1 kj4 a1 l2 t135 (l2.length : Int) true l0_0 a0_1)) else (if a1 = 3 then (if (l2.length : Int) = 1 then (if a1 = 2 then (if (l2.length : Int) < 1 then (spec_Alloc.j1 kj4 a1 l2 t135 (l2.length : Int) true l0_0 a0_1) else (if 0 < (l2.length : Int) then (if (rd l2 0) < 0 then (spec_Alloc.j1 kj4 a1 l2 t135 (l2.length : Int) true l0_0 a0_1) else (spec_Alloc.j1 kj4 a1 l2 t135 (l2.length : Int) ((Int.tmod (rd l2 0) 4) != 0) l0_0 a0_1)) else (none))) else (spec_Alloc.j1 kj4 a1 l2 t135 (l2.length : Int) false l0_0 a0_1)) else (spec_Alloc.j1 kj4 a1 l2 t135 (l2.length : Int) true l0_0 a0_1)) else (if a1 = 2 then (if (l2.length : Int) < 1 then (spec_Alloc.j1 kj4 a1 l2 t135 (l2.length : Int) true l0_0 a0_1) else (if 0 < (l2.length : Int) then (if (rd l2 0) < 0 then (spec_Alloc.j1 kj4 a1 l2 t135 (l2.length : Int) true l0_0 a0_1) else (spec_Alloc.j1 kj4 a1 l2 t135 (l2.length : Int) ((Int.tmod (rd l2 0) 4) != 0) l0_0 a0_1)) else (none))) else (spec_Alloc.j1 kj4 a1 l2 t135 (l2.length : Int) false l0_0 a0_1)))) = some (r1, r2, r3, r4) := by rw [if_neg (show ¬ (false = true) by decide)] at H; exact H
    clear H
    have H := H1
    clear H1
    have HC17 := zA H
    clear H
    go_upto_region 5 with (fail)
    go_cut [71] (fun v71 wc => ∃ (kq : Nat) (x71_16 : Bool), v71 = .bool x71_16 ∧ Aside0 (spec_Alloc.j1 kq a1 l2 t135 (l2.length : Int) x71_16 l0_0 a0_1 = some (r1, r2, r3, r4)) ∧ Aside0 (kq ≤ kj4) ∧ Aside0 (Kd.R Kd.bool 4 wc w.heap.size (fun _ => True) v136 t135) ∧ Aside0 (wc.heap[gb133]? = some (.cells #[(.slice A0_0 l0_0.length c0_0), .int .i64 a0_1] 31 (0, 0))) ∧ Aside0 (wc.heap[gb134]? = some (.cells #[(.slice none 0 0), .int .i64 0] 31 (0, 0))) ∧ Aside0 (Below w.heap.size w wc))
    case first =>
     have H := HC17.out
     clear HC17
     by_cases c18 : a1 = 0
     ·rw [if_pos c18] at H
      have c18b0 : (a1 == 0) = true := beq_iff_eq.mpr c18
      have c18b1 : (a1 != 0) = false := bne_eq_false_iff_eq.mpr c18
      clear c18
      (first | rw [c18b0] | (simp only [i64_w, i32_w]; rw [c18b0]) | skip)
      by_cases c19 : (l2.length : Int) = 2
      ·rw [if_pos c19] at H
       have c19b0 : ((l2.length : Int) == 2) = true := beq_iff_eq.mpr c19
       have c19b1 : ((l2.length : Int) != 2) = false := bne_eq_false_iff_eq.mpr c19
       clear c19
       by_cases c20 : a1 = 3
       ·exact absurd (c20.symm.trans (beq_iff_eq.mp c18b0)) (by decide)
       ·rw [if_neg c20] at H
        have c20b0 : (a1 == 3) = false := beq_eq_false_iff_ne.mpr c20
        have c20b1 : (a1 != 3) = true := bne_iff_ne.mpr c20
        by_cases c26 : a1 = 2
        ·exact absurd (c26.symm.trans (beq_iff_eq.mp c18b0)) (by decide)
        ·rw [if_neg c26] at H
         have c26b0 : (a1 == 2) = false := beq_eq_false_iff_ne.mpr c26
         have c26b1 : (a1 != 2) = true := bne_iff_ne.mpr c26
         have H' := zA H
         clear H
         go_wp2
         go_meet
         case rel => exact ⟨_, (false), (by first | rfl | (simp; done) | (simp [*]; done)), H', ⟨by have := HJ4.out; first | omega | exact Nat.le_refl _⟩, ⟨bR HO_9.out⟩, ⟨bU BK133.out⟩, ⟨bU BK134.out⟩, ⟨bD HB.out GE133.out GE134.out⟩⟩
      ·rw [if_neg c19] at H
       have c19b0 : ((l2.length : Int) == 2) = false := beq_eq_false_iff_ne.mpr c19
       have c19b1 : ((l2.length : Int) != 2) = true := bne_iff_ne.mpr c19
       have H' := zA H
       clear H
       go_wp2
       go_meet
       case rel => exact ⟨_, (true), (by first | rfl | (simp; done) | (simp [*]; done)), H', ⟨by have := HJ4.out; first | omega | exact Nat.le_refl _⟩, ⟨bR HO_9.out⟩, ⟨bU BK133.out⟩, ⟨bU BK134.out⟩, ⟨bD HB.out GE133.out GE134.out⟩⟩
     ·rw [if_neg c18] at H
      have c18b0 : (a1 == 0) = false := beq_eq_false_iff_ne.mpr c18
      have c18b1 : (a1 != 0) = true := bne_iff_ne.mpr c18
      (first | rw [c18b0] | (simp only [i64_w, i32_w]; rw [c18b0]) | skip)
      by_cases c30 : a1 = 3
      ·rw [if_pos c30] at H
       have c30b0 : (a1 == 3) = true := beq_iff_eq.mpr c30
       have c30b1 : (a1 != 3) = false := bne_eq_false_iff_eq.mpr c30
       clear c30
       by_cases c31 : (l2.length : Int) = 1
       ·rw [if_pos c31] at H
        have c31b0 : ((l2.length : Int) == 1) = true := beq_iff_eq.mpr c31
        have c31b1 : ((l2.length : Int) != 1) = false := bne_eq_false_iff_eq.mpr c31
        clear c31
        by_cases c32 : a1 = 2
        ·exact absurd (c32.symm.trans (beq_iff_eq.mp c30b0)) (by decide)
        ·rw [if_neg c32] at H
         have c32b0 : (a1 == 2) = false := beq_eq_false_iff_ne.mpr c32
         have c32b1 : (a1 != 2) = true := bne_iff_ne.mpr c32
         have H' := zA H
         clear H
         go_wp2
         go_meet
         case rel => exact ⟨_, (false), (by first | rfl | (simp; done) | (simp [*]; done)), H', ⟨by have := HJ4.out; first | omega | exact Nat.le_refl _⟩, ⟨bR HO_9.out⟩, ⟨bU BK133.out⟩, ⟨bU BK134.out⟩, ⟨bD HB.out GE133.out GE134.out⟩⟩
       ·rw [if_neg c31] at H
        have c31b0 : ((l2.length : Int) == 1) = false := beq_eq_false_iff_ne.mpr c31
        have c31b1 : ((l2.length : Int) != 1) = true := bne_iff_ne.mpr c31
        have H' := zA H
        clear H
        go_wp2
        go_meet
        case rel => exact ⟨_, (true), (by first | rfl | (simp; done) | (simp [*]; done)), H', ⟨by have := HJ4.out; first | omega | exact Nat.le_refl _⟩, ⟨bR HO_9.out⟩, ⟨bU BK133.out⟩, ⟨bU BK134.out⟩, ⟨bD HB.out GE133.out GE134.out⟩⟩
      ·rw [if_neg c30] at H
       have c30b0 : (a1 == 3) = false := beq_eq_false_iff_ne.mpr c30
       have c30b1 : (a1 != 3) = true := bne_iff_ne.mpr c30
       by_cases c36 : a1 = 2
       ·rw [if_pos c36] at H
        have c36b0 : (a1 == 2) = true := beq_iff_eq.mpr c36
        have c36b1 : (a1 != 2) = false := bne_eq_false_iff_eq.mpr c36
        clear c36
        by_cases c37 : (l2.length : Int) < 1
        ·rw [if_pos c37] at H
         have c37b0 : decide ((l2.length : Int) < 1) = true := zG c37
         have c37b1 : decide (l2.length < 1) = true := zG (by omega)
         clear c37
         have H' := zA H
         clear H
         go_wp2
         go_meet
         case rel => exact ⟨_, (true), (by first | rfl | (simp; done) | (simp [*]; done)), H', ⟨by have := HJ4.out; first | omega | exact Nat.le_refl _⟩, ⟨bR HO_9.out⟩, ⟨bU BK133.out⟩, ⟨bU BK134.out⟩, ⟨bD HB.out GE133.out GE134.out⟩⟩
        ·rw [if_neg c37] at H
         have c37b0 : decide ((l2.length : Int) < 1) = false := zH c37
         have c37b1 : decide (l2.length < 1) = false := zH (by omega)
         clear c37
         by_cases c38 : 0 < (l2.length : Int)
         ·rw [if_pos c38] at H
          have c38b0 : decide (0 < (l2.length : Int)) = true := zG c38
          have c38b1 : decide (0 < l2.length) = true := zG (by omega)
          clear c38
          by_cases c39 : (rd l2 0) < 0
          ·rw [if_pos c39] at H
           have c39b0 : decide ((rd l2 0) < 0) = true := zG c39
           clear c39
           have H' := zA H
           clear H
           have p145 : 0 ≤ (0 : Int) := (by omega)
           have q145 : 0 < (l2.length : Int) := zF (by first | (with_reducible assumption) | assumption)
           obtain ⟨ad145, e145, hx145_0⟩ := Kd.at_int HR2.out 0 p145 q145
           cases e145
           have qi145 : (0 < l2.length) = True := eq_true (by omega)
           (try rw [show ((0 : Int)).toNat = 0 from rfl] at hx145_0)
           (try rw [Addr.add_zero'] at hx145_0)
           replace hx145_0 := (HB.out.cell (World.block_lt_of_cell? w _ hx145_0)).trans hx145_0
           replace p145 := eq_true p145
           replace q145 := eq_true q145
           go_wp2
           go_meet
           case rel => exact ⟨_, (true), (by first | rfl | (simp; done) | (simp [*]; done)), H', ⟨by have := HJ4.out; first | omega | exact Nat.le_refl _⟩, ⟨bR HO_9.out⟩, ⟨bU BK133.out⟩, ⟨bU BK134.out⟩, ⟨bD HB.out GE133.out GE134.out⟩⟩
          ·rw [if_neg c39] at H
           have c39b0 : decide ((rd l2 0) < 0) = false := zH c39
           clear c39
           have H' := zA H
           clear H
           have p145 : 0 ≤ (0 : Int) := (by omega)
           have q145 : 0 < (l2.length : Int) := zF (by first | (with_reducible assumption) | assumption)
           obtain ⟨ad145, e145, hx145_0⟩ := Kd.at_int HR2.out 0 p145 q145
           cases e145
           have qi145 : (0 < l2.length) = True := eq_true (by omega)
           (try rw [show ((0 : Int)).toNat = 0 from rfl] at hx145_0)
           (try rw [Addr.add_zero'] at hx145_0)
           replace hx145_0 := (HB.out.cell (World.block_lt_of_cell? w _ hx145_0)).trans hx145_0
           replace p145 := eq_true p145
           replace q145 := eq_true q145
           have p146 : 0 ≤ (0 : Int) := (by omega)
           have q146 : 0 < (l2.length : Int) := zF (by first | (with_reducible assumption) | assumption)
           obtain ⟨ad146, e146, hx146_0⟩ := Kd.at_int HR2.out 0 p146 q146
           obtain rfl : ad145 = ad146 := (by injection e146)
           have qi146 : (0 < l2.length) = True := eq_true (by omega)
           (try rw [show ((0 : Int)).toNat = 0 from rfl] at hx146_0)
           (try rw [Addr.add_zero'] at hx146_0)
           replace hx146_0 := (HB.out.cell (World.block_lt_of_cell? w _ hx146_0)).trans hx146_0
           replace p146 := eq_true p146
           replace q146 := eq_true q146
           go_wp2
           go_meet
           case rel => exact ⟨_, (((Int.tmod (rd l2 0) 4) != 0)), (by first | rfl | (simp; done) | (simp [*]; done)), H', ⟨by have := HJ4.out; first | omega | exact Nat.le_refl _⟩, ⟨bR HO_9.out⟩, ⟨bU BK133.out⟩, ⟨bU BK134.out⟩, ⟨bD HB.out GE133.out GE134.out⟩⟩
         ·rw [if_neg c38] at H
          exact absurd H (by simp)
       ·rw [if_neg c36] at H
        have c36b0 : (a1 == 2) = false := beq_eq_false_iff_ne.mpr c36
        have c36b1 : (a1 != 2) = true := bne_iff_ne.mpr c36
        have H' := zA H
        clear H
        go_wp2
        go_meet
        case rel => exact ⟨_, (false), (by first | rfl | (simp; done) | (simp [*]; done)), H', ⟨by have := HJ4.out; first | omega | exact Nat.le_refl _⟩, ⟨bR HO_9.out⟩, ⟨bU BK133.out⟩, ⟨bU BK134.out⟩, ⟨bD HB.out GE133.out GE134.out⟩⟩
    case rest =>
     clear HC17
     try clear c1
     try clear p1
     try clear q1
     try clear hx1
     try clear qi1
     try clear c2
     try clear p2
     try clear c3
     try clear c8
     try clear c11
     try clear c12
     try clear c12b0
     try clear c13
     try clear c13b0
     try clear p13
     try clear q13
     try clear hx13
     try clear qi13
     try clear c14
     try clear p14
     try clear q14
     try clear hx14
     try clear qi14
     try clear c15
     try clear c18
     try clear c18b0
     try clear c18b1
     try clear c19
     try clear c19b0
     try clear c19b1
     try clear c20
     try clear c20b0
     try clear c20b1
     try clear c21
     try clear c21b0
     try clear c21b1
     try clear c22
     try clear c22b0
     try clear c22b1
     try clear c23
     try clear c23b0
     try clear c23b1
     try clear c24
     try clear c24b0
     try clear c24b1
     try clear c25
     try clear c25b0
     try clear c26
     try clear c26b0
     try clear c26b1
     try clear c27
     try clear c27b0
     try clear c27b1
     try clear c28
     try clear c28b0
     try clear c28b1
     try clear c29
     try clear c29b0
     try clear c30
     try clear c30b0
     try clear c30b1
     try clear c31
     try clear c31b0
     try clear c31b1
     try clear c32
     try clear c32b0
     try clear c32b1
     try clear c33
     try clear c33b0
     try clear c33b1
     try clear c34
     try clear c34b0
     try clear c34b1
     try clear c35
     try clear c35b0
     try clear c36
     try clear c36b0
     try clear c36b1
     try clear c37
     try clear c37b0
     try clear c37b1
     try clear c38
     try clear c38b0
     try clear c38b1
     try clear c39
     try clear c39b0
     try clear hcz16_0
     try clear hcz16_1
     try clear hcz9_0
     try clear hcz9_1
     try clear hfz16_0
     try clear hfz16_1
     try clear hfz9_0
     try clear hfz9_1
     try clear hx139_0
     try clear hx140_0
     try clear hx141_0
     try clear hx142_0
     try clear hx143_0
     try clear hx144_0
     try clear hx145_0
     try clear hx146_0
     try clear p139
     try clear p140
     try clear p141
     try clear p142
     try clear p143
     try clear p144
     try clear p145
     try clear p146
     try clear p2
     try clear q139
     try clear q140
     try clear q141
     try clear q142
     try clear q143
     try clear q144
     try clear q145
     try clear q146
     obtain ⟨kq, x71_16, rfl, HA, HJ16, HO_9, BK133, BK134, HB⟩ := hcut
     cases kq with
     | zero => exact absurd HA.out (by simp [spec_Alloc.j1])
     | succ kj16 =>
      have H := HA.out
      clear HA
      simp only [spec_Alloc.j1] at H
      by_cases c40 : x71_16 = true
      ·subst c40
       have H1 : (some (([] : List Int), 0, 0, 1)) = some (r1, r2, r3, r4) := by rw [if_pos rfl] at H; exact H
       clear H
       have H := H1
       clear H1
       simp only [Option.some.injEq, Prod.mk.injEq] at H
       obtain ⟨rfl, rfl, rfl, rfl⟩ := H
       have hnb41 := NB134_133.out
       have hnc41 := NB133_134.out
       have hcz42_0 : wc.cell? ⟨gb134, 0, none⟩ = some (.slice none 0 0) := (zZ BK134.out 0).trans rfl
       have hcz42_1 : wc.cell? ⟨gb134, 1, none⟩ = some (.int .i64 0) := (zZ BK134.out 1).trans rfl
       have hfz42_0 := zY BK134.out 0
       have hfz42_1 := zY BK134.out 1
       go_wp2
       refine bodyPost_ret (results_ctt rfl _ _ gb134 31 #[.slice none 0 0, .int .i64 0] (0, 0) _ rfl (by (with_reducible repeat (first | refine blk_drewN ?_ _ | refine blk_drew ?_ | refine blk_alloc ?_ _)); refine blk_put (cs := #[.slice none 0 0, .int .i64 0]) ?_ 1 _ rfl; (with_reducible repeat (first | refine blk_drewN ?_ _ | refine blk_drew ?_ | refine blk_alloc ?_ _)); refine blk_put (cs := #[.slice none 0 0, .int .i64 0]) ?_ 0 _ rfl; exact bU BK134.out) Try.underlying31 rfl (by kernel_rfl)) rfl ?_
       exact ⟨_, by first | rfl | (simp [errW_none, errW_some] <;> rfl) | (simp [*, errW_none, errW_some] <;> rfl), by first | exact Kd.R_nil _ _ _ _ _ | exact Kd.N_nil _ _ _ _ _ | exact Kd.V_nil _ _ _ _ _ | exact Kd.Q_nil _ _ _ _ _ | exact Kd.S_nil _ _ _ _ _, bD HB.out GE133.out GE134.out⟩
      ·replace c40 := Bool.eq_false_iff.mpr c40
       subst c40
       have H1 : (spec_Alloc.l0 kj16 a1 l2 t135 (l2.length : Int) 0 l0_0 a0_1) = some (r1, r2, r3, r4) := by rw [if_neg (show ¬ (false = true) by decide)] at H; exact H
       clear H
       have H := H1
       clear H1
       have H' := zA H
       clear H
       go_wp2
       go_loopg [12] kj16 (fun kq v12 w' => ∃ (x12_3 : Int) (x135001_3 : Int), v12 = .int .i64 x12_3 ∧ Aside0 (spec_Alloc.l0 kq a1 l2 t135 (l2.length : Int) x12_3 l0_0 a0_1 = some (r1, r2, r3, r4)) ∧ Aside0 (kq ≤ kj16) ∧ Aside0 (Kd.R Kd.bool 4 w' w.heap.size (fun _ => True) v136 t135) ∧ Aside0 (w'.heap[gb133]? = some (.cells #[(.slice A0_0 l0_0.length c0_0), .int .i64 a0_1] 31 (0, 0))) ∧ Aside0 (w'.heap[gb134]? = some (.cells #[(.slice none 0 0), .int .i64 x135001_3] 31 (0, 0))) ∧ Aside0 (Below w.heap.size w w'))
       case atStart => exact ⟨(0), (0), (by first | rfl | (simp; done) | (simp [*]; done)), H', ⟨Nat.le_refl _⟩, ⟨bR HO_9.out⟩, ⟨bU BK133.out⟩, ⟨bU BK134.out⟩, ⟨bD HB.out GE133.out GE134.out⟩⟩
       case round =>
        clear H'
        try clear c1
        try clear p1
        try clear q1
        try clear hx1
        try clear qi1
        try clear c2
        try clear p2
        try clear c3
        try clear c4
        try clear c8
        try clear c11
        try clear c12
        try clear c12b0
        try clear c13
        try clear c13b0
        try clear p13
        try clear q13
        try clear hx13
        try clear qi13
        try clear c14
        try clear p14
        try clear q14
        try clear hx14
        try clear qi14
        try clear c15
        try clear c18
        try clear c18b0
        try clear c18b1
        try clear c19
        try clear c19b0
        try clear c19b1
        try clear c20
        try clear c20b0
        try clear c20b1
        try clear c21
        try clear c21b0
        try clear c21b1
        try clear c22
        try clear c22b0
        try clear c22b1
        try clear c23
        try clear c23b0
        try clear c23b1
        try clear c24
        try clear c24b0
        try clear c24b1
        try clear c25
        try clear c25b0
        try clear c26
        try clear c26b0
        try clear c26b1
        try clear c27
        try clear c27b0
        try clear c27b1
        try clear c28
        try clear c28b0
        try clear c28b1
        try clear c29
        try clear c29b0
        try clear c30
        try clear c30b0
        try clear c30b1
        try clear c31
        try clear c31b0
        try clear c31b1
        try clear c32
        try clear c32b0
        try clear c32b1
        try clear c33
        try clear c33b0
        try clear c33b1
        try clear c34
        try clear c34b0
        try clear c34b1
        try clear c35
        try clear c35b0
        try clear c36
        try clear c36b0
        try clear c36b1
        try clear c37
        try clear c37b0
        try clear c37b1
        try clear c38
        try clear c38b0
        try clear c38b1
        try clear c39
        try clear c39b0
        try clear c40
        try clear c41
        try clear hcz16_0
        try clear hcz16_1
        try clear hcz42_0
        try clear hcz42_1
        try clear hcz9_0
        try clear hcz9_1
        try clear hfz16_0
        try clear hfz16_1
        try clear hfz42_0
        try clear hfz42_1
        try clear hfz9_0
        try clear hfz9_1
        try clear hx139_0
        try clear hx140_0
        try clear hx141_0
        try clear hx142_0
        try clear hx143_0
        try clear hx144_0
        try clear hx145_0
        try clear hx146_0
        try clear p1
        try clear p13
        try clear p139
        try clear p14
        try clear p140
        try clear p141
        try clear p142
        try clear p143
        try clear p144
        try clear p145
        try clear p146
        try clear p2
        try clear q1
        try clear q13
        try clear q139
        try clear q14
        try clear q140
        try clear q141
        try clear q142
        try clear q143
        try clear q144
        try clear q145
        try clear q146
        obtain ⟨x12_3, x135001_3, rfl, HA, HK3, HO_9, BK133, BK134, HB⟩ := hrel
        cases gk with
        | zero => exact absurd HA.out (by simp [spec_Alloc.l0])
        | succ k3 =>
         have H := HA.out
         clear HA
         simp only [spec_Alloc.l0] at H
         by_cases c43 : x12_3 < (l2.length : Int)
         ·rw [if_pos c43] at H
          have c43b0 : decide (x12_3 < (l2.length : Int)) = true := zG c43
          clear c43
          by_cases c44 : 0 ≤ x12_3
          ·rw [if_pos c44] at H
           have c44b0 : decide (0 ≤ x12_3) = true := zG c44
           clear c44
           by_cases c45 : x12_3 < (l2.length : Int)
           ·rw [if_pos c45] at H
            have c45b0 : decide (x12_3 < (l2.length : Int)) = true := zG c45
            clear c45
            replace H := Option.bind_eq_some_iff.mp H
            obtain ⟨t148, A460, H⟩ := H
            replace H : (if t148 = true then (spec_Alloc.l0 k3 a1 l2 t135 (l2.length : Int) (wrap64 (x12_3 + 1)) l0_0 a0_1) else (some (([] : List Int), 0, 0, 1))) = some (r1, r2, r3, r4) := H
            have A46 := zA A460
            clear A460
            by_cases c47 : t148 = true
            ·subst c47
             have H1 : (spec_Alloc.l0 k3 a1 l2 t135 (l2.length : Int) (wrap64 (x12_3 + 1)) l0_0 a0_1) = some (r1, r2, r3, r4) := by rw [if_pos rfl] at H; exact H
             clear H
             have H := H1
             clear H1
             have H' := zA H
             clear H
             have p147 : 0 ≤ (x12_3 : Int) := zF (by first | (with_reducible assumption) | assumption)
             have q147 : x12_3 < (l2.length : Int) := zF (by first | (with_reducible assumption) | assumption)
             obtain ⟨ad147, e147, hx147_0⟩ := Kd.at_int HR2.out x12_3 p147 q147
             cases e147
             replace hx147_0 := (HB.out.cell (World.block_lt_of_cell? w _ hx147_0)).trans hx147_0
             replace p147 := eq_true p147
             replace q147 := eq_true q147
             obtain ⟨Ao48, co48, eo48⟩ := Kd.R_slice HO_9.out
             subst eo48
             go_wp2_with (first | ((with_reducible refine gate_callee (f := 38) rfl ?_); refine goesL_ (some 83) rfl rfl Try.func38 (by kernel_rfl) rfl #[.int .i64 (rd l2 x12_3), .slice Ao48 t135.length co48] rfl (by (try simp only [List.map_toArray, List.map_cons, List.map_nil]); first | done | rfl | (simp only [List.length_drop, List.length_take]; rfl)) ?_; (with_reducible refine (spec_l2word.calls (rd l2 x12_3) _ _ t135 true _ ?side1 ?side2 A46.out).mono ?_); (case side1 => repeat (first | exact (zO HO_9.out).2.2 | (with_reducible refine zc ?_ _) | (with_reducible refine zd ?_ _) | (with_reducible refine ze ?_))); (case side2 => exact (zO HO_9.out).2.1); rintro e w' ⟨rfl, ⟨nd, rfl⟩⟩; refine ⟨_, rfl, ?_⟩))
             go_roundg k3
             case measure => have := HJ4.out; have := HJ16.out; have := HK3.out; omega
             case rel => exact ⟨(wrap64 (x12_3 + 1)), (x135001_3), (by first | rfl | (simp; done) | (simp [*]; done)), H', ⟨by have := HJ4.out; have := HJ16.out; have := HK3.out; omega⟩, ⟨bR HO_9.out⟩, ⟨bU BK133.out⟩, ⟨bU BK134.out⟩, ⟨bD HB.out GE133.out GE134.out⟩⟩
            ·replace c47 := Bool.eq_false_iff.mpr c47
             subst c47
             have H1 : (some (([] : List Int), 0, 0, 1)) = some (r1, r2, r3, r4) := by rw [if_neg (show ¬ (false = true) by decide)] at H; exact H
             clear H
             have H := H1
             clear H1
             simp only [Option.some.injEq, Prod.mk.injEq] at H
             obtain ⟨rfl, rfl, rfl, rfl⟩ := H
             have p147 : 0 ≤ (x12_3 : Int) := zF (by first | (with_reducible assumption) | assumption)
             have q147 : x12_3 < (l2.length : Int) := zF (by first | (with_reducible assumption) | assumption)
             obtain ⟨ad147, e147, hx147_0⟩ := Kd.at_int HR2.out x12_3 p147 q147
             cases e147
             replace hx147_0 := (HB.out.cell (World.block_lt_of_cell? w _ hx147_0)).trans hx147_0
             replace p147 := eq_true p147
             replace q147 := eq_true q147
             obtain ⟨Ao49, co49, eo49⟩ := Kd.R_slice HO_9.out
             subst eo49
             go_wp2_with (first | ((with_reducible refine gate_callee (f := 38) rfl ?_); refine goesL_ (some 83) rfl rfl Try.func38 (by kernel_rfl) rfl #[.int .i64 (rd l2 x12_3), .slice Ao49 t135.length co49] rfl (by (try simp only [List.map_toArray, List.map_cons, List.map_nil]); first | done | rfl | (simp only [List.length_drop, List.length_take]; rfl)) ?_; (with_reducible refine (spec_l2word.calls (rd l2 x12_3) _ _ t135 false _ ?side1 ?side2 A46.out).mono ?_); (case side1 => repeat (first | exact (zO HO_9.out).2.2 | (with_reducible refine zc ?_ _) | (with_reducible refine zd ?_ _) | (with_reducible refine ze ?_))); (case side2 => exact (zO HO_9.out).2.1); rintro e w' ⟨rfl, ⟨nd, rfl⟩⟩; refine ⟨_, rfl, ?_⟩; (try (rw [drewN_self wr]; generalize hq_ : World.drewN wr _ = wr; have n0_ : Aside0 (Kd.R Kd.bool 4 wr w.heap.size (fun _ => True) (.slice Ao49 t135.length co49) t135) := ⟨by rw [← hq_]; exact (bR HO_9.out)⟩; have n1_ : Aside0 (wr.heap[gb133]? = some (.cells #[.slice A0_0 l0_0.length c0_0, .int .i64 a0_1] 31 (0, 0))) := ⟨by rw [← hq_]; exact (bU BK133.out)⟩; have n2_ : Aside0 (wr.heap[gb134]? = some (.cells #[.slice none 0 0, .int .i64 x135001_3] 31 (0, 0))) := ⟨by rw [← hq_]; exact (bU BK134.out)⟩; have n3_ : Aside0 (Below w.heap.size w wr) := ⟨by rw [← hq_]; exact (bD HB.out GE133.out GE134.out)⟩; clear HO_9 BK133 BK134 HB hq_; have HO_9 := n0_; have BK133 := n1_; have BK134 := n2_; have HB := n3_; clear n0_ n1_ n2_ n3_)); have hnb50 := NB134_133.out; have hnc50 := NB133_134.out; have hcz51_0 : wr.cell? ⟨gb134, 0, none⟩ = some (.slice none 0 0) := (zZ BK134.out 0).trans rfl; have hcz51_1 : wr.cell? ⟨gb134, 1, none⟩ = some (.int .i64 x135001_3) := (zZ BK134.out 1).trans rfl; have hfz51_0 := zY BK134.out 0; have hfz51_1 := zY BK134.out 1))
             refine bodyPost_ret (results_ctt rfl _ _ gb134 31 #[.slice none 0 0, .int .i64 0] (0, 0) _ rfl (by (with_reducible repeat (first | refine blk_drewN ?_ _ | refine blk_drew ?_ | refine blk_alloc ?_ _)); refine blk_put (cs := #[.slice none 0 0, .int .i64 x135001_3]) ?_ 1 _ rfl; (with_reducible repeat (first | refine blk_drewN ?_ _ | refine blk_drew ?_ | refine blk_alloc ?_ _)); refine blk_put (cs := #[.slice none 0 0, .int .i64 x135001_3]) ?_ 0 _ rfl; exact bU BK134.out) Try.underlying31 rfl (by kernel_rfl)) rfl ?_
             exact ⟨_, by first | rfl | (simp [errW_none, errW_some] <;> rfl) | (simp [*, errW_none, errW_some] <;> rfl), by first | exact Kd.R_nil _ _ _ _ _ | exact Kd.N_nil _ _ _ _ _ | exact Kd.V_nil _ _ _ _ _ | exact Kd.Q_nil _ _ _ _ _ | exact Kd.S_nil _ _ _ _ _, bD HB.out GE133.out GE134.out⟩
           ·rw [if_neg c45] at H
            exact absurd H (by simp)
          ·rw [if_neg c44] at H
           exact absurd H (by simp)
         ·rw [if_neg c43] at H
          have c43b0 : decide (x12_3 < (l2.length : Int)) = false := zH c43
          clear c43
          by_cases c52 : (wrap64 ((wrap64 (a0_1 + 1)) + (l2.length : Int))) > (l0_0.length : Int)
          ·rw [if_pos c52] at H
           have c52b0 : decide ((l0_0.length : Int) < (wrap64 ((wrap64 (a0_1 + 1)) + (l2.length : Int)))) = true := zG c52
           clear c52
           simp only [Option.some.injEq, Prod.mk.injEq] at H
           obtain ⟨rfl, rfl, rfl, rfl⟩ := H
           have hnb53 := NB133_134.out
           have hnc53 := NB134_133.out
           have hcz54_0 : wr.cell? ⟨gb133, 0, none⟩ = some (.slice A0_0 l0_0.length c0_0) := (zZ BK133.out 0).trans rfl
           have hcz54_1 : wr.cell? ⟨gb133, 1, none⟩ = some (.int .i64 a0_1) := (zZ BK133.out 1).trans rfl
           have hfz54_0 := zY BK133.out 0
           have hfz54_1 := zY BK133.out 1
           have hcz55_0 : wr.cell? ⟨gb134, 0, none⟩ = some (.slice none 0 0) := (zZ BK134.out 0).trans rfl
           have hcz55_1 : wr.cell? ⟨gb134, 1, none⟩ = some (.int .i64 x135001_3) := (zZ BK134.out 1).trans rfl
           have hfz55_0 := zY BK134.out 0
           have hfz55_1 := zY BK134.out 1
           go_wp2
           refine bodyPost_ret (results_ctt rfl _ _ gb134 31 #[.slice none 0 0, .int .i64 0] (0, 0) _ rfl (by (with_reducible repeat (first | refine blk_drewN ?_ _ | refine blk_drew ?_ | refine blk_alloc ?_ _)); refine blk_put (cs := #[.slice none 0 0, .int .i64 x135001_3]) ?_ 1 _ rfl; (with_reducible repeat (first | refine blk_drewN ?_ _ | refine blk_drew ?_ | refine blk_alloc ?_ _)); refine blk_put (cs := #[.slice none 0 0, .int .i64 x135001_3]) ?_ 0 _ rfl; exact bU BK134.out) Try.underlying31 rfl (by kernel_rfl)) rfl ?_
           exact ⟨_, by first | rfl | (simp [errW_none, errW_some] <;> rfl) | (simp [*, errW_none, errW_some] <;> rfl), by first | exact Kd.R_nil _ _ _ _ _ | exact Kd.N_nil _ _ _ _ _ | exact Kd.V_nil _ _ _ _ _ | exact Kd.Q_nil _ _ _ _ _ | exact Kd.S_nil _ _ _ _ _, bD HB.out GE133.out GE134.out⟩
          ·rw [if_neg c52] at H
           have c52b0 : decide ((l0_0.length : Int) < (wrap64 ((wrap64 (a0_1 + 1)) + (l2.length : Int)))) = false := zH c52
           clear c52
           replace H := Option.bind_eq_some_iff.mp H
           obtain ⟨⟨t149, t152⟩, A560, H⟩ := H
           replace H : (if 0 ≤ a0_1 then (if a0_1 < (t149.length : Int) then (spec_Alloc.l1 k3 l2 (l2.length : Int) 0 l0_0 a0_1 (t149.set (a0_1 : Int).toNat (wrap64 ((wrap64 (4 * (l2.length : Int))) + a1))) t152) else (none)) else (none)) = some (r1, r2, r3, r4) := H
           have A56 := zA A560
           clear A560
           by_cases c57 : 0 ≤ a0_1
           ·rw [if_pos c57] at H
            have c57b0 : decide (0 ≤ a0_1) = true := zG c57
            clear c57
            by_cases c58 : a0_1 < (t149.length : Int)
            ·rw [if_pos c58] at H
             have c58b0 : decide (a0_1 < (t149.length : Int)) = true := zG c58
             clear c58
             obtain ⟨y154, hy154⟩ : ∃ y_ : List Int, y_ = (t149.set (a0_1 : Int).toNat (wrap64 ((wrap64 (4 * (l2.length : Int))) + a1))) := ⟨_, rfl⟩
             replace H : (spec_Alloc.l1 k3 l2 (l2.length : Int) 0 l0_0 a0_1 y154 t152) = some (r1, r2, r3, r4) := by first | (rw [hy154]; with_reducible exact H) | (have H2_ := (Option.bind_some _ _).symm.trans H; rw [hy154]; with_reducible exact H2_) | (have H2_ := (Option.bind_some _ _).symm.trans H; with_reducible exact H2_) | with_reducible exact H | (rw [hy154]; exact H) | exact H
             have Ny154 := zA hy154
             clear hy154
             have H' := zA H
             clear H
             have hnb60 := NB133_134.out
             have hnc60 := NB134_133.out
             have hcz61_0 : wr.cell? ⟨gb133, 0, none⟩ = some (.slice A0_0 l0_0.length c0_0) := (zZ BK133.out 0).trans rfl
             have hcz61_1 : wr.cell? ⟨gb133, 1, none⟩ = some (.int .i64 a0_1) := (zZ BK133.out 1).trans rfl
             have hfz61_0 := zY BK133.out 0
             have hfz61_1 := zY BK133.out 1
             go_wp2_with (first | ((with_reducible refine gate_callee (f := 40) rfl ?_); refine goesL_ (some 97) rfl rfl Try.func40 (by kernel_rfl) rfl #[.agg #[.slice A0_0 l0_0.length c0_0, .int .i64 a0_1]] rfl (by (try simp only [List.map_toArray, List.map_cons, List.map_nil]); first | done | rfl | (simp only [List.length_drop, List.length_take]; rfl)) ?_; (with_reducible refine (spec_l2copy.calls _ _ l0_0 a0_1 t149 t152 _ ?side1 ?side2 A56.out).mono ?_); (case side1 => repeat (first | exact (Kd.C_below HR0_0.out HB.out) | (with_reducible refine zc ?_ _) | (with_reducible refine zd ?_ _) | (with_reducible refine ze ?_))); (case side2 => exact HC0_0.out); rintro e w62 ⟨v150, rfl, ho0, hb⟩; refine ⟨_, rfl, ?_⟩; have n0_ := zA (zP (bR HO_9.out) hb); have n1_ := zA (Kd.R_lower ho0 (below_size (bD HB.out GE133.out GE134.out))); have n2_ := zA (zN (g := gb133) (o := .cells #[.slice A0_0 l0_0.length c0_0, .int .i64 a0_1] 31 (0, 0)) (bU BK133.out) hb); have n3_ := zA (zN (g := gb134) (o := .cells #[.slice none 0 0, .int .i64 x135001_3] 31 (0, 0)) (bU BK134.out) hb); have n4_ := zA (zX (bD HB.out GE133.out GE134.out) hb); clear HO_9 BK133 BK134 HB; have HO_9 := n0_; have HO151 := n1_; have BK133 := n2_; have BK134 := n3_; have HB := n4_; clear n0_ n1_ n2_ n3_ n4_; (try clear hb); (try clear hb2); (try clear hk); (try clear hi); (try clear ho0)) | ((with_reducible refine gate_dst (N := 13) rfl ?_); refine box_event ?hg (N := 13) ?hd (cs := #[.slice none 0 0, .int .i64 0]) (t := 31) ?hr ?_; (case hd => rfl); (case hg => rfl); (case hr => first | (go_simp; done) | (go_simp; rfl)); intro gb153 hg w63 hbox hb; have n0_ := zA (zP (bR HO_9.out) hb); have n1_ := zA (zP (bR HO151.out) hb); have n2_ := zA (zN (g := gb133) (o := .cells #[.slice A0_0 l0_0.length c0_0, .int .i64 a0_1] 31 (0, 0)) (bU BK133.out) hb); have n3_ := zA (zN (g := gb134) (o := .cells #[.slice none 0 0, .int .i64 x135001_3] 31 (0, 0)) (bU BK134.out) hb); have n4_ := zA (zX (bD HB.out GE133.out GE134.out) hb); have n5_ := zA (hbox); have n6_ := zA ((by rw [hg]; exact (below_size (bD HB.out GE133.out GE134.out)) : w.heap.size ≤ gb153)); have n7_ := zA ((by rw [hg]; exact (below_size (bD HB.out GE133.out GE134.out)) : w.heap.size ≤ gb153)); have n8_ := zA ((by rw [hg]; exact Nat.ne_of_lt (blk_lt (g := gb133) (o := .cells #[.slice A0_0 l0_0.length c0_0, .int .i64 a0_1] 31 (0, 0)) (bU BK133.out)) : gb133 ≠ gb153)); have n9_ := zA ((by rw [hg]; exact Nat.ne_of_gt (blk_lt (g := gb133) (o := .cells #[.slice A0_0 l0_0.length c0_0, .int .i64 a0_1] 31 (0, 0)) (bU BK133.out)) : gb153 ≠ gb133)); have n10_ := zA ((by rw [hg]; exact Nat.ne_of_lt (blk_lt (g := gb134) (o := .cells #[.slice none 0 0, .int .i64 x135001_3] 31 (0, 0)) (bU BK134.out)) : gb134 ≠ gb153)); have n11_ := zA ((by rw [hg]; exact Nat.ne_of_gt (blk_lt (g := gb134) (o := .cells #[.slice none 0 0, .int .i64 x135001_3] 31 (0, 0)) (bU BK134.out)) : gb153 ≠ gb134)); clear HO_9 HO151 BK133 BK134 HB; have HO_9 := n0_; have HO151 := n1_; have BK133 := n2_; have BK134 := n3_; have HB := n4_; have BK153 := n5_; have GW153 := n6_; have GE153 := n7_; have NB133_153 := n8_; have NB153_133 := n9_; have NB134_153 := n10_; have NB153_134 := n11_; clear n0_ n1_ n2_ n3_ n4_ n5_ n6_ n7_ n8_ n9_ n10_ n11_; clear hb hbox hg; obtain ⟨Ao64, co64, eo64⟩ := Kd.R_slice HO151.out; subst eo64; have hnb65 := NB153_133.out; have hnc65 := NB133_153.out; have hnb66 := NB153_134.out; have hnc66 := NB134_153.out; have hcz67_0 : w63.cell? ⟨gb153, 0, none⟩ = some (.slice none 0 0) := (zZ BK153.out 0).trans rfl; have hcz67_1 : w63.cell? ⟨gb153, 1, none⟩ = some (.int .i64 0) := (zZ BK153.out 1).trans rfl; have hfz67_0 := zY BK153.out 0; have hfz67_1 := zY BK153.out 1) | ((with_reducible refine gate_store (t := 31) (p := 13) rfl ?_); refine store_event (t := 31) (p := 13) (v := ?vo_w68) (w1 := ((w63.setCell ⟨gb153, 0, none⟩ (.slice Ao64 t149.length co64)).setCell ⟨gb153, 1, none⟩ (.int .i64 t152))) ?hg ?ho ?hn ?hr ?_; (case ho => rfl); (case hg => rfl); (case hn => rfl); (case hr => first | (go_simp; done) | (go_simp; rfl)); intro w68 hw; have n0_ : Aside0 (Kd.R Kd.bool 4 w68 w.heap.size (fun _ => True) v136 t135) := ⟨(by rw [hw]; exact (bR (zI (zJ (p := ⟨gb153, 1, none⟩) (zJ (p := ⟨gb153, 0, none⟩) (zL HO_9.out BK153.out (by decide)) (fun _ hk => hk.2) (.slice Ao64 t149.length co64)) (fun _ hk => hk.2) (.int .i64 t152)) (fun _ hk => trivial))))⟩; have n1_ : Aside0 (Kd.R (Kd.int .i64) 3 w68 w.heap.size (fun _ => True) (.slice Ao64 t149.length co64) t149) := ⟨(by rw [hw]; exact (bR (zI (zJ (p := ⟨gb153, 1, none⟩) (zJ (p := ⟨gb153, 0, none⟩) (zL HO151.out BK153.out (by decide)) (fun _ hk => hk.2) (.slice Ao64 t149.length co64)) (fun _ hk => hk.2) (.int .i64 t152)) (fun _ hk => trivial))))⟩; have n2_ : Aside0 (w68.heap[gb133]? = some (.cells #[.slice A0_0 l0_0.length c0_0, .int .i64 a0_1] 31 (0, 0))) := ⟨(by rw [hw]; exact (by (with_reducible repeat (first | refine blk_drewN ?_ _ | refine blk_drew ?_ | refine blk_alloc ?_ _)); refine blk_far ?_ NB133_153.out _; (with_reducible repeat (first | refine blk_drewN ?_ _ | refine blk_drew ?_ | refine blk_alloc ?_ _)); refine blk_far ?_ NB133_153.out _; exact bU BK133.out))⟩; have n3_ : Aside0 (w68.heap[gb134]? = some (.cells #[.slice none 0 0, .int .i64 x135001_3] 31 (0, 0))) := ⟨(by rw [hw]; exact (by (with_reducible repeat (first | refine blk_drewN ?_ _ | refine blk_drew ?_ | refine blk_alloc ?_ _)); refine blk_far ?_ NB134_153.out _; (with_reducible repeat (first | refine blk_drewN ?_ _ | refine blk_drew ?_ | refine blk_alloc ?_ _)); refine blk_far ?_ NB134_153.out _; exact bU BK134.out))⟩; have n4_ : Aside0 (w68.heap[gb153]? = some (.cells #[.slice Ao64 t149.length co64, .int .i64 t152] 31 (0, 0))) := ⟨(by rw [hw]; exact (by (with_reducible repeat (first | refine blk_drewN ?_ _ | refine blk_drew ?_ | refine blk_alloc ?_ _)); refine blk_put (cs := #[.slice Ao64 t149.length co64, .int .i64 0]) ?_ 1 _ rfl; (with_reducible repeat (first | refine blk_drewN ?_ _ | refine blk_drew ?_ | refine blk_alloc ?_ _)); refine blk_put (cs := #[.slice none 0 0, .int .i64 0]) ?_ 0 _ rfl; exact bU BK153.out))⟩; have n5_ : Aside0 (Below w.heap.size w w68) := ⟨(by rw [hw]; exact (bC HB.out GE133.out GE134.out GE153.out))⟩; clear hw HO_9 HO151 BK133 BK134 BK153 HB; have HO_9 := n0_; have HO151 := n1_; have BK133 := n2_; have BK134 := n3_; have BK153 := n4_; have HB := n5_; clear n0_ n1_ n2_ n3_ n4_ n5_; have hcz69_0 : w68.cell? ⟨gb153, 0, none⟩ = some (.slice Ao64 t149.length co64) := (zZ BK153.out 0).trans rfl; have hcz69_1 : w68.cell? ⟨gb153, 1, none⟩ = some (.int .i64 t152) := (zZ BK153.out 1).trans rfl; have hfz69_0 := zY BK153.out 0; have hfz69_1 := zY BK153.out 1; have hcz70_0 : w68.cell? ⟨gb133, 0, none⟩ = some (.slice A0_0 l0_0.length c0_0) := (zZ BK133.out 0).trans rfl; have hcz70_1 : w68.cell? ⟨gb133, 1, none⟩ = some (.int .i64 a0_1) := (zZ BK133.out 1).trans rfl; have hfz70_0 := zY BK133.out 0; have hfz70_1 := zY BK133.out 1; have p59 : 0 ≤ (a0_1 : Int) := zF (by first | (with_reducible assumption) | assumption); have q59 : (a0_1 : Int) < ((t149.length : Int) : Int) := zF (by first | (with_reducible assumption) | assumption); obtain ⟨go59, co59, eo59, gb59, gl59, cl59, HG59⟩ := Kd.R_form HO151.out (by omega); (first | cases eo59 | (injection eo59 with ea_ en_ ec_; (first | subst ea_ | (injection ea_ with ea_; subst ea_)); subst ec_; clear en_)); have GB59 := zA gb59; have GG59 := zA HG59; clear gb59 gl59 HG59; obtain ⟨hx59_0, hf59_0⟩ := Kd.R_celln 0 HO151.out (a0_1 : Int) p59 q59; replace p59 := eq_true p59; replace q59 := eq_true q59; obtain ⟨hy71_, hz71_⟩ := Kd.R_celln 0 HO151.out (a0_1 : Int) (zF (by first | (with_reducible assumption) | assumption)) (zF (by first | (with_reducible assumption) | assumption)); have HP71 := Kd.R_putg HO151.out (a0_1 : Int) (wrap64 ((wrap64 (4 * (l2.length : Int))) + a1))) | ((with_reducible refine gate_store (t := 3) (p := 106) rfl ?_); refine store_event (t := 3) (p := 106) (v := ?vo_w72) (w1 := (w68.setCell ⟨go59, (a0_1 : Int).toNat, none⟩ (.int .i64 (wrap64 ((wrap64 (4 * (l2.length : Int))) + a1))))) ?hg ?ho ?hn ?hr ?_; (case ho => rfl); (case hg => rfl); (case hn => rfl); (case hr => first | (go_simp; done) | (go_simp; rfl)); intro w72 hw; have hg : w68.grownBy w72 (some go59) := (by rw [hw]; exact HP71.2); have hp_ : Kd.R (Kd.int .i64) 3 w72 w.heap.size (fun _ => True) (.slice (some ⟨go59, 0, none⟩) t149.length co64) y154 := (by rw [hw, Ny154.out]; exact HP71.1); clear HP71; have n0_ := zA (Kd.R_over' (v := (.slice (some ⟨go59, 0, none⟩) t149.length co64)) (bR HO_9.out) (Kd.R_typed HO151.out) (by decide) hg); have n1_ := zA (blk_grown (g := gb133) (o := .cells #[.slice A0_0 l0_0.length c0_0, .int .i64 a0_1] 31 (0, 0)) (bU BK133.out) hg (Kd.R_ne HO151.out BK133.out (by decide))); have n2_ := zA (blk_grown (g := gb134) (o := .cells #[.slice none 0 0, .int .i64 x135001_3] 31 (0, 0)) (bU BK134.out) hg (Kd.R_ne HO151.out BK134.out (by decide))); have n3_ := zA (hp_); have n4_ := zA (blk_grown (g := gb153) (o := .cells #[.slice (some ⟨go59, 0, none⟩) t149.length co64, .int .i64 t152] 31 (0, 0)) (bU BK153.out) hg (Kd.R_ne HO151.out BK153.out (by decide))); have n5_ := zA ((by rw [hw]; exact zB (HB.out) GB59.out : Below w.heap.size w w72)); clear HO_9 BK133 BK134 HO151 BK153 HB; have HO_9 := n0_; have BK133 := n1_; have BK134 := n2_; have HO151 := n3_; have BK153 := n4_; have HB := n5_; clear n0_ n1_ n2_ n3_ n4_ n5_; clear hg hw hp_))
             go_loopg [14] k3 (fun kq v14 w' => ∃ (x14_4 : Int) (x154000_4 : List Int) (u154000 : Value), v14 = .int .i64 x14_4 ∧ Aside0 (spec_Alloc.l1 kq l2 (l2.length : Int) x14_4 l0_0 a0_1 x154000_4 t152 = some (r1, r2, r3, r4)) ∧ Aside0 (kq ≤ k3) ∧ Aside0 (Kd.R (Kd.int .i64) 3 w' w.heap.size (fun _ => True) u154000 x154000_4) ∧ Aside0 (w'.heap[gb133]? = some (.cells #[(.slice A0_0 l0_0.length c0_0), .int .i64 a0_1] 31 (0, 0))) ∧ Aside0 (w'.heap[gb134]? = some (.cells #[(.slice none 0 0), .int .i64 x135001_3] 31 (0, 0))) ∧ Aside0 (w'.heap[gb153]? = some (.cells #[u154000, .int .i64 t152] 31 (0, 0))) ∧ Aside0 (Below w.heap.size w w'))
             case atStart => exact ⟨(0), (y154), (.slice (some ⟨go59, 0, none⟩) t149.length co64), (by first | rfl | (simp; done) | (simp [*]; done)), H', ⟨Nat.le_refl _⟩, ⟨bR HO151.out⟩, ⟨bU BK133.out⟩, ⟨bU BK134.out⟩, ⟨bU BK153.out⟩, ⟨bC HB.out GE133.out GE134.out GE153.out⟩⟩
             case round =>
              clear H'
              try clear c1
              try clear p1
              try clear q1
              try clear hx1
              try clear qi1
              try clear c2
              try clear p2
              try clear c3
              try clear c4
              try clear c5
              try clear p5
              try clear q5
              try clear hx5
              try clear hf5
              try clear c6
              try clear p6
              try clear c8
              try clear c11
              try clear c12
              try clear c12b0
              try clear c13
              try clear c13b0
              try clear p13
              try clear q13
              try clear hx13
              try clear qi13
              try clear c14
              try clear p14
              try clear q14
              try clear hx14
              try clear qi14
              try clear c15
              try clear c18
              try clear c18b0
              try clear c18b1
              try clear c19
              try clear c19b0
              try clear c19b1
              try clear c20
              try clear c20b0
              try clear c20b1
              try clear c21
              try clear c21b0
              try clear c21b1
              try clear c22
              try clear c22b0
              try clear c22b1
              try clear c23
              try clear c23b0
              try clear c23b1
              try clear c24
              try clear c24b0
              try clear c24b1
              try clear c25
              try clear c25b0
              try clear c26
              try clear c26b0
              try clear c26b1
              try clear c27
              try clear c27b0
              try clear c27b1
              try clear c28
              try clear c28b0
              try clear c28b1
              try clear c29
              try clear c29b0
              try clear c30
              try clear c30b0
              try clear c30b1
              try clear c31
              try clear c31b0
              try clear c31b1
              try clear c32
              try clear c32b0
              try clear c32b1
              try clear c33
              try clear c33b0
              try clear c33b1
              try clear c34
              try clear c34b0
              try clear c34b1
              try clear c35
              try clear c35b0
              try clear c36
              try clear c36b0
              try clear c36b1
              try clear c37
              try clear c37b0
              try clear c37b1
              try clear c38
              try clear c38b0
              try clear c38b1
              try clear c39
              try clear c39b0
              try clear c40
              try clear c41
              try clear c43
              try clear c43b0
              try clear c44
              try clear c44b0
              try clear c45
              try clear c45b0
              try clear c47
              try clear c50
              try clear c52
              try clear c52b0
              try clear c53
              try clear c57
              try clear c57b0
              try clear c58
              try clear c58b0
              try clear p59
              try clear q59
              try clear hx59
              try clear hf59
              try clear c60
              try clear p64
              try clear c65
              try clear c66
              try clear hcz16_0
              try clear hcz16_1
              try clear hcz42_0
              try clear hcz42_1
              try clear hcz51_0
              try clear hcz51_1
              try clear hcz54_0
              try clear hcz54_1
              try clear hcz55_0
              try clear hcz55_1
              try clear hcz61_0
              try clear hcz61_1
              try clear hcz67_0
              try clear hcz67_1
              try clear hcz69_0
              try clear hcz69_1
              try clear hcz70_0
              try clear hcz70_1
              try clear hcz9_0
              try clear hcz9_1
              try clear hfz16_0
              try clear hfz16_1
              try clear hfz42_0
              try clear hfz42_1
              try clear hfz51_0
              try clear hfz51_1
              try clear hfz54_0
              try clear hfz54_1
              try clear hfz55_0
              try clear hfz55_1
              try clear hfz61_0
              try clear hfz61_1
              try clear hfz67_0
              try clear hfz67_1
              try clear hfz69_0
              try clear hfz69_1
              try clear hfz70_0
              try clear hfz70_1
              try clear hfz9_0
              try clear hfz9_1
              try clear hx139_0
              try clear hx140_0
              try clear hx141_0
              try clear hx142_0
              try clear hx143_0
              try clear hx144_0
              try clear hx145_0
              try clear hx146_0
              try clear hx147_0
              try clear hx59_0
              try clear p1
              try clear p13
              try clear p139
              try clear p14
              try clear p140
              try clear p141
              try clear p142
              try clear p143
              try clear p144
              try clear p145
              try clear p146
              try clear p147
              try clear p2
              try clear p59
              try clear q1
              try clear q13
              try clear q139
              try clear q14
              try clear q140
              try clear q141
              try clear q142
              try clear q143
              try clear q144
              try clear q145
              try clear q146
              try clear q147
              try clear q59
              obtain ⟨x14_4, x154000_4, u154000, rfl, HA, HK4, HO_154000, BK133, BK134, BK153, HB⟩ := hrel
              cases gk with
              | zero => exact absurd HA.out (by simp [spec_Alloc.l1])
              | succ k4 =>
               have H := HA.out
               clear HA
               simp only [spec_Alloc.l1] at H
               by_cases c73 : x14_4 < (l2.length : Int)
               ·rw [if_pos c73] at H
                have c73b0 : decide (x14_4 < (l2.length : Int)) = true := zG c73
                clear c73
                by_cases c74 : 0 ≤ x14_4
                ·rw [if_pos c74] at H
                 have c74b0 : decide (0 ≤ x14_4) = true := zG c74
                 clear c74
                 by_cases c75 : x14_4 < (l2.length : Int)
                 ·rw [if_pos c75] at H
                  have c75b0 : decide (x14_4 < (l2.length : Int)) = true := zG c75
                  clear c75
                  obtain ⟨ji76, hji76⟩ : ∃ j_ : Int, (wrap64 ((wrap64 (a0_1 + 1)) + x14_4)) = j_ := ⟨_, rfl⟩
                  replace H : (if 0 ≤ (ji76) then (if (ji76) < (x154000_4.length : Int) then (spec_Alloc.l1 k4 l2 (l2.length : Int) (wrap64 (x14_4 + 1)) l0_0 a0_1 (x154000_4.set ((ji76) : Int).toNat (rd l2 x14_4)) t152) else (none)) else (none)) = some (r1, r2, r3, r4) := by first | (rw [hji76] at H; exact H) | (simp only [hji76] at H ⊢; exact H)
                  have hji76w : (IntKind.i64.wrap ((wrap64 (a0_1 + 1)) + x14_4)) = ji76 := (i64_w _).trans hji76
                  by_cases c77 : 0 ≤ (ji76)
                  ·rw [if_pos c77] at H
                   have c77b0 : decide (0 ≤ (ji76)) = true := zG c77
                   clear c77
                   by_cases c78 : (ji76) < (x154000_4.length : Int)
                   ·rw [if_pos c78] at H
                    have c78b0 : decide ((ji76) < (x154000_4.length : Int)) = true := zG c78
                    clear c78
                    obtain ⟨y156, hy156⟩ : ∃ y_ : List Int, y_ = (x154000_4.set ((ji76) : Int).toNat (rd l2 x14_4)) := ⟨_, rfl⟩
                    replace H : (spec_Alloc.l1 k4 l2 (l2.length : Int) (wrap64 (x14_4 + 1)) l0_0 a0_1 y156 t152) = some (r1, r2, r3, r4) := by first | (rw [hy156]; with_reducible exact H) | (have H2_ := (Option.bind_some _ _).symm.trans H; rw [hy156]; with_reducible exact H2_) | (have H2_ := (Option.bind_some _ _).symm.trans H; with_reducible exact H2_) | with_reducible exact H | (rw [hy156]; exact H) | exact H
                    have Ny156 := zA hy156
                    clear hy156
                    have H' := zA H
                    clear H
                    try go_wp2
                    have n0_ := zA (Kd.R_drew HO_154000.out)
                    have n1_ := zA (blk_drew BK133.out)
                    have n2_ := zA (blk_drew BK134.out)
                    have n3_ := zA (blk_drew BK153.out)
                    have n4_ := zA (zD HB.out)
                    clear HO_154000
                    clear BK133
                    clear BK134
                    clear BK153
                    clear HB
                    have HO_154000 := n0_
                    have BK133 := n1_
                    have BK134 := n2_
                    have BK153 := n3_
                    have HB := n4_
                    clear n0_ n1_ n2_ n3_ n4_
                    have p155 : 0 ≤ (x14_4 : Int) := zF (by first | (with_reducible assumption) | assumption)
                    have q155 : x14_4 < (l2.length : Int) := zF (by first | (with_reducible assumption) | assumption)
                    obtain ⟨ad155, e155, hx155_0⟩ := Kd.at_int HR2.out x14_4 p155 q155
                    have hw155_0 := hx155_0
                    cases e155
                    replace hx155_0 := (HB.out.cell (World.block_lt_of_cell? w _ hx155_0)).trans hx155_0
                    replace p155 := eq_true p155
                    replace q155 := eq_true q155
                    have p79 : 0 ≤ ((ji76) : Int) := zF (by first | (with_reducible assumption) | assumption)
                    have q79 : ((ji76) : Int) < ((x154000_4.length : Int) : Int) := zF (by first | (with_reducible assumption) | assumption)
                    obtain ⟨go79, co79, eo79, gb79, gl79, cl79, HG79⟩ := Kd.R_form HO_154000.out (by omega)
                    (first | cases eo79 | (injection eo79 with ea_ en_ ec_; (first | subst ea_ | (injection ea_ with ea_; subst ea_)); subst ec_; clear en_))
                    have GB79 := zA gb79
                    have GG79 := zA HG79
                    clear gb79 gl79 HG79
                    obtain ⟨hx79_0, hf79_0⟩ := Kd.R_celln 0 HO_154000.out ((ji76) : Int) p79 q79
                    replace p79 := eq_true p79
                    replace q79 := eq_true q79
                    have HP81 := Kd.R_putn HO_154000.out ((ji76) : Int) (rd l2 x14_4)
                    rw [← Ny156.out] at HP81
                    have HQ81 := zA HP81
                    clear HP81
                    refine start_ (n := 13) (S := fun w' => w'.cell? ⟨gb153, 0, none⟩ = some (.slice (some ⟨go79, 0, none⟩) x154000_4.length co79) ∧ w'.cell? ⟨gb153, 1, none⟩ = some (.int .i64 t152) ∧ w'.cell? ⟨gb133, 0, none⟩ = some (.slice A0_0 l0_0.length c0_0) ∧ w'.cell? ⟨gb133, 1, none⟩ = some (.int .i64 a0_1) ∧ w'.cell? (ad155.add (x14_4).toNat) = some (.int .i64 (rd l2 x14_4))) (ds := [12]) #[false, false, false, false, false, false, false, false, false, false, false, false, false] (by kernel_rfl) rfl rfl ⟨(zZ BK153.out 0).trans rfl, (zZ BK153.out 1).trans rfl, (zZ BK133.out 0).trans rfl, (zZ BK133.out 1).trans rfl, ((HB.out.cell (World.block_lt_of_cell? w _ hw155_0)).trans hw155_0)⟩ (fun hHeld => ?_); refine with_tabW spec_Alloc.tab19 spec_Alloc.bits19 (fun HT_ HW_ => ?_)
                    generalize wr.drew = w80 at HO_154000 BK133 BK134 BK153 HB GG79 HQ81 hf79_0 hx155_0 hx79_0 hHeld ⊢
                    refine pure_ (i := 0) (N := some 112) (v := ?_) (a' := ?_) #[true, false, false, false, false, false, false, false, false, false, false, false, false] rfl rfl (any_of HT_.out (by kernel_rfl)) (fun _ _ _ h => h) (Or.inl ⟨by rfl, ?_⟩) ?_ ?_
                    rotate_left
                    ·intro w'
                     go_simp
                     with_reducible rfl
                    rotate_left
                    ·simp only [Act.put, List.setIfInBounds_toArray, List.set_cons_zero, List.set_cons_succ, i64_w, i32_w]
                     rfl
                    refine pure_ (i := 2) (N := some 114) (v := ?_) (a' := ?_) #[true, false, true, false, false, false, false, false, false, false, false, false, false] rfl rfl (any_of HT_.out (by kernel_rfl)) (fun _ _ _ h => h) (Or.inl ⟨by rfl, ?_⟩) ?_ ?_
                    rotate_left
                    ·intro w'
                     go_simp
                     with_reducible rfl
                    rotate_left
                    ·simp only [Act.put, List.setIfInBounds_toArray, List.set_cons_zero, List.set_cons_succ, i64_w, i32_w]
                     rfl
                    refine pure_ (i := 5) (N := some 117) (v := ?_) (a' := ?_) #[true, false, true, false, false, true, false, false, false, false, false, false, false] rfl rfl (any_of HT_.out (by kernel_rfl)) (fun _ _ _ h => h) (Or.inl ⟨by rfl, ?_⟩) ?_ ?_
                    rotate_left
                    ·intro w'
                     go_simp
                     with_reducible rfl
                    rotate_left
                    ·simp only [Act.put, List.setIfInBounds_toArray, List.set_cons_zero, List.set_cons_succ, i64_w, i32_w]
                     rfl
                    refine pure_ (i := 7) (N := some 119) (v := ?_) (a' := ?_) #[true, false, true, false, false, true, false, true, false, false, false, false, false] rfl rfl (any_of HT_.out (by kernel_rfl)) (fun _ _ _ h => h) (Or.inl ⟨by rfl, ?_⟩) ?_ ?_
                    rotate_left
                    ·intro w'
                     go_simp
                     with_reducible rfl
                    rotate_left
                    ·simp only [Act.put, List.setIfInBounds_toArray, List.set_cons_zero, List.set_cons_succ, i64_w, i32_w]
                     rfl
                    refine pure_ (i := 8) (N := some 120) (v := ?_) (a' := ?_) #[true, false, true, false, false, true, false, true, true, false, false, false, false] rfl rfl (any_of HT_.out (by kernel_rfl)) (fun _ _ _ h => h) (Or.inl ⟨by rfl, ?_⟩) ?_ ?_
                    rotate_left
                    ·intro w'
                     go_simp
                     with_reducible rfl
                    rotate_left
                    ·simp only [Act.put, List.setIfInBounds_toArray, List.set_cons_zero, List.set_cons_succ, i64_w, i32_w]
                     rfl
                    refine pure_ (i := 9) (N := some 121) (v := ?_) (a' := ?_) #[true, false, true, false, false, true, false, true, true, true, false, false, false] rfl rfl (any_of HT_.out (by kernel_rfl)) (fun _ _ _ h => h) (Or.inl ⟨by rfl, ?_⟩) ?_ ?_
                    rotate_left
                    ·intro w'
                     go_simp
                     with_reducible rfl
                    rotate_left
                    ·simp only [Act.put, List.setIfInBounds_toArray, List.set_cons_zero, List.set_cons_succ, i64_w, i32_w]
                     rfl
                    refine take_ (i := 1) (N := some 113) (v := ?_) (a' := ?_) #[true, true, true, false, false, true, false, true, true, true, false, false, false] rfl rfl (take_ofW HT_.out HW_.out (by kernel_rfl)) (fun _ _ _ h => h) (Or.inl ⟨by rfl, ?_⟩) hHeld ?_ ?_
                    rotate_left
                    ·rintro w' ⟨s0, s1, s2, s3, s4⟩
                     go_simp
                     with_reducible rfl
                    rotate_left
                    ·simp only [Act.put, List.setIfInBounds_toArray, List.set_cons_zero, List.set_cons_succ, i64_w, i32_w]
                     rfl
                    refine take_ (i := 3) (N := some 115) (v := ?_) (a' := ?_) #[true, true, true, true, false, true, false, true, true, true, false, false, false] rfl rfl (take_ofW HT_.out HW_.out (by kernel_rfl)) (fun _ _ _ h => h) (Or.inl ⟨by rfl, ?_⟩) hHeld ?_ ?_
                    rotate_left
                    ·rintro w' ⟨s0, s1, s2, s3, s4⟩
                     go_simp
                     with_reducible rfl
                    rotate_left
                    ·simp only [Act.put, List.setIfInBounds_toArray, List.set_cons_zero, List.set_cons_succ, i64_w, i32_w]
                     rfl
                    refine pure_ (i := 4) (N := some 116) (v := ?_) (a' := ?_) #[true, true, true, true, true, true, false, true, true, true, false, false, false] rfl rfl (any_of HT_.out (by kernel_rfl)) (fun _ _ _ h => h) (Or.inl ⟨by rfl, ?_⟩) ?_ ?_
                    rotate_left
                    ·intro w'
                     go_simp
                     with_reducible rfl
                    rotate_left
                    ·simp only [Act.put, List.setIfInBounds_toArray, List.set_cons_zero, List.set_cons_succ, i64_w, i32_w]
                     rfl
                    refine pure_ (i := 6) (N := some 118) (v := ?_) (a' := ?_) #[true, true, true, true, true, true, true, true, true, true, false, false, false] rfl rfl (any_of HT_.out (by kernel_rfl)) (fun _ _ _ h => h) (Or.inl ⟨by rfl, ?_⟩) ?_ ?_
                    rotate_left
                    ·intro w'
                     go_simp
                     with_reducible rfl
                    rotate_left
                    ·simp only [Act.put, List.setIfInBounds_toArray, List.set_cons_zero, List.set_cons_succ, i64_w, i32_w]
                     rfl
                    refine take_ (i := 10) (N := some 122) (v := ?_) (a' := ?_) #[true, true, true, true, true, true, true, true, true, true, true, false, false] rfl rfl (take_ofW HT_.out HW_.out (by kernel_rfl)) (fun _ _ _ h => h) (Or.inl ⟨by rfl, ?_⟩) hHeld ?_ ?_
                    rotate_left
                    ·rintro w' ⟨s0, s1, s2, s3, s4⟩
                     go_simp
                     with_reducible rfl
                    rotate_left
                    ·simp only [Act.put, List.setIfInBounds_toArray, List.set_cons_zero, List.set_cons_succ, i64_w, i32_w]
                     rfl
                    refine pure_ (i := 11) (N := some 123) (v := ?_) (a' := ?_) #[true, true, true, true, true, true, true, true, true, true, true, true, false] rfl rfl (any_of HT_.out (by kernel_rfl)) (fun _ _ _ h => h) (Or.inl ⟨by rfl, ?_⟩) ?_ ?_
                    rotate_left
                    ·intro w'
                     go_simp
                     with_reducible rfl
                    rotate_left
                    ·simp only [Act.put, List.setIfInBounds_toArray, List.set_cons_zero, List.set_cons_succ, i64_w, i32_w]
                     rfl
                    refine last_ (i := 12) (N := none) #[true, true, true, true, true, true, true, true, true, true, true, true, true] rfl rfl (one_of HT_.out (by kernel_rfl)) (by decide) (fun K hK => ?_)
                    refine skip_ (w1 := ?_) (by rfl) rfl ?_ ?_
                    rotate_left
                    ·go_simp
                     rfl
                    refine hK.out _ _ ?_
                    clear hK K
                    refine done_ (done_of HT_.out (by kernel_rfl)) ?_
                    try go_wp2
                    go_roundg k4
                    case measure => have := HJ4.out; have := HJ16.out; have := HK3.out; have := HK4.out; omega
                    case rel => exact ⟨(wrap64 (x14_4 + 1)), (y156), (.slice (some ⟨go79, 0, none⟩) x154000_4.length co79), (by first | rfl | (simp; done) | (simp [*]; done)), H', ⟨by have := HJ4.out; have := HJ16.out; have := HK3.out; have := HK4.out; omega⟩, ⟨bR HQ81.out⟩, ⟨by (with_reducible repeat (first | refine blk_drewN ?_ _ | refine blk_drew ?_ | refine blk_alloc ?_ _)); refine blk_far ?_ (by have h_ := Kd.R_ne HO_154000.out BK133.out (by decide); intro e_; exact h_ (by rw [e_]; rfl)) _; exact bU BK133.out⟩, ⟨by (with_reducible repeat (first | refine blk_drewN ?_ _ | refine blk_drew ?_ | refine blk_alloc ?_ _)); refine blk_far ?_ (by have h_ := Kd.R_ne HO_154000.out BK134.out (by decide); intro e_; exact h_ (by rw [e_]; rfl)) _; exact bU BK134.out⟩, ⟨by (with_reducible repeat (first | refine blk_drewN ?_ _ | refine blk_drew ?_ | refine blk_alloc ?_ _)); refine blk_far ?_ (by have h_ := Kd.R_ne HO_154000.out BK153.out (by decide); intro e_; exact h_ (by rw [e_]; rfl)) _; exact bU BK153.out⟩, ⟨bI HB.out GB79.out GE133.out GE134.out GE153.out⟩⟩
                   ·rw [if_neg c78] at H
                    exact absurd H (by simp)
                  ·rw [if_neg c77] at H
                   exact absurd H (by simp)
                 ·rw [if_neg c75] at H
                  exact absurd H (by simp)
                ·rw [if_neg c74] at H
                 exact absurd H (by simp)
               ·rw [if_neg c73] at H
                have c73b0 : decide (x14_4 < (l2.length : Int)) = false := zH c73
                clear c73
                simp only [Option.some.injEq, Prod.mk.injEq] at H
                obtain ⟨rfl, rfl, rfl, rfl⟩ := H
                have hnb82 := NB133_134.out
                have hnc82 := NB134_133.out
                have hnb83 := NB133_153.out
                have hnc83 := NB153_133.out
                have hcz84_0 : wr.cell? ⟨gb133, 0, none⟩ = some (.slice A0_0 l0_0.length c0_0) := (zZ BK133.out 0).trans rfl
                have hcz84_1 : wr.cell? ⟨gb133, 1, none⟩ = some (.int .i64 a0_1) := (zZ BK133.out 1).trans rfl
                have hfz84_0 := zY BK133.out 0
                have hfz84_1 := zY BK133.out 1
                have hnb85 := NB153_134.out
                have hnc85 := NB134_153.out
                have hcz86_0 : wr.cell? ⟨gb153, 0, none⟩ = some (u154000) := (zZ BK153.out 0).trans rfl
                have hcz86_1 : wr.cell? ⟨gb153, 1, none⟩ = some (.int .i64 t152) := (zZ BK153.out 1).trans rfl
                have hfz86_0 := zY BK153.out 0
                have hfz86_1 := zY BK153.out 1
                try go_wp2
                have n0_ : Aside0 (Kd.R (Kd.int .i64) 3 (wr.setCell ⟨gb153, 1, none⟩ (.int .i64 (wrap64 ((wrap64 (a0_1 + 1)) + (l2.length : Int))))) w.heap.size (fun _ => True) u154000 x154000_4) := ⟨bR (zI (zJ (p := ⟨gb153, 1, none⟩) (zL HO_154000.out BK153.out (by decide)) (fun _ hk => hk.2) (.int .i64 (wrap64 ((wrap64 (a0_1 + 1)) + (l2.length : Int))))) (fun _ hk => trivial))⟩
                have n1_ : Aside0 ((wr.setCell ⟨gb153, 1, none⟩ (.int .i64 (wrap64 ((wrap64 (a0_1 + 1)) + (l2.length : Int))))).heap[gb133]? = some (.cells #[.slice A0_0 l0_0.length c0_0, .int .i64 a0_1] 31 (0, 0))) := ⟨by (with_reducible repeat (first | refine blk_drewN ?_ _ | refine blk_drew ?_ | refine blk_alloc ?_ _)); refine blk_far ?_ NB133_153.out _; exact bU BK133.out⟩
                have n2_ : Aside0 ((wr.setCell ⟨gb153, 1, none⟩ (.int .i64 (wrap64 ((wrap64 (a0_1 + 1)) + (l2.length : Int))))).heap[gb134]? = some (.cells #[.slice none 0 0, .int .i64 x135001_3] 31 (0, 0))) := ⟨by (with_reducible repeat (first | refine blk_drewN ?_ _ | refine blk_drew ?_ | refine blk_alloc ?_ _)); refine blk_far ?_ NB134_153.out _; exact bU BK134.out⟩
                have n3_ : Aside0 ((wr.setCell ⟨gb153, 1, none⟩ (.int .i64 (wrap64 ((wrap64 (a0_1 + 1)) + (l2.length : Int))))).heap[gb153]? = some (.cells #[u154000, .int .i64 (wrap64 ((wrap64 (a0_1 + 1)) + (l2.length : Int)))] 31 (0, 0))) := ⟨by (with_reducible repeat (first | refine blk_drewN ?_ _ | refine blk_drew ?_ | refine blk_alloc ?_ _)); refine blk_put (cs := #[u154000, .int .i64 t152]) ?_ 1 _ rfl; exact bU BK153.out⟩
                have n4_ : Aside0 (Below w.heap.size w (wr.setCell ⟨gb153, 1, none⟩ (.int .i64 (wrap64 ((wrap64 (a0_1 + 1)) + (l2.length : Int)))))) := ⟨bC HB.out GE133.out GE134.out GE153.out⟩
                (try clear HO_154000)
                (try clear BK133)
                (try clear BK134)
                (try clear BK153)
                (try clear HB)
                generalize (wr.setCell ⟨gb153, 1, none⟩ (.int .i64 (wrap64 ((wrap64 (a0_1 + 1)) + (l2.length : Int))))) = w87 at n0_ n1_ n2_ n3_ n4_ ⊢
                have HO_154000 := n0_
                have BK133 := n1_
                have BK134 := n2_
                have BK153 := n3_
                have HB := n4_
                clear n0_ n1_ n2_ n3_ n4_
                have n0_ := zA (Kd.R_drew HO_154000.out)
                have n1_ := zA (blk_drew BK133.out)
                have n2_ := zA (blk_drew BK134.out)
                have n3_ := zA (blk_drew BK153.out)
                have n4_ := zA (zD HB.out)
                clear HO_154000
                clear BK133
                clear BK134
                clear BK153
                clear HB
                have HO_154000 := n0_
                have BK133 := n1_
                have BK134 := n2_
                have BK153 := n3_
                have HB := n4_
                clear n0_ n1_ n2_ n3_ n4_
                obtain ⟨Ao89, co89, eo89⟩ := Kd.R_slice HO_154000.out
                (first | subst eo89 | (injection eo89 with f1_ f2_ f3_; have f4_ := f1_.symm; have f5_ := f3_.symm; clear f1_ f2_ f3_; subst f4_; subst f5_))
                refine start_ (n := 8) (S := fun w' => w'.cell? ⟨gb153, 0, none⟩ = some (.slice Ao89 x154000_4.length co89) ∧ w'.cell? ⟨gb153, 1, none⟩ = some (.int .i64 (wrap64 ((wrap64 (a0_1 + 1)) + (l2.length : Int)))) ∧ w'.cell? ⟨gb133, 0, none⟩ = some (.slice A0_0 l0_0.length c0_0) ∧ w'.cell? ⟨gb133, 1, none⟩ = some (.int .i64 a0_1)) (ds := []) #[false, false, false, false, false, false, false, false] (by kernel_rfl) rfl rfl ⟨(zZ BK153.out 0).trans rfl, (zZ BK153.out 1).trans rfl, (zZ BK133.out 0).trans rfl, (zZ BK133.out 1).trans rfl⟩ (fun hHeld => ?_); refine with_tabW spec_Alloc.tab21 spec_Alloc.bits21 (fun HT_ HW_ => ?_)
                generalize w87.drew = w88 at HO_154000 BK133 BK134 BK153 HB hHeld ⊢
                refine pure_ (i := 1) (N := some 131) (v := ?_) (a' := ?_) #[false, true, false, false, false, false, false, false] rfl rfl (any_of HT_.out (by kernel_rfl)) (fun _ _ _ h => h) (Or.inl ⟨by rfl, ?_⟩) ?_ ?_
                rotate_left
                ·intro w'
                 go_simp
                 with_reducible rfl
                rotate_left
                ·simp only [Act.put, List.setIfInBounds_toArray, List.set_cons_zero, List.set_cons_succ, i64_w, i32_w]
                 rfl
                refine take_ (i := 0) (N := some 130) (v := ?_) (a' := ?_) #[true, true, false, false, false, false, false, false] rfl rfl (take_ofW HT_.out HW_.out (by kernel_rfl)) (fun _ _ _ h => h) (Or.inl ⟨by rfl, ?_⟩) hHeld ?_ ?_
                rotate_left
                ·rintro w' ⟨s0, s1, s2, s3⟩
                 go_simp
                 with_reducible rfl
                rotate_left
                ·simp only [Act.put, List.setIfInBounds_toArray, List.set_cons_zero, List.set_cons_succ, i64_w, i32_w]
                 rfl
                refine take_ (i := 2) (N := some 132) (v := ?_) (a' := ?_) #[true, true, true, false, false, false, false, false] rfl rfl (take_ofW HT_.out HW_.out (by kernel_rfl)) (fun _ _ _ h => h) (Or.inl ⟨by rfl, ?_⟩) hHeld ?_ ?_
                rotate_left
                ·rintro w' ⟨s0, s1, s2, s3⟩
                 go_simp
                 with_reducible rfl
                rotate_left
                ·simp only [Act.put, List.setIfInBounds_toArray, List.set_cons_zero, List.set_cons_succ, i64_w, i32_w]
                 rfl
                refine pure_ (i := 3) (N := some 133) (v := ?_) (a' := ?_) #[true, true, true, true, false, false, false, false] rfl rfl (any_of HT_.out (by kernel_rfl)) (fun _ _ _ h => h) (Or.inl ⟨by rfl, ?_⟩) ?_ ?_
                rotate_left
                ·intro w'
                 go_simp
                 with_reducible rfl
                rotate_left
                ·simp only [Act.put, List.setIfInBounds_toArray, List.set_cons_zero, List.set_cons_succ, i64_w, i32_w]
                 rfl
                refine pure_ (i := 4) (N := some 134) (v := ?_) (a' := ?_) #[true, true, true, true, true, false, false, false] rfl rfl (any_of HT_.out (by kernel_rfl)) (fun _ _ _ h => h) (Or.inl ⟨by rfl, ?_⟩) ?_ ?_
                rotate_left
                ·intro w'
                 go_simp
                 with_reducible rfl
                rotate_left
                ·simp only [Act.put, List.setIfInBounds_toArray, List.set_cons_zero, List.set_cons_succ, i64_w, i32_w]
                 rfl
                refine one_ (i := 5) (N := none) #[true, true, true, true, true, true, false, false] rfl rfl (one_of HT_.out (by kernel_rfl)) (by decide) (fun K hK => ?_)
                have hs90 : w88.cell? ⟨gb134, 0, none⟩ = some (.slice none 0 0) := (zZ BK134.out 0).trans rfl
                have hfs90 := zY BK134.out 0
                have hns90_0 := NB133_134.out
                have hns90_2 := NB153_134.out
                have hms90_0 := NB134_133.out
                have hms90_2 := NB134_153.out
                have hs91 : w88.cell? ⟨gb134, 1, none⟩ = some (.int .i64 x135001_3) := (zZ BK134.out 1).trans rfl
                have hfs91 := zY BK134.out 1
                have hns91_0 := NB133_134.out
                have hns91_2 := NB153_134.out
                have hms91_0 := NB134_133.out
                have hms91_2 := NB134_153.out
                refine skip_ (w1 := ?_) (by rfl) rfl ?_ ?_
                rotate_left
                ·go_simp
                 rfl
                refine hK.out _ _ ⟨((cell_far (p := ⟨gb134, _, none⟩) NB153_134.out _).trans (((cell_far (p := ⟨gb134, _, none⟩) NB153_134.out _).trans (hHeld.1)))), ((cell_far (p := ⟨gb134, _, none⟩) NB153_134.out _).trans (((cell_far (p := ⟨gb134, _, none⟩) NB153_134.out _).trans (hHeld.2.1)))), ((cell_far (p := ⟨gb134, _, none⟩) NB133_134.out _).trans (((cell_far (p := ⟨gb134, _, none⟩) NB133_134.out _).trans (hHeld.2.2.1)))), ((cell_far (p := ⟨gb134, _, none⟩) NB133_134.out _).trans (((cell_far (p := ⟨gb134, _, none⟩) NB133_134.out _).trans (hHeld.2.2.2))))⟩ (fun hHeld => ?_)
                clear hK K
                refine pure_ (i := 6) (N := some 7) (v := ?_) (a' := ?_) #[true, true, true, true, true, true, true, false] rfl rfl (any_of HT_.out (by kernel_rfl)) (fun _ _ _ h => h) (Or.inl ⟨by rfl, ?_⟩) ?_ ?_
                rotate_left
                ·intro w'
                 go_simp
                 with_reducible rfl
                rotate_left
                ·simp only [Act.put, List.setIfInBounds_toArray, List.set_cons_zero, List.set_cons_succ, i64_w, i32_w]
                 rfl
                refine pure_ (i := 7) (N := some 8) (v := ?_) (a' := ?_) #[true, true, true, true, true, true, true, true] rfl rfl (any_of HT_.out (by kernel_rfl)) (fun _ _ _ h => h) (Or.inl ⟨by rfl, ?_⟩) ?_ ?_
                rotate_left
                ·intro w'
                 go_simp
                 with_reducible rfl
                rotate_left
                ·simp only [Act.put, List.setIfInBounds_toArray, List.set_cons_zero, List.set_cons_succ, i64_w, i32_w]
                 rfl
                refine done_ (done_of HT_.out (by kernel_rfl)) ?_
                try go_wp2
                refine bodyPost_ret (results_ctt rfl _ _ gb134 31 #[.slice Ao89 x154000_4.length co89, .int .i64 (wrap64 ((wrap64 (a0_1 + 1)) + (l2.length : Int)))] (0, 0) _ rfl (by (with_reducible repeat (first | refine blk_drewN ?_ _ | refine blk_drew ?_ | refine blk_alloc ?_ _)); refine blk_put (cs := #[.slice Ao89 x154000_4.length co89, .int .i64 x135001_3]) ?_ 1 _ rfl; (with_reducible repeat (first | refine blk_drewN ?_ _ | refine blk_drew ?_ | refine blk_alloc ?_ _)); refine blk_put (cs := #[.slice none 0 0, .int .i64 x135001_3]) ?_ 0 _ rfl; exact bU BK134.out) Try.underlying31 rfl (by kernel_rfl)) rfl ?_
                exact ⟨_, by first | rfl | (simp [errW_none, errW_some] <;> rfl) | (simp [*, errW_none, errW_some] <;> rfl), bR (zI (zJ (p := ⟨gb134, 1, none⟩) (zJ (p := ⟨gb134, 0, none⟩) (zL HO_154000.out BK134.out (by decide)) (fun _ hk => hk.2) (.slice Ao89 x154000_4.length co89)) (fun _ hk => hk.2) (.int .i64 (wrap64 ((wrap64 (a0_1 + 1)) + (l2.length : Int))))) (fun _ hk => trivial)), bC HB.out GE133.out GE134.out GE153.out⟩
            ·rw [if_neg c58] at H
             exact absurd H (by simp)
           ·rw [if_neg c57] at H
            exact absurd H (by simp)

end Go.Proofs.Ytggkkgkjhfgipaa.QFnAlloc
