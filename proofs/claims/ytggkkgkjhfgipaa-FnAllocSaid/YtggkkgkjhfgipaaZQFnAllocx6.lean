-- Written by a program of this session (wip/tools/ownprint.py) over hand-proved contracts.
import Derived.Test.YtggkkgkjhfgipaaZQFnAllocx0
import Derived.Test.YtggkkgkjhfgipaaZQFnAllocx4
import Derived.Test.YtggkkgkjhfgipaaZQFnAllocx5
namespace Go.Proofs.Ytggkkgkjhfgipaa.QFnAlloc
open Go.RowKit Go.Proofs.YtggkkgkjhfgipaaW.PrintWords Go.Proofs.YtggkkgkjhfgipaaW.PrintLast Go.Proofs.YtggkkgkjhfgipaaW.PrintMore
attribute [local go_sem] max2_int min2_int max_two min_two max_three min_three max_four min_four   -- for this text's walks alone
set_option linter.unusedVariables false
set_option linter.unusedSimpArgs false

/-! ### spec_l7heap: function 53 -/
mutual
def spec_l7heap.l0 : Nat → List Int → Int → Int → List Int → Int → List Int → Int → Option (List Int × Int × List Int × Int)
 | 0, _, _, _, _, _, _, _ => none
 | k + 1, x6, x7, x8, x1000, x1001, x175000, x175001 => if x8 < x7 then ((spec_l7rd_next.f x1000 x1001).bind fun bt180 => (if (Int.tmod bt180.1 4) = 0 then (spec_l7heap.j1 k x6 x7 x8 bt180.1 (Int.tmod bt180.1 4) 2 x1000 bt180.2 x175000 x175001) else (spec_l7heap.j1 k x6 x7 x8 bt180.1 (Int.tmod bt180.1 4) (Int.tmod (wrap64 (Int.tdiv bt180.1 4)) 5) x1000 bt180.2 x175000 x175001))) else (spec_l7heap.l2 k x6 x7 0 x1000 x1001 x175000 x175001)
def spec_l7heap.j1 : Nat → List Int → Int → Int → Int → Int → Int → List Int → Int → List Int → Int → Option (List Int × Int × List Int × Int)
 | 0, _, _, _, _, _, _, _, _, _, _ => none
 | k + 1, x6, x7, x8, x9, x10, x11, x1000, x1001, x175000, x175001 => if x10 = 3 then (spec_l7heap.j2 k x6 x7 x8 x9 x10 1 x1000 x1001 x175000 x175001) else (spec_l7heap.j2 k x6 x7 x8 x9 x10 x11 x1000 x1001 x175000 x175001)
def spec_l7heap.j2 : Nat → List Int → Int → Int → Int → Int → Int → List Int → Int → List Int → Int → Option (List Int × Int × List Int × Int)
 | 0, _, _, _, _, _, _, _, _, _, _ => none
 | k + 1, x6, x7, x8, x9, x10, x11, x1000, x1001, x175000, x175001 => spec_l7heap.l1 k x6 x7 x8 x9 x10 x11 ([] : List Int) 0 x1000 x1001 x175000 x175001
def spec_l7heap.l1 : Nat → List Int → Int → Int → Int → Int → Int → List Int → Int → List Int → Int → List Int → Int → Option (List Int × Int × List Int × Int)
 | 0, _, _, _, _, _, _, _, _, _, _, _, _ => none
 | k + 1, x6, x7, x8, x9, x10, x11, x12, x13, x1000, x1001, x175000, x175001 => if x13 < x11 then ((spec_l7rd_next.f x1000 x1001).bind fun bt182 => (if (x6.length : Int) = 0 then (none) else (if 0 ≤ (Int.tmod bt182.1 (x6.length : Int)) then (if (Int.tmod bt182.1 (x6.length : Int)) < (x6.length : Int) then (if x12.length < 17592186044416 then ((some (x12 ++ [rd x6 (Int.tmod bt182.1 (x6.length : Int))] : List Int)).bind fun y185 => (if (Int.tmod bt182.1 3) = 0 then (if (x6.length : Int) > 8 then (if (wrap64 ((x6.length : Int) - 8)) = 0 then (none) else (if 0 ≤ (wrap64 ((wrap64 ((x6.length : Int) - 1)) - (Int.tmod (wrap64 (Int.tdiv bt182.1 3)) (wrap64 ((x6.length : Int) - 8))))) then (if (wrap64 ((wrap64 ((x6.length : Int) - 1)) - (Int.tmod (wrap64 (Int.tdiv bt182.1 3)) (wrap64 ((x6.length : Int) - 8))))) < (x6.length : Int) then (if 0 ≤ x13 then (if x13 < (y185.length : Int) then (spec_l7heap.l1 k x6 x7 x8 x9 x10 x11 (y185.set (x13 : Int).toNat (rd x6 (wrap64 ((wrap64 ((x6.length : Int) - 1)) - (Int.tmod (wrap64 (Int.tdiv bt182.1 3)) (wrap64 ((x6.length : Int) - 8))))))) (wrap64 (x13 + 1)) x1000 bt182.2 x175000 x175001) else (none)) else (none)) else (none)) else (none))) else (spec_l7heap.l1 k x6 x7 x8 x9 x10 x11 y185 (wrap64 (x13 + 1)) x1000 bt182.2 x175000 x175001)) else (spec_l7heap.l1 k x6 x7 x8 x9 x10 x11 y185 (wrap64 (x13 + 1)) x1000 bt182.2 x175000 x175001))) else (none)) else (none)) else (none)))) else (if x10 = 2 then ((some (([wrap64 (4 * (wrap64 (Int.tdiv x9 20)))] : List Int) : List Int)).bind fun y190 => (if y190.length + x12.length < 17592186044416 then (spec_l7heap.j4 k x6 x7 x8 x10 (y190 ++ x12) x1000 x1001 x175000 x175001) else (none))) else (spec_l7heap.j4 k x6 x7 x8 x10 x12 x1000 x1001 x175000 x175001))
def spec_l7heap.j4 : Nat → List Int → Int → Int → Int → List Int → List Int → Int → List Int → Int → Option (List Int × Int × List Int × Int)
 | 0, _, _, _, _, _, _, _, _, _ => none
 | k + 1, x6, x7, x8, x10, x12, x1000, x1001, x175000, x175001 => (spec_Alloc.f k x175000 x175001 x10 x12).bind fun bt196 => (if bt196.2.2.2 = 0 then (if x6.length < 17592186044416 then (spec_l7heap.l0 k (x6 ++ [bt196.2.2.1]) x7 (wrap64 (x8 + 1)) x1000 x1001 bt196.1 bt196.2.1) else (none)) else (spec_l7heap.l0 k x6 x7 (wrap64 (x8 + 1)) x1000 x1001 x175000 x175001))
def spec_l7heap.l2 : Nat → List Int → Int → Int → List Int → Int → List Int → Int → Option (List Int × Int × List Int × Int)
 | 0, _, _, _, _, _, _, _ => none
 | k + 1, x6, x7, x18, x1000, x1001, x175000, x175001 => if x18 < (wrap64 (Int.tdiv x7 3)) then (if (x6.length : Int) > 8 then ((spec_l7rd_next.f x1000 x1001).bind fun bt206 => (if (wrap64 ((x6.length : Int) - 8)) = 0 then (none) else (if 0 ≤ (wrap64 (8 + (Int.tmod bt206.1 (wrap64 ((x6.length : Int) - 8))))) then (if (wrap64 (8 + (Int.tmod bt206.1 (wrap64 ((x6.length : Int) - 8))))) < (x6.length : Int) then (if 0 ≤ (wrap64 (Int.tdiv (rd x6 (wrap64 (8 + (Int.tmod bt206.1 (wrap64 ((x6.length : Int) - 8)))))) 4)) then (if (wrap64 (Int.tdiv (rd x6 (wrap64 (8 + (Int.tmod bt206.1 (wrap64 ((x6.length : Int) - 8)))))) 4)) < (x175000.length : Int) then (if (rd x175000 (wrap64 (Int.tdiv (rd x6 (wrap64 (8 + (Int.tmod bt206.1 (wrap64 ((x6.length : Int) - 8)))))) 4))) = 8 then (if 0 ≤ (wrap64 ((x6.length : Int) - 1)) then (if (wrap64 ((x6.length : Int) - 1)) < (x6.length : Int) then (if 0 ≤ (wrap64 ((wrap64 (Int.tdiv (rd x6 (wrap64 (8 + (Int.tmod bt206.1 (wrap64 ((x6.length : Int) - 8)))))) 4)) + 1)) then (if (wrap64 ((wrap64 (Int.tdiv (rd x6 (wrap64 (8 + (Int.tmod bt206.1 (wrap64 ((x6.length : Int) - 8)))))) 4)) + 1)) < (x175000.length : Int) then (spec_l7heap.l2 k x6 x7 (wrap64 (x18 + 1)) x1000 bt206.2 (x175000.set ((wrap64 ((wrap64 (Int.tdiv (rd x6 (wrap64 (8 + (Int.tmod bt206.1 (wrap64 ((x6.length : Int) - 8)))))) 4)) + 1)) : Int).toNat (rd x6 (wrap64 ((x6.length : Int) - 1)))) x175001) else (none)) else (none)) else (none)) else (none)) else (if (Int.tmod (rd x175000 (wrap64 (Int.tdiv (rd x6 (wrap64 (8 + (Int.tmod bt206.1 (wrap64 ((x6.length : Int) - 8)))))) 4))) 4) = 3 then (if 0 ≤ (wrap64 ((x6.length : Int) - 1)) then (if (wrap64 ((x6.length : Int) - 1)) < (x6.length : Int) then (if 0 ≤ (wrap64 ((wrap64 (Int.tdiv (rd x6 (wrap64 (8 + (Int.tmod bt206.1 (wrap64 ((x6.length : Int) - 8)))))) 4)) + 1)) then (if (wrap64 ((wrap64 (Int.tdiv (rd x6 (wrap64 (8 + (Int.tmod bt206.1 (wrap64 ((x6.length : Int) - 8)))))) 4)) + 1)) < (x175000.length : Int) then (spec_l7heap.l2 k x6 x7 (wrap64 (x18 + 1)) x1000 bt206.2 (x175000.set ((wrap64 ((wrap64 (Int.tdiv (rd x6 (wrap64 (8 + (Int.tmod bt206.1 (wrap64 ((x6.length : Int) - 8)))))) 4)) + 1)) : Int).toNat (rd x6 (wrap64 ((x6.length : Int) - 1)))) x175001) else (none)) else (none)) else (none)) else (none)) else (spec_l7heap.l2 k x6 x7 (wrap64 (x18 + 1)) x1000 bt206.2 x175000 x175001))) else (none)) else (none)) else (none)) else (none)))) else (spec_l7heap.l2 k x6 x7 (wrap64 (x18 + 1)) x1000 x1001 x175000 x175001)) else (some (x175000, x175001, x6, x1001))
end
def spec_l7heap.f (k : Nat) (s0_0 : List Int) (s0_1 : Int) : Option (List Int × Int × List Int × Int) := (spec_l7rd_next.f s0_0 s0_1).bind fun bt167 => ((spec_NewHeap.f (wrap64 (10 + bt167.1))).bind fun bt169 => ((spec_l7rd_next.f s0_0 bt167.2).bind fun bt178 => (spec_l7heap.l0 k (([4, (-8), 3, 11, 2, 10, 15, 19] : List Int)) (Int.tmod bt178.1 16) 0 s0_0 bt178.2 bt169.1 bt169.2.1)))
theorem spec_l7heap.mono_l : ∀ k, (∀ y0 y1 y2 y3 y4 y5 y6, LeO (spec_l7heap.l0 k y0 y1 y2 y3 y4 y5 y6) (spec_l7heap.l0 (k + 1) y0 y1 y2 y3 y4 y5 y6)) ∧ (∀ y0 y1 y2 y3 y4 y5 y6 y7 y8 y9, LeO (spec_l7heap.j1 k y0 y1 y2 y3 y4 y5 y6 y7 y8 y9) (spec_l7heap.j1 (k + 1) y0 y1 y2 y3 y4 y5 y6 y7 y8 y9)) ∧ (∀ y0 y1 y2 y3 y4 y5 y6 y7 y8 y9, LeO (spec_l7heap.j2 k y0 y1 y2 y3 y4 y5 y6 y7 y8 y9) (spec_l7heap.j2 (k + 1) y0 y1 y2 y3 y4 y5 y6 y7 y8 y9)) ∧ (∀ y0 y1 y2 y3 y4 y5 y6 y7 y8 y9 y10 y11, LeO (spec_l7heap.l1 k y0 y1 y2 y3 y4 y5 y6 y7 y8 y9 y10 y11) (spec_l7heap.l1 (k + 1) y0 y1 y2 y3 y4 y5 y6 y7 y8 y9 y10 y11)) ∧ (∀ y0 y1 y2 y3 y4 y5 y6 y7 y8, LeO (spec_l7heap.j4 k y0 y1 y2 y3 y4 y5 y6 y7 y8) (spec_l7heap.j4 (k + 1) y0 y1 y2 y3 y4 y5 y6 y7 y8)) ∧ (∀ y0 y1 y2 y3 y4 y5 y6, LeO (spec_l7heap.l2 k y0 y1 y2 y3 y4 y5 y6) (spec_l7heap.l2 (k + 1) y0 y1 y2 y3 y4 y5 y6))
 | 0 => ⟨fun _ _ _ _ _ _ _ r h => by simp [spec_l7heap.l0] at h, fun _ _ _ _ _ _ _ _ _ _ r h => by simp [spec_l7heap.j1] at h, fun _ _ _ _ _ _ _ _ _ _ r h => by simp [spec_l7heap.j2] at h, fun _ _ _ _ _ _ _ _ _ _ _ _ r h => by simp [spec_l7heap.l1] at h, fun _ _ _ _ _ _ _ _ _ r h => by simp [spec_l7heap.j4] at h, fun _ _ _ _ _ _ _ r h => by simp [spec_l7heap.l2] at h⟩
 | k + 1 => by
  obtain ⟨ih0, ih1, ih2, ih3, ih4, ih5⟩ := spec_l7heap.mono_l k
  refine ⟨?_, ?_, ?_, ?_, ?_, ?_⟩
  ·intro y0 y1 y2 y3 y4 y5 y6
   unfold spec_l7heap.l0
   repeat' first
   | (with_reducible exact ih0 _ _ _ _ _ _ _)
   | (with_reducible exact ih1 _ _ _ _ _ _ _ _ _ _)
   | (with_reducible exact ih2 _ _ _ _ _ _ _ _ _ _)
   | (with_reducible exact ih3 _ _ _ _ _ _ _ _ _ _ _ _)
   | (with_reducible exact ih4 _ _ _ _ _ _ _ _ _)
   | (with_reducible exact ih5 _ _ _ _ _ _ _)
   | (with_reducible exact spec_Alloc.mono _ _ _ _ _)
   | (with_reducible exact LeO.refl _)
   | (with_reducible exact LeO.none _)
   | (with_reducible refine LeO.ite ?_ ?_)
   | (with_reducible refine LeO.bind ?_ (fun _ => ?_))
   | exact ih0 _ _ _ _ _ _ _
   | exact ih1 _ _ _ _ _ _ _ _ _ _
   | exact ih2 _ _ _ _ _ _ _ _ _ _
   | exact ih3 _ _ _ _ _ _ _ _ _ _ _ _
   | exact ih4 _ _ _ _ _ _ _ _ _
   | exact ih5 _ _ _ _ _ _ _
   | exact spec_Alloc.mono _ _ _ _ _
   | exact LeO.none _
   | refine LeO.ite ?_ ?_
   | refine LeO.bind ?_ (fun _ => ?_)
  ·intro y0 y1 y2 y3 y4 y5 y6 y7 y8 y9
   unfold spec_l7heap.j1
   repeat' first
   | (with_reducible exact ih0 _ _ _ _ _ _ _)
   | (with_reducible exact ih1 _ _ _ _ _ _ _ _ _ _)
   | (with_reducible exact ih2 _ _ _ _ _ _ _ _ _ _)
   | (with_reducible exact ih3 _ _ _ _ _ _ _ _ _ _ _ _)
   | (with_reducible exact ih4 _ _ _ _ _ _ _ _ _)
   | (with_reducible exact ih5 _ _ _ _ _ _ _)
   | (with_reducible exact spec_Alloc.mono _ _ _ _ _)
   | (with_reducible exact LeO.refl _)
   | (with_reducible exact LeO.none _)
   | (with_reducible refine LeO.ite ?_ ?_)
   | (with_reducible refine LeO.bind ?_ (fun _ => ?_))
   | exact ih0 _ _ _ _ _ _ _
   | exact ih1 _ _ _ _ _ _ _ _ _ _
   | exact ih2 _ _ _ _ _ _ _ _ _ _
   | exact ih3 _ _ _ _ _ _ _ _ _ _ _ _
   | exact ih4 _ _ _ _ _ _ _ _ _
   | exact ih5 _ _ _ _ _ _ _
   | exact spec_Alloc.mono _ _ _ _ _
   | exact LeO.none _
   | refine LeO.ite ?_ ?_
   | refine LeO.bind ?_ (fun _ => ?_)
  ·intro y0 y1 y2 y3 y4 y5 y6 y7 y8 y9
   unfold spec_l7heap.j2
   repeat' first
   | (with_reducible exact ih0 _ _ _ _ _ _ _)
   | (with_reducible exact ih1 _ _ _ _ _ _ _ _ _ _)
   | (with_reducible exact ih2 _ _ _ _ _ _ _ _ _ _)
   | (with_reducible exact ih3 _ _ _ _ _ _ _ _ _ _ _ _)
   | (with_reducible exact ih4 _ _ _ _ _ _ _ _ _)
   | (with_reducible exact ih5 _ _ _ _ _ _ _)
   | (with_reducible exact spec_Alloc.mono _ _ _ _ _)
   | (with_reducible exact LeO.refl _)
   | (with_reducible exact LeO.none _)
   | (with_reducible refine LeO.ite ?_ ?_)
   | (with_reducible refine LeO.bind ?_ (fun _ => ?_))
   | exact ih0 _ _ _ _ _ _ _
   | exact ih1 _ _ _ _ _ _ _ _ _ _
   | exact ih2 _ _ _ _ _ _ _ _ _ _
   | exact ih3 _ _ _ _ _ _ _ _ _ _ _ _
   | exact ih4 _ _ _ _ _ _ _ _ _
   | exact ih5 _ _ _ _ _ _ _
   | exact spec_Alloc.mono _ _ _ _ _
   | exact LeO.none _
   | refine LeO.ite ?_ ?_
   | refine LeO.bind ?_ (fun _ => ?_)
  ·intro y0 y1 y2 y3 y4 y5 y6 y7 y8 y9 y10 y11
   unfold spec_l7heap.l1
   repeat' first
   | (with_reducible exact ih0 _ _ _ _ _ _ _)
   | (with_reducible exact ih1 _ _ _ _ _ _ _ _ _ _)
   | (with_reducible exact ih2 _ _ _ _ _ _ _ _ _ _)
   | (with_reducible exact ih3 _ _ _ _ _ _ _ _ _ _ _ _)
   | (with_reducible exact ih4 _ _ _ _ _ _ _ _ _)
   | (with_reducible exact ih5 _ _ _ _ _ _ _)
   | (with_reducible exact spec_Alloc.mono _ _ _ _ _)
   | (with_reducible exact LeO.refl _)
   | (with_reducible exact LeO.none _)
   | (with_reducible refine LeO.ite ?_ ?_)
   | (with_reducible refine LeO.bind ?_ (fun _ => ?_))
   | exact ih0 _ _ _ _ _ _ _
   | exact ih1 _ _ _ _ _ _ _ _ _ _
   | exact ih2 _ _ _ _ _ _ _ _ _ _
   | exact ih3 _ _ _ _ _ _ _ _ _ _ _ _
   | exact ih4 _ _ _ _ _ _ _ _ _
   | exact ih5 _ _ _ _ _ _ _
   | exact spec_Alloc.mono _ _ _ _ _
   | exact LeO.none _
   | refine LeO.ite ?_ ?_
   | refine LeO.bind ?_ (fun _ => ?_)
  ·intro y0 y1 y2 y3 y4 y5 y6 y7 y8
   unfold spec_l7heap.j4
   repeat' first
   | (with_reducible exact ih0 _ _ _ _ _ _ _)
   | (with_reducible exact ih1 _ _ _ _ _ _ _ _ _ _)
   | (with_reducible exact ih2 _ _ _ _ _ _ _ _ _ _)
   | (with_reducible exact ih3 _ _ _ _ _ _ _ _ _ _ _ _)
   | (with_reducible exact ih4 _ _ _ _ _ _ _ _ _)
   | (with_reducible exact ih5 _ _ _ _ _ _ _)
   | (with_reducible exact spec_Alloc.mono _ _ _ _ _)
   | (with_reducible exact LeO.refl _)
   | (with_reducible exact LeO.none _)
   | (with_reducible refine LeO.ite ?_ ?_)
   | (with_reducible refine LeO.bind ?_ (fun _ => ?_))
   | exact ih0 _ _ _ _ _ _ _
   | exact ih1 _ _ _ _ _ _ _ _ _ _
   | exact ih2 _ _ _ _ _ _ _ _ _ _
   | exact ih3 _ _ _ _ _ _ _ _ _ _ _ _
   | exact ih4 _ _ _ _ _ _ _ _ _
   | exact ih5 _ _ _ _ _ _ _
   | exact spec_Alloc.mono _ _ _ _ _
   | exact LeO.none _
   | refine LeO.ite ?_ ?_
   | refine LeO.bind ?_ (fun _ => ?_)
  ·intro y0 y1 y2 y3 y4 y5 y6
   unfold spec_l7heap.l2
   repeat' first
   | (with_reducible exact ih0 _ _ _ _ _ _ _)
   | (with_reducible exact ih1 _ _ _ _ _ _ _ _ _ _)
   | (with_reducible exact ih2 _ _ _ _ _ _ _ _ _ _)
   | (with_reducible exact ih3 _ _ _ _ _ _ _ _ _ _ _ _)
   | (with_reducible exact ih4 _ _ _ _ _ _ _ _ _)
   | (with_reducible exact ih5 _ _ _ _ _ _ _)
   | (with_reducible exact spec_Alloc.mono _ _ _ _ _)
   | (with_reducible exact LeO.refl _)
   | (with_reducible exact LeO.none _)
   | (with_reducible refine LeO.ite ?_ ?_)
   | (with_reducible refine LeO.bind ?_ (fun _ => ?_))
   | exact ih0 _ _ _ _ _ _ _
   | exact ih1 _ _ _ _ _ _ _ _ _ _
   | exact ih2 _ _ _ _ _ _ _ _ _ _
   | exact ih3 _ _ _ _ _ _ _ _ _ _ _ _
   | exact ih4 _ _ _ _ _ _ _ _ _
   | exact ih5 _ _ _ _ _ _ _
   | exact spec_Alloc.mono _ _ _ _ _
   | exact LeO.none _
   | refine LeO.ite ?_ ?_
   | refine LeO.bind ?_ (fun _ => ?_)
theorem spec_l7heap.mono : ∀ a0 a1 k, LeO (spec_l7heap.f k a0 a1) (spec_l7heap.f (k + 1) a0 a1) := by
 intro a0 a1 k
 obtain ⟨ih0, ih1, ih2, ih3, ih4, ih5⟩ := spec_l7heap.mono_l k
 unfold spec_l7heap.f
 repeat' first
   | (with_reducible exact ih0 _ _ _ _ _ _ _)
   | (with_reducible exact ih1 _ _ _ _ _ _ _ _ _ _)
   | (with_reducible exact ih2 _ _ _ _ _ _ _ _ _ _)
   | (with_reducible exact ih3 _ _ _ _ _ _ _ _ _ _ _ _)
   | (with_reducible exact ih4 _ _ _ _ _ _ _ _ _)
   | (with_reducible exact ih5 _ _ _ _ _ _ _)
   | (with_reducible exact spec_Alloc.mono _ _ _ _ _)
   | (with_reducible exact LeO.refl _)
   | (with_reducible exact LeO.none _)
   | (with_reducible refine LeO.ite ?_ ?_)
   | (with_reducible refine LeO.bind ?_ (fun _ => ?_))
   | exact ih0 _ _ _ _ _ _ _
   | exact ih1 _ _ _ _ _ _ _ _ _ _
   | exact ih2 _ _ _ _ _ _ _ _ _ _
   | exact ih3 _ _ _ _ _ _ _ _ _ _ _ _
   | exact ih4 _ _ _ _ _ _ _ _ _
   | exact ih5 _ _ _ _ _ _ _
   | exact spec_Alloc.mono _ _ _ _ _
   | exact LeO.none _
   | refine LeO.ite ?_ ?_
   | refine LeO.bind ?_ (fun _ => ?_)
def spec_l7heap.T35 : Bool × List (List Nat × List Nat) := (true, [([], []), ([0], [0]), ([], []), ([2], [2]), ([], []), ([], []), ([5], [5]), ([6], [6]), ([4, 7], [4, 7]), ([8], [8]), ([1, 3, 0, 1, 2, 3, 4, 5, 6, 7, 8, 9], [1, 3]), ([10, 9, 0, 1, 2, 3, 4, 5, 6, 7, 8, 9], [9, 10])])
def spec_l7heap.B35 : List Nat := [0, 1, 0, 4, 0, 0, 32, 96, 240, 496, 1023, 2047]
theorem spec_l7heap.tab35 : rtab .any (opsOf Try.f53 35) = spec_l7heap.T35 := by kernel_rfl
theorem spec_l7heap.bits35 : waitsOk spec_l7heap.T35.2 spec_l7heap.B35 = true := by kernel_rfl
set_option maxHeartbeats 8000000 in
set_option maxRecDepth 100000 in
theorem spec_l7heap.calls (k : Nat) (g : Nat) (s0_0 : List Int) (s0_1 : Int) (r1 : List Int) (r2 : Int) (r3 : List Int) (r4 : Int) (w0 w : World) (hI : IsS86 w0 w g s0_0 s0_1) (hB : Below w0.heap.size w0 w) (h : spec_l7heap.f k s0_0 s0_1 = some (r1, r2, r3, r4)) :
  Calls Try.prog 53 #[.pointer (some ⟨g, 0, none⟩)] w fun e w' => ∃ v0_ v2_ : Value, e = .returned (.tuple #[.agg #[v0_, .int .i64 r2], v2_]) ∧ Kd.R (Kd.int .i64) 3 w' w.heap.size (fun k_ => some k_ ≠ (v2_ : Value).ownBlock) v0_ r1 ∧ Kd.R (Kd.int .i64) 3 w' w.heap.size (fun k_ => some k_ ≠ (v0_ : Value).ownBlock) v2_ r3 ∧ IsS86 w0 w' g s0_0 r4 ∧ Below w0.heap.size w0 w' ∧ KeepBut w w' g none := by
 have hu31 := Try.underlying31
 have HI0 := zA hI
 have HK := zA (KeepBut.refl w g none)
 have HL := zA hB.size
 clear hI
 have HW0 := zA hB.size
 have HB := zA hB
 clear hB
 have H : ((spec_l7rd_next.f s0_0 s0_1).bind fun bt167 => ((spec_NewHeap.f (wrap64 (10 + bt167.1))).bind fun bt169 => ((spec_l7rd_next.f s0_0 bt167.2).bind fun bt178 => (spec_l7heap.l0 k (([4, (-8), 3, 11, 2, 10, 15, 19] : List Int)) (Int.tmod bt178.1 16) 0 s0_0 bt178.2 bt169.1 bt169.2.1)))) = some (r1, r2, r3, r4) := h
 clear h
 replace H := Option.bind_eq_some_iff.mp H
 obtain ⟨⟨t167, t168⟩, A20, H⟩ := H
 replace H : ((spec_NewHeap.f (wrap64 (10 + t167))).bind fun bt169 => ((spec_l7rd_next.f s0_0 t168).bind fun bt178 => (spec_l7heap.l0 k (([4, (-8), 3, 11, 2, 10, 15, 19] : List Int)) (Int.tmod bt178.1 16) 0 s0_0 bt178.2 bt169.1 bt169.2.1))) = some (r1, r2, r3, r4) := H
 have A2 := zA A20
 clear A20
 replace H := Option.bind_eq_some_iff.mp H
 obtain ⟨⟨t169, t172, t173⟩, A30, H⟩ := H
 replace H : ((spec_l7rd_next.f s0_0 t168).bind fun bt178 => (spec_l7heap.l0 k (([4, (-8), 3, 11, 2, 10, 15, 19] : List Int)) (Int.tmod bt178.1 16) 0 s0_0 bt178.2 t169 t172)) = some (r1, r2, r3, r4) := H
 have A3 := zA A30
 clear A30
 obtain ⟨y175, hy175⟩ : ∃ y_ : List Int, y_ = (([4, (-8), 3, 11, 2, 10, 15, 19] : List Int)) := ⟨_, rfl⟩
 replace H : ((spec_l7rd_next.f s0_0 t168).bind fun bt178 => (spec_l7heap.l0 k y175 (Int.tmod bt178.1 16) 0 s0_0 bt178.2 t169 t172)) = some (r1, r2, r3, r4) := by first | (rw [hy175]; with_reducible exact H) | (have H2_ := (Option.bind_some _ _).symm.trans H; rw [hy175]; with_reducible exact H2_) | (have H2_ := (Option.bind_some _ _).symm.trans H; with_reducible exact H2_) | with_reducible exact H | (rw [hy175]; exact H) | exact H
 have Ny175 := zA hy175
 clear hy175
 replace H := Option.bind_eq_some_iff.mp H
 obtain ⟨⟨t178, t179⟩, A40, H⟩ := H
 replace H : (spec_l7heap.l0 k y175 (Int.tmod t178 16) 0 s0_0 t179 t169 t172) = some (r1, r2, r3, r4) := H
 have A4 := zA A40
 clear A40
 have H' := zA H
 clear H
 go_enter Try.func53, Try.ntmps53
 go_wp2_with (first | ((with_reducible refine gate_dst (N := 2) rfl ?_); (try (refine gate_guard (by rfl) ?_; dsimp only)); refine box_event ?hg (N := 2) ?hd (cs := #[.slice none 0 0, .int .i64 0]) (t := 31) ?hr ?_; (case hd => rfl); (case hg => rfl); (case hr => first | (go_simp; done) | (go_simp; rfl)); intro gb166 hg w5 hbox hb; have n0_ := zA (IsS86.below (by repeat (first | (with_reducible first | exact HI0.out | apply IsS86.alloc | apply IsS86.drewN | apply IsS86.drew | apply IsS86.set_1) | exact HI0.out)) hb); have n1_ := zA (zg (by repeat (first | (with_reducible first | exact HK.out | apply zS | apply zT | apply zW | apply zU) | exact HK.out)) (KeepBut.of_below hb g none) (.inl rfl)); have n2_ := zA (zX (by repeat (first | (with_reducible first | exact HB.out | apply zE | apply zC | apply zD | refine zB ?_ (IsS86.ge HI0.out)) | exact HB.out)) hb); have n3_ := zA (hbox); have n4_ := zA ((by rw [hg]; exact (keep_size (w := w) (g := g) (row := none) (by repeat (first | (with_reducible first | exact HK.out | apply zS | apply zT | apply zW | apply zU) | exact HK.out))) : w.heap.size ≤ gb166)); have n5_ := zA ((Nat.le_trans HW0.out (by rw [hg]; exact (keep_size (w := w) (g := g) (row := none) (by repeat (first | (with_reducible first | exact HK.out | apply zS | apply zT | apply zW | apply zU) | exact HK.out))) : w.heap.size ≤ gb166) : w0.heap.size ≤ gb166)); have n6_ := zA ((by rw [hg]; exact Nat.ne_of_lt (IsS86.lt (show IsS86 w0 _ g s0_0 s0_1 from by repeat (first | (with_reducible first | exact HI0.out | apply IsS86.alloc | apply IsS86.drewN | apply IsS86.drew | apply IsS86.set_1) | exact HI0.out))) : g ≠ gb166)); have n7_ := zA ((by rw [hg]; exact Nat.ne_of_gt (IsS86.lt (show IsS86 w0 _ g s0_0 s0_1 from by repeat (first | (with_reducible first | exact HI0.out | apply IsS86.alloc | apply IsS86.drewN | apply IsS86.drew | apply IsS86.set_1) | exact HI0.out))) : gb166 ≠ g)); clear HI0 HK HB; have HI0 := n0_; have HK := n1_; have HB := n2_; have BK166 := n3_; have GW166 := n4_; have GE166 := n5_; have NB0_166 := n6_; have NB166_0 := n7_; clear n0_ n1_ n2_ n3_ n4_ n5_ n6_ n7_; clear hb hbox hg) | ((with_reducible refine gate_callee (f := 52) rfl ?_); refine goesL_ (some 23) rfl rfl Try.func52 (by kernel_rfl) rfl #[.pointer (some ⟨g, 0, none⟩)] rfl (by (try simp only [List.map_toArray, List.map_cons, List.map_nil]); first | done | rfl | (simp only [List.length_drop, List.length_take]; rfl)) ?_; (with_reducible refine (spec_l7rd_next.calls g s0_0 s0_1 t167 t168 w0 _ ?side1 ?side2 A2.out).mono ?_); (case side1 => repeat (first | (with_reducible first | exact HI0.out | apply IsS86.alloc | apply IsS86.drewN | apply IsS86.drew | apply IsS86.set_1 | refine IsS86.far ?_ NB0_166.out _) | exact HI0.out)); (case side2 => repeat (first | (with_reducible first | exact HB.out | apply zE | apply zC | apply zD | refine zB ?_ (IsS86.ge HI0.out) | refine zB ?_ GE166.out) | exact HB.out)); rintro e w6 ⟨rfl, hi, hb, hk⟩; refine ⟨_, rfl, ?_⟩; have n0_ := zA (KeepBut.blk hk (g' := gb166) (o := .cells #[.slice none 0 0, .int .i64 0] 31 (0, 0)) (by (with_reducible repeat (first | refine blk_drewN ?_ _ | refine blk_drew ?_ | refine blk_alloc ?_ _)); exact BK166.out) NB166_0.out (by simp)); have n1_ := zA (zg (by repeat (first | (with_reducible first | exact HK.out | apply zS | apply zT | apply zW | apply zU | refine zV ?_ GW166.out _) | exact HK.out)) hk (.inl rfl)); have n2_ := zA (hb); have n3_ := zA (hi); clear BK166 HK HB HI0; have BK166 := n0_; have HK := n1_; have HB := n2_; have HI0 := n3_; clear n0_ n1_ n2_ n3_; (try clear hb); (try clear hb2); (try clear hk); (try clear hi)) | ((with_reducible refine gate_callee (f := 15) rfl ?_); refine goesL_ (some 25) rfl rfl Try.func15 (by kernel_rfl) rfl #[.int .i64 (wrap64 (10 + t167))] rfl (by (try simp only [List.map_toArray, List.map_cons, List.map_nil]); first | done | rfl | (simp only [List.length_drop, List.length_take]; rfl)) ?_; (with_reducible refine (spec_NewHeap.calls (wrap64 (10 + t167)) t169 t172 t173 _ A3.out).mono ?_); rintro e w7 ⟨v170, rfl, ho0, hb⟩; refine ⟨_, rfl, ?_⟩; have n0_ := zA (Kd.R_lower ho0 (keep_size (w := w) (g := g) (row := none) (by repeat (first | (with_reducible first | exact HK.out | apply zS | apply zT | apply zW | apply zU | refine zV ?_ GW166.out _) | exact HK.out)))); have n1_ := zA (IsS86.below (by repeat (first | (with_reducible first | exact HI0.out | apply IsS86.alloc | apply IsS86.drewN | apply IsS86.drew | apply IsS86.set_1 | refine IsS86.far ?_ NB0_166.out _) | exact HI0.out)) hb); have n2_ := zA (zN (g := gb166) (o := .cells #[.slice none 0 0, .int .i64 0] 31 (0, 0)) (by (with_reducible repeat (first | refine blk_drewN ?_ _ | refine blk_drew ?_ | refine blk_alloc ?_ _)); exact BK166.out) hb); have n3_ := zA (zg (by repeat (first | (with_reducible first | exact HK.out | apply zS | apply zT | apply zW | apply zU | refine zV ?_ GW166.out _) | exact HK.out)) (KeepBut.of_below hb g none) (.inl rfl)); have n4_ := zA (zX (by repeat (first | (with_reducible first | exact HB.out | apply zE | apply zC | apply zD | refine zB ?_ (IsS86.ge HI0.out) | refine zB ?_ GE166.out) | exact HB.out)) hb); clear HI0 BK166 HK HB; have HO171 := n0_; have HI0 := n1_; have BK166 := n2_; have HK := n3_; have HB := n4_; clear n0_ n1_ n2_ n3_ n4_; (try clear hb); (try clear hb2); (try clear hk); (try clear hi); (try clear ho0)) | ((with_reducible refine gate_dst (N := 4) rfl ?_); (try (refine gate_guard (by rfl) ?_; dsimp only)); refine box_event ?hg (N := 4) ?hd (cs := #[.slice none 0 0, .int .i64 0]) (t := 31) ?hr ?_; (case hd => rfl); (case hg => rfl); (case hr => first | (go_simp; done) | (go_simp; rfl)); intro gb174 hg w8 hbox hb; have n0_ := zA (zP (by (with_reducible repeat (first | apply Kd.R_alloc | apply Kd.R_drewN | apply Kd.R_drew)); exact HO171.out) hb); have n1_ := zA (IsS86.below (by repeat (first | (with_reducible first | exact HI0.out | apply IsS86.alloc | apply IsS86.drewN | apply IsS86.drew | apply IsS86.set_1 | refine IsS86.far ?_ NB0_166.out _) | exact HI0.out)) hb); have n2_ := zA (zN (g := gb166) (o := .cells #[.slice none 0 0, .int .i64 0] 31 (0, 0)) (by (with_reducible repeat (first | refine blk_drewN ?_ _ | refine blk_drew ?_ | refine blk_alloc ?_ _)); exact BK166.out) hb); have n3_ := zA (zg (by repeat (first | (with_reducible first | exact HK.out | apply zS | apply zT | apply zW | apply zU | refine zV ?_ GW166.out _) | exact HK.out)) (KeepBut.of_below hb g none) (.inl rfl)); have n4_ := zA (zX (by repeat (first | (with_reducible first | exact HB.out | apply zE | apply zC | apply zD | refine zB ?_ (IsS86.ge HI0.out) | refine zB ?_ GE166.out) | exact HB.out)) hb); have n5_ := zA (hbox); have n6_ := zA ((by rw [hg]; exact (keep_size (w := w) (g := g) (row := none) (by repeat (first | (with_reducible first | exact HK.out | apply zS | apply zT | apply zW | apply zU | refine zV ?_ GW166.out _) | exact HK.out))) : w.heap.size ≤ gb174)); have n7_ := zA ((Nat.le_trans HW0.out (by rw [hg]; exact (keep_size (w := w) (g := g) (row := none) (by repeat (first | (with_reducible first | exact HK.out | apply zS | apply zT | apply zW | apply zU | refine zV ?_ GW166.out _) | exact HK.out))) : w.heap.size ≤ gb174) : w0.heap.size ≤ gb174)); have n8_ := zA ((by rw [hg]; exact Nat.ne_of_lt (blk_lt (g := gb166) (o := .cells #[.slice none 0 0, .int .i64 0] 31 (0, 0)) (by (with_reducible repeat (first | refine blk_drewN ?_ _ | refine blk_drew ?_ | refine blk_alloc ?_ _)); exact BK166.out)) : gb166 ≠ gb174)); have n9_ := zA ((by rw [hg]; exact Nat.ne_of_gt (blk_lt (g := gb166) (o := .cells #[.slice none 0 0, .int .i64 0] 31 (0, 0)) (by (with_reducible repeat (first | refine blk_drewN ?_ _ | refine blk_drew ?_ | refine blk_alloc ?_ _)); exact BK166.out)) : gb174 ≠ gb166)); have n10_ := zA ((by rw [hg]; exact Nat.ne_of_lt (IsS86.lt (show IsS86 w0 _ g s0_0 t168 from by repeat (first | (with_reducible first | exact HI0.out | apply IsS86.alloc | apply IsS86.drewN | apply IsS86.drew | apply IsS86.set_1 | refine IsS86.far ?_ NB0_166.out _) | exact HI0.out))) : g ≠ gb174)); have n11_ := zA ((by rw [hg]; exact Nat.ne_of_gt (IsS86.lt (show IsS86 w0 _ g s0_0 t168 from by repeat (first | (with_reducible first | exact HI0.out | apply IsS86.alloc | apply IsS86.drewN | apply IsS86.drew | apply IsS86.set_1 | refine IsS86.far ?_ NB0_166.out _) | exact HI0.out))) : gb174 ≠ g)); clear HO171 HI0 BK166 HK HB; have HO171 := n0_; have HI0 := n1_; have BK166 := n2_; have HK := n3_; have HB := n4_; have BK174 := n5_; have GW174 := n6_; have GE174 := n7_; have NB166_174 := n8_; have NB174_166 := n9_; have NB0_174 := n10_; have NB174_0 := n11_; clear n0_ n1_ n2_ n3_ n4_ n5_ n6_ n7_ n8_ n9_ n10_ n11_; clear hb hbox hg; obtain ⟨Ao9, co9, eo9⟩ := Kd.R_slice HO171.out; subst eo9; have hnb10 := NB174_166.out; have hnc10 := NB166_174.out; have hnb11 := NB174_0.out; have hnc11 := NB0_174.out; have hcz12_0 : w8.cell? ⟨gb174, 0, none⟩ = some (.slice none 0 0) := (zZ BK174.out 0).trans rfl; have hcz12_1 : w8.cell? ⟨gb174, 1, none⟩ = some (.int .i64 0) := (zZ BK174.out 1).trans rfl; have hfz12_0 := zY BK174.out 0; have hfz12_1 := zY BK174.out 1) | ((with_reducible refine gate_dst (N := 28) rfl ?_); (try (refine gate_guard (by rfl) ?_; dsimp only)); refine Kd.R_lit (Kd.int .i64) _ 3 ?hg (N := 28) ?hd (xs := ([4, (-8), 3, 11, 2, 10, 15, 19] : List Int)) (inner := [.int .i64 4, .int .i64 (-8), .int .i64 3, .int .i64 11, .int .i64 2, .int .i64 10, .int .i64 15, .int .i64 19]) (ok := fun _ => True) (okp := fun _ => True) ?hr ?hp (fun _ hk => hk) trivial (Below.refl _ _) (Nat.le_refl _) (by simp) ?_; (case hd => rfl); (case hg => rfl); (case hr => first | (go_simp; done) | (go_simp; rfl)); (case hp => exact (Reps.one (show Kd.M (Kd.int .i64) _ _ _ 4 [.int .i64 4] from rfl) (Reps.one (show Kd.M (Kd.int .i64) _ _ _ (-8) [.int .i64 (-8)] from rfl) (Reps.one (show Kd.M (Kd.int .i64) _ _ _ 3 [.int .i64 3] from rfl) (Reps.one (show Kd.M (Kd.int .i64) _ _ _ 11 [.int .i64 11] from rfl) (Reps.one (show Kd.M (Kd.int .i64) _ _ _ 2 [.int .i64 2] from rfl) (Reps.one (show Kd.M (Kd.int .i64) _ _ _ 10 [.int .i64 10] from rfl) (Reps.one (show Kd.M (Kd.int .i64) _ _ _ 15 [.int .i64 15] from rfl) (Reps.one (show Kd.M (Kd.int .i64) _ _ _ 19 [.int .i64 19] from rfl) (Reps.none _ _)))))))))); intro v176 w13 ho14 hb hg_ hnew_; clear hg_ hnew_; (first | rw [← Ny175.out] at ho14 | (simp only [Int.reduceToNat] at ho14; rw [← Ny175.out] at ho14)); have n0_ := zA (zM (by (with_reducible repeat (first | apply Kd.R_alloc | apply Kd.R_drewN | apply Kd.R_drew)); exact (zI (zJ (p := ⟨gb174, 1, none⟩) (zJ (p := ⟨gb174, 0, none⟩) (zL HO171.out BK174.out (by decide)) (fun _ hk => hk.2) (.slice Ao9 t169.length co9)) (fun _ hk => hk.2) (.int .i64 t172)) (fun _ h_ => h_.1))) (zQ ho14) hb); have n1_ := zA (Kd.R_lower (zR ho14 (Kd.R_lt (by (with_reducible repeat (first | apply Kd.R_alloc | apply Kd.R_drewN | apply Kd.R_drew)); exact (zI (zJ (p := ⟨gb174, 1, none⟩) (zJ (p := ⟨gb174, 0, none⟩) (zL HO171.out BK174.out (by decide)) (fun _ hk => hk.2) (.slice Ao9 t169.length co9)) (fun _ hk => hk.2) (.int .i64 t172)) (fun _ h_ => h_.1))))) (keep_size (w := w) (g := g) (row := none) (by repeat (first | (with_reducible first | exact HK.out | apply zS | apply zT | apply zW | apply zU | refine zV ?_ GW166.out _ | refine zV ?_ GW174.out _) | exact HK.out)))); have n2_ := zA (IsS86.below (show IsS86 w0 ((w8.setCell ⟨gb174, 0, none⟩ (.slice Ao9 t169.length co9)).setCell ⟨gb174, 1, none⟩ (.int .i64 t172)) g s0_0 t168 from by repeat (first | (with_reducible first | exact HI0.out | apply IsS86.alloc | apply IsS86.drewN | apply IsS86.drew | apply IsS86.set_1 | refine IsS86.far ?_ NB0_166.out _ | refine IsS86.far ?_ NB0_174.out _) | exact HI0.out)) hb); have n3_ := zA (zN (g := gb166) (o := .cells #[.slice none 0 0, .int .i64 0] 31 (0, 0)) (by (with_reducible repeat (first | refine blk_drewN ?_ _ | refine blk_drew ?_ | refine blk_alloc ?_ _)); refine blk_far ?_ NB166_174.out _; (with_reducible repeat (first | refine blk_drewN ?_ _ | refine blk_drew ?_ | refine blk_alloc ?_ _)); refine blk_far ?_ NB166_174.out _; (with_reducible repeat (first | refine blk_drewN ?_ _ | refine blk_drew ?_ | refine blk_alloc ?_ _)); exact BK166.out) hb); have n4_ := zA (zN (g := gb174) (o := .cells #[.slice Ao9 t169.length co9, .int .i64 t172] 31 (0, 0)) (by (with_reducible repeat (first | refine blk_drewN ?_ _ | refine blk_drew ?_ | refine blk_alloc ?_ _)); refine blk_put (cs := #[.slice Ao9 t169.length co9, .int .i64 0]) ?_ 1 _ rfl; (with_reducible repeat (first | refine blk_drewN ?_ _ | refine blk_drew ?_ | refine blk_alloc ?_ _)); refine blk_put (cs := #[.slice none 0 0, .int .i64 0]) ?_ 0 _ rfl; (with_reducible repeat (first | refine blk_drewN ?_ _ | refine blk_drew ?_ | refine blk_alloc ?_ _)); exact BK174.out) hb); have n5_ := zA (zg (by repeat (first | (with_reducible first | exact HK.out | apply zS | apply zT | apply zW | apply zU | refine zV ?_ GW166.out _ | refine zV ?_ GW174.out _) | exact HK.out)) (KeepBut.of_below hb g none) (.inl rfl)); have n6_ := zA (zX (by repeat (first | (with_reducible first | exact HB.out | apply zE | apply zC | apply zD | refine zB ?_ (IsS86.ge HI0.out) | refine zB ?_ GE166.out | refine zB ?_ GE174.out) | exact HB.out)) hb); clear HO171 HI0 BK166 BK174 HK HB; have HO171 := n0_; have HO177 := n1_; have HI0 := n2_; have BK166 := n3_; have BK174 := n4_; have HK := n5_; have HB := n6_; clear n0_ n1_ n2_ n3_ n4_ n5_ n6_; clear hb ho14) | ((with_reducible refine gate_callee (f := 52) rfl ?_); refine goesL_ (some 30) rfl rfl Try.func52 (by kernel_rfl) rfl #[.pointer (some ⟨g, 0, none⟩)] rfl (by (try simp only [List.map_toArray, List.map_cons, List.map_nil]); first | done | rfl | (simp only [List.length_drop, List.length_take]; rfl)) ?_; (with_reducible refine (spec_l7rd_next.calls g s0_0 t168 t178 t179 w0 _ ?side1 ?side2 A4.out).mono ?_); (case side1 => repeat (first | (with_reducible first | exact HI0.out | apply IsS86.alloc | apply IsS86.drewN | apply IsS86.drew | apply IsS86.set_1 | refine IsS86.far ?_ NB0_166.out _ | refine IsS86.far ?_ NB0_174.out _) | exact HI0.out)); (case side2 => repeat (first | (with_reducible first | exact HB.out | apply zE | apply zC | apply zD | refine zB ?_ (IsS86.ge HI0.out) | refine zB ?_ GE166.out | refine zB ?_ GE174.out) | exact HB.out)); rintro e w15 ⟨rfl, hi, hb, hk⟩; refine ⟨_, rfl, ?_⟩; have n0_ := zA (KeepBut.blk hk (g' := gb166) (o := .cells #[.slice none 0 0, .int .i64 0] 31 (0, 0)) (by (with_reducible repeat (first | refine blk_drewN ?_ _ | refine blk_drew ?_ | refine blk_alloc ?_ _)); exact BK166.out) NB166_0.out (by simp)); have n1_ := zA (zI (Kd.R_keep (IsS86.apart (show IsS86 w0 _ g s0_0 t168 from by repeat (first | (with_reducible first | exact HI0.out | apply IsS86.alloc | apply IsS86.drewN | apply IsS86.drew | apply IsS86.set_1 | refine IsS86.far ?_ NB0_166.out _ | refine IsS86.far ?_ NB0_174.out _) | exact HI0.out)) (by (with_reducible repeat (first | apply Kd.R_alloc | apply Kd.R_drewN | apply Kd.R_drew)); exact HO171.out) (by decide)) hk (fun _ h => h.2)) (fun _ h => h.1)); have n2_ := zA (KeepBut.blk hk (g' := gb174) (o := .cells #[.slice Ao9 t169.length co9, .int .i64 t172] 31 (0, 0)) (by (with_reducible repeat (first | refine blk_drewN ?_ _ | refine blk_drew ?_ | refine blk_alloc ?_ _)); exact BK174.out) NB174_0.out (by simp)); have n3_ := zA (zI (Kd.R_keep (IsS86.apart (show IsS86 w0 _ g s0_0 t168 from by repeat (first | (with_reducible first | exact HI0.out | apply IsS86.alloc | apply IsS86.drewN | apply IsS86.drew | apply IsS86.set_1 | refine IsS86.far ?_ NB0_166.out _ | refine IsS86.far ?_ NB0_174.out _) | exact HI0.out)) (by (with_reducible repeat (first | apply Kd.R_alloc | apply Kd.R_drewN | apply Kd.R_drew)); exact HO177.out) (by decide)) hk (fun _ h => h.2)) (fun _ h => h.1)); have n4_ := zA (zg (by repeat (first | (with_reducible first | exact HK.out | apply zS | apply zT | apply zW | apply zU | refine zV ?_ GW166.out _ | refine zV ?_ GW174.out _) | exact HK.out)) hk (.inl rfl)); have n5_ := zA (hb); have n6_ := zA (hi); clear BK166 HO171 BK174 HO177 HK HB HI0; have BK166 := n0_; have HO171 := n1_; have BK174 := n2_; have HO177 := n3_; have HK := n4_; have HB := n5_; have HI0 := n6_; clear n0_ n1_ n2_ n3_ n4_ n5_ n6_; (try clear hb); (try clear hb2); (try clear hk); (try clear hi)))
 go_loopg [6, 8] k (fun kq v6 v8 w' => ∃ (x6_1 : List Int) (x8_1 : Int) (x1001_1 : Int) (x175000_1 : List Int) (x175001_1 : Int) (u175000 : Value), v8 = .int .i64 x8_1 ∧ Aside0 (spec_l7heap.l0 kq x6_1 (Int.tmod t178 16) x8_1 s0_0 x1001_1 x175000_1 x175001_1 = some (r1, r2, r3, r4)) ∧ Aside0 (kq ≤ k) ∧ Aside0 (Kd.R (Kd.int .i64) 3 w' w.heap.size (fun k_ => some k_ ≠ (u175000 : Value).ownBlock) v6 x6_1) ∧ Aside0 (Kd.R (Kd.int .i64) 3 w' w.heap.size (fun k_ => some k_ ≠ (v6 : Value).ownBlock) u175000 x175000_1) ∧ Aside0 (w'.heap[gb166]? = some (.cells #[(.slice none 0 0), .int .i64 0] 31 (0, 0))) ∧ Aside0 (w'.heap[gb174]? = some (.cells #[u175000, .int .i64 x175001_1] 31 (0, 0))) ∧ Aside0 (IsS86 w0 w' g s0_0 x1001_1) ∧ Aside0 (KeepBut w w' g none) ∧ Aside0 (Below w0.heap.size w0 w'))
 case atStart => exact ⟨(y175), (0), (t179), (t169), (t172), (.slice Ao9 t169.length co9), (by first | rfl | (simp; done) | (simp [*]; done)), H', ⟨Nat.le_refl _⟩, ⟨by (with_reducible repeat (first | apply Kd.R_alloc | apply Kd.R_drewN | apply Kd.R_drew)); exact zI HO177.out (fun _ hk => hk.2)⟩, ⟨by (with_reducible repeat (first | apply Kd.R_alloc | apply Kd.R_drewN | apply Kd.R_drew)); exact zI HO171.out (fun _ hk => hk.2)⟩, ⟨by (with_reducible repeat (first | refine blk_drewN ?_ _ | refine blk_drew ?_ | refine blk_alloc ?_ _)); exact BK166.out⟩, ⟨by (with_reducible repeat (first | refine blk_drewN ?_ _ | refine blk_drew ?_ | refine blk_alloc ?_ _)); exact BK174.out⟩, ⟨by repeat (first | (with_reducible first | exact HI0.out | apply IsS86.alloc | apply IsS86.drewN | apply IsS86.drew | apply IsS86.set_1 | refine IsS86.far ?_ NB0_166.out _ | refine IsS86.far ?_ NB0_174.out _) | exact HI0.out)⟩, ⟨by repeat (first | (with_reducible first | exact HK.out | apply zS | apply zT | apply zW | apply zU | refine zV ?_ GW166.out _ | refine zV ?_ GW174.out _) | exact HK.out)⟩, ⟨by repeat (first | (with_reducible first | exact HB.out | apply zE | apply zC | apply zD | refine zB ?_ (IsS86.ge HI0.out) | refine zB ?_ GE166.out | refine zB ?_ GE174.out) | exact HB.out)⟩⟩
 case round =>
  clear H'
  try clear c1
  try clear p2
  try clear c5
  try clear p6
  try clear c10
  try clear c11
  try clear c15
  try clear hcz12_0
  try clear hcz12_1
  try clear hfz12_0
  try clear hfz12_1
  obtain ⟨x6_1, x8_1, x1001_1, x175000_1, x175001_1, u175000, rfl, HA, HK1, HO_6, HO_175000, BK166, BK174, HI0, HK, HB⟩ := hrel
  cases gk with
  | zero => exact absurd HA.out (by simp [spec_l7heap.l0])
  | succ k1 =>
   have H := HA.out
   clear HA
   simp only [spec_l7heap.l0] at H
   by_cases c16 : x8_1 < (Int.tmod t178 16)
   ·rw [if_pos c16] at H
    have c16b0 : decide (x8_1 < (Int.tmod t178 16)) = true := zG c16
    clear c16
    replace H := Option.bind_eq_some_iff.mp H
    obtain ⟨⟨t180, t181⟩, A170, H⟩ := H
    replace H : (if (Int.tmod t180 4) = 0 then (spec_l7heap.j1 k1 x6_1 (Int.tmod t178 16) x8_1 t180 (Int.tmod t180 4) 2 s0_0 t181 x175000_1 x175001_1) else (spec_l7heap.j1 k1 x6_1 (Int.tmod t178 16) x8_1 t180 (Int.tmod t180 4) (Int.tmod (wrap64 (Int.tdiv t180 4)) 5) s0_0 t181 x175000_1 x175001_1)) = some (r1, r2, r3, r4) := H
    have A17 := zA A170
    clear A170
    have HC18 := zA H
    clear H
    go_upto_if 45 with (first | ((with_reducible refine gate_callee (f := 52) rfl ?_); refine goesL_ (some 38) rfl rfl Try.func52 (by kernel_rfl) rfl #[.pointer (some ⟨g, 0, none⟩)] rfl (by (try simp only [List.map_toArray, List.map_cons, List.map_nil]); first | done | rfl | (simp only [List.length_drop, List.length_take]; rfl)) ?_; (with_reducible refine (spec_l7rd_next.calls g s0_0 x1001_1 t180 t181 w0 _ ?side1 ?side2 A17.out).mono ?_); (case side1 => repeat (first | (with_reducible first | exact HI0.out | apply IsS86.alloc | apply IsS86.drewN | apply IsS86.drew | apply IsS86.set_1 | refine IsS86.far ?_ NB0_166.out _ | refine IsS86.far ?_ NB0_174.out _) | exact HI0.out)); (case side2 => repeat (first | (with_reducible first | exact HB.out | apply zE | apply zC | apply zD | refine zB ?_ (IsS86.ge HI0.out) | refine zB ?_ GE166.out | refine zB ?_ GE174.out) | exact HB.out)); rintro e w19 ⟨rfl, hi, hb, hk⟩; refine ⟨_, rfl, ?_⟩; have n0_ := zA (zI (Kd.R_keep (IsS86.apart (show IsS86 w0 _ g s0_0 x1001_1 from by repeat (first | (with_reducible first | exact HI0.out | apply IsS86.alloc | apply IsS86.drewN | apply IsS86.drew | apply IsS86.set_1 | refine IsS86.far ?_ NB0_166.out _ | refine IsS86.far ?_ NB0_174.out _) | exact HI0.out)) (by (with_reducible repeat (first | apply Kd.R_alloc | apply Kd.R_drewN | apply Kd.R_drew)); exact HO_6.out) (by decide)) hk (fun _ h => h.2)) (fun _ h => h.1)); have n1_ := zA (zI (Kd.R_keep (IsS86.apart (show IsS86 w0 _ g s0_0 x1001_1 from by repeat (first | (with_reducible first | exact HI0.out | apply IsS86.alloc | apply IsS86.drewN | apply IsS86.drew | apply IsS86.set_1 | refine IsS86.far ?_ NB0_166.out _ | refine IsS86.far ?_ NB0_174.out _) | exact HI0.out)) (by (with_reducible repeat (first | apply Kd.R_alloc | apply Kd.R_drewN | apply Kd.R_drew)); exact HO_175000.out) (by decide)) hk (fun _ h => h.2)) (fun _ h => h.1)); have n2_ := zA (KeepBut.blk hk (g' := gb166) (o := .cells #[.slice none 0 0, .int .i64 0] 31 (0, 0)) (by (with_reducible repeat (first | refine blk_drewN ?_ _ | refine blk_drew ?_ | refine blk_alloc ?_ _)); exact BK166.out) NB166_0.out (by simp)); have n3_ := zA (KeepBut.blk hk (g' := gb174) (o := .cells #[u175000, .int .i64 x175001_1] 31 (0, 0)) (by (with_reducible repeat (first | refine blk_drewN ?_ _ | refine blk_drew ?_ | refine blk_alloc ?_ _)); exact BK174.out) NB174_0.out (by simp)); have n4_ := zA (zg (by repeat (first | (with_reducible first | exact HK.out | apply zS | apply zT | apply zW | apply zU | refine zV ?_ GW166.out _ | refine zV ?_ GW174.out _) | exact HK.out)) hk (.inl rfl)); have n5_ := zA (hb); have n6_ := zA (hi); clear HO_6 HO_175000 BK166 BK174 HK HB HI0; have HO_6 := n0_; have HO_175000 := n1_; have BK166 := n2_; have BK174 := n3_; have HK := n4_; have HB := n5_; have HI0 := n6_; clear n0_ n1_ n2_ n3_ n4_ n5_ n6_; (try clear hb); (try clear hb2); (try clear hk); (try clear hi)))
    (try simp only [Act.put, List.setIfInBounds_toArray, List.set_cons_zero, List.set_cons_succ])
    go_cut [11] (fun v11 wc => ∃ (kq : Nat) (x11_17 : Int), v11 = .int .i64 x11_17 ∧ Aside0 (spec_l7heap.j1 kq x6_1 (Int.tmod t178 16) x8_1 t180 (Int.tmod t180 4) x11_17 s0_0 t181 x175000_1 x175001_1 = some (r1, r2, r3, r4)) ∧ Aside0 (kq ≤ k1) ∧ Aside0 (Kd.R (Kd.int .i64) 3 wc w.heap.size (fun k_ => some k_ ≠ (u175000 : Value).ownBlock) u6 x6_1) ∧ Aside0 (Kd.R (Kd.int .i64) 3 wc w.heap.size (fun k_ => some k_ ≠ (u6 : Value).ownBlock) u175000 x175000_1) ∧ Aside0 (wc.heap[gb166]? = some (.cells #[(.slice none 0 0), .int .i64 0] 31 (0, 0))) ∧ Aside0 (wc.heap[gb174]? = some (.cells #[u175000, .int .i64 x175001_1] 31 (0, 0))) ∧ Aside0 (IsS86 w0 wc g s0_0 t181) ∧ Aside0 (KeepBut w wc g none) ∧ Aside0 (Below w0.heap.size w0 wc))
    case first =>
     have H := HC18.out
     clear HC18
     by_cases c20 : (Int.tmod t180 4) = 0
     ·rw [if_pos c20] at H
      have c20b0 : ((Int.tmod t180 4) == 0) = true := beq_iff_eq.mpr c20
      have c20b1 : ((Int.tmod t180 4) != 0) = false := bne_eq_false_iff_eq.mpr c20
      clear c20
      (first | rw [c20b0] | (simp only [i64_w, i32_w]; rw [c20b0]) | skip)
      have H' := zA H
      clear H
      go_wp2
      go_meet
      case rel => exact ⟨_, (2), (by first | rfl | (simp; done) | (simp [*]; done)), H', ⟨by have := HK1.out; first | omega | exact Nat.le_refl _⟩, ⟨by (with_reducible repeat (first | apply Kd.R_alloc | apply Kd.R_drewN | apply Kd.R_drew)); exact HO_6.out⟩, ⟨by (with_reducible repeat (first | apply Kd.R_alloc | apply Kd.R_drewN | apply Kd.R_drew)); exact HO_175000.out⟩, ⟨by (with_reducible repeat (first | refine blk_drewN ?_ _ | refine blk_drew ?_ | refine blk_alloc ?_ _)); exact BK166.out⟩, ⟨by (with_reducible repeat (first | refine blk_drewN ?_ _ | refine blk_drew ?_ | refine blk_alloc ?_ _)); exact BK174.out⟩, ⟨by repeat (first | (with_reducible first | exact HI0.out | apply IsS86.alloc | apply IsS86.drewN | apply IsS86.drew | apply IsS86.set_1 | refine IsS86.far ?_ NB0_166.out _ | refine IsS86.far ?_ NB0_174.out _) | exact HI0.out)⟩, ⟨by repeat (first | (with_reducible first | exact HK.out | apply zS | apply zT | apply zW | apply zU | refine zV ?_ GW166.out _ | refine zV ?_ GW174.out _) | exact HK.out)⟩, ⟨by repeat (first | (with_reducible first | exact HB.out | apply zE | apply zC | apply zD | refine zB ?_ (IsS86.ge HI0.out) | refine zB ?_ GE166.out | refine zB ?_ GE174.out) | exact HB.out)⟩⟩
     ·rw [if_neg c20] at H
      have c20b0 : ((Int.tmod t180 4) == 0) = false := beq_eq_false_iff_ne.mpr c20
      have c20b1 : ((Int.tmod t180 4) != 0) = true := bne_iff_ne.mpr c20
      (first | rw [c20b0] | (simp only [i64_w, i32_w]; rw [c20b0]) | skip)
      have H' := zA H
      clear H
      go_wp2
      go_meet
      case rel => exact ⟨_, (Int.tmod (wrap64 (Int.tdiv t180 4)) 5), (by first | rfl | (simp; done) | (simp [*]; done)), H', ⟨by have := HK1.out; first | omega | exact Nat.le_refl _⟩, ⟨by (with_reducible repeat (first | apply Kd.R_alloc | apply Kd.R_drewN | apply Kd.R_drew)); exact HO_6.out⟩, ⟨by (with_reducible repeat (first | apply Kd.R_alloc | apply Kd.R_drewN | apply Kd.R_drew)); exact HO_175000.out⟩, ⟨by (with_reducible repeat (first | refine blk_drewN ?_ _ | refine blk_drew ?_ | refine blk_alloc ?_ _)); exact BK166.out⟩, ⟨by (with_reducible repeat (first | refine blk_drewN ?_ _ | refine blk_drew ?_ | refine blk_alloc ?_ _)); exact BK174.out⟩, ⟨by repeat (first | (with_reducible first | exact HI0.out | apply IsS86.alloc | apply IsS86.drewN | apply IsS86.drew | apply IsS86.set_1 | refine IsS86.far ?_ NB0_166.out _ | refine IsS86.far ?_ NB0_174.out _) | exact HI0.out)⟩, ⟨by repeat (first | (with_reducible first | exact HK.out | apply zS | apply zT | apply zW | apply zU | refine zV ?_ GW166.out _ | refine zV ?_ GW174.out _) | exact HK.out)⟩, ⟨by repeat (first | (with_reducible first | exact HB.out | apply zE | apply zC | apply zD | refine zB ?_ (IsS86.ge HI0.out) | refine zB ?_ GE166.out | refine zB ?_ GE174.out) | exact HB.out)⟩⟩
    case rest =>
     clear HC18
     try clear c1
     try clear c2
     try clear p2
     try clear c5
     try clear p6
     try clear c10
     try clear c11
     try clear c15
     try clear c16
     try clear c16b0
     try clear c20
     try clear c20b0
     try clear c20b1
     try clear hcz12_0
     try clear hcz12_1
     try clear hfz12_0
     try clear hfz12_1
     try clear p2
     try clear p6
     obtain ⟨kq, x11_17, rfl, HA, HJ17, HO_6, HO_175000, BK166, BK174, HI0, HK, HB⟩ := hcut
     cases kq with
     | zero => exact absurd HA.out (by simp [spec_l7heap.j1])
     | succ kj17 =>
      have H := HA.out
      clear HA
      simp only [spec_l7heap.j1] at H
      have HC21 := zA H
      clear H
      go_upto_if 47 with (fail)
      go_cut [11] (fun v11 wc => ∃ (kq : Nat) (x11_20 : Int), v11 = .int .i64 x11_20 ∧ Aside0 (spec_l7heap.j2 kq x6_1 (Int.tmod t178 16) x8_1 t180 (Int.tmod t180 4) x11_20 s0_0 t181 x175000_1 x175001_1 = some (r1, r2, r3, r4)) ∧ Aside0 (kq ≤ kj17) ∧ Aside0 (Kd.R (Kd.int .i64) 3 wc w.heap.size (fun k_ => some k_ ≠ (u175000 : Value).ownBlock) u6 x6_1) ∧ Aside0 (Kd.R (Kd.int .i64) 3 wc w.heap.size (fun k_ => some k_ ≠ (u6 : Value).ownBlock) u175000 x175000_1) ∧ Aside0 (wc.heap[gb166]? = some (.cells #[(.slice none 0 0), .int .i64 0] 31 (0, 0))) ∧ Aside0 (wc.heap[gb174]? = some (.cells #[u175000, .int .i64 x175001_1] 31 (0, 0))) ∧ Aside0 (IsS86 w0 wc g s0_0 t181) ∧ Aside0 (KeepBut w wc g none) ∧ Aside0 (Below w0.heap.size w0 wc))
      case first =>
       have H := HC21.out
       clear HC21
       by_cases c22 : (Int.tmod t180 4) = 3
       ·rw [if_pos c22] at H
        have c22b0 : ((Int.tmod t180 4) == 3) = true := beq_iff_eq.mpr c22
        have c22b1 : ((Int.tmod t180 4) != 3) = false := bne_eq_false_iff_eq.mpr c22
        clear c22
        (first | rw [c22b0] | (simp only [i64_w, i32_w]; rw [c22b0]) | skip)
        have H' := zA H
        clear H
        go_wp2
        go_meet
        case rel => exact ⟨_, (1), (by first | rfl | (simp; done) | (simp [*]; done)), H', ⟨by have := HK1.out; have := HJ17.out; first | omega | exact Nat.le_refl _⟩, ⟨by (with_reducible repeat (first | apply Kd.R_alloc | apply Kd.R_drewN | apply Kd.R_drew)); exact HO_6.out⟩, ⟨by (with_reducible repeat (first | apply Kd.R_alloc | apply Kd.R_drewN | apply Kd.R_drew)); exact HO_175000.out⟩, ⟨by (with_reducible repeat (first | refine blk_drewN ?_ _ | refine blk_drew ?_ | refine blk_alloc ?_ _)); exact BK166.out⟩, ⟨by (with_reducible repeat (first | refine blk_drewN ?_ _ | refine blk_drew ?_ | refine blk_alloc ?_ _)); exact BK174.out⟩, ⟨by repeat (first | (with_reducible first | exact HI0.out | apply IsS86.alloc | apply IsS86.drewN | apply IsS86.drew | apply IsS86.set_1 | refine IsS86.far ?_ NB0_166.out _ | refine IsS86.far ?_ NB0_174.out _) | exact HI0.out)⟩, ⟨by repeat (first | (with_reducible first | exact HK.out | apply zS | apply zT | apply zW | apply zU | refine zV ?_ GW166.out _ | refine zV ?_ GW174.out _) | exact HK.out)⟩, ⟨by repeat (first | (with_reducible first | exact HB.out | apply zE | apply zC | apply zD | refine zB ?_ (IsS86.ge HI0.out) | refine zB ?_ GE166.out | refine zB ?_ GE174.out) | exact HB.out)⟩⟩
       ·rw [if_neg c22] at H
        have c22b0 : ((Int.tmod t180 4) == 3) = false := beq_eq_false_iff_ne.mpr c22
        have c22b1 : ((Int.tmod t180 4) != 3) = true := bne_iff_ne.mpr c22
        (first | rw [c22b0] | (simp only [i64_w, i32_w]; rw [c22b0]) | skip)
        have H' := zA H
        clear H
        go_wp2
        go_meet
        case rel => exact ⟨_, (x11_17), (by first | rfl | (simp; done) | (simp [*]; done)), H', ⟨by have := HK1.out; have := HJ17.out; first | omega | exact Nat.le_refl _⟩, ⟨by (with_reducible repeat (first | apply Kd.R_alloc | apply Kd.R_drewN | apply Kd.R_drew)); exact HO_6.out⟩, ⟨by (with_reducible repeat (first | apply Kd.R_alloc | apply Kd.R_drewN | apply Kd.R_drew)); exact HO_175000.out⟩, ⟨by (with_reducible repeat (first | refine blk_drewN ?_ _ | refine blk_drew ?_ | refine blk_alloc ?_ _)); exact BK166.out⟩, ⟨by (with_reducible repeat (first | refine blk_drewN ?_ _ | refine blk_drew ?_ | refine blk_alloc ?_ _)); exact BK174.out⟩, ⟨by repeat (first | (with_reducible first | exact HI0.out | apply IsS86.alloc | apply IsS86.drewN | apply IsS86.drew | apply IsS86.set_1 | refine IsS86.far ?_ NB0_166.out _ | refine IsS86.far ?_ NB0_174.out _) | exact HI0.out)⟩, ⟨by repeat (first | (with_reducible first | exact HK.out | apply zS | apply zT | apply zW | apply zU | refine zV ?_ GW166.out _ | refine zV ?_ GW174.out _) | exact HK.out)⟩, ⟨by repeat (first | (with_reducible first | exact HB.out | apply zE | apply zC | apply zD | refine zB ?_ (IsS86.ge HI0.out) | refine zB ?_ GE166.out | refine zB ?_ GE174.out) | exact HB.out)⟩⟩
      case rest =>
       clear HC21
       try clear c1
       try clear c2
       try clear p2
       try clear c5
       try clear p6
       try clear c10
       try clear c11
       try clear c15
       try clear c16
       try clear c16b0
       try clear c20
       try clear c20b0
       try clear c20b1
       try clear c22
       try clear c22b0
       try clear c22b1
       try clear hcz12_0
       try clear hcz12_1
       try clear hfz12_0
       try clear hfz12_1
       try clear p2
       try clear p6
       obtain ⟨kq, x11_20, rfl, HA, HJ20, HO_6, HO_175000, BK166, BK174, HI0, HK, HB⟩ := hcut
       cases kq with
       | zero => exact absurd HA.out (by simp [spec_l7heap.j2])
       | succ kj20 =>
        have H := HA.out
        clear HA
        simp only [spec_l7heap.j2] at H
        have H' := zA H
        clear H
        go_wp2
        go_loopg [12, 13] kj20 (fun kq v12 v13 w' => ∃ (x6_4 : List Int) (x12_4 : List Int) (x13_4 : Int) (x1001_4 : Int) (x175000_4 : List Int) (u175000 : Value), v13 = .int .i64 x13_4 ∧ Aside0 (spec_l7heap.l1 kq x6_4 (Int.tmod t178 16) x8_1 t180 (Int.tmod t180 4) x11_20 x12_4 x13_4 s0_0 x1001_4 x175000_4 x175001_1 = some (r1, r2, r3, r4)) ∧ Aside0 (kq ≤ kj20) ∧ Aside0 (Kd.R (Kd.int .i64) 3 w' w.heap.size (fun k_ => some k_ ≠ (v12 : Value).ownBlock ∧ some k_ ≠ (u175000 : Value).ownBlock) u6 x6_4) ∧ Aside0 (Kd.R (Kd.int .i64) 3 w' w.heap.size (fun k_ => some k_ ≠ (u6 : Value).ownBlock ∧ some k_ ≠ (u175000 : Value).ownBlock) v12 x12_4) ∧ Aside0 (Kd.R (Kd.int .i64) 3 w' w.heap.size (fun k_ => some k_ ≠ (u6 : Value).ownBlock ∧ some k_ ≠ (v12 : Value).ownBlock) u175000 x175000_4) ∧ Aside0 (w'.heap[gb166]? = some (.cells #[(.slice none 0 0), .int .i64 0] 31 (0, 0))) ∧ Aside0 (w'.heap[gb174]? = some (.cells #[u175000, .int .i64 x175001_1] 31 (0, 0))) ∧ Aside0 (IsS86 w0 w' g s0_0 x1001_4) ∧ Aside0 (KeepBut w w' g none) ∧ Aside0 (Below w0.heap.size w0 w'))
        case atStart => exact ⟨(x6_1), (([] : List Int)), (0), (t181), (x175000_1), (u175000), (by first | rfl | (simp; done) | (simp [*]; done)), H', ⟨Nat.le_refl _⟩, ⟨by (with_reducible repeat (first | apply Kd.R_alloc | apply Kd.R_drewN | apply Kd.R_drew)); exact zI HO_6.out (fun _ hk => ⟨(by simp [Value.ownBlock]), hk⟩)⟩, ⟨by first | exact Kd.R_nil _ _ _ _ _ | exact Kd.N_nil _ _ _ _ _ | exact Kd.V_nil _ _ _ _ _ | exact Kd.Q_nil _ _ _ _ _ | exact Kd.S_nil _ _ _ _ _⟩, ⟨by (with_reducible repeat (first | apply Kd.R_alloc | apply Kd.R_drewN | apply Kd.R_drew)); exact zI HO_175000.out (fun _ hk => ⟨hk, (by simp [Value.ownBlock])⟩)⟩, ⟨by (with_reducible repeat (first | refine blk_drewN ?_ _ | refine blk_drew ?_ | refine blk_alloc ?_ _)); exact BK166.out⟩, ⟨by (with_reducible repeat (first | refine blk_drewN ?_ _ | refine blk_drew ?_ | refine blk_alloc ?_ _)); exact BK174.out⟩, ⟨by repeat (first | (with_reducible first | exact HI0.out | apply IsS86.alloc | apply IsS86.drewN | apply IsS86.drew | apply IsS86.set_1 | refine IsS86.far ?_ NB0_166.out _ | refine IsS86.far ?_ NB0_174.out _) | exact HI0.out)⟩, ⟨by repeat (first | (with_reducible first | exact HK.out | apply zS | apply zT | apply zW | apply zU | refine zV ?_ GW166.out _ | refine zV ?_ GW174.out _) | exact HK.out)⟩, ⟨by repeat (first | (with_reducible first | exact HB.out | apply zE | apply zC | apply zD | refine zB ?_ (IsS86.ge HI0.out) | refine zB ?_ GE166.out | refine zB ?_ GE174.out) | exact HB.out)⟩⟩
        case round =>
         clear H'
         try clear c1
         try clear c2
         try clear p2
         try clear c5
         try clear p6
         try clear c10
         try clear c11
         try clear c15
         try clear c16
         try clear c16b0
         try clear c20
         try clear c20b0
         try clear c20b1
         try clear c22
         try clear c22b0
         try clear c22b1
         try clear hcz12_0
         try clear hcz12_1
         try clear hfz12_0
         try clear hfz12_1
         try clear p2
         try clear p6
         obtain ⟨x6_4, x12_4, x13_4, x1001_4, x175000_4, u175000, rfl, HA, HK4, HO_6, HO_12, HO_175000, BK166, BK174, HI0, HK, HB⟩ := hrel
         cases gk with
         | zero => exact absurd HA.out (by simp [spec_l7heap.l1])
         | succ k4 =>
          have H := HA.out
          clear HA
          simp only [spec_l7heap.l1] at H
          by_cases c23 : x13_4 < x11_20
          ·rw [if_pos c23] at H
           have c23b0 : decide (x13_4 < x11_20) = true := zG c23
           clear c23
           replace H := Option.bind_eq_some_iff.mp H
           obtain ⟨⟨t182, t183⟩, A240, H⟩ := H
           replace H : (if (x6_4.length : Int) = 0 then (none) else (if 0 ≤ (Int.tmod t182 (x6_4.length : Int)) then (if (Int.tmod t182 (x6_4.length : Int)) < (x6_4.length : Int) then (if x12_4.length < 17592186044416 then ((some (x12_4 ++ [rd x6_4 (Int.tmod t182 (x6_4.length : Int))] : List Int)).bind fun y185 => (if (Int.tmod t182 3) = 0 then (if (x6_4.length : Int) > 8 then (if (wrap64 ((x6_4.length : Int) - 8)) = 0 then (none) else (if 0 ≤ (wrap64 ((wrap64 ((x6_4.length : Int) - 1)) - (Int.tmod (wrap64 (Int.tdiv t182 3)) (wrap64 ((x6_4.length : Int) - 8))))) then (if (wrap64 ((wrap64 ((x6_4.length : Int) - 1)) - (Int.tmod (wrap64 (Int.tdiv t182 3)) (wrap64 ((x6_4.length : Int) - 8))))) < (x6_4.length : Int) then (if 0 ≤ x13_4 then (if x13_4 < (y185.length : Int) then (spec_l7heap.l1 k4 x6_4 (Int.tmod t178 16) x8_1 t180 (Int.tmod t180 4) x11_20 (y185.set (x13_4 : Int).toNat (rd x6_4 (wrap64 ((wrap64 ((x6_4.length : Int) - 1)) - (Int.tmod (wrap64 (Int.tdiv t182 3)) (wrap64 ((x6_4.length : Int) - 8))))))) (wrap64 (x13_4 + 1)) s0_0 t183 x175000_4 x175001_1) else (none)) else (none)) else (none)) else (none))) else (spec_l7heap.l1 k4 x6_4 (Int.tmod t178 16) x8_1 t180 (Int.tmod t180 4) x11_20 y185 (wrap64 (x13_4 + 1)) s0_0 t183 x175000_4 x175001_1)) else (spec_l7heap.l1 k4 x6_4 (Int.tmod t178 16) x8_1 t180 (Int.tmod t180 4) x11_20 y185 (wrap64 (x13_4 + 1)) s0_0 t183 x175000_4 x175001_1))) else (none)) else (none)) else (none))) = some (r1, r2, r3, r4) := H
           have A24 := zA A240
           clear A240
           by_cases c25 : (x6_4.length : Int) = 0
           ·rw [if_pos c25] at H
            exact absurd H (by simp)
           ·rw [if_neg c25] at H
            have c25b0 : ((x6_4.length : Int) == 0) = false := beq_eq_false_iff_ne.mpr c25
            have c25b1 : ((x6_4.length : Int) != 0) = true := bne_iff_ne.mpr c25
            have c25b2 : ¬ (x6_4 = []) := fun h_ => c25 (by rw [h_]; rfl)
            obtain ⟨ji26, hji26⟩ : ∃ j_ : Int, (Int.tmod t182 (x6_4.length : Int)) = j_ := ⟨_, rfl⟩
            replace H : (if 0 ≤ (ji26) then (if (ji26) < (x6_4.length : Int) then (if x12_4.length < 17592186044416 then ((some (x12_4 ++ [rd x6_4 (ji26)] : List Int)).bind fun y185 => (if (Int.tmod t182 3) = 0 then (if (x6_4.length : Int) > 8 then (if (wrap64 ((x6_4.length : Int) - 8)) = 0 then (none) else (if 0 ≤ (wrap64 ((wrap64 ((x6_4.length : Int) - 1)) - (Int.tmod (wrap64 (Int.tdiv t182 3)) (wrap64 ((x6_4.length : Int) - 8))))) then (if (wrap64 ((wrap64 ((x6_4.length : Int) - 1)) - (Int.tmod (wrap64 (Int.tdiv t182 3)) (wrap64 ((x6_4.length : Int) - 8))))) < (x6_4.length : Int) then (if 0 ≤ x13_4 then (if x13_4 < (y185.length : Int) then (spec_l7heap.l1 k4 x6_4 (Int.tmod t178 16) x8_1 t180 (Int.tmod t180 4) x11_20 (y185.set (x13_4 : Int).toNat (rd x6_4 (wrap64 ((wrap64 ((x6_4.length : Int) - 1)) - (Int.tmod (wrap64 (Int.tdiv t182 3)) (wrap64 ((x6_4.length : Int) - 8))))))) (wrap64 (x13_4 + 1)) s0_0 t183 x175000_4 x175001_1) else (none)) else (none)) else (none)) else (none))) else (spec_l7heap.l1 k4 x6_4 (Int.tmod t178 16) x8_1 t180 (Int.tmod t180 4) x11_20 y185 (wrap64 (x13_4 + 1)) s0_0 t183 x175000_4 x175001_1)) else (spec_l7heap.l1 k4 x6_4 (Int.tmod t178 16) x8_1 t180 (Int.tmod t180 4) x11_20 y185 (wrap64 (x13_4 + 1)) s0_0 t183 x175000_4 x175001_1))) else (none)) else (none)) else (none)) = some (r1, r2, r3, r4) := by first | (rw [hji26] at H; exact H) | (simp only [hji26] at H ⊢; exact H)
            (try rw [hji26] at A24)
            by_cases c27 : 0 ≤ (ji26)
            ·rw [if_pos c27] at H
             have c27b0 : decide (0 ≤ (ji26)) = true := zG c27
             clear c27
             by_cases c28 : (ji26) < (x6_4.length : Int)
             ·rw [if_pos c28] at H
              have c28b0 : decide ((ji26) < (x6_4.length : Int)) = true := zG c28
              clear c28
              by_cases c29 : x12_4.length < 17592186044416
              ·rw [if_pos c29] at H
               have LMc29 := zA c29
               clear c29
               obtain ⟨y185, hy185⟩ : ∃ y_ : List Int, y_ = (x12_4 ++ [rd x6_4 (ji26)]) := ⟨_, rfl⟩
               replace H : (if (Int.tmod t182 3) = 0 then (if (x6_4.length : Int) > 8 then (if (wrap64 ((x6_4.length : Int) - 8)) = 0 then (none) else (if 0 ≤ (wrap64 ((wrap64 ((x6_4.length : Int) - 1)) - (Int.tmod (wrap64 (Int.tdiv t182 3)) (wrap64 ((x6_4.length : Int) - 8))))) then (if (wrap64 ((wrap64 ((x6_4.length : Int) - 1)) - (Int.tmod (wrap64 (Int.tdiv t182 3)) (wrap64 ((x6_4.length : Int) - 8))))) < (x6_4.length : Int) then (if 0 ≤ x13_4 then (if x13_4 < (y185.length : Int) then (spec_l7heap.l1 k4 x6_4 (Int.tmod t178 16) x8_1 t180 (Int.tmod t180 4) x11_20 (y185.set (x13_4 : Int).toNat (rd x6_4 (wrap64 ((wrap64 ((x6_4.length : Int) - 1)) - (Int.tmod (wrap64 (Int.tdiv t182 3)) (wrap64 ((x6_4.length : Int) - 8))))))) (wrap64 (x13_4 + 1)) s0_0 t183 x175000_4 x175001_1) else (none)) else (none)) else (none)) else (none))) else (spec_l7heap.l1 k4 x6_4 (Int.tmod t178 16) x8_1 t180 (Int.tmod t180 4) x11_20 y185 (wrap64 (x13_4 + 1)) s0_0 t183 x175000_4 x175001_1)) else (spec_l7heap.l1 k4 x6_4 (Int.tmod t178 16) x8_1 t180 (Int.tmod t180 4) x11_20 y185 (wrap64 (x13_4 + 1)) s0_0 t183 x175000_4 x175001_1)) = some (r1, r2, r3, r4) := by first | (rw [hy185]; with_reducible exact H) | (have H2_ := (Option.bind_some _ _).symm.trans H; rw [hy185]; with_reducible exact H2_) | (have H2_ := (Option.bind_some _ _).symm.trans H; with_reducible exact H2_) | with_reducible exact H | (rw [hy185]; exact H) | exact H
               have Ny185 := zA hy185
               clear hy185
               by_cases c30 : (Int.tmod t182 3) = 0
               ·rw [if_pos c30] at H
                have c30b0 : ((Int.tmod t182 3) == 0) = true := beq_iff_eq.mpr c30
                have c30b1 : ((Int.tmod t182 3) != 0) = false := bne_eq_false_iff_eq.mpr c30
                clear c30
                by_cases c31 : (x6_4.length : Int) > 8
                ·rw [if_pos c31] at H
                 have c31b0 : decide (8 < (x6_4.length : Int)) = true := zG c31
                 have c31b1 : decide (8 < x6_4.length) = true := zG (by omega)
                 clear c31
                 by_cases c32 : (wrap64 ((x6_4.length : Int) - 8)) = 0
                 ·rw [if_pos c32] at H
                  exact absurd H (by simp)
                 ·rw [if_neg c32] at H
                  have c32b0 : ((wrap64 ((x6_4.length : Int) - 8)) == 0) = false := beq_eq_false_iff_ne.mpr c32
                  have c32b1 : ((wrap64 ((x6_4.length : Int) - 8)) != 0) = true := bne_iff_ne.mpr c32
                  obtain ⟨ji33, hji33⟩ : ∃ j_ : Int, (wrap64 ((wrap64 ((x6_4.length : Int) - 1)) - (Int.tmod (wrap64 (Int.tdiv t182 3)) (wrap64 ((x6_4.length : Int) - 8))))) = j_ := ⟨_, rfl⟩
                  replace H : (if 0 ≤ (ji33) then (if (ji33) < (x6_4.length : Int) then (if 0 ≤ x13_4 then (if x13_4 < (y185.length : Int) then (spec_l7heap.l1 k4 x6_4 (Int.tmod t178 16) x8_1 t180 (Int.tmod t180 4) x11_20 (y185.set (x13_4 : Int).toNat (rd x6_4 (ji33))) (wrap64 (x13_4 + 1)) s0_0 t183 x175000_4 x175001_1) else (none)) else (none)) else (none)) else (none)) = some (r1, r2, r3, r4) := by first | (rw [hji33] at H; exact H) | (simp only [hji33] at H ⊢; exact H)
                  (try rw [hji33] at A24)
                  have hji33w : (IntKind.i64.wrap ((wrap64 ((x6_4.length : Int) - 1)) - (Int.tmod (wrap64 (Int.tdiv t182 3)) (wrap64 ((x6_4.length : Int) - 8))))) = ji33 := (i64_w _).trans hji33
                  by_cases c34 : 0 ≤ (ji33)
                  ·rw [if_pos c34] at H
                   have c34b0 : decide (0 ≤ (ji33)) = true := zG c34
                   clear c34
                   by_cases c35 : (ji33) < (x6_4.length : Int)
                   ·rw [if_pos c35] at H
                    have c35b0 : decide ((ji33) < (x6_4.length : Int)) = true := zG c35
                    clear c35
                    by_cases c36 : 0 ≤ x13_4
                    ·rw [if_pos c36] at H
                     have c36b0 : decide (0 ≤ x13_4) = true := zG c36
                     clear c36
                     by_cases c37 : x13_4 < (y185.length : Int)
                     ·rw [if_pos c37] at H
                      have c37b0 : decide (x13_4 < (y185.length : Int)) = true := zG c37
                      clear c37
                      obtain ⟨y189, hy189⟩ : ∃ y_ : List Int, y_ = (y185.set (x13_4 : Int).toNat (rd x6_4 (ji33))) := ⟨_, rfl⟩
                      replace H : (spec_l7heap.l1 k4 x6_4 (Int.tmod t178 16) x8_1 t180 (Int.tmod t180 4) x11_20 y189 (wrap64 (x13_4 + 1)) s0_0 t183 x175000_4 x175001_1) = some (r1, r2, r3, r4) := by first | (rw [hy189]; with_reducible exact H) | (have H2_ := (Option.bind_some _ _).symm.trans H; rw [hy189]; with_reducible exact H2_) | (have H2_ := (Option.bind_some _ _).symm.trans H; with_reducible exact H2_) | with_reducible exact H | (rw [hy189]; exact H) | exact H
                      have Ny189 := zA hy189
                      clear hy189
                      have H' := zA H
                      clear H
                      go_wp2_with (first | ((with_reducible refine gate_callee (f := 52) rfl ?_); refine goesL_ (some 54) rfl rfl Try.func52 (by kernel_rfl) rfl #[.pointer (some ⟨g, 0, none⟩)] rfl (by (try simp only [List.map_toArray, List.map_cons, List.map_nil]); first | done | rfl | (simp only [List.length_drop, List.length_take]; rfl)) ?_; (with_reducible refine (spec_l7rd_next.calls g s0_0 x1001_4 t182 t183 w0 _ ?side1 ?side2 A24.out).mono ?_); (case side1 => repeat (first | (with_reducible first | exact HI0.out | apply IsS86.alloc | apply IsS86.drewN | apply IsS86.drew | apply IsS86.set_1 | refine IsS86.far ?_ NB0_166.out _ | refine IsS86.far ?_ NB0_174.out _) | exact HI0.out)); (case side2 => repeat (first | (with_reducible first | exact HB.out | apply zE | apply zC | apply zD | refine zB ?_ (IsS86.ge HI0.out) | refine zB ?_ GE166.out | refine zB ?_ GE174.out) | exact HB.out)); rintro e w39 ⟨rfl, hi, hb, hk⟩; refine ⟨_, rfl, ?_⟩; have n0_ := zA (zI (Kd.R_keep (IsS86.apart (show IsS86 w0 _ g s0_0 x1001_4 from by repeat (first | (with_reducible first | exact HI0.out | apply IsS86.alloc | apply IsS86.drewN | apply IsS86.drew | apply IsS86.set_1 | refine IsS86.far ?_ NB0_166.out _ | refine IsS86.far ?_ NB0_174.out _) | exact HI0.out)) (by (with_reducible repeat (first | apply Kd.R_alloc | apply Kd.R_drewN | apply Kd.R_drew)); exact HO_6.out) (by decide)) hk (fun _ h => h.2)) (fun _ h => h.1)); have n1_ := zA (zI (Kd.R_keep (IsS86.apart (show IsS86 w0 _ g s0_0 x1001_4 from by repeat (first | (with_reducible first | exact HI0.out | apply IsS86.alloc | apply IsS86.drewN | apply IsS86.drew | apply IsS86.set_1 | refine IsS86.far ?_ NB0_166.out _ | refine IsS86.far ?_ NB0_174.out _) | exact HI0.out)) (by (with_reducible repeat (first | apply Kd.R_alloc | apply Kd.R_drewN | apply Kd.R_drew)); exact HO_12.out) (by decide)) hk (fun _ h => h.2)) (fun _ h => h.1)); have n2_ := zA (zI (Kd.R_keep (IsS86.apart (show IsS86 w0 _ g s0_0 x1001_4 from by repeat (first | (with_reducible first | exact HI0.out | apply IsS86.alloc | apply IsS86.drewN | apply IsS86.drew | apply IsS86.set_1 | refine IsS86.far ?_ NB0_166.out _ | refine IsS86.far ?_ NB0_174.out _) | exact HI0.out)) (by (with_reducible repeat (first | apply Kd.R_alloc | apply Kd.R_drewN | apply Kd.R_drew)); exact HO_175000.out) (by decide)) hk (fun _ h => h.2)) (fun _ h => h.1)); have n3_ := zA (KeepBut.blk hk (g' := gb166) (o := .cells #[.slice none 0 0, .int .i64 0] 31 (0, 0)) (by (with_reducible repeat (first | refine blk_drewN ?_ _ | refine blk_drew ?_ | refine blk_alloc ?_ _)); exact BK166.out) NB166_0.out (by simp)); have n4_ := zA (KeepBut.blk hk (g' := gb174) (o := .cells #[u175000, .int .i64 x175001_1] 31 (0, 0)) (by (with_reducible repeat (first | refine blk_drewN ?_ _ | refine blk_drew ?_ | refine blk_alloc ?_ _)); exact BK174.out) NB174_0.out (by simp)); have n5_ := zA (zg (by repeat (first | (with_reducible first | exact HK.out | apply zS | apply zT | apply zW | apply zU | refine zV ?_ GW166.out _ | refine zV ?_ GW174.out _) | exact HK.out)) hk (.inl rfl)); have n6_ := zA (hb); have n7_ := zA (hi); clear HO_6 HO_12 HO_175000 BK166 BK174 HK HB HI0; have HO_6 := n0_; have HO_12 := n1_; have HO_175000 := n2_; have BK166 := n3_; have BK174 := n4_; have HK := n5_; have HB := n6_; have HI0 := n7_; clear n0_ n1_ n2_ n3_ n4_ n5_ n6_ n7_; (try clear hb); (try clear hb2); (try clear hk); (try clear hi); obtain ⟨Ao40, co40, eo40⟩ := Kd.R_slice HO_6.out; subst eo40; have p184 : 0 ≤ ((ji26) : Int) := zF (by first | (with_reducible assumption) | assumption); have q184 : (ji26) < (x6_4.length : Int) := zF (by first | (with_reducible assumption) | assumption); obtain ⟨ad184, e184, hx184_0⟩ := Kd.at_int (zO HO_6.out).2.2 (ji26) p184 q184; cases e184; replace p184 := eq_true p184; replace q184 := eq_true q184) | ((with_reducible refine gate_builtin (b := .append) (xs := #[.tmp 55, .tmp 63]) rfl ?_); (try (refine gate_guard (by rfl) ?_; dsimp only)); at_builtin; refine Kd.R_append (Kd.int .i64) w.heap.size rfl (.tmp 55) (.tmp 63) 29 3 (.int .i64 0) 8 rfl Try.underlying29 info3 rfl (by decide) (by omega) u12 x12_4 (rd x6_4 (ji26)) [.int .i64 (rd x6_4 (ji26))] (fun k_ => some k_ ≠ (.slice (some ad184) x6_4.length co40 : Value).ownBlock ∧ some k_ ≠ (u175000 : Value).ownBlock) (fun _ => False) rfl rfl ?aP (fun _ hk => hk.elim) ?aF ?aO (Below.refl _ _) ?aS ?aL ?_; (case aP => exact rfl); (case aF => exact (fun k_ hk => ⟨Kd.fresh' (Kd.R_lt (by (with_reducible repeat (first | apply Kd.R_alloc | apply Kd.R_drewN | apply Kd.R_drew)); exact HO_6.out)) k_ hk, za (Kd.R_lt (by (with_reducible repeat (first | apply Kd.R_alloc | apply Kd.R_drewN | apply Kd.R_drew)); exact HO_175000.out)) k_ hk⟩)); (case aO => exact (by (with_reducible repeat (first | apply Kd.R_alloc | apply Kd.R_drewN | apply Kd.R_drew)); exact HO_12.out)); (case aS => exact (keep_size (w := w) (g := g) (row := none) (by repeat (first | (with_reducible first | exact HK.out | apply zS | apply zT | apply zW | apply zU | refine zV ?_ GW166.out _ | refine zV ?_ GW174.out _) | exact HK.out)))); (case aL => have := LMc29.out; omega); intro v186 w41 ho hb hg hat; rw [← Ny185.out] at ho; have n0_ := zA (zb (ok := (fun k_ => some k_ ≠ (u175000 : Value).ownBlock)) (by (with_reducible repeat (first | apply Kd.R_alloc | apply Kd.R_drewN | apply Kd.R_drew)); exact zI HO_6.out (fun _ hk => ⟨hk.2, hk.1⟩)) hg hat); have n1_ := zA (zb (ok := (fun k_ => some k_ ≠ (.slice (some ad184) x6_4.length co40 : Value).ownBlock)) (by (with_reducible repeat (first | apply Kd.R_alloc | apply Kd.R_drewN | apply Kd.R_drew)); exact HO_175000.out) hg hat); have n2_ := zA (blk_grown (g := gb166) (o := .cells #[.slice none 0 0, .int .i64 0] 31 (0, 0)) (by (with_reducible repeat (first | refine blk_drewN ?_ _ | refine blk_drew ?_ | refine blk_alloc ?_ _)); exact BK166.out) hg (Kd.R_ne HO_12.out BK166.out (by decide))); have n3_ := zA (blk_grown (g := gb174) (o := .cells #[u175000, .int .i64 x175001_1] 31 (0, 0)) (by (with_reducible repeat (first | refine blk_drewN ?_ _ | refine blk_drew ?_ | refine blk_alloc ?_ _)); exact BK174.out) hg (Kd.R_ne HO_12.out BK174.out (by decide))); have n4_ := zA (IsS86.grown (by repeat (first | (with_reducible first | exact HI0.out | apply IsS86.alloc | apply IsS86.drewN | apply IsS86.drew | apply IsS86.set_1 | refine IsS86.far ?_ NB0_166.out _ | refine IsS86.far ?_ NB0_174.out _) | exact HI0.out)) hg (IsS86.own_ne HI0.out HO_12.out (by decide))); have n5_ := zA (zf (by repeat (first | (with_reducible first | exact HB.out | apply zE | apply zC | apply zD | refine zB ?_ (IsS86.ge HI0.out) | refine zB ?_ GE166.out | refine zB ?_ GE174.out) | exact HB.out)) HL.out hb); have n6_ := zA (zg (by repeat (first | (with_reducible first | exact HK.out | apply zS | apply zT | apply zW | apply zU | refine zV ?_ GW166.out _ | refine zV ?_ GW174.out _) | exact HK.out)) (KeepBut.of_grown hg g) (Kd.R_base2 HO_12.out)); have n7_ := zA (ho); clear HO_6 HO_175000 BK166 BK174 HI0 HB HK HO_12; have HO_6 := n0_; have HO_175000 := n1_; have BK166 := n2_; have BK174 := n3_; have HI0 := n4_; have HB := n5_; have HK := n6_; have HO187 := n7_; clear n0_ n1_ n2_ n3_ n4_ n5_ n6_ n7_; clear ho hb hg hat; have p188 : 0 ≤ ((ji33) : Int) := zF (by first | (with_reducible assumption) | assumption); have q188 : (ji33) < (x6_4.length : Int) := zF (by first | (with_reducible assumption) | assumption); obtain ⟨ad188, e188, hx188_0⟩ := Kd.at_int (zO HO_6.out).2.2 (ji33) p188 q188; obtain rfl : ad184 = ad188 := (by injection e188); replace p188 := eq_true p188; replace q188 := eq_true q188; have p38 : 0 ≤ (x13_4 : Int) := zF (by first | (with_reducible assumption) | assumption); have q38 : (x13_4 : Int) < ((y185.length : Int) : Int) := zF (by first | (with_reducible assumption) | assumption); obtain ⟨go38, co38, eo38, gb38, gl38, cl38, HG38⟩ := Kd.R_form HO187.out (by omega); (first | cases eo38 | (injection eo38 with ea_ en_ ec_; (first | subst ea_ | (injection ea_ with ea_; subst ea_)); subst ec_; clear en_)); have GB38 := zA gb38; have GG38 := zA HG38; clear gb38 gl38 HG38; obtain ⟨hx38_0, hf38_0⟩ := Kd.R_celln 0 HO187.out (x13_4 : Int) p38 q38; replace p38 := eq_true p38; replace q38 := eq_true q38; obtain ⟨hy42_, hz42_⟩ := Kd.R_celln 0 HO187.out (x13_4 : Int) (zF (by first | (with_reducible assumption) | assumption)) (zF (by first | (with_reducible assumption) | assumption)); have HP42 := Kd.R_putg HO187.out (x13_4 : Int) (rd x6_4 (ji33))) | ((with_reducible refine gate_store (t := 3) (p := 88) rfl ?_); refine store_event (t := 3) (p := 88) (v := ?vo_w43) (w1 := (w41.setCell ⟨go38, (x13_4 : Int).toNat, none⟩ (.int .i64 (rd x6_4 (ji33))))) ?hg ?ho ?hn ?hr ?_; (case ho => rfl); (case hg => rfl); (case hn => rfl); (case hr => first | (go_simp; done) | (go_simp; rfl)); intro w43 hw; have hg : w41.grownBy w43 (some go38) := (by rw [hw]; exact HP42.2); have hp_ : Kd.R (Kd.int .i64) 3 w43 w.heap.size (fun k_ => some k_ ≠ (.slice (some ad184) x6_4.length co40 : Value).ownBlock ∧ some k_ ≠ (u175000 : Value).ownBlock) (.slice (some ⟨go38, 0, none⟩) y185.length co38) y189 := (by rw [hw, Ny189.out]; exact HP42.1); clear HP42; have n0_ := zA (zb (v := (.slice (some ⟨go38, 0, none⟩) y185.length co38)) (v1 := (.slice (some ⟨go38, 0, none⟩) y185.length co38)) (ok := (fun k_ => some k_ ≠ (u175000 : Value).ownBlock)) (by (with_reducible repeat (first | apply Kd.R_alloc | apply Kd.R_drewN | apply Kd.R_drew)); exact HO_6.out) hg (.inl rfl)); have n1_ := zA (zb (v := (.slice (some ⟨go38, 0, none⟩) y185.length co38)) (v1 := (.slice (some ⟨go38, 0, none⟩) y185.length co38)) (ok := (fun k_ => some k_ ≠ (.slice (some ad184) x6_4.length co40 : Value).ownBlock)) (by (with_reducible repeat (first | apply Kd.R_alloc | apply Kd.R_drewN | apply Kd.R_drew)); exact HO_175000.out) hg (.inl rfl)); have n2_ := zA (blk_grown (g := gb166) (o := .cells #[.slice none 0 0, .int .i64 0] 31 (0, 0)) (by (with_reducible repeat (first | refine blk_drewN ?_ _ | refine blk_drew ?_ | refine blk_alloc ?_ _)); exact BK166.out) hg (Kd.R_ne HO187.out BK166.out (by decide))); have n3_ := zA (blk_grown (g := gb174) (o := .cells #[u175000, .int .i64 x175001_1] 31 (0, 0)) (by (with_reducible repeat (first | refine blk_drewN ?_ _ | refine blk_drew ?_ | refine blk_alloc ?_ _)); exact BK174.out) hg (Kd.R_ne HO187.out BK174.out (by decide))); have n4_ := zA (IsS86.grown (by repeat (first | (with_reducible first | exact HI0.out | apply IsS86.alloc | apply IsS86.drewN | apply IsS86.drew | apply IsS86.set_1 | refine IsS86.far ?_ NB0_166.out _ | refine IsS86.far ?_ NB0_174.out _) | exact HI0.out)) hg (IsS86.own_ne HI0.out HO187.out (by decide))); have n5_ := zA (hp_); have n6_ := zA ((by rw [hw]; exact zB (HB.out) (Nat.le_trans HL.out GB38.out) : Below w0.heap.size w0 w43)); have n7_ := zA (zg (by repeat (first | (with_reducible first | exact HK.out | apply zS | apply zT | apply zW | apply zU | refine zV ?_ GW166.out _ | refine zV ?_ GW174.out _) | exact HK.out)) (KeepBut.of_grown hg g) (Kd.R_base2 HO187.out)); clear HO_6 HO_175000 BK166 BK174 HI0 HO187 HB HK; have HO_6 := n0_; have HO_175000 := n1_; have BK166 := n2_; have BK174 := n3_; have HI0 := n4_; have HO187 := n5_; have HB := n6_; have HK := n7_; clear n0_ n1_ n2_ n3_ n4_ n5_ n6_ n7_; clear hg hw hp_))
                      go_roundg k4
                      case measure => have := HK1.out; have := HJ17.out; have := HJ20.out; have := HK4.out; omega
                      case rel => exact ⟨(x6_4), (y189), (wrap64 (x13_4 + 1)), (t183), (x175000_4), (u175000), (by first | rfl | (simp; done) | (simp [*]; done)), H', ⟨by have := HK1.out; have := HJ17.out; have := HJ20.out; have := HK4.out; omega⟩, ⟨by (with_reducible repeat (first | apply Kd.R_alloc | apply Kd.R_drewN | apply Kd.R_drew)); exact zI HO_6.out (fun _ hk => ⟨hk.2, hk.1⟩)⟩, ⟨by (with_reducible repeat (first | apply Kd.R_alloc | apply Kd.R_drewN | apply Kd.R_drew)); exact HO187.out⟩, ⟨by (with_reducible repeat (first | apply Kd.R_alloc | apply Kd.R_drewN | apply Kd.R_drew)); exact HO_175000.out⟩, ⟨by (with_reducible repeat (first | refine blk_drewN ?_ _ | refine blk_drew ?_ | refine blk_alloc ?_ _)); exact BK166.out⟩, ⟨by (with_reducible repeat (first | refine blk_drewN ?_ _ | refine blk_drew ?_ | refine blk_alloc ?_ _)); exact BK174.out⟩, ⟨by repeat (first | (with_reducible first | exact HI0.out | apply IsS86.alloc | apply IsS86.drewN | apply IsS86.drew | apply IsS86.set_1 | refine IsS86.far ?_ NB0_166.out _ | refine IsS86.far ?_ NB0_174.out _) | exact HI0.out)⟩, ⟨by repeat (first | (with_reducible first | exact HK.out | apply zS | apply zT | apply zW | apply zU | refine zV ?_ GW166.out _ | refine zV ?_ GW174.out _) | exact HK.out)⟩, ⟨by repeat (first | (with_reducible first | exact HB.out | apply zE | apply zC | apply zD | refine zB ?_ (IsS86.ge HI0.out) | refine zB ?_ GE166.out | refine zB ?_ GE174.out) | exact HB.out)⟩⟩
                     ·rw [if_neg c37] at H
                      exact absurd H (by simp)
                    ·rw [if_neg c36] at H
                     exact absurd H (by simp)
                   ·rw [if_neg c35] at H
                    exact absurd H (by simp)
                  ·rw [if_neg c34] at H
                   exact absurd H (by simp)
                ·rw [if_neg c31] at H
                 have c31b0 : decide (8 < (x6_4.length : Int)) = false := zH c31
                 have c31b1 : decide (8 < x6_4.length) = false := zH (by omega)
                 clear c31
                 have H' := zA H
                 clear H
                 go_wp2_with (first | ((with_reducible refine gate_callee (f := 52) rfl ?_); refine goesL_ (some 54) rfl rfl Try.func52 (by kernel_rfl) rfl #[.pointer (some ⟨g, 0, none⟩)] rfl (by (try simp only [List.map_toArray, List.map_cons, List.map_nil]); first | done | rfl | (simp only [List.length_drop, List.length_take]; rfl)) ?_; (with_reducible refine (spec_l7rd_next.calls g s0_0 x1001_4 t182 t183 w0 _ ?side1 ?side2 A24.out).mono ?_); (case side1 => repeat (first | (with_reducible first | exact HI0.out | apply IsS86.alloc | apply IsS86.drewN | apply IsS86.drew | apply IsS86.set_1 | refine IsS86.far ?_ NB0_166.out _ | refine IsS86.far ?_ NB0_174.out _) | exact HI0.out)); (case side2 => repeat (first | (with_reducible first | exact HB.out | apply zE | apply zC | apply zD | refine zB ?_ (IsS86.ge HI0.out) | refine zB ?_ GE166.out | refine zB ?_ GE174.out) | exact HB.out)); rintro e w44 ⟨rfl, hi, hb, hk⟩; refine ⟨_, rfl, ?_⟩; have n0_ := zA (zI (Kd.R_keep (IsS86.apart (show IsS86 w0 _ g s0_0 x1001_4 from by repeat (first | (with_reducible first | exact HI0.out | apply IsS86.alloc | apply IsS86.drewN | apply IsS86.drew | apply IsS86.set_1 | refine IsS86.far ?_ NB0_166.out _ | refine IsS86.far ?_ NB0_174.out _) | exact HI0.out)) (by (with_reducible repeat (first | apply Kd.R_alloc | apply Kd.R_drewN | apply Kd.R_drew)); exact HO_6.out) (by decide)) hk (fun _ h => h.2)) (fun _ h => h.1)); have n1_ := zA (zI (Kd.R_keep (IsS86.apart (show IsS86 w0 _ g s0_0 x1001_4 from by repeat (first | (with_reducible first | exact HI0.out | apply IsS86.alloc | apply IsS86.drewN | apply IsS86.drew | apply IsS86.set_1 | refine IsS86.far ?_ NB0_166.out _ | refine IsS86.far ?_ NB0_174.out _) | exact HI0.out)) (by (with_reducible repeat (first | apply Kd.R_alloc | apply Kd.R_drewN | apply Kd.R_drew)); exact HO_12.out) (by decide)) hk (fun _ h => h.2)) (fun _ h => h.1)); have n2_ := zA (zI (Kd.R_keep (IsS86.apart (show IsS86 w0 _ g s0_0 x1001_4 from by repeat (first | (with_reducible first | exact HI0.out | apply IsS86.alloc | apply IsS86.drewN | apply IsS86.drew | apply IsS86.set_1 | refine IsS86.far ?_ NB0_166.out _ | refine IsS86.far ?_ NB0_174.out _) | exact HI0.out)) (by (with_reducible repeat (first | apply Kd.R_alloc | apply Kd.R_drewN | apply Kd.R_drew)); exact HO_175000.out) (by decide)) hk (fun _ h => h.2)) (fun _ h => h.1)); have n3_ := zA (KeepBut.blk hk (g' := gb166) (o := .cells #[.slice none 0 0, .int .i64 0] 31 (0, 0)) (by (with_reducible repeat (first | refine blk_drewN ?_ _ | refine blk_drew ?_ | refine blk_alloc ?_ _)); exact BK166.out) NB166_0.out (by simp)); have n4_ := zA (KeepBut.blk hk (g' := gb174) (o := .cells #[u175000, .int .i64 x175001_1] 31 (0, 0)) (by (with_reducible repeat (first | refine blk_drewN ?_ _ | refine blk_drew ?_ | refine blk_alloc ?_ _)); exact BK174.out) NB174_0.out (by simp)); have n5_ := zA (zg (by repeat (first | (with_reducible first | exact HK.out | apply zS | apply zT | apply zW | apply zU | refine zV ?_ GW166.out _ | refine zV ?_ GW174.out _) | exact HK.out)) hk (.inl rfl)); have n6_ := zA (hb); have n7_ := zA (hi); clear HO_6 HO_12 HO_175000 BK166 BK174 HK HB HI0; have HO_6 := n0_; have HO_12 := n1_; have HO_175000 := n2_; have BK166 := n3_; have BK174 := n4_; have HK := n5_; have HB := n6_; have HI0 := n7_; clear n0_ n1_ n2_ n3_ n4_ n5_ n6_ n7_; (try clear hb); (try clear hb2); (try clear hk); (try clear hi); obtain ⟨Ao45, co45, eo45⟩ := Kd.R_slice HO_6.out; subst eo45; have p184 : 0 ≤ ((ji26) : Int) := zF (by first | (with_reducible assumption) | assumption); have q184 : (ji26) < (x6_4.length : Int) := zF (by first | (with_reducible assumption) | assumption); obtain ⟨ad184, e184, hx184_0⟩ := Kd.at_int (zO HO_6.out).2.2 (ji26) p184 q184; cases e184; replace p184 := eq_true p184; replace q184 := eq_true q184) | ((with_reducible refine gate_builtin (b := .append) (xs := #[.tmp 55, .tmp 63]) rfl ?_); (try (refine gate_guard (by rfl) ?_; dsimp only)); at_builtin; refine Kd.R_append (Kd.int .i64) w.heap.size rfl (.tmp 55) (.tmp 63) 29 3 (.int .i64 0) 8 rfl Try.underlying29 info3 rfl (by decide) (by omega) u12 x12_4 (rd x6_4 (ji26)) [.int .i64 (rd x6_4 (ji26))] (fun k_ => some k_ ≠ (.slice (some ad184) x6_4.length co45 : Value).ownBlock ∧ some k_ ≠ (u175000 : Value).ownBlock) (fun _ => False) rfl rfl ?aP (fun _ hk => hk.elim) ?aF ?aO (Below.refl _ _) ?aS ?aL ?_; (case aP => exact rfl); (case aF => exact (fun k_ hk => ⟨Kd.fresh' (Kd.R_lt (by (with_reducible repeat (first | apply Kd.R_alloc | apply Kd.R_drewN | apply Kd.R_drew)); exact HO_6.out)) k_ hk, za (Kd.R_lt (by (with_reducible repeat (first | apply Kd.R_alloc | apply Kd.R_drewN | apply Kd.R_drew)); exact HO_175000.out)) k_ hk⟩)); (case aO => exact (by (with_reducible repeat (first | apply Kd.R_alloc | apply Kd.R_drewN | apply Kd.R_drew)); exact HO_12.out)); (case aS => exact (keep_size (w := w) (g := g) (row := none) (by repeat (first | (with_reducible first | exact HK.out | apply zS | apply zT | apply zW | apply zU | refine zV ?_ GW166.out _ | refine zV ?_ GW174.out _) | exact HK.out)))); (case aL => have := LMc29.out; omega); intro v186 w46 ho hb hg hat; rw [← Ny185.out] at ho; have n0_ := zA (zb (ok := (fun k_ => some k_ ≠ (u175000 : Value).ownBlock)) (by (with_reducible repeat (first | apply Kd.R_alloc | apply Kd.R_drewN | apply Kd.R_drew)); exact zI HO_6.out (fun _ hk => ⟨hk.2, hk.1⟩)) hg hat); have n1_ := zA (zb (ok := (fun k_ => some k_ ≠ (.slice (some ad184) x6_4.length co45 : Value).ownBlock)) (by (with_reducible repeat (first | apply Kd.R_alloc | apply Kd.R_drewN | apply Kd.R_drew)); exact HO_175000.out) hg hat); have n2_ := zA (blk_grown (g := gb166) (o := .cells #[.slice none 0 0, .int .i64 0] 31 (0, 0)) (by (with_reducible repeat (first | refine blk_drewN ?_ _ | refine blk_drew ?_ | refine blk_alloc ?_ _)); exact BK166.out) hg (Kd.R_ne HO_12.out BK166.out (by decide))); have n3_ := zA (blk_grown (g := gb174) (o := .cells #[u175000, .int .i64 x175001_1] 31 (0, 0)) (by (with_reducible repeat (first | refine blk_drewN ?_ _ | refine blk_drew ?_ | refine blk_alloc ?_ _)); exact BK174.out) hg (Kd.R_ne HO_12.out BK174.out (by decide))); have n4_ := zA (IsS86.grown (by repeat (first | (with_reducible first | exact HI0.out | apply IsS86.alloc | apply IsS86.drewN | apply IsS86.drew | apply IsS86.set_1 | refine IsS86.far ?_ NB0_166.out _ | refine IsS86.far ?_ NB0_174.out _) | exact HI0.out)) hg (IsS86.own_ne HI0.out HO_12.out (by decide))); have n5_ := zA (zf (by repeat (first | (with_reducible first | exact HB.out | apply zE | apply zC | apply zD | refine zB ?_ (IsS86.ge HI0.out) | refine zB ?_ GE166.out | refine zB ?_ GE174.out) | exact HB.out)) HL.out hb); have n6_ := zA (zg (by repeat (first | (with_reducible first | exact HK.out | apply zS | apply zT | apply zW | apply zU | refine zV ?_ GW166.out _ | refine zV ?_ GW174.out _) | exact HK.out)) (KeepBut.of_grown hg g) (Kd.R_base2 HO_12.out)); have n7_ := zA (ho); clear HO_6 HO_175000 BK166 BK174 HI0 HB HK HO_12; have HO_6 := n0_; have HO_175000 := n1_; have BK166 := n2_; have BK174 := n3_; have HI0 := n4_; have HB := n5_; have HK := n6_; have HO187 := n7_; clear n0_ n1_ n2_ n3_ n4_ n5_ n6_ n7_; clear ho hb hg hat))
                 go_roundg k4
                 case measure => have := HK1.out; have := HJ17.out; have := HJ20.out; have := HK4.out; omega
                 case rel => exact ⟨(x6_4), (y185), (wrap64 (x13_4 + 1)), (t183), (x175000_4), (u175000), (by first | rfl | (simp; done) | (simp [*]; done)), H', ⟨by have := HK1.out; have := HJ17.out; have := HJ20.out; have := HK4.out; omega⟩, ⟨by (with_reducible repeat (first | apply Kd.R_alloc | apply Kd.R_drewN | apply Kd.R_drew)); exact zI HO_6.out (fun _ hk => ⟨hk.2, hk.1⟩)⟩, ⟨by (with_reducible repeat (first | apply Kd.R_alloc | apply Kd.R_drewN | apply Kd.R_drew)); exact HO187.out⟩, ⟨by (with_reducible repeat (first | apply Kd.R_alloc | apply Kd.R_drewN | apply Kd.R_drew)); exact HO_175000.out⟩, ⟨by (with_reducible repeat (first | refine blk_drewN ?_ _ | refine blk_drew ?_ | refine blk_alloc ?_ _)); exact BK166.out⟩, ⟨by (with_reducible repeat (first | refine blk_drewN ?_ _ | refine blk_drew ?_ | refine blk_alloc ?_ _)); exact BK174.out⟩, ⟨by repeat (first | (with_reducible first | exact HI0.out | apply IsS86.alloc | apply IsS86.drewN | apply IsS86.drew | apply IsS86.set_1 | refine IsS86.far ?_ NB0_166.out _ | refine IsS86.far ?_ NB0_174.out _) | exact HI0.out)⟩, ⟨by repeat (first | (with_reducible first | exact HK.out | apply zS | apply zT | apply zW | apply zU | refine zV ?_ GW166.out _ | refine zV ?_ GW174.out _) | exact HK.out)⟩, ⟨by repeat (first | (with_reducible first | exact HB.out | apply zE | apply zC | apply zD | refine zB ?_ (IsS86.ge HI0.out) | refine zB ?_ GE166.out | refine zB ?_ GE174.out) | exact HB.out)⟩⟩
               ·rw [if_neg c30] at H
                have c30b0 : ((Int.tmod t182 3) == 0) = false := beq_eq_false_iff_ne.mpr c30
                have c30b1 : ((Int.tmod t182 3) != 0) = true := bne_iff_ne.mpr c30
                have H' := zA H
                clear H
                go_wp2_with (first | ((with_reducible refine gate_callee (f := 52) rfl ?_); refine goesL_ (some 54) rfl rfl Try.func52 (by kernel_rfl) rfl #[.pointer (some ⟨g, 0, none⟩)] rfl (by (try simp only [List.map_toArray, List.map_cons, List.map_nil]); first | done | rfl | (simp only [List.length_drop, List.length_take]; rfl)) ?_; (with_reducible refine (spec_l7rd_next.calls g s0_0 x1001_4 t182 t183 w0 _ ?side1 ?side2 A24.out).mono ?_); (case side1 => repeat (first | (with_reducible first | exact HI0.out | apply IsS86.alloc | apply IsS86.drewN | apply IsS86.drew | apply IsS86.set_1 | refine IsS86.far ?_ NB0_166.out _ | refine IsS86.far ?_ NB0_174.out _) | exact HI0.out)); (case side2 => repeat (first | (with_reducible first | exact HB.out | apply zE | apply zC | apply zD | refine zB ?_ (IsS86.ge HI0.out) | refine zB ?_ GE166.out | refine zB ?_ GE174.out) | exact HB.out)); rintro e w47 ⟨rfl, hi, hb, hk⟩; refine ⟨_, rfl, ?_⟩; have n0_ := zA (zI (Kd.R_keep (IsS86.apart (show IsS86 w0 _ g s0_0 x1001_4 from by repeat (first | (with_reducible first | exact HI0.out | apply IsS86.alloc | apply IsS86.drewN | apply IsS86.drew | apply IsS86.set_1 | refine IsS86.far ?_ NB0_166.out _ | refine IsS86.far ?_ NB0_174.out _) | exact HI0.out)) (by (with_reducible repeat (first | apply Kd.R_alloc | apply Kd.R_drewN | apply Kd.R_drew)); exact HO_6.out) (by decide)) hk (fun _ h => h.2)) (fun _ h => h.1)); have n1_ := zA (zI (Kd.R_keep (IsS86.apart (show IsS86 w0 _ g s0_0 x1001_4 from by repeat (first | (with_reducible first | exact HI0.out | apply IsS86.alloc | apply IsS86.drewN | apply IsS86.drew | apply IsS86.set_1 | refine IsS86.far ?_ NB0_166.out _ | refine IsS86.far ?_ NB0_174.out _) | exact HI0.out)) (by (with_reducible repeat (first | apply Kd.R_alloc | apply Kd.R_drewN | apply Kd.R_drew)); exact HO_12.out) (by decide)) hk (fun _ h => h.2)) (fun _ h => h.1)); have n2_ := zA (zI (Kd.R_keep (IsS86.apart (show IsS86 w0 _ g s0_0 x1001_4 from by repeat (first | (with_reducible first | exact HI0.out | apply IsS86.alloc | apply IsS86.drewN | apply IsS86.drew | apply IsS86.set_1 | refine IsS86.far ?_ NB0_166.out _ | refine IsS86.far ?_ NB0_174.out _) | exact HI0.out)) (by (with_reducible repeat (first | apply Kd.R_alloc | apply Kd.R_drewN | apply Kd.R_drew)); exact HO_175000.out) (by decide)) hk (fun _ h => h.2)) (fun _ h => h.1)); have n3_ := zA (KeepBut.blk hk (g' := gb166) (o := .cells #[.slice none 0 0, .int .i64 0] 31 (0, 0)) (by (with_reducible repeat (first | refine blk_drewN ?_ _ | refine blk_drew ?_ | refine blk_alloc ?_ _)); exact BK166.out) NB166_0.out (by simp)); have n4_ := zA (KeepBut.blk hk (g' := gb174) (o := .cells #[u175000, .int .i64 x175001_1] 31 (0, 0)) (by (with_reducible repeat (first | refine blk_drewN ?_ _ | refine blk_drew ?_ | refine blk_alloc ?_ _)); exact BK174.out) NB174_0.out (by simp)); have n5_ := zA (zg (by repeat (first | (with_reducible first | exact HK.out | apply zS | apply zT | apply zW | apply zU | refine zV ?_ GW166.out _ | refine zV ?_ GW174.out _) | exact HK.out)) hk (.inl rfl)); have n6_ := zA (hb); have n7_ := zA (hi); clear HO_6 HO_12 HO_175000 BK166 BK174 HK HB HI0; have HO_6 := n0_; have HO_12 := n1_; have HO_175000 := n2_; have BK166 := n3_; have BK174 := n4_; have HK := n5_; have HB := n6_; have HI0 := n7_; clear n0_ n1_ n2_ n3_ n4_ n5_ n6_ n7_; (try clear hb); (try clear hb2); (try clear hk); (try clear hi); obtain ⟨Ao48, co48, eo48⟩ := Kd.R_slice HO_6.out; subst eo48; have p184 : 0 ≤ ((ji26) : Int) := zF (by first | (with_reducible assumption) | assumption); have q184 : (ji26) < (x6_4.length : Int) := zF (by first | (with_reducible assumption) | assumption); obtain ⟨ad184, e184, hx184_0⟩ := Kd.at_int (zO HO_6.out).2.2 (ji26) p184 q184; cases e184; replace p184 := eq_true p184; replace q184 := eq_true q184) | ((with_reducible refine gate_builtin (b := .append) (xs := #[.tmp 55, .tmp 63]) rfl ?_); (try (refine gate_guard (by rfl) ?_; dsimp only)); at_builtin; refine Kd.R_append (Kd.int .i64) w.heap.size rfl (.tmp 55) (.tmp 63) 29 3 (.int .i64 0) 8 rfl Try.underlying29 info3 rfl (by decide) (by omega) u12 x12_4 (rd x6_4 (ji26)) [.int .i64 (rd x6_4 (ji26))] (fun k_ => some k_ ≠ (.slice (some ad184) x6_4.length co48 : Value).ownBlock ∧ some k_ ≠ (u175000 : Value).ownBlock) (fun _ => False) rfl rfl ?aP (fun _ hk => hk.elim) ?aF ?aO (Below.refl _ _) ?aS ?aL ?_; (case aP => exact rfl); (case aF => exact (fun k_ hk => ⟨Kd.fresh' (Kd.R_lt (by (with_reducible repeat (first | apply Kd.R_alloc | apply Kd.R_drewN | apply Kd.R_drew)); exact HO_6.out)) k_ hk, za (Kd.R_lt (by (with_reducible repeat (first | apply Kd.R_alloc | apply Kd.R_drewN | apply Kd.R_drew)); exact HO_175000.out)) k_ hk⟩)); (case aO => exact (by (with_reducible repeat (first | apply Kd.R_alloc | apply Kd.R_drewN | apply Kd.R_drew)); exact HO_12.out)); (case aS => exact (keep_size (w := w) (g := g) (row := none) (by repeat (first | (with_reducible first | exact HK.out | apply zS | apply zT | apply zW | apply zU | refine zV ?_ GW166.out _ | refine zV ?_ GW174.out _) | exact HK.out)))); (case aL => have := LMc29.out; omega); intro v186 w49 ho hb hg hat; rw [← Ny185.out] at ho; have n0_ := zA (zb (ok := (fun k_ => some k_ ≠ (u175000 : Value).ownBlock)) (by (with_reducible repeat (first | apply Kd.R_alloc | apply Kd.R_drewN | apply Kd.R_drew)); exact zI HO_6.out (fun _ hk => ⟨hk.2, hk.1⟩)) hg hat); have n1_ := zA (zb (ok := (fun k_ => some k_ ≠ (.slice (some ad184) x6_4.length co48 : Value).ownBlock)) (by (with_reducible repeat (first | apply Kd.R_alloc | apply Kd.R_drewN | apply Kd.R_drew)); exact HO_175000.out) hg hat); have n2_ := zA (blk_grown (g := gb166) (o := .cells #[.slice none 0 0, .int .i64 0] 31 (0, 0)) (by (with_reducible repeat (first | refine blk_drewN ?_ _ | refine blk_drew ?_ | refine blk_alloc ?_ _)); exact BK166.out) hg (Kd.R_ne HO_12.out BK166.out (by decide))); have n3_ := zA (blk_grown (g := gb174) (o := .cells #[u175000, .int .i64 x175001_1] 31 (0, 0)) (by (with_reducible repeat (first | refine blk_drewN ?_ _ | refine blk_drew ?_ | refine blk_alloc ?_ _)); exact BK174.out) hg (Kd.R_ne HO_12.out BK174.out (by decide))); have n4_ := zA (IsS86.grown (by repeat (first | (with_reducible first | exact HI0.out | apply IsS86.alloc | apply IsS86.drewN | apply IsS86.drew | apply IsS86.set_1 | refine IsS86.far ?_ NB0_166.out _ | refine IsS86.far ?_ NB0_174.out _) | exact HI0.out)) hg (IsS86.own_ne HI0.out HO_12.out (by decide))); have n5_ := zA (zf (by repeat (first | (with_reducible first | exact HB.out | apply zE | apply zC | apply zD | refine zB ?_ (IsS86.ge HI0.out) | refine zB ?_ GE166.out | refine zB ?_ GE174.out) | exact HB.out)) HL.out hb); have n6_ := zA (zg (by repeat (first | (with_reducible first | exact HK.out | apply zS | apply zT | apply zW | apply zU | refine zV ?_ GW166.out _ | refine zV ?_ GW174.out _) | exact HK.out)) (KeepBut.of_grown hg g) (Kd.R_base2 HO_12.out)); have n7_ := zA (ho); clear HO_6 HO_175000 BK166 BK174 HI0 HB HK HO_12; have HO_6 := n0_; have HO_175000 := n1_; have BK166 := n2_; have BK174 := n3_; have HI0 := n4_; have HB := n5_; have HK := n6_; have HO187 := n7_; clear n0_ n1_ n2_ n3_ n4_ n5_ n6_ n7_; clear ho hb hg hat))
                go_roundg k4
                case measure => have := HK1.out; have := HJ17.out; have := HJ20.out; have := HK4.out; omega
                case rel => exact ⟨(x6_4), (y185), (wrap64 (x13_4 + 1)), (t183), (x175000_4), (u175000), (by first | rfl | (simp; done) | (simp [*]; done)), H', ⟨by have := HK1.out; have := HJ17.out; have := HJ20.out; have := HK4.out; omega⟩, ⟨by (with_reducible repeat (first | apply Kd.R_alloc | apply Kd.R_drewN | apply Kd.R_drew)); exact zI HO_6.out (fun _ hk => ⟨hk.2, hk.1⟩)⟩, ⟨by (with_reducible repeat (first | apply Kd.R_alloc | apply Kd.R_drewN | apply Kd.R_drew)); exact HO187.out⟩, ⟨by (with_reducible repeat (first | apply Kd.R_alloc | apply Kd.R_drewN | apply Kd.R_drew)); exact HO_175000.out⟩, ⟨by (with_reducible repeat (first | refine blk_drewN ?_ _ | refine blk_drew ?_ | refine blk_alloc ?_ _)); exact BK166.out⟩, ⟨by (with_reducible repeat (first | refine blk_drewN ?_ _ | refine blk_drew ?_ | refine blk_alloc ?_ _)); exact BK174.out⟩, ⟨by repeat (first | (with_reducible first | exact HI0.out | apply IsS86.alloc | apply IsS86.drewN | apply IsS86.drew | apply IsS86.set_1 | refine IsS86.far ?_ NB0_166.out _ | refine IsS86.far ?_ NB0_174.out _) | exact HI0.out)⟩, ⟨by repeat (first | (with_reducible first | exact HK.out | apply zS | apply zT | apply zW | apply zU | refine zV ?_ GW166.out _ | refine zV ?_ GW174.out _) | exact HK.out)⟩, ⟨by repeat (first | (with_reducible first | exact HB.out | apply zE | apply zC | apply zD | refine zB ?_ (IsS86.ge HI0.out) | refine zB ?_ GE166.out | refine zB ?_ GE174.out) | exact HB.out)⟩⟩
              ·rw [if_neg c29] at H
               exact absurd H (by simp)
             ·rw [if_neg c28] at H
              exact absurd H (by simp)
            ·rw [if_neg c27] at H
             exact absurd H (by simp)
          ·rw [if_neg c23] at H
           have c23b0 : decide (x13_4 < x11_20) = false := zH c23
           clear c23
           have HC50 := zA H
           clear H
           go_upto_if 90 with (fail)
           go_cut [12] (fun v12 wc => ∃ (kq : Nat) (x12_49 : List Int), Aside0 (spec_l7heap.j4 kq x6_4 (Int.tmod t178 16) x8_1 (Int.tmod t180 4) x12_49 s0_0 x1001_4 x175000_4 x175001_1 = some (r1, r2, r3, r4)) ∧ Aside0 (kq ≤ k4) ∧ Aside0 (Kd.R (Kd.int .i64) 3 wc w.heap.size (fun k_ => some k_ ≠ (v12 : Value).ownBlock ∧ some k_ ≠ (u175000 : Value).ownBlock) u6 x6_4) ∧ Aside0 (Kd.R (Kd.int .i64) 3 wc w.heap.size (fun k_ => some k_ ≠ (u6 : Value).ownBlock ∧ some k_ ≠ (u175000 : Value).ownBlock) v12 x12_49) ∧ Aside0 (Kd.R (Kd.int .i64) 3 wc w.heap.size (fun k_ => some k_ ≠ (u6 : Value).ownBlock ∧ some k_ ≠ (v12 : Value).ownBlock) u175000 x175000_4) ∧ Aside0 (wc.heap[gb166]? = some (.cells #[(.slice none 0 0), .int .i64 0] 31 (0, 0))) ∧ Aside0 (wc.heap[gb174]? = some (.cells #[u175000, .int .i64 x175001_1] 31 (0, 0))) ∧ Aside0 (IsS86 w0 wc g s0_0 x1001_4) ∧ Aside0 (KeepBut w wc g none) ∧ Aside0 (Below w0.heap.size w0 wc))
           case first =>
            have H := HC50.out
            clear HC50
            by_cases c51 : (Int.tmod t180 4) = 2
            ·rw [if_pos c51] at H
             have c51b0 : ((Int.tmod t180 4) == 2) = true := beq_iff_eq.mpr c51
             have c51b1 : ((Int.tmod t180 4) != 2) = false := bne_eq_false_iff_eq.mpr c51
             clear c51
             (first | rw [c51b0] | (simp only [i64_w, i32_w]; rw [c51b0]) | skip)
             obtain ⟨y190, hy190⟩ : ∃ y_ : List Int, y_ = (([wrap64 (4 * (wrap64 (Int.tdiv t180 20)))] : List Int)) := ⟨_, rfl⟩
             replace H : (if y190.length + x12_4.length < 17592186044416 then (spec_l7heap.j4 k4 x6_4 (Int.tmod t178 16) x8_1 (Int.tmod t180 4) (y190 ++ x12_4) s0_0 x1001_4 x175000_4 x175001_1) else (none)) = some (r1, r2, r3, r4) := by first | (rw [hy190]; with_reducible exact H) | (have H2_ := (Option.bind_some _ _).symm.trans H; rw [hy190]; with_reducible exact H2_) | (have H2_ := (Option.bind_some _ _).symm.trans H; with_reducible exact H2_) | with_reducible exact H | (rw [hy190]; exact H) | exact H
             have Ny190 := zA hy190
             clear hy190
             by_cases c52 : y190.length + x12_4.length < 17592186044416
             ·rw [if_pos c52] at H
              have LMc52 := zA c52
              clear c52
              obtain ⟨y193, hy193⟩ : ∃ y_ : List Int, y_ = (y190 ++ x12_4) := ⟨_, rfl⟩
              replace H : (spec_l7heap.j4 k4 x6_4 (Int.tmod t178 16) x8_1 (Int.tmod t180 4) y193 s0_0 x1001_4 x175000_4 x175001_1) = some (r1, r2, r3, r4) := by first | (rw [hy193]; with_reducible exact H) | (have H2_ := (Option.bind_some _ _).symm.trans H; rw [hy193]; with_reducible exact H2_) | (have H2_ := (Option.bind_some _ _).symm.trans H; with_reducible exact H2_) | with_reducible exact H | (rw [hy193]; exact H) | exact H
              have Ny193 := zA hy193
              clear hy193
              have H' := zA H
              clear H
              go_wp2_with (first | ((with_reducible refine gate_dst (N := 94) rfl ?_); (try (refine gate_guard (by rfl) ?_; dsimp only)); refine Kd.R_lit (Kd.int .i64) _ 3 ?hg (N := 94) ?hd (xs := ([wrap64 (4 * (wrap64 (Int.tdiv t180 20)))] : List Int)) (inner := [.int .i64 (wrap64 (4 * (wrap64 (Int.tdiv t180 20))))]) (ok := fun _ => True) (okp := fun _ => True) ?hr ?hp (fun _ hk => hk) trivial (Below.refl _ _) (Nat.le_refl _) (by simp) ?_; (case hd => rfl); (case hg => rfl); (case hr => first | (go_simp; done) | (go_simp; rfl)); (case hp => exact (Reps.one (show Kd.M (Kd.int .i64) _ _ _ (wrap64 (4 * (wrap64 (Int.tdiv t180 20)))) [.int .i64 (wrap64 (4 * (wrap64 (Int.tdiv t180 20))))] from rfl) (Reps.none _ _))); intro v191 w53 ho54 hb hg_ hnew_; clear hg_ hnew_; (first | rw [← Ny190.out] at ho54 | (simp only [Int.reduceToNat] at ho54; rw [← Ny190.out] at ho54)); have n0_ := zA (zM (by (with_reducible repeat (first | apply Kd.R_alloc | apply Kd.R_drewN | apply Kd.R_drew)); exact HO_6.out) (zQ ho54) hb); have n1_ := zA (zM (by (with_reducible repeat (first | apply Kd.R_alloc | apply Kd.R_drewN | apply Kd.R_drew)); exact HO_12.out) (zQ ho54) hb); have n2_ := zA (zM (by (with_reducible repeat (first | apply Kd.R_alloc | apply Kd.R_drewN | apply Kd.R_drew)); exact HO_175000.out) (zQ ho54) hb); have n3_ := zA (Kd.R_lower (zR (zR (zR ho54 (Kd.R_lt (by (with_reducible repeat (first | apply Kd.R_alloc | apply Kd.R_drewN | apply Kd.R_drew)); exact HO_6.out))) (Kd.R_lt (by (with_reducible repeat (first | apply Kd.R_alloc | apply Kd.R_drewN | apply Kd.R_drew)); exact HO_12.out))) (Kd.R_lt (by (with_reducible repeat (first | apply Kd.R_alloc | apply Kd.R_drewN | apply Kd.R_drew)); exact HO_175000.out))) (keep_size (w := w) (g := g) (row := none) (by repeat (first | (with_reducible first | exact HK.out | apply zS | apply zT | apply zW | apply zU | refine zV ?_ GW166.out _ | refine zV ?_ GW174.out _) | exact HK.out)))); have n4_ := zA (zN (g := gb166) (o := .cells #[.slice none 0 0, .int .i64 0] 31 (0, 0)) (by (with_reducible repeat (first | refine blk_drewN ?_ _ | refine blk_drew ?_ | refine blk_alloc ?_ _)); exact BK166.out) hb); have n5_ := zA (zN (g := gb174) (o := .cells #[u175000, .int .i64 x175001_1] 31 (0, 0)) (by (with_reducible repeat (first | refine blk_drewN ?_ _ | refine blk_drew ?_ | refine blk_alloc ?_ _)); exact BK174.out) hb); have n6_ := zA (IsS86.below (by repeat (first | (with_reducible first | exact HI0.out | apply IsS86.alloc | apply IsS86.drewN | apply IsS86.drew | apply IsS86.set_1 | refine IsS86.far ?_ NB0_166.out _ | refine IsS86.far ?_ NB0_174.out _) | exact HI0.out)) hb); have n7_ := zA (zg (by repeat (first | (with_reducible first | exact HK.out | apply zS | apply zT | apply zW | apply zU | refine zV ?_ GW166.out _ | refine zV ?_ GW174.out _) | exact HK.out)) (KeepBut.of_below hb g none) (.inl rfl)); have n8_ := zA (zX (by repeat (first | (with_reducible first | exact HB.out | apply zE | apply zC | apply zD | refine zB ?_ (IsS86.ge HI0.out) | refine zB ?_ GE166.out | refine zB ?_ GE174.out) | exact HB.out)) hb); clear HO_6 HO_12 HO_175000 BK166 BK174 HI0 HK HB; have HO_6 := n0_; have HO_12 := n1_; have HO_175000 := n2_; have HO192 := n3_; have BK166 := n4_; have BK174 := n5_; have HI0 := n6_; have HK := n7_; have HB := n8_; clear n0_ n1_ n2_ n3_ n4_ n5_ n6_ n7_ n8_; clear hb ho54; obtain ⟨Ao56, co56, eo56⟩ := Kd.R_slice HO_12.out; subst eo56) | ((with_reducible refine gate_builtin (b := .append) (xs := #[.tmp 94, .tmp 95]) rfl ?_); (try (refine gate_guard (by rfl) ?_; dsimp only)); at_builtin; refine Kd.R_append_rows (Kd.int .i64) w.heap.size rfl (.tmp 94) (.tmp 95) 29 3 (.int .i64 0) 8 rfl Try.underlying29 info3 rfl (by decide) (by omega) v191 y190 x12_4 _ _ _ (fun k_ => some k_ ≠ (u6 : Value).ownBlock ∧ some k_ ≠ (.slice Ao56 x12_4.length co56 : Value).ownBlock ∧ some k_ ≠ (u175000 : Value).ownBlock) (fun _ => False) rfl rfl ?aO ?aR (fun _ _ h => h) (fun _ h => h.elim) ?aF (Below.refl _ _) ?aS ?aL ?_; (case aR => repeat (first | exact (zO HO_12.out).2.2 | (with_reducible refine zc ?_ _) | (with_reducible refine zd ?_ _) | (with_reducible refine ze ?_))); (case aF => exact (fun k_ hk => ⟨Kd.fresh' (Kd.R_lt (by (with_reducible repeat (first | apply Kd.R_alloc | apply Kd.R_drewN | apply Kd.R_drew)); exact HO_6.out)) k_ hk, za (Kd.R_lt (by (with_reducible repeat (first | apply Kd.R_alloc | apply Kd.R_drewN | apply Kd.R_drew)); exact HO_12.out)) k_ hk, za (Kd.R_lt (by (with_reducible repeat (first | apply Kd.R_alloc | apply Kd.R_drewN | apply Kd.R_drew)); exact HO_175000.out)) k_ hk⟩)); (case aO => exact (by (with_reducible repeat (first | apply Kd.R_alloc | apply Kd.R_drewN | apply Kd.R_drew)); exact zI HO192.out (fun _ hk => ⟨hk.1.1.2, ⟨hk.1.2, hk.2⟩⟩))); (case aS => exact (keep_size (w := w) (g := g) (row := none) (by repeat (first | (with_reducible first | exact HK.out | apply zS | apply zT | apply zW | apply zU | refine zV ?_ GW166.out _ | refine zV ?_ GW174.out _) | exact HK.out)))); (case aL => have := LMc52.out; omega); intro v194 w55 ho hb hg hat; rw [← Ny193.out] at ho; have n0_ := zA (zb (ok := (fun k_ => some k_ ≠ (.slice Ao56 x12_4.length co56 : Value).ownBlock ∧ some k_ ≠ (u175000 : Value).ownBlock)) (by (with_reducible repeat (first | apply Kd.R_alloc | apply Kd.R_drewN | apply Kd.R_drew)); exact HO_6.out) hg hat); have n1_ := zA (zb (ok := (fun k_ => some k_ ≠ (u6 : Value).ownBlock ∧ some k_ ≠ (u175000 : Value).ownBlock)) (by (with_reducible repeat (first | apply Kd.R_alloc | apply Kd.R_drewN | apply Kd.R_drew)); exact HO_12.out) hg hat); have n2_ := zA (zb (ok := (fun k_ => some k_ ≠ (u6 : Value).ownBlock ∧ some k_ ≠ (.slice Ao56 x12_4.length co56 : Value).ownBlock)) (by (with_reducible repeat (first | apply Kd.R_alloc | apply Kd.R_drewN | apply Kd.R_drew)); exact HO_175000.out) hg hat); have n3_ := zA (blk_grown (g := gb166) (o := .cells #[.slice none 0 0, .int .i64 0] 31 (0, 0)) (by (with_reducible repeat (first | refine blk_drewN ?_ _ | refine blk_drew ?_ | refine blk_alloc ?_ _)); exact BK166.out) hg (Kd.R_ne HO192.out BK166.out (by decide))); have n4_ := zA (blk_grown (g := gb174) (o := .cells #[u175000, .int .i64 x175001_1] 31 (0, 0)) (by (with_reducible repeat (first | refine blk_drewN ?_ _ | refine blk_drew ?_ | refine blk_alloc ?_ _)); exact BK174.out) hg (Kd.R_ne HO192.out BK174.out (by decide))); have n5_ := zA (IsS86.grown (by repeat (first | (with_reducible first | exact HI0.out | apply IsS86.alloc | apply IsS86.drewN | apply IsS86.drew | apply IsS86.set_1 | refine IsS86.far ?_ NB0_166.out _ | refine IsS86.far ?_ NB0_174.out _) | exact HI0.out)) hg (IsS86.own_ne HI0.out HO192.out (by decide))); have n6_ := zA (zf (by repeat (first | (with_reducible first | exact HB.out | apply zE | apply zC | apply zD | refine zB ?_ (IsS86.ge HI0.out) | refine zB ?_ GE166.out | refine zB ?_ GE174.out) | exact HB.out)) HL.out hb); have n7_ := zA (zg (by repeat (first | (with_reducible first | exact HK.out | apply zS | apply zT | apply zW | apply zU | refine zV ?_ GW166.out _ | refine zV ?_ GW174.out _) | exact HK.out)) (KeepBut.of_grown hg g) (Kd.R_base2 HO192.out)); have n8_ := zA (ho); clear HO_6 HO_12 HO_175000 BK166 BK174 HI0 HB HK HO192; have HO_6 := n0_; have HO_12 := n1_; have HO_175000 := n2_; have BK166 := n3_; have BK174 := n4_; have HI0 := n5_; have HB := n6_; have HK := n7_; have HO195 := n8_; clear n0_ n1_ n2_ n3_ n4_ n5_ n6_ n7_ n8_; clear ho hb hg hat))
              go_meet
              case rel => exact ⟨_, (y193), H', ⟨by have := HK1.out; have := HJ17.out; have := HJ20.out; have := HK4.out; first | omega | exact Nat.le_refl _⟩, ⟨by (with_reducible repeat (first | apply Kd.R_alloc | apply Kd.R_drewN | apply Kd.R_drew)); exact zI HO_6.out (fun _ hk => ⟨hk.2, hk.1.2⟩)⟩, ⟨by (with_reducible repeat (first | apply Kd.R_alloc | apply Kd.R_drewN | apply Kd.R_drew)); exact zI HO195.out (fun _ hk => ⟨hk.1, hk.2.2⟩)⟩, ⟨by (with_reducible repeat (first | apply Kd.R_alloc | apply Kd.R_drewN | apply Kd.R_drew)); exact zI HO_175000.out (fun _ hk => ⟨hk.1.1, hk.2⟩)⟩, ⟨by (with_reducible repeat (first | refine blk_drewN ?_ _ | refine blk_drew ?_ | refine blk_alloc ?_ _)); exact BK166.out⟩, ⟨by (with_reducible repeat (first | refine blk_drewN ?_ _ | refine blk_drew ?_ | refine blk_alloc ?_ _)); exact BK174.out⟩, ⟨by repeat (first | (with_reducible first | exact HI0.out | apply IsS86.alloc | apply IsS86.drewN | apply IsS86.drew | apply IsS86.set_1 | refine IsS86.far ?_ NB0_166.out _ | refine IsS86.far ?_ NB0_174.out _) | exact HI0.out)⟩, ⟨by repeat (first | (with_reducible first | exact HK.out | apply zS | apply zT | apply zW | apply zU | refine zV ?_ GW166.out _ | refine zV ?_ GW174.out _) | exact HK.out)⟩, ⟨by repeat (first | (with_reducible first | exact HB.out | apply zE | apply zC | apply zD | refine zB ?_ (IsS86.ge HI0.out) | refine zB ?_ GE166.out | refine zB ?_ GE174.out) | exact HB.out)⟩⟩
             ·rw [if_neg c52] at H
              exact absurd H (by simp)
            ·rw [if_neg c51] at H
             have c51b0 : ((Int.tmod t180 4) == 2) = false := beq_eq_false_iff_ne.mpr c51
             have c51b1 : ((Int.tmod t180 4) != 2) = true := bne_iff_ne.mpr c51
             (first | rw [c51b0] | (simp only [i64_w, i32_w]; rw [c51b0]) | skip)
             have H' := zA H
             clear H
             go_wp2
             go_meet
             case rel => exact ⟨_, (x12_4), H', ⟨by have := HK1.out; have := HJ17.out; have := HJ20.out; have := HK4.out; first | omega | exact Nat.le_refl _⟩, ⟨by (with_reducible repeat (first | apply Kd.R_alloc | apply Kd.R_drewN | apply Kd.R_drew)); exact HO_6.out⟩, ⟨by (with_reducible repeat (first | apply Kd.R_alloc | apply Kd.R_drewN | apply Kd.R_drew)); exact HO_12.out⟩, ⟨by (with_reducible repeat (first | apply Kd.R_alloc | apply Kd.R_drewN | apply Kd.R_drew)); exact HO_175000.out⟩, ⟨by (with_reducible repeat (first | refine blk_drewN ?_ _ | refine blk_drew ?_ | refine blk_alloc ?_ _)); exact BK166.out⟩, ⟨by (with_reducible repeat (first | refine blk_drewN ?_ _ | refine blk_drew ?_ | refine blk_alloc ?_ _)); exact BK174.out⟩, ⟨by repeat (first | (with_reducible first | exact HI0.out | apply IsS86.alloc | apply IsS86.drewN | apply IsS86.drew | apply IsS86.set_1 | refine IsS86.far ?_ NB0_166.out _ | refine IsS86.far ?_ NB0_174.out _) | exact HI0.out)⟩, ⟨by repeat (first | (with_reducible first | exact HK.out | apply zS | apply zT | apply zW | apply zU | refine zV ?_ GW166.out _ | refine zV ?_ GW174.out _) | exact HK.out)⟩, ⟨by repeat (first | (with_reducible first | exact HB.out | apply zE | apply zC | apply zD | refine zB ?_ (IsS86.ge HI0.out) | refine zB ?_ GE166.out | refine zB ?_ GE174.out) | exact HB.out)⟩⟩
           case rest =>
            clear HC50
            try clear c1
            try clear p1
            try clear q1
            try clear hx1
            try clear c2
            try clear p2
            try clear c3
            try clear p3
            try clear q3
            try clear hx3
            try clear hf3
            try clear c5
            try clear p6
            try clear c10
            try clear c11
            try clear c15
            try clear c16
            try clear c16b0
            try clear p18
            try clear q18
            try clear hx18
            try clear c20
            try clear c20b0
            try clear c20b1
            try clear c22
            try clear c22b0
            try clear c22b1
            try clear c23
            try clear c23b0
            try clear c25
            try clear c25b0
            try clear c25b1
            try clear c25b2
            try clear c27
            try clear c27b0
            try clear c28
            try clear c28b0
            try clear c29
            try clear c30
            try clear c30b0
            try clear c30b1
            try clear c31
            try clear c31b0
            try clear c31b1
            try clear c32
            try clear c32b0
            try clear c32b1
            try clear c34
            try clear c34b0
            try clear c35
            try clear c35b0
            try clear c36
            try clear c36b0
            try clear c37
            try clear c37b0
            try clear p38
            try clear q38
            try clear hx38
            try clear hf38
            try clear c51
            try clear c51b0
            try clear c51b1
            try clear c52
            try clear c53
            try clear hcz12_0
            try clear hcz12_1
            try clear hfz12_0
            try clear hfz12_1
            try clear hx184_0
            try clear hx188_0
            try clear hx38_0
            try clear p184
            try clear p188
            try clear p2
            try clear p38
            try clear p6
            try clear q184
            try clear q188
            try clear q38
            obtain ⟨kq, x12_49, HA, HJ49, HO_6, HO_12, HO_175000, BK166, BK174, HI0, HK, HB⟩ := hcut
            cases kq with
            | zero => exact absurd HA.out (by simp [spec_l7heap.j4])
            | succ kj49 =>
             have H := HA.out
             clear HA
             simp only [spec_l7heap.j4] at H
             replace H := Option.bind_eq_some_iff.mp H
             obtain ⟨⟨t196, t199, t200, t201⟩, A570, H⟩ := H
             replace H : (if t201 = 0 then (if x6_4.length < 17592186044416 then (spec_l7heap.l0 kj49 (x6_4 ++ [t200]) (Int.tmod t178 16) (wrap64 (x8_1 + 1)) s0_0 x1001_4 t196 t199) else (none)) else (spec_l7heap.l0 kj49 x6_4 (Int.tmod t178 16) (wrap64 (x8_1 + 1)) s0_0 x1001_4 x175000_4 x175001_1)) = some (r1, r2, r3, r4) := H
             have A57 := zA A570
             clear A570
             by_cases c58 : t201 = 0
             ·rw [if_pos c58] at H
              have c58b0 : (t201 == 0) = true := beq_iff_eq.mpr c58
              have c58b1 : (t201 != 0) = false := bne_eq_false_iff_eq.mpr c58
              clear c58
              by_cases c59 : x6_4.length < 17592186044416
              ·rw [if_pos c59] at H
               have LMc59 := zA c59
               clear c59
               obtain ⟨y203, hy203⟩ : ∃ y_ : List Int, y_ = (x6_4 ++ [t200]) := ⟨_, rfl⟩
               replace H : (spec_l7heap.l0 kj49 y203 (Int.tmod t178 16) (wrap64 (x8_1 + 1)) s0_0 x1001_4 t196 t199) = some (r1, r2, r3, r4) := by first | (rw [hy203]; with_reducible exact H) | (have H2_ := (Option.bind_some _ _).symm.trans H; rw [hy203]; with_reducible exact H2_) | (have H2_ := (Option.bind_some _ _).symm.trans H; with_reducible exact H2_) | with_reducible exact H | (rw [hy203]; exact H) | exact H
               have Ny203 := zA hy203
               clear hy203
               have H' := zA H
               clear H
               have hnb60 := NB174_166.out
               have hnc60 := NB166_174.out
               have hnb61 := NB174_0.out
               have hnc61 := NB0_174.out
               have hcz62_0 : wc.cell? ⟨gb174, 0, none⟩ = some (u175000) := (zZ BK174.out 0).trans rfl
               have hcz62_1 : wc.cell? ⟨gb174, 1, none⟩ = some (.int .i64 x175001_1) := (zZ BK174.out 1).trans rfl
               have hfz62_0 := zY BK174.out 0
               have hfz62_1 := zY BK174.out 1
               obtain ⟨Ao63, co63, eo63⟩ := Kd.R_slice HO_175000.out
               subst eo63
               obtain ⟨Ao64, co64, eo64⟩ := Kd.R_slice HO_12.out
               subst eo64
               go_wp2_with (first | ((with_reducible refine gate_callee (f := 26) rfl ?_); refine goesL_ (some 101) rfl rfl Try.func26 (by kernel_rfl) rfl #[.agg #[.slice Ao63 x175000_4.length co63, .int .i64 x175001_1], .int .i64 (Int.tmod t180 4), .slice Ao64 x12_49.length co64] rfl (by (try simp only [List.map_toArray, List.map_cons, List.map_nil]); first | done | rfl | (simp only [List.length_drop, List.length_take]; rfl)) ?_; (with_reducible refine (spec_Alloc.calls kj49 _ _ x175000_4 x175001_1 (Int.tmod t180 4) _ _ x12_49 t196 t199 t200 t201 _ ?side1 ?side2 ?side3 ?side4 A57.out).mono ?_); (case side1 => repeat (first | exact (zO HO_175000.out).2.2 | (with_reducible refine zc ?_ _) | (with_reducible refine zd ?_ _) | (with_reducible refine ze ?_))); (case side2 => exact (zO HO_175000.out).2.1); (case side3 => repeat (first | exact (zO HO_12.out).2.2 | (with_reducible refine zc ?_ _) | (with_reducible refine zd ?_ _) | (with_reducible refine ze ?_))); (case side4 => exact (zO HO_12.out).2.1); rintro e w65 ⟨v197, rfl, ho0, hb⟩; refine ⟨_, rfl, ?_⟩; have n0_ := zA (zM (by (with_reducible repeat (first | apply Kd.R_alloc | apply Kd.R_drewN | apply Kd.R_drew)); exact HO_6.out) (zQ ho0) hb); have n1_ := zA (zM (by (with_reducible repeat (first | apply Kd.R_alloc | apply Kd.R_drewN | apply Kd.R_drew)); exact HO_12.out) (zQ ho0) hb); have n2_ := zA (zM (by (with_reducible repeat (first | apply Kd.R_alloc | apply Kd.R_drewN | apply Kd.R_drew)); exact HO_175000.out) (zQ ho0) hb); have n3_ := zA (Kd.R_lower (zR (zR (zR ho0 (Kd.R_lt (by (with_reducible repeat (first | apply Kd.R_alloc | apply Kd.R_drewN | apply Kd.R_drew)); exact HO_6.out))) (Kd.R_lt (by (with_reducible repeat (first | apply Kd.R_alloc | apply Kd.R_drewN | apply Kd.R_drew)); exact HO_12.out))) (Kd.R_lt (by (with_reducible repeat (first | apply Kd.R_alloc | apply Kd.R_drewN | apply Kd.R_drew)); exact HO_175000.out))) (keep_size (w := w) (g := g) (row := none) (by repeat (first | (with_reducible first | exact HK.out | apply zS | apply zT | apply zW | apply zU | refine zV ?_ GW166.out _ | refine zV ?_ GW174.out _) | exact HK.out)))); have n4_ := zA (zN (g := gb166) (o := .cells #[.slice none 0 0, .int .i64 0] 31 (0, 0)) (by (with_reducible repeat (first | refine blk_drewN ?_ _ | refine blk_drew ?_ | refine blk_alloc ?_ _)); exact BK166.out) hb); have n5_ := zA (zN (g := gb174) (o := .cells #[.slice Ao63 x175000_4.length co63, .int .i64 x175001_1] 31 (0, 0)) (by (with_reducible repeat (first | refine blk_drewN ?_ _ | refine blk_drew ?_ | refine blk_alloc ?_ _)); exact BK174.out) hb); have n6_ := zA (IsS86.below (by repeat (first | (with_reducible first | exact HI0.out | apply IsS86.alloc | apply IsS86.drewN | apply IsS86.drew | apply IsS86.set_1 | refine IsS86.far ?_ NB0_166.out _ | refine IsS86.far ?_ NB0_174.out _) | exact HI0.out)) hb); have n7_ := zA (zg (by repeat (first | (with_reducible first | exact HK.out | apply zS | apply zT | apply zW | apply zU | refine zV ?_ GW166.out _ | refine zV ?_ GW174.out _) | exact HK.out)) (KeepBut.of_below hb g none) (.inl rfl)); have n8_ := zA (zX (by repeat (first | (with_reducible first | exact HB.out | apply zE | apply zC | apply zD | refine zB ?_ (IsS86.ge HI0.out) | refine zB ?_ GE166.out | refine zB ?_ GE174.out) | exact HB.out)) hb); clear HO_6 HO_12 HO_175000 BK166 BK174 HI0 HK HB; have HO_6 := n0_; have HO_12 := n1_; have HO_175000 := n2_; have HO198 := n3_; have BK166 := n4_; have BK174 := n5_; have HI0 := n6_; have HK := n7_; have HB := n8_; clear n0_ n1_ n2_ n3_ n4_ n5_ n6_ n7_ n8_; (try clear hb); (try clear hb2); (try clear hk); (try clear hi); (try clear ho0)) | ((with_reducible refine gate_dst (N := 15) rfl ?_); (try (refine gate_guard (by rfl) ?_; dsimp only)); refine box_event ?hg (N := 15) ?hd (cs := #[.slice none 0 0, .int .i64 0]) (t := 31) ?hr ?_; (case hd => rfl); (case hg => rfl); (case hr => first | (go_simp; done) | (go_simp; rfl)); intro gb202 hg w66 hbox hb; have n0_ := zA (zP (by (with_reducible repeat (first | apply Kd.R_alloc | apply Kd.R_drewN | apply Kd.R_drew)); exact HO_6.out) hb); have n1_ := zA (zP (by (with_reducible repeat (first | apply Kd.R_alloc | apply Kd.R_drewN | apply Kd.R_drew)); exact HO_12.out) hb); have n2_ := zA (zP (by (with_reducible repeat (first | apply Kd.R_alloc | apply Kd.R_drewN | apply Kd.R_drew)); exact HO_175000.out) hb); have n3_ := zA (zP (by (with_reducible repeat (first | apply Kd.R_alloc | apply Kd.R_drewN | apply Kd.R_drew)); exact HO198.out) hb); have n4_ := zA (zN (g := gb166) (o := .cells #[.slice none 0 0, .int .i64 0] 31 (0, 0)) (by (with_reducible repeat (first | refine blk_drewN ?_ _ | refine blk_drew ?_ | refine blk_alloc ?_ _)); exact BK166.out) hb); have n5_ := zA (zN (g := gb174) (o := .cells #[.slice Ao63 x175000_4.length co63, .int .i64 x175001_1] 31 (0, 0)) (by (with_reducible repeat (first | refine blk_drewN ?_ _ | refine blk_drew ?_ | refine blk_alloc ?_ _)); exact BK174.out) hb); have n6_ := zA (IsS86.below (by repeat (first | (with_reducible first | exact HI0.out | apply IsS86.alloc | apply IsS86.drewN | apply IsS86.drew | apply IsS86.set_1 | refine IsS86.far ?_ NB0_166.out _ | refine IsS86.far ?_ NB0_174.out _) | exact HI0.out)) hb); have n7_ := zA (zg (by repeat (first | (with_reducible first | exact HK.out | apply zS | apply zT | apply zW | apply zU | refine zV ?_ GW166.out _ | refine zV ?_ GW174.out _) | exact HK.out)) (KeepBut.of_below hb g none) (.inl rfl)); have n8_ := zA (zX (by repeat (first | (with_reducible first | exact HB.out | apply zE | apply zC | apply zD | refine zB ?_ (IsS86.ge HI0.out) | refine zB ?_ GE166.out | refine zB ?_ GE174.out) | exact HB.out)) hb); have n9_ := zA (hbox); have n10_ := zA ((by rw [hg]; exact (keep_size (w := w) (g := g) (row := none) (by repeat (first | (with_reducible first | exact HK.out | apply zS | apply zT | apply zW | apply zU | refine zV ?_ GW166.out _ | refine zV ?_ GW174.out _) | exact HK.out))) : w.heap.size ≤ gb202)); have n11_ := zA ((Nat.le_trans HW0.out (by rw [hg]; exact (keep_size (w := w) (g := g) (row := none) (by repeat (first | (with_reducible first | exact HK.out | apply zS | apply zT | apply zW | apply zU | refine zV ?_ GW166.out _ | refine zV ?_ GW174.out _) | exact HK.out))) : w.heap.size ≤ gb202) : w0.heap.size ≤ gb202)); have n12_ := zA ((by rw [hg]; exact Nat.ne_of_lt (blk_lt (g := gb166) (o := .cells #[.slice none 0 0, .int .i64 0] 31 (0, 0)) (by (with_reducible repeat (first | refine blk_drewN ?_ _ | refine blk_drew ?_ | refine blk_alloc ?_ _)); exact BK166.out)) : gb166 ≠ gb202)); have n13_ := zA ((by rw [hg]; exact Nat.ne_of_gt (blk_lt (g := gb166) (o := .cells #[.slice none 0 0, .int .i64 0] 31 (0, 0)) (by (with_reducible repeat (first | refine blk_drewN ?_ _ | refine blk_drew ?_ | refine blk_alloc ?_ _)); exact BK166.out)) : gb202 ≠ gb166)); have n14_ := zA ((by rw [hg]; exact Nat.ne_of_lt (blk_lt (g := gb174) (o := .cells #[.slice Ao63 x175000_4.length co63, .int .i64 x175001_1] 31 (0, 0)) (by (with_reducible repeat (first | refine blk_drewN ?_ _ | refine blk_drew ?_ | refine blk_alloc ?_ _)); exact BK174.out)) : gb174 ≠ gb202)); have n15_ := zA ((by rw [hg]; exact Nat.ne_of_gt (blk_lt (g := gb174) (o := .cells #[.slice Ao63 x175000_4.length co63, .int .i64 x175001_1] 31 (0, 0)) (by (with_reducible repeat (first | refine blk_drewN ?_ _ | refine blk_drew ?_ | refine blk_alloc ?_ _)); exact BK174.out)) : gb202 ≠ gb174)); have n16_ := zA ((by rw [hg]; exact Nat.ne_of_lt (IsS86.lt (show IsS86 w0 _ g s0_0 x1001_4 from by repeat (first | (with_reducible first | exact HI0.out | apply IsS86.alloc | apply IsS86.drewN | apply IsS86.drew | apply IsS86.set_1 | refine IsS86.far ?_ NB0_166.out _ | refine IsS86.far ?_ NB0_174.out _) | exact HI0.out))) : g ≠ gb202)); have n17_ := zA ((by rw [hg]; exact Nat.ne_of_gt (IsS86.lt (show IsS86 w0 _ g s0_0 x1001_4 from by repeat (first | (with_reducible first | exact HI0.out | apply IsS86.alloc | apply IsS86.drewN | apply IsS86.drew | apply IsS86.set_1 | refine IsS86.far ?_ NB0_166.out _ | refine IsS86.far ?_ NB0_174.out _) | exact HI0.out))) : gb202 ≠ g)); clear HO_6 HO_12 HO_175000 HO198 BK166 BK174 HI0 HK HB; have HO_6 := n0_; have HO_12 := n1_; have HO_175000 := n2_; have HO198 := n3_; have BK166 := n4_; have BK174 := n5_; have HI0 := n6_; have HK := n7_; have HB := n8_; have BK202 := n9_; have GW202 := n10_; have GE202 := n11_; have NB166_202 := n12_; have NB202_166 := n13_; have NB174_202 := n14_; have NB202_174 := n15_; have NB0_202 := n16_; have NB202_0 := n17_; clear n0_ n1_ n2_ n3_ n4_ n5_ n6_ n7_ n8_ n9_ n10_ n11_ n12_ n13_ n14_ n15_ n16_ n17_; clear hb hbox hg; obtain ⟨Ao67, co67, eo67⟩ := Kd.R_slice HO198.out; subst eo67; have hnb68 := NB202_166.out; have hnc68 := NB166_202.out; have hnb69 := NB202_174.out; have hnc69 := NB174_202.out; have hnb70 := NB202_0.out; have hnc70 := NB0_202.out; have hcz71_0 : w66.cell? ⟨gb202, 0, none⟩ = some (.slice none 0 0) := (zZ BK202.out 0).trans rfl; have hcz71_1 : w66.cell? ⟨gb202, 1, none⟩ = some (.int .i64 0) := (zZ BK202.out 1).trans rfl; have hfz71_0 := zY BK202.out 0; have hfz71_1 := zY BK202.out 1; have hcz72_0 : w66.cell? ⟨gb174, 0, none⟩ = some (.slice Ao63 x175000_4.length co63) := (zZ BK174.out 0).trans rfl; have hcz72_1 : w66.cell? ⟨gb174, 1, none⟩ = some (.int .i64 x175001_1) := (zZ BK174.out 1).trans rfl; have hfz72_0 := zY BK174.out 0; have hfz72_1 := zY BK174.out 1) | ((with_reducible refine gate_builtin (b := .append) (xs := #[.tmp 108, .tmp 110]) rfl ?_); (try (refine gate_guard (by rfl) ?_; dsimp only)); at_builtin; refine Kd.R_append (Kd.int .i64) w.heap.size rfl (.tmp 108) (.tmp 110) 29 3 (.int .i64 0) 8 rfl Try.underlying29 info3 rfl (by decide) (by omega) u6 x6_4 t200 [.int .i64 t200] (fun k_ => some k_ ≠ (.slice Ao64 x12_49.length co64 : Value).ownBlock ∧ some k_ ≠ (.slice Ao63 x175000_4.length co63 : Value).ownBlock ∧ some k_ ≠ (.slice Ao67 t196.length co67 : Value).ownBlock) (fun _ => False) rfl (by first | (go_simp; done) | (go_simp; rfl)) ?aP (fun _ hk => hk.elim) ?aF ?aO (Below.refl _ _) ?aS ?aL ?_; (case aP => exact rfl); (case aF => exact (fun k_ hk => ⟨Kd.fresh' (Kd.R_lt (by (with_reducible repeat (first | apply Kd.R_alloc | apply Kd.R_drewN | apply Kd.R_drew)); exact (zI (zI (zJ (p := ⟨gb174, 1, none⟩) (zJ (p := ⟨gb174, 0, none⟩) (zJ (p := ⟨gb202, 1, none⟩) (zJ (p := ⟨gb202, 0, none⟩) (zL (zL HO_12.out BK202.out (by decide)) BK174.out (by decide)) (fun _ hk => hk.1.2) (.slice Ao67 t196.length co67)) (fun _ hk => hk.1.2) (.int .i64 t199)) (fun _ hk => hk.2) (.slice Ao67 t196.length co67)) (fun _ hk => hk.2) (.int .i64 t199)) (fun _ h_ => h_.1)) (fun _ h_ => h_.1)))) k_ hk, za (Kd.R_lt (by (with_reducible repeat (first | apply Kd.R_alloc | apply Kd.R_drewN | apply Kd.R_drew)); exact (zI (zI (zJ (p := ⟨gb174, 1, none⟩) (zJ (p := ⟨gb174, 0, none⟩) (zJ (p := ⟨gb202, 1, none⟩) (zJ (p := ⟨gb202, 0, none⟩) (zL (zL HO_175000.out BK202.out (by decide)) BK174.out (by decide)) (fun _ hk => hk.1.2) (.slice Ao67 t196.length co67)) (fun _ hk => hk.1.2) (.int .i64 t199)) (fun _ hk => hk.2) (.slice Ao67 t196.length co67)) (fun _ hk => hk.2) (.int .i64 t199)) (fun _ h_ => h_.1)) (fun _ h_ => h_.1)))) k_ hk, za (Kd.R_lt (by (with_reducible repeat (first | apply Kd.R_alloc | apply Kd.R_drewN | apply Kd.R_drew)); exact (zI (zI (zJ (p := ⟨gb174, 1, none⟩) (zJ (p := ⟨gb174, 0, none⟩) (zJ (p := ⟨gb202, 1, none⟩) (zJ (p := ⟨gb202, 0, none⟩) (zL (zL HO198.out BK202.out (by decide)) BK174.out (by decide)) (fun _ hk => hk.1.2) (.slice Ao67 t196.length co67)) (fun _ hk => hk.1.2) (.int .i64 t199)) (fun _ hk => hk.2) (.slice Ao67 t196.length co67)) (fun _ hk => hk.2) (.int .i64 t199)) (fun _ h_ => h_.1)) (fun _ h_ => h_.1)))) k_ hk⟩)); (case aO => exact (by (with_reducible repeat (first | apply Kd.R_alloc | apply Kd.R_drewN | apply Kd.R_drew)); exact zI (zJ (p := ⟨gb174, 1, none⟩) (zJ (p := ⟨gb174, 0, none⟩) (zJ (p := ⟨gb202, 1, none⟩) (zJ (p := ⟨gb202, 0, none⟩) (zL (zL HO_6.out BK202.out (by decide)) BK174.out (by decide)) (fun _ hk => hk.1.2) (.slice Ao67 t196.length co67)) (fun _ hk => hk.1.2) (.int .i64 t199)) (fun _ hk => hk.2) (.slice Ao67 t196.length co67)) (fun _ hk => hk.2) (.int .i64 t199)) (fun _ hk => ⟨hk.1.1.1.1, ⟨hk.1.1.1.2, hk.1.1.2⟩⟩))); (case aS => exact (keep_size (w := w) (g := g) (row := none) (by repeat (first | (with_reducible first | exact HK.out | apply zS | apply zT | apply zW | apply zU | refine zV ?_ GW166.out _ | refine zV ?_ GW174.out _ | refine zV ?_ GW202.out _) | exact HK.out)))); (case aL => have := LMc59.out; omega); intro v204 w73 ho hb hg hat; rw [← Ny203.out] at ho; have n0_ := zA (zb (ok := (fun k_ => some k_ ≠ (.slice Ao63 x175000_4.length co63 : Value).ownBlock ∧ some k_ ≠ (.slice Ao67 t196.length co67 : Value).ownBlock)) (by (with_reducible repeat (first | apply Kd.R_alloc | apply Kd.R_drewN | apply Kd.R_drew)); exact zI (zJ (p := ⟨gb174, 1, none⟩) (zJ (p := ⟨gb174, 0, none⟩) (zJ (p := ⟨gb202, 1, none⟩) (zJ (p := ⟨gb202, 0, none⟩) (zL (zL HO_12.out BK202.out (by decide)) BK174.out (by decide)) (fun _ hk => hk.1.2) (.slice Ao67 t196.length co67)) (fun _ hk => hk.1.2) (.int .i64 t199)) (fun _ hk => hk.2) (.slice Ao67 t196.length co67)) (fun _ hk => hk.2) (.int .i64 t199)) (fun _ hk => ⟨⟨hk.1.1.1.2, hk.1.1.2⟩, hk.1.1.1.1⟩)) hg hat); have n1_ := zA (zb (ok := (fun k_ => some k_ ≠ (.slice Ao64 x12_49.length co64 : Value).ownBlock ∧ some k_ ≠ (.slice Ao67 t196.length co67 : Value).ownBlock)) (by (with_reducible repeat (first | apply Kd.R_alloc | apply Kd.R_drewN | apply Kd.R_drew)); exact zI (zJ (p := ⟨gb174, 1, none⟩) (zJ (p := ⟨gb174, 0, none⟩) (zJ (p := ⟨gb202, 1, none⟩) (zJ (p := ⟨gb202, 0, none⟩) (zL (zL HO_175000.out BK202.out (by decide)) BK174.out (by decide)) (fun _ hk => hk.1.2) (.slice Ao67 t196.length co67)) (fun _ hk => hk.1.2) (.int .i64 t199)) (fun _ hk => hk.2) (.slice Ao67 t196.length co67)) (fun _ hk => hk.2) (.int .i64 t199)) (fun _ hk => ⟨⟨hk.1.1.1.2, hk.1.1.2⟩, hk.1.1.1.1⟩)) hg hat); have n2_ := zA (blk_grown (g := gb166) (o := .cells #[.slice none 0 0, .int .i64 0] 31 (0, 0)) (by (with_reducible repeat (first | refine blk_drewN ?_ _ | refine blk_drew ?_ | refine blk_alloc ?_ _)); refine blk_far ?_ NB166_174.out _; (with_reducible repeat (first | refine blk_drewN ?_ _ | refine blk_drew ?_ | refine blk_alloc ?_ _)); refine blk_far ?_ NB166_174.out _; (with_reducible repeat (first | refine blk_drewN ?_ _ | refine blk_drew ?_ | refine blk_alloc ?_ _)); refine blk_far ?_ NB166_202.out _; (with_reducible repeat (first | refine blk_drewN ?_ _ | refine blk_drew ?_ | refine blk_alloc ?_ _)); refine blk_far ?_ NB166_202.out _; (with_reducible repeat (first | refine blk_drewN ?_ _ | refine blk_drew ?_ | refine blk_alloc ?_ _)); exact BK166.out) hg (Kd.R_ne HO_6.out BK166.out (by decide))); have n3_ := zA (blk_grown (g := gb174) (o := .cells #[.slice Ao67 t196.length co67, .int .i64 t199] 31 (0, 0)) (by (with_reducible repeat (first | refine blk_drewN ?_ _ | refine blk_drew ?_ | refine blk_alloc ?_ _)); refine blk_put (cs := #[.slice Ao67 t196.length co67, .int .i64 x175001_1]) ?_ 1 _ rfl; (with_reducible repeat (first | refine blk_drewN ?_ _ | refine blk_drew ?_ | refine blk_alloc ?_ _)); refine blk_put (cs := #[.slice Ao63 x175000_4.length co63, .int .i64 x175001_1]) ?_ 0 _ rfl; (with_reducible repeat (first | refine blk_drewN ?_ _ | refine blk_drew ?_ | refine blk_alloc ?_ _)); refine blk_far ?_ NB174_202.out _; (with_reducible repeat (first | refine blk_drewN ?_ _ | refine blk_drew ?_ | refine blk_alloc ?_ _)); refine blk_far ?_ NB174_202.out _; (with_reducible repeat (first | refine blk_drewN ?_ _ | refine blk_drew ?_ | refine blk_alloc ?_ _)); exact BK174.out) hg (Kd.R_ne HO_6.out BK174.out (by decide))); have n4_ := zA (IsS86.grown (IsS86.far (IsS86.far (IsS86.far (IsS86.far HI0.out NB0_202.out _) NB0_202.out _) NB0_174.out _) NB0_174.out _) hg (IsS86.own_ne HI0.out HO_6.out (by decide))); have n5_ := zA (zb (ok := (fun k_ => some k_ ≠ (.slice Ao64 x12_49.length co64 : Value).ownBlock ∧ some k_ ≠ (.slice Ao63 x175000_4.length co63 : Value).ownBlock)) (by (with_reducible repeat (first | apply Kd.R_alloc | apply Kd.R_drewN | apply Kd.R_drew)); exact zI (zJ (p := ⟨gb174, 1, none⟩) (zJ (p := ⟨gb174, 0, none⟩) (zJ (p := ⟨gb202, 1, none⟩) (zJ (p := ⟨gb202, 0, none⟩) (zL (zL HO198.out BK202.out (by decide)) BK174.out (by decide)) (fun _ hk => hk.1.2) (.slice Ao67 t196.length co67)) (fun _ hk => hk.1.2) (.int .i64 t199)) (fun _ hk => hk.2) (.slice Ao67 t196.length co67)) (fun _ hk => hk.2) (.int .i64 t199)) (fun _ hk => ⟨⟨hk.1.1.1.2, hk.1.1.2⟩, hk.1.1.1.1.2⟩)) hg hat); have n6_ := zA (blk_grown (g := gb202) (o := .cells #[.slice Ao67 t196.length co67, .int .i64 t199] 31 (0, 0)) (by (with_reducible repeat (first | refine blk_drewN ?_ _ | refine blk_drew ?_ | refine blk_alloc ?_ _)); refine blk_far ?_ NB202_174.out _; (with_reducible repeat (first | refine blk_drewN ?_ _ | refine blk_drew ?_ | refine blk_alloc ?_ _)); refine blk_far ?_ NB202_174.out _; (with_reducible repeat (first | refine blk_drewN ?_ _ | refine blk_drew ?_ | refine blk_alloc ?_ _)); refine blk_put (cs := #[.slice Ao67 t196.length co67, .int .i64 0]) ?_ 1 _ rfl; (with_reducible repeat (first | refine blk_drewN ?_ _ | refine blk_drew ?_ | refine blk_alloc ?_ _)); refine blk_put (cs := #[.slice none 0 0, .int .i64 0]) ?_ 0 _ rfl; (with_reducible repeat (first | refine blk_drewN ?_ _ | refine blk_drew ?_ | refine blk_alloc ?_ _)); exact BK202.out) hg (Kd.R_ne HO_6.out BK202.out (by decide))); have n7_ := zA (zf (by repeat (first | (with_reducible first | exact HB.out | apply zE | apply zC | apply zD | refine zB ?_ (IsS86.ge HI0.out) | refine zB ?_ GE166.out | refine zB ?_ GE174.out | refine zB ?_ GE202.out) | exact HB.out)) HL.out hb); have n8_ := zA (zg (by repeat (first | (with_reducible first | exact HK.out | apply zS | apply zT | apply zW | apply zU | refine zV ?_ GW166.out _ | refine zV ?_ GW174.out _ | refine zV ?_ GW202.out _) | exact HK.out)) (KeepBut.of_grown hg g) (Kd.R_base2 HO_6.out)); have n9_ := zA (ho); clear HO_12 HO_175000 BK166 BK174 HI0 HO198 BK202 HB HK HO_6; have HO_12 := n0_; have HO_175000 := n1_; have BK166 := n2_; have BK174 := n3_; have HI0 := n4_; have HO198 := n5_; have BK202 := n6_; have HB := n7_; have HK := n8_; have HO205 := n9_; clear n0_ n1_ n2_ n3_ n4_ n5_ n6_ n7_ n8_ n9_; clear ho hb hg hat))
               go_roundg kj49
               case measure => have := HK1.out; have := HJ17.out; have := HJ20.out; have := HK4.out; have := HJ49.out; omega
               case rel => exact ⟨(y203), (wrap64 (x8_1 + 1)), (x1001_4), (t196), (t199), (.slice Ao67 t196.length co67), (by first | rfl | (simp; done) | (simp [*]; done)), H', ⟨by have := HK1.out; have := HJ17.out; have := HJ20.out; have := HK4.out; have := HJ49.out; omega⟩, ⟨by (with_reducible repeat (first | apply Kd.R_alloc | apply Kd.R_drewN | apply Kd.R_drew)); exact zI HO205.out (fun _ hk => hk.2.2)⟩, ⟨by (with_reducible repeat (first | apply Kd.R_alloc | apply Kd.R_drewN | apply Kd.R_drew)); exact zI HO198.out (fun _ hk => hk.2)⟩, ⟨by (with_reducible repeat (first | refine blk_drewN ?_ _ | refine blk_drew ?_ | refine blk_alloc ?_ _)); exact BK166.out⟩, ⟨by (with_reducible repeat (first | refine blk_drewN ?_ _ | refine blk_drew ?_ | refine blk_alloc ?_ _)); exact BK174.out⟩, ⟨by repeat (first | (with_reducible first | exact HI0.out | apply IsS86.alloc | apply IsS86.drewN | apply IsS86.drew | apply IsS86.set_1 | refine IsS86.far ?_ NB0_166.out _ | refine IsS86.far ?_ NB0_174.out _ | refine IsS86.far ?_ NB0_202.out _) | exact HI0.out)⟩, ⟨by repeat (first | (with_reducible first | exact HK.out | apply zS | apply zT | apply zW | apply zU | refine zV ?_ GW166.out _ | refine zV ?_ GW174.out _ | refine zV ?_ GW202.out _) | exact HK.out)⟩, ⟨by repeat (first | (with_reducible first | exact HB.out | apply zE | apply zC | apply zD | refine zB ?_ (IsS86.ge HI0.out) | refine zB ?_ GE166.out | refine zB ?_ GE174.out | refine zB ?_ GE202.out) | exact HB.out)⟩⟩
              ·rw [if_neg c59] at H
               exact absurd H (by simp)
             ·rw [if_neg c58] at H
              have c58b0 : (t201 == 0) = false := beq_eq_false_iff_ne.mpr c58
              have c58b1 : (t201 != 0) = true := bne_iff_ne.mpr c58
              have H' := zA H
              clear H
              have hnb74 := NB174_166.out
              have hnc74 := NB166_174.out
              have hnb75 := NB174_0.out
              have hnc75 := NB0_174.out
              have hcz76_0 : wc.cell? ⟨gb174, 0, none⟩ = some (u175000) := (zZ BK174.out 0).trans rfl
              have hcz76_1 : wc.cell? ⟨gb174, 1, none⟩ = some (.int .i64 x175001_1) := (zZ BK174.out 1).trans rfl
              have hfz76_0 := zY BK174.out 0
              have hfz76_1 := zY BK174.out 1
              obtain ⟨Ao77, co77, eo77⟩ := Kd.R_slice HO_175000.out
              subst eo77
              obtain ⟨Ao78, co78, eo78⟩ := Kd.R_slice HO_12.out
              subst eo78
              go_wp2_with (first | ((with_reducible refine gate_callee (f := 26) rfl ?_); refine goesL_ (some 101) rfl rfl Try.func26 (by kernel_rfl) rfl #[.agg #[.slice Ao77 x175000_4.length co77, .int .i64 x175001_1], .int .i64 (Int.tmod t180 4), .slice Ao78 x12_49.length co78] rfl (by (try simp only [List.map_toArray, List.map_cons, List.map_nil]); first | done | rfl | (simp only [List.length_drop, List.length_take]; rfl)) ?_; (with_reducible refine (spec_Alloc.calls kj49 _ _ x175000_4 x175001_1 (Int.tmod t180 4) _ _ x12_49 t196 t199 t200 t201 _ ?side1 ?side2 ?side3 ?side4 A57.out).mono ?_); (case side1 => repeat (first | exact (zO HO_175000.out).2.2 | (with_reducible refine zc ?_ _) | (with_reducible refine zd ?_ _) | (with_reducible refine ze ?_))); (case side2 => exact (zO HO_175000.out).2.1); (case side3 => repeat (first | exact (zO HO_12.out).2.2 | (with_reducible refine zc ?_ _) | (with_reducible refine zd ?_ _) | (with_reducible refine ze ?_))); (case side4 => exact (zO HO_12.out).2.1); rintro e w79 ⟨v197, rfl, ho0, hb⟩; refine ⟨_, rfl, ?_⟩; have n0_ := zA (zM (by (with_reducible repeat (first | apply Kd.R_alloc | apply Kd.R_drewN | apply Kd.R_drew)); exact HO_6.out) (zQ ho0) hb); have n1_ := zA (zM (by (with_reducible repeat (first | apply Kd.R_alloc | apply Kd.R_drewN | apply Kd.R_drew)); exact HO_12.out) (zQ ho0) hb); have n2_ := zA (zM (by (with_reducible repeat (first | apply Kd.R_alloc | apply Kd.R_drewN | apply Kd.R_drew)); exact HO_175000.out) (zQ ho0) hb); have n3_ := zA (Kd.R_lower (zR (zR (zR ho0 (Kd.R_lt (by (with_reducible repeat (first | apply Kd.R_alloc | apply Kd.R_drewN | apply Kd.R_drew)); exact HO_6.out))) (Kd.R_lt (by (with_reducible repeat (first | apply Kd.R_alloc | apply Kd.R_drewN | apply Kd.R_drew)); exact HO_12.out))) (Kd.R_lt (by (with_reducible repeat (first | apply Kd.R_alloc | apply Kd.R_drewN | apply Kd.R_drew)); exact HO_175000.out))) (keep_size (w := w) (g := g) (row := none) (by repeat (first | (with_reducible first | exact HK.out | apply zS | apply zT | apply zW | apply zU | refine zV ?_ GW166.out _ | refine zV ?_ GW174.out _) | exact HK.out)))); have n4_ := zA (zN (g := gb166) (o := .cells #[.slice none 0 0, .int .i64 0] 31 (0, 0)) (by (with_reducible repeat (first | refine blk_drewN ?_ _ | refine blk_drew ?_ | refine blk_alloc ?_ _)); exact BK166.out) hb); have n5_ := zA (zN (g := gb174) (o := .cells #[.slice Ao77 x175000_4.length co77, .int .i64 x175001_1] 31 (0, 0)) (by (with_reducible repeat (first | refine blk_drewN ?_ _ | refine blk_drew ?_ | refine blk_alloc ?_ _)); exact BK174.out) hb); have n6_ := zA (IsS86.below (by repeat (first | (with_reducible first | exact HI0.out | apply IsS86.alloc | apply IsS86.drewN | apply IsS86.drew | apply IsS86.set_1 | refine IsS86.far ?_ NB0_166.out _ | refine IsS86.far ?_ NB0_174.out _) | exact HI0.out)) hb); have n7_ := zA (zg (by repeat (first | (with_reducible first | exact HK.out | apply zS | apply zT | apply zW | apply zU | refine zV ?_ GW166.out _ | refine zV ?_ GW174.out _) | exact HK.out)) (KeepBut.of_below hb g none) (.inl rfl)); have n8_ := zA (zX (by repeat (first | (with_reducible first | exact HB.out | apply zE | apply zC | apply zD | refine zB ?_ (IsS86.ge HI0.out) | refine zB ?_ GE166.out | refine zB ?_ GE174.out) | exact HB.out)) hb); clear HO_6 HO_12 HO_175000 BK166 BK174 HI0 HK HB; have HO_6 := n0_; have HO_12 := n1_; have HO_175000 := n2_; have HO198 := n3_; have BK166 := n4_; have BK174 := n5_; have HI0 := n6_; have HK := n7_; have HB := n8_; clear n0_ n1_ n2_ n3_ n4_ n5_ n6_ n7_ n8_; (try clear hb); (try clear hb2); (try clear hk); (try clear hi); (try clear ho0)) | ((with_reducible refine gate_dst (N := 15) rfl ?_); (try (refine gate_guard (by rfl) ?_; dsimp only)); refine box_event ?hg (N := 15) ?hd (cs := #[.slice none 0 0, .int .i64 0]) (t := 31) ?hr ?_; (case hd => rfl); (case hg => rfl); (case hr => first | (go_simp; done) | (go_simp; rfl)); intro gb202 hg w80 hbox hb; have n0_ := zA (zP (by (with_reducible repeat (first | apply Kd.R_alloc | apply Kd.R_drewN | apply Kd.R_drew)); exact HO_6.out) hb); have n1_ := zA (zP (by (with_reducible repeat (first | apply Kd.R_alloc | apply Kd.R_drewN | apply Kd.R_drew)); exact HO_12.out) hb); have n2_ := zA (zP (by (with_reducible repeat (first | apply Kd.R_alloc | apply Kd.R_drewN | apply Kd.R_drew)); exact HO_175000.out) hb); have n3_ := zA (zP (by (with_reducible repeat (first | apply Kd.R_alloc | apply Kd.R_drewN | apply Kd.R_drew)); exact HO198.out) hb); have n4_ := zA (zN (g := gb166) (o := .cells #[.slice none 0 0, .int .i64 0] 31 (0, 0)) (by (with_reducible repeat (first | refine blk_drewN ?_ _ | refine blk_drew ?_ | refine blk_alloc ?_ _)); exact BK166.out) hb); have n5_ := zA (zN (g := gb174) (o := .cells #[.slice Ao77 x175000_4.length co77, .int .i64 x175001_1] 31 (0, 0)) (by (with_reducible repeat (first | refine blk_drewN ?_ _ | refine blk_drew ?_ | refine blk_alloc ?_ _)); exact BK174.out) hb); have n6_ := zA (IsS86.below (by repeat (first | (with_reducible first | exact HI0.out | apply IsS86.alloc | apply IsS86.drewN | apply IsS86.drew | apply IsS86.set_1 | refine IsS86.far ?_ NB0_166.out _ | refine IsS86.far ?_ NB0_174.out _) | exact HI0.out)) hb); have n7_ := zA (zg (by repeat (first | (with_reducible first | exact HK.out | apply zS | apply zT | apply zW | apply zU | refine zV ?_ GW166.out _ | refine zV ?_ GW174.out _) | exact HK.out)) (KeepBut.of_below hb g none) (.inl rfl)); have n8_ := zA (zX (by repeat (first | (with_reducible first | exact HB.out | apply zE | apply zC | apply zD | refine zB ?_ (IsS86.ge HI0.out) | refine zB ?_ GE166.out | refine zB ?_ GE174.out) | exact HB.out)) hb); have n9_ := zA (hbox); have n10_ := zA ((by rw [hg]; exact (keep_size (w := w) (g := g) (row := none) (by repeat (first | (with_reducible first | exact HK.out | apply zS | apply zT | apply zW | apply zU | refine zV ?_ GW166.out _ | refine zV ?_ GW174.out _) | exact HK.out))) : w.heap.size ≤ gb202)); have n11_ := zA ((Nat.le_trans HW0.out (by rw [hg]; exact (keep_size (w := w) (g := g) (row := none) (by repeat (first | (with_reducible first | exact HK.out | apply zS | apply zT | apply zW | apply zU | refine zV ?_ GW166.out _ | refine zV ?_ GW174.out _) | exact HK.out))) : w.heap.size ≤ gb202) : w0.heap.size ≤ gb202)); have n12_ := zA ((by rw [hg]; exact Nat.ne_of_lt (blk_lt (g := gb166) (o := .cells #[.slice none 0 0, .int .i64 0] 31 (0, 0)) (by (with_reducible repeat (first | refine blk_drewN ?_ _ | refine blk_drew ?_ | refine blk_alloc ?_ _)); exact BK166.out)) : gb166 ≠ gb202)); have n13_ := zA ((by rw [hg]; exact Nat.ne_of_gt (blk_lt (g := gb166) (o := .cells #[.slice none 0 0, .int .i64 0] 31 (0, 0)) (by (with_reducible repeat (first | refine blk_drewN ?_ _ | refine blk_drew ?_ | refine blk_alloc ?_ _)); exact BK166.out)) : gb202 ≠ gb166)); have n14_ := zA ((by rw [hg]; exact Nat.ne_of_lt (blk_lt (g := gb174) (o := .cells #[.slice Ao77 x175000_4.length co77, .int .i64 x175001_1] 31 (0, 0)) (by (with_reducible repeat (first | refine blk_drewN ?_ _ | refine blk_drew ?_ | refine blk_alloc ?_ _)); exact BK174.out)) : gb174 ≠ gb202)); have n15_ := zA ((by rw [hg]; exact Nat.ne_of_gt (blk_lt (g := gb174) (o := .cells #[.slice Ao77 x175000_4.length co77, .int .i64 x175001_1] 31 (0, 0)) (by (with_reducible repeat (first | refine blk_drewN ?_ _ | refine blk_drew ?_ | refine blk_alloc ?_ _)); exact BK174.out)) : gb202 ≠ gb174)); have n16_ := zA ((by rw [hg]; exact Nat.ne_of_lt (IsS86.lt (show IsS86 w0 _ g s0_0 x1001_4 from by repeat (first | (with_reducible first | exact HI0.out | apply IsS86.alloc | apply IsS86.drewN | apply IsS86.drew | apply IsS86.set_1 | refine IsS86.far ?_ NB0_166.out _ | refine IsS86.far ?_ NB0_174.out _) | exact HI0.out))) : g ≠ gb202)); have n17_ := zA ((by rw [hg]; exact Nat.ne_of_gt (IsS86.lt (show IsS86 w0 _ g s0_0 x1001_4 from by repeat (first | (with_reducible first | exact HI0.out | apply IsS86.alloc | apply IsS86.drewN | apply IsS86.drew | apply IsS86.set_1 | refine IsS86.far ?_ NB0_166.out _ | refine IsS86.far ?_ NB0_174.out _) | exact HI0.out))) : gb202 ≠ g)); clear HO_6 HO_12 HO_175000 HO198 BK166 BK174 HI0 HK HB; have HO_6 := n0_; have HO_12 := n1_; have HO_175000 := n2_; have HO198 := n3_; have BK166 := n4_; have BK174 := n5_; have HI0 := n6_; have HK := n7_; have HB := n8_; have BK202 := n9_; have GW202 := n10_; have GE202 := n11_; have NB166_202 := n12_; have NB202_166 := n13_; have NB174_202 := n14_; have NB202_174 := n15_; have NB0_202 := n16_; have NB202_0 := n17_; clear n0_ n1_ n2_ n3_ n4_ n5_ n6_ n7_ n8_ n9_ n10_ n11_ n12_ n13_ n14_ n15_ n16_ n17_; clear hb hbox hg; obtain ⟨Ao81, co81, eo81⟩ := Kd.R_slice HO198.out; subst eo81; have hnb82 := NB202_166.out; have hnc82 := NB166_202.out; have hnb83 := NB202_174.out; have hnc83 := NB174_202.out; have hnb84 := NB202_0.out; have hnc84 := NB0_202.out; have hcz85_0 : w80.cell? ⟨gb202, 0, none⟩ = some (.slice none 0 0) := (zZ BK202.out 0).trans rfl; have hcz85_1 : w80.cell? ⟨gb202, 1, none⟩ = some (.int .i64 0) := (zZ BK202.out 1).trans rfl; have hfz85_0 := zY BK202.out 0; have hfz85_1 := zY BK202.out 1))
              go_roundg kj49
              case measure => have := HK1.out; have := HJ17.out; have := HJ20.out; have := HK4.out; have := HJ49.out; omega
              case rel => exact ⟨(x6_4), (wrap64 (x8_1 + 1)), (x1001_4), (x175000_4), (x175001_1), (.slice Ao77 x175000_4.length co77), (by first | rfl | (simp; done) | (simp [*]; done)), H', ⟨by have := HK1.out; have := HJ17.out; have := HJ20.out; have := HK4.out; have := HJ49.out; omega⟩, ⟨by (with_reducible repeat (first | apply Kd.R_alloc | apply Kd.R_drewN | apply Kd.R_drew)); exact zI (zJ (p := ⟨gb202, 1, none⟩) (zJ (p := ⟨gb202, 0, none⟩) (zL HO_6.out BK202.out (by decide)) (fun _ hk => hk.2) (.slice Ao81 t196.length co81)) (fun _ hk => hk.2) (.int .i64 t199)) (fun _ hk => hk.1.1.2)⟩, ⟨by (with_reducible repeat (first | apply Kd.R_alloc | apply Kd.R_drewN | apply Kd.R_drew)); exact zI (zJ (p := ⟨gb202, 1, none⟩) (zJ (p := ⟨gb202, 0, none⟩) (zL HO_175000.out BK202.out (by decide)) (fun _ hk => hk.2) (.slice Ao81 t196.length co81)) (fun _ hk => hk.2) (.int .i64 t199)) (fun _ hk => hk.1.1.1)⟩, ⟨by (with_reducible repeat (first | refine blk_drewN ?_ _ | refine blk_drew ?_ | refine blk_alloc ?_ _)); refine blk_far ?_ NB166_202.out _; (with_reducible repeat (first | refine blk_drewN ?_ _ | refine blk_drew ?_ | refine blk_alloc ?_ _)); refine blk_far ?_ NB166_202.out _; (with_reducible repeat (first | refine blk_drewN ?_ _ | refine blk_drew ?_ | refine blk_alloc ?_ _)); exact BK166.out⟩, ⟨by (with_reducible repeat (first | refine blk_drewN ?_ _ | refine blk_drew ?_ | refine blk_alloc ?_ _)); refine blk_far ?_ NB174_202.out _; (with_reducible repeat (first | refine blk_drewN ?_ _ | refine blk_drew ?_ | refine blk_alloc ?_ _)); refine blk_far ?_ NB174_202.out _; (with_reducible repeat (first | refine blk_drewN ?_ _ | refine blk_drew ?_ | refine blk_alloc ?_ _)); exact BK174.out⟩, ⟨by repeat (first | (with_reducible first | exact HI0.out | apply IsS86.alloc | apply IsS86.drewN | apply IsS86.drew | apply IsS86.set_1 | refine IsS86.far ?_ NB0_166.out _ | refine IsS86.far ?_ NB0_174.out _ | refine IsS86.far ?_ NB0_202.out _) | exact HI0.out)⟩, ⟨by repeat (first | (with_reducible first | exact HK.out | apply zS | apply zT | apply zW | apply zU | refine zV ?_ GW166.out _ | refine zV ?_ GW174.out _ | refine zV ?_ GW202.out _) | exact HK.out)⟩, ⟨by repeat (first | (with_reducible first | exact HB.out | apply zE | apply zC | apply zD | refine zB ?_ (IsS86.ge HI0.out) | refine zB ?_ GE166.out | refine zB ?_ GE174.out | refine zB ?_ GE202.out) | exact HB.out)⟩⟩
   ·rw [if_neg c16] at H
    have c16b0 : decide (x8_1 < (Int.tmod t178 16)) = false := zH c16
    clear c16
    have H' := zA H
    clear H
    go_wp2
    go_loopg [18] k1 (fun kq v18 w' => ∃ (x6_2 : List Int) (x18_2 : Int) (x1001_2 : Int) (x175000_2 : List Int) (u175000 : Value), v18 = .int .i64 x18_2 ∧ Aside0 (spec_l7heap.l2 kq x6_2 (Int.tmod t178 16) x18_2 s0_0 x1001_2 x175000_2 x175001_1 = some (r1, r2, r3, r4)) ∧ Aside0 (kq ≤ k1) ∧ Aside0 (Kd.R (Kd.int .i64) 3 w' w.heap.size (fun k_ => some k_ ≠ (u175000 : Value).ownBlock) u6 x6_2) ∧ Aside0 (Kd.R (Kd.int .i64) 3 w' w.heap.size (fun k_ => some k_ ≠ (u6 : Value).ownBlock) u175000 x175000_2) ∧ Aside0 (w'.heap[gb166]? = some (.cells #[(.slice none 0 0), .int .i64 0] 31 (0, 0))) ∧ Aside0 (w'.heap[gb174]? = some (.cells #[u175000, .int .i64 x175001_1] 31 (0, 0))) ∧ Aside0 (IsS86 w0 w' g s0_0 x1001_2) ∧ Aside0 (KeepBut w w' g none) ∧ Aside0 (Below w0.heap.size w0 w'))
    case atStart => exact ⟨(x6_1), (0), (x1001_1), (x175000_1), (u175000), (by first | rfl | (simp; done) | (simp [*]; done)), H', ⟨Nat.le_refl _⟩, ⟨by (with_reducible repeat (first | apply Kd.R_alloc | apply Kd.R_drewN | apply Kd.R_drew)); exact HO_6.out⟩, ⟨by (with_reducible repeat (first | apply Kd.R_alloc | apply Kd.R_drewN | apply Kd.R_drew)); exact HO_175000.out⟩, ⟨by (with_reducible repeat (first | refine blk_drewN ?_ _ | refine blk_drew ?_ | refine blk_alloc ?_ _)); exact BK166.out⟩, ⟨by (with_reducible repeat (first | refine blk_drewN ?_ _ | refine blk_drew ?_ | refine blk_alloc ?_ _)); exact BK174.out⟩, ⟨by repeat (first | (with_reducible first | exact HI0.out | apply IsS86.alloc | apply IsS86.drewN | apply IsS86.drew | apply IsS86.set_1 | refine IsS86.far ?_ NB0_166.out _ | refine IsS86.far ?_ NB0_174.out _) | exact HI0.out)⟩, ⟨by repeat (first | (with_reducible first | exact HK.out | apply zS | apply zT | apply zW | apply zU | refine zV ?_ GW166.out _ | refine zV ?_ GW174.out _) | exact HK.out)⟩, ⟨by repeat (first | (with_reducible first | exact HB.out | apply zE | apply zC | apply zD | refine zB ?_ (IsS86.ge HI0.out) | refine zB ?_ GE166.out | refine zB ?_ GE174.out) | exact HB.out)⟩⟩
    case round =>
     clear H'
     try clear c1
     try clear p1
     try clear q1
     try clear hx1
     try clear c2
     try clear p2
     try clear c3
     try clear p3
     try clear q3
     try clear hx3
     try clear hf3
     try clear c5
     try clear c6
     try clear p6
     try clear c7
     try clear c8
     try clear c10
     try clear c11
     try clear c15
     try clear c16
     try clear c16b0
     try clear p18
     try clear q18
     try clear hx18
     try clear c20
     try clear c20b0
     try clear c20b1
     try clear c22
     try clear c22b0
     try clear c22b1
     try clear c23
     try clear c23b0
     try clear c25
     try clear c25b0
     try clear c25b1
     try clear c25b2
     try clear c26
     try clear c27
     try clear c27b0
     try clear c28
     try clear c28b0
     try clear c29
     try clear c30
     try clear c30b0
     try clear c30b1
     try clear c31
     try clear c31b0
     try clear c31b1
     try clear c32
     try clear c32b0
     try clear c32b1
     try clear c34
     try clear c34b0
     try clear c35
     try clear c35b0
     try clear c36
     try clear c36b0
     try clear c37
     try clear c37b0
     try clear p38
     try clear q38
     try clear hx38
     try clear hf38
     try clear c51
     try clear c51b0
     try clear c51b1
     try clear c52
     try clear c53
     try clear c58
     try clear c58b0
     try clear c58b1
     try clear c59
     try clear c60
     try clear c61
     try clear p64
     try clear c68
     try clear c69
     try clear c70
     try clear c74
     try clear c75
     try clear c82
     try clear c83
     try clear c84
     try clear hcz12_0
     try clear hcz12_1
     try clear hcz62_0
     try clear hcz62_1
     try clear hcz71_0
     try clear hcz71_1
     try clear hcz72_0
     try clear hcz72_1
     try clear hcz76_0
     try clear hcz76_1
     try clear hcz85_0
     try clear hcz85_1
     try clear hfz12_0
     try clear hfz12_1
     try clear hfz62_0
     try clear hfz62_1
     try clear hfz71_0
     try clear hfz71_1
     try clear hfz72_0
     try clear hfz72_1
     try clear hfz76_0
     try clear hfz76_1
     try clear hfz85_0
     try clear hfz85_1
     try clear hx184_0
     try clear hx188_0
     try clear hx38_0
     try clear p1
     try clear p18
     try clear p184
     try clear p188
     try clear p2
     try clear p3
     try clear p38
     try clear p6
     try clear q1
     try clear q18
     try clear q184
     try clear q188
     try clear q3
     try clear q38
     obtain ⟨x6_2, x18_2, x1001_2, x175000_2, u175000, rfl, HA, HK2, HO_6, HO_175000, BK166, BK174, HI0, HK, HB⟩ := hrel
     cases gk with
     | zero => exact absurd HA.out (by simp [spec_l7heap.l2])
     | succ k2 =>
      have H := HA.out
      clear HA
      simp only [spec_l7heap.l2] at H
      by_cases c86 : x18_2 < (wrap64 (Int.tdiv (Int.tmod t178 16) 3))
      ·rw [if_pos c86] at H
       have c86b0 : decide (x18_2 < (wrap64 (Int.tdiv (Int.tmod t178 16) 3))) = true := zG c86
       clear c86
       by_cases c87 : (x6_2.length : Int) > 8
       ·rw [if_pos c87] at H
        have c87b0 : decide (8 < (x6_2.length : Int)) = true := zG c87
        have c87b1 : decide (8 < x6_2.length) = true := zG (by omega)
        clear c87
        replace H := Option.bind_eq_some_iff.mp H
        obtain ⟨⟨t206, t207⟩, A880, H⟩ := H
        replace H : (if (wrap64 ((x6_2.length : Int) - 8)) = 0 then (none) else (if 0 ≤ (wrap64 (8 + (Int.tmod t206 (wrap64 ((x6_2.length : Int) - 8))))) then (if (wrap64 (8 + (Int.tmod t206 (wrap64 ((x6_2.length : Int) - 8))))) < (x6_2.length : Int) then (if 0 ≤ (wrap64 (Int.tdiv (rd x6_2 (wrap64 (8 + (Int.tmod t206 (wrap64 ((x6_2.length : Int) - 8)))))) 4)) then (if (wrap64 (Int.tdiv (rd x6_2 (wrap64 (8 + (Int.tmod t206 (wrap64 ((x6_2.length : Int) - 8)))))) 4)) < (x175000_2.length : Int) then (if (rd x175000_2 (wrap64 (Int.tdiv (rd x6_2 (wrap64 (8 + (Int.tmod t206 (wrap64 ((x6_2.length : Int) - 8)))))) 4))) = 8 then (if 0 ≤ (wrap64 ((x6_2.length : Int) - 1)) then (if (wrap64 ((x6_2.length : Int) - 1)) < (x6_2.length : Int) then (if 0 ≤ (wrap64 ((wrap64 (Int.tdiv (rd x6_2 (wrap64 (8 + (Int.tmod t206 (wrap64 ((x6_2.length : Int) - 8)))))) 4)) + 1)) then (if (wrap64 ((wrap64 (Int.tdiv (rd x6_2 (wrap64 (8 + (Int.tmod t206 (wrap64 ((x6_2.length : Int) - 8)))))) 4)) + 1)) < (x175000_2.length : Int) then (spec_l7heap.l2 k2 x6_2 (Int.tmod t178 16) (wrap64 (x18_2 + 1)) s0_0 t207 (x175000_2.set ((wrap64 ((wrap64 (Int.tdiv (rd x6_2 (wrap64 (8 + (Int.tmod t206 (wrap64 ((x6_2.length : Int) - 8)))))) 4)) + 1)) : Int).toNat (rd x6_2 (wrap64 ((x6_2.length : Int) - 1)))) x175001_1) else (none)) else (none)) else (none)) else (none)) else (if (Int.tmod (rd x175000_2 (wrap64 (Int.tdiv (rd x6_2 (wrap64 (8 + (Int.tmod t206 (wrap64 ((x6_2.length : Int) - 8)))))) 4))) 4) = 3 then (if 0 ≤ (wrap64 ((x6_2.length : Int) - 1)) then (if (wrap64 ((x6_2.length : Int) - 1)) < (x6_2.length : Int) then (if 0 ≤ (wrap64 ((wrap64 (Int.tdiv (rd x6_2 (wrap64 (8 + (Int.tmod t206 (wrap64 ((x6_2.length : Int) - 8)))))) 4)) + 1)) then (if (wrap64 ((wrap64 (Int.tdiv (rd x6_2 (wrap64 (8 + (Int.tmod t206 (wrap64 ((x6_2.length : Int) - 8)))))) 4)) + 1)) < (x175000_2.length : Int) then (spec_l7heap.l2 k2 x6_2 (Int.tmod t178 16) (wrap64 (x18_2 + 1)) s0_0 t207 (x175000_2.set ((wrap64 ((wrap64 (Int.tdiv (rd x6_2 (wrap64 (8 + (Int.tmod t206 (wrap64 ((x6_2.length : Int) - 8)))))) 4)) + 1)) : Int).toNat (rd x6_2 (wrap64 ((x6_2.length : Int) - 1)))) x175001_1) else (none)) else (none)) else (none)) else (none)) else (spec_l7heap.l2 k2 x6_2 (Int.tmod t178 16) (wrap64 (x18_2 + 1)) s0_0 t207 x175000_2 x175001_1))) else (none)) else (none)) else (none)) else (none))) = some (r1, r2, r3, r4) := H
        have A88 := zA A880
        clear A880
        by_cases c89 : (wrap64 ((x6_2.length : Int) - 8)) = 0
        ·rw [if_pos c89] at H
         exact absurd H (by simp)
        ·rw [if_neg c89] at H
         have c89b0 : ((wrap64 ((x6_2.length : Int) - 8)) == 0) = false := beq_eq_false_iff_ne.mpr c89
         have c89b1 : ((wrap64 ((x6_2.length : Int) - 8)) != 0) = true := bne_iff_ne.mpr c89
         obtain ⟨ji90, hji90⟩ : ∃ j_ : Int, (wrap64 (8 + (Int.tmod t206 (wrap64 ((x6_2.length : Int) - 8))))) = j_ := ⟨_, rfl⟩
         replace H : (if 0 ≤ (ji90) then (if (ji90) < (x6_2.length : Int) then (if 0 ≤ (wrap64 (Int.tdiv (rd x6_2 (ji90)) 4)) then (if (wrap64 (Int.tdiv (rd x6_2 (ji90)) 4)) < (x175000_2.length : Int) then (if (rd x175000_2 (wrap64 (Int.tdiv (rd x6_2 (ji90)) 4))) = 8 then (if 0 ≤ (wrap64 ((x6_2.length : Int) - 1)) then (if (wrap64 ((x6_2.length : Int) - 1)) < (x6_2.length : Int) then (if 0 ≤ (wrap64 ((wrap64 (Int.tdiv (rd x6_2 (ji90)) 4)) + 1)) then (if (wrap64 ((wrap64 (Int.tdiv (rd x6_2 (ji90)) 4)) + 1)) < (x175000_2.length : Int) then (spec_l7heap.l2 k2 x6_2 (Int.tmod t178 16) (wrap64 (x18_2 + 1)) s0_0 t207 (x175000_2.set ((wrap64 ((wrap64 (Int.tdiv (rd x6_2 (ji90)) 4)) + 1)) : Int).toNat (rd x6_2 (wrap64 ((x6_2.length : Int) - 1)))) x175001_1) else (none)) else (none)) else (none)) else (none)) else (if (Int.tmod (rd x175000_2 (wrap64 (Int.tdiv (rd x6_2 (ji90)) 4))) 4) = 3 then (if 0 ≤ (wrap64 ((x6_2.length : Int) - 1)) then (if (wrap64 ((x6_2.length : Int) - 1)) < (x6_2.length : Int) then (if 0 ≤ (wrap64 ((wrap64 (Int.tdiv (rd x6_2 (ji90)) 4)) + 1)) then (if (wrap64 ((wrap64 (Int.tdiv (rd x6_2 (ji90)) 4)) + 1)) < (x175000_2.length : Int) then (spec_l7heap.l2 k2 x6_2 (Int.tmod t178 16) (wrap64 (x18_2 + 1)) s0_0 t207 (x175000_2.set ((wrap64 ((wrap64 (Int.tdiv (rd x6_2 (ji90)) 4)) + 1)) : Int).toNat (rd x6_2 (wrap64 ((x6_2.length : Int) - 1)))) x175001_1) else (none)) else (none)) else (none)) else (none)) else (spec_l7heap.l2 k2 x6_2 (Int.tmod t178 16) (wrap64 (x18_2 + 1)) s0_0 t207 x175000_2 x175001_1))) else (none)) else (none)) else (none)) else (none)) = some (r1, r2, r3, r4) := by first | (rw [hji90] at H; exact H) | (simp only [hji90] at H ⊢; exact H)
         (try rw [hji90] at A88)
         have hji90w : (IntKind.i64.wrap (8 + (Int.tmod t206 (wrap64 ((x6_2.length : Int) - 8))))) = ji90 := (i64_w _).trans hji90
         by_cases c91 : 0 ≤ (ji90)
         ·rw [if_pos c91] at H
          have c91b0 : decide (0 ≤ (ji90)) = true := zG c91
          clear c91
          by_cases c92 : (ji90) < (x6_2.length : Int)
          ·rw [if_pos c92] at H
           have c92b0 : decide ((ji90) < (x6_2.length : Int)) = true := zG c92
           clear c92
           obtain ⟨ji93, hji93⟩ : ∃ j_ : Int, (wrap64 (Int.tdiv (rd x6_2 (ji90)) 4)) = j_ := ⟨_, rfl⟩
           replace H : (if 0 ≤ (ji93) then (if (ji93) < (x175000_2.length : Int) then (if (rd x175000_2 (ji93)) = 8 then (if 0 ≤ (wrap64 ((x6_2.length : Int) - 1)) then (if (wrap64 ((x6_2.length : Int) - 1)) < (x6_2.length : Int) then (if 0 ≤ (wrap64 ((ji93) + 1)) then (if (wrap64 ((ji93) + 1)) < (x175000_2.length : Int) then (spec_l7heap.l2 k2 x6_2 (Int.tmod t178 16) (wrap64 (x18_2 + 1)) s0_0 t207 (x175000_2.set ((wrap64 ((ji93) + 1)) : Int).toNat (rd x6_2 (wrap64 ((x6_2.length : Int) - 1)))) x175001_1) else (none)) else (none)) else (none)) else (none)) else (if (Int.tmod (rd x175000_2 (ji93)) 4) = 3 then (if 0 ≤ (wrap64 ((x6_2.length : Int) - 1)) then (if (wrap64 ((x6_2.length : Int) - 1)) < (x6_2.length : Int) then (if 0 ≤ (wrap64 ((ji93) + 1)) then (if (wrap64 ((ji93) + 1)) < (x175000_2.length : Int) then (spec_l7heap.l2 k2 x6_2 (Int.tmod t178 16) (wrap64 (x18_2 + 1)) s0_0 t207 (x175000_2.set ((wrap64 ((ji93) + 1)) : Int).toNat (rd x6_2 (wrap64 ((x6_2.length : Int) - 1)))) x175001_1) else (none)) else (none)) else (none)) else (none)) else (spec_l7heap.l2 k2 x6_2 (Int.tmod t178 16) (wrap64 (x18_2 + 1)) s0_0 t207 x175000_2 x175001_1))) else (none)) else (none)) = some (r1, r2, r3, r4) := by first | (rw [hji93] at H; exact H) | (simp only [hji93] at H ⊢; exact H)
           (try rw [hji93] at A88)
           have hji93w : (IntKind.i64.wrap (Int.tdiv (rd x6_2 (ji90)) 4)) = ji93 := (i64_w _).trans hji93
           by_cases c94 : 0 ≤ (ji93)
           ·rw [if_pos c94] at H
            have c94b0 : decide (0 ≤ (ji93)) = true := zG c94
            clear c94
            by_cases c95 : (ji93) < (x175000_2.length : Int)
            ·rw [if_pos c95] at H
             have c95b0 : decide ((ji93) < (x175000_2.length : Int)) = true := zG c95
             clear c95
             by_cases c96 : (rd x175000_2 (ji93)) = 8
             ·rw [if_pos c96] at H
              have c96b0 : ((rd x175000_2 (ji93)) == 8) = true := beq_iff_eq.mpr c96
              have c96b1 : ((rd x175000_2 (ji93)) != 8) = false := bne_eq_false_iff_eq.mpr c96
              clear c96
              obtain ⟨ji97, hji97⟩ : ∃ j_ : Int, (wrap64 ((x6_2.length : Int) - 1)) = j_ := ⟨_, rfl⟩
              replace H : (if 0 ≤ (ji97) then (if (ji97) < (x6_2.length : Int) then (if 0 ≤ (wrap64 ((ji93) + 1)) then (if (wrap64 ((ji93) + 1)) < (x175000_2.length : Int) then (spec_l7heap.l2 k2 x6_2 (Int.tmod t178 16) (wrap64 (x18_2 + 1)) s0_0 t207 (x175000_2.set ((wrap64 ((ji93) + 1)) : Int).toNat (rd x6_2 (ji97))) x175001_1) else (none)) else (none)) else (none)) else (none)) = some (r1, r2, r3, r4) := by first | (rw [hji97] at H; exact H) | (simp only [hji97] at H ⊢; exact H)
              (try rw [hji97] at A88)
              have hji97w : (IntKind.i64.wrap ((x6_2.length : Int) - 1)) = ji97 := (i64_w _).trans hji97
              by_cases c98 : 0 ≤ (ji97)
              ·rw [if_pos c98] at H
               have c98b0 : decide (0 ≤ (ji97)) = true := zG c98
               clear c98
               by_cases c99 : (ji97) < (x6_2.length : Int)
               ·rw [if_pos c99] at H
                have c99b0 : decide ((ji97) < (x6_2.length : Int)) = true := zG c99
                clear c99
                obtain ⟨ji100, hji100⟩ : ∃ j_ : Int, (wrap64 ((ji93) + 1)) = j_ := ⟨_, rfl⟩
                replace H : (if 0 ≤ (ji100) then (if (ji100) < (x175000_2.length : Int) then (spec_l7heap.l2 k2 x6_2 (Int.tmod t178 16) (wrap64 (x18_2 + 1)) s0_0 t207 (x175000_2.set ((ji100) : Int).toNat (rd x6_2 (ji97))) x175001_1) else (none)) else (none)) = some (r1, r2, r3, r4) := by first | (rw [hji100] at H; exact H) | (simp only [hji100] at H ⊢; exact H)
                (try rw [hji100] at A88)
                have hji100w : (IntKind.i64.wrap ((ji93) + 1)) = ji100 := (i64_w _).trans hji100
                by_cases c101 : 0 ≤ (ji100)
                ·rw [if_pos c101] at H
                 have c101b0 : decide (0 ≤ (ji100)) = true := zG c101
                 clear c101
                 by_cases c102 : (ji100) < (x175000_2.length : Int)
                 ·rw [if_pos c102] at H
                  have c102b0 : decide ((ji100) < (x175000_2.length : Int)) = true := zG c102
                  clear c102
                  obtain ⟨y211, hy211⟩ : ∃ y_ : List Int, y_ = (x175000_2.set ((ji100) : Int).toNat (rd x6_2 (ji97))) := ⟨_, rfl⟩
                  replace H : (spec_l7heap.l2 k2 x6_2 (Int.tmod t178 16) (wrap64 (x18_2 + 1)) s0_0 t207 y211 x175001_1) = some (r1, r2, r3, r4) := by first | (rw [hy211]; with_reducible exact H) | (have H2_ := (Option.bind_some _ _).symm.trans H; rw [hy211]; with_reducible exact H2_) | (have H2_ := (Option.bind_some _ _).symm.trans H; with_reducible exact H2_) | with_reducible exact H | (rw [hy211]; exact H) | exact H
                  have Ny211 := zA hy211
                  clear hy211
                  have H' := zA H
                  clear H
                  obtain ⟨Ao104, co104, eo104⟩ := Kd.R_slice HO_6.out
                  subst eo104
                  try go_wp2_with (first | ((with_reducible refine gate_callee (f := 52) rfl ?_); refine goesL_ (some 122) rfl rfl Try.func52 (by kernel_rfl) rfl #[.pointer (some ⟨g, 0, none⟩)] rfl (by (try simp only [List.map_toArray, List.map_cons, List.map_nil]); first | done | rfl | (simp only [List.length_drop, List.length_take]; rfl)) ?_; (with_reducible refine (spec_l7rd_next.calls g s0_0 x1001_2 t206 t207 w0 _ ?side1 ?side2 A88.out).mono ?_); (case side1 => repeat (first | (with_reducible first | exact HI0.out | apply IsS86.alloc | apply IsS86.drewN | apply IsS86.drew | apply IsS86.set_1 | refine IsS86.far ?_ NB0_166.out _ | refine IsS86.far ?_ NB0_174.out _) | exact HI0.out)); (case side2 => repeat (first | (with_reducible first | exact HB.out | apply zE | apply zC | apply zD | refine zB ?_ (IsS86.ge HI0.out) | refine zB ?_ GE166.out | refine zB ?_ GE174.out) | exact HB.out)); rintro e w105 ⟨rfl, hi, hb, hk⟩; refine ⟨_, rfl, ?_⟩; have n0_ := zA (zI (Kd.R_keep (IsS86.apart (show IsS86 w0 _ g s0_0 x1001_2 from by repeat (first | (with_reducible first | exact HI0.out | apply IsS86.alloc | apply IsS86.drewN | apply IsS86.drew | apply IsS86.set_1 | refine IsS86.far ?_ NB0_166.out _ | refine IsS86.far ?_ NB0_174.out _) | exact HI0.out)) (by (with_reducible repeat (first | apply Kd.R_alloc | apply Kd.R_drewN | apply Kd.R_drew)); exact HO_6.out) (by decide)) hk (fun _ h => h.2)) (fun _ h => h.1)); have n1_ := zA (zI (Kd.R_keep (IsS86.apart (show IsS86 w0 _ g s0_0 x1001_2 from by repeat (first | (with_reducible first | exact HI0.out | apply IsS86.alloc | apply IsS86.drewN | apply IsS86.drew | apply IsS86.set_1 | refine IsS86.far ?_ NB0_166.out _ | refine IsS86.far ?_ NB0_174.out _) | exact HI0.out)) (by (with_reducible repeat (first | apply Kd.R_alloc | apply Kd.R_drewN | apply Kd.R_drew)); exact HO_175000.out) (by decide)) hk (fun _ h => h.2)) (fun _ h => h.1)); have n2_ := zA (KeepBut.blk hk (g' := gb166) (o := .cells #[.slice none 0 0, .int .i64 0] 31 (0, 0)) (by (with_reducible repeat (first | refine blk_drewN ?_ _ | refine blk_drew ?_ | refine blk_alloc ?_ _)); exact BK166.out) NB166_0.out (by simp)); have n3_ := zA (KeepBut.blk hk (g' := gb174) (o := .cells #[u175000, .int .i64 x175001_1] 31 (0, 0)) (by (with_reducible repeat (first | refine blk_drewN ?_ _ | refine blk_drew ?_ | refine blk_alloc ?_ _)); exact BK174.out) NB174_0.out (by simp)); have n4_ := zA (zg (by repeat (first | (with_reducible first | exact HK.out | apply zS | apply zT | apply zW | apply zU | refine zV ?_ GW166.out _ | refine zV ?_ GW174.out _) | exact HK.out)) hk (.inl rfl)); have n5_ := zA (hb); have n6_ := zA (hi); clear HO_6 HO_175000 BK166 BK174 HK HB HI0; have HO_6 := n0_; have HO_175000 := n1_; have BK166 := n2_; have BK174 := n3_; have HK := n4_; have HB := n5_; have HI0 := n6_; clear n0_ n1_ n2_ n3_ n4_ n5_ n6_; (try clear hb); (try clear hb2); (try clear hk); (try clear hi); have p208 : 0 ≤ ((ji90) : Int) := zF (by first | (with_reducible assumption) | assumption); have q208 : (ji90) < (x6_2.length : Int) := zF (by first | (with_reducible assumption) | assumption); obtain ⟨ad208, e208, hx208_0⟩ := Kd.at_int (zO HO_6.out).2.2 (ji90) p208 q208; cases e208; replace p208 := eq_true p208; replace q208 := eq_true q208; have hnb106 := NB174_166.out; have hnc106 := NB166_174.out; have hnb107 := NB174_0.out; have hnc107 := NB0_174.out; have hcz108_0 : w105.cell? ⟨gb174, 0, none⟩ = some (u175000) := (zZ BK174.out 0).trans rfl; have hcz108_1 : w105.cell? ⟨gb174, 1, none⟩ = some (.int .i64 x175001_1) := (zZ BK174.out 1).trans rfl; have hfz108_0 := zY BK174.out 0; have hfz108_1 := zY BK174.out 1; obtain ⟨Ao109, co109, eo109⟩ := Kd.R_slice HO_175000.out; subst eo109; have p209 : 0 ≤ ((ji93) : Int) := zF (by first | (with_reducible assumption) | assumption); have q209 : (ji93) < (x175000_2.length : Int) := zF (by first | (with_reducible assumption) | assumption); obtain ⟨ad209, e209, hx209_0⟩ := Kd.at_int (zO HO_175000.out).2.2 (ji93) p209 q209; cases e209; replace p209 := eq_true p209; replace q209 := eq_true q209))
                  have n0_ := zA (Kd.R_drew HO_6.out)
                  have n1_ := zA (Kd.R_drew HO_175000.out)
                  have n2_ := zA (blk_drew BK166.out)
                  have n3_ := zA (blk_drew BK174.out)
                  have n4_ := zA (IsS86.drew HI0.out)
                  have n5_ := zA (zW HK.out)
                  have n6_ := zA (zD HB.out)
                  clear HO_6
                  clear HO_175000
                  clear BK166
                  clear BK174
                  clear HI0
                  clear HK
                  clear HB
                  have HO_6 := n0_
                  have HO_175000 := n1_
                  have BK166 := n2_
                  have BK174 := n3_
                  have HI0 := n4_
                  have HK := n5_
                  have HB := n6_
                  clear n0_ n1_ n2_ n3_ n4_ n5_ n6_
                  have p210 : 0 ≤ ((ji97) : Int) := zF (by first | (with_reducible assumption) | assumption)
                  have q210 : (ji97) < (x6_2.length : Int) := zF (by first | (with_reducible assumption) | assumption)
                  obtain ⟨ad210, e210, hx210_0⟩ := Kd.at_int (zO HO_6.out).2.2 (ji97) p210 q210
                  obtain rfl : ad208 = ad210 := (by injection e210)
                  replace p210 := eq_true p210
                  replace q210 := eq_true q210
                  have p103 : 0 ≤ ((ji100) : Int) := zF (by first | (with_reducible assumption) | assumption)
                  have q103 : ((ji100) : Int) < ((x175000_2.length : Int) : Int) := zF (by first | (with_reducible assumption) | assumption)
                  obtain ⟨go103, co103, eo103, gb103, gl103, cl103, HG103⟩ := Kd.R_form HO_175000.out (by omega)
                  (first | cases eo103 | (injection eo103 with ea_ en_ ec_; (first | subst ea_ | (injection ea_ with ea_; subst ea_)); subst ec_; clear en_))
                  have GB103 := zA gb103
                  have GG103 := zA HG103
                  clear gb103 gl103 HG103
                  (first | simp only [add_plain] at hx209_0 | skip)
                  obtain ⟨hx103_0, hf103_0⟩ := Kd.R_celln 0 HO_175000.out ((ji100) : Int) p103 q103
                  replace p103 := eq_true p103
                  replace q103 := eq_true q103
                  have HN0_go103 := zA (show g ≠ go103 from by have h_ := IsS86.own_ne HI0.out HO_175000.out (by decide); intro e_; exact h_ (by rw [e_]; rfl))
                  have HP111 := Kd.R_putn HO_175000.out ((ji100) : Int) (rd x6_2 (ji97))
                  rw [← Ny211.out] at HP111
                  have HQ111 := zA HP111
                  clear HP111
                  refine start_ (n := 12) (S := fun w' => w'.cell? ⟨gb174, 0, none⟩ = some (.slice (some ⟨go103, 0, none⟩) x175000_2.length co109) ∧ w'.cell? ⟨gb174, 1, none⟩ = some (.int .i64 x175001_1) ∧ w'.cell? (ad208.add ((ji97)).toNat) = some (.int .i64 (rd x6_2 (ji97)))) (ds := [11]) #[false, false, false, false, false, false, false, false, false, false, false, false] (by kernel_rfl) rfl rfl ⟨(zZ BK174.out 0).trans rfl, (zZ BK174.out 1).trans rfl, hx210_0⟩ (fun hHeld => ?_); refine with_tabW spec_l7heap.tab35 spec_l7heap.bits35 (fun HT_ HW_ => ?_)
                  generalize w105.drew = w110 at HO_6 HO_175000 BK166 BK174 HI0 HK HB GG103 HQ111 hf103_0 hx103_0 hx209_0 hx210_0 hHeld ⊢
                  refine pure_ (i := 0) (N := some 148) (v := ?_) (a' := ?_) #[true, false, false, false, false, false, false, false, false, false, false, false] rfl rfl (any_of HT_.out (by kernel_rfl)) (fun _ _ _ h => h) (Or.inl ⟨by rfl, ?_⟩) ?_ ?_
                  rotate_left
                  ·intro w'
                   go_simp
                   with_reducible rfl
                  rotate_left
                  ·simp only [Act.put, List.setIfInBounds_toArray, List.set_cons_zero, List.set_cons_succ, i64_w, i32_w]
                   rfl
                  refine pure_ (i := 2) (N := some 150) (v := ?_) (a' := ?_) #[true, false, true, false, false, false, false, false, false, false, false, false] rfl rfl (any_of HT_.out (by kernel_rfl)) (fun _ _ _ h => h) (Or.inl ⟨by rfl, ?_⟩) ?_ ?_
                  rotate_left
                  ·intro w'
                   go_simp
                   with_reducible rfl
                  rotate_left
                  ·simp only [Act.put, List.setIfInBounds_toArray, List.set_cons_zero, List.set_cons_succ, i64_w, i32_w]
                   rfl
                  refine pure_ (i := 3) (N := some 151) (v := ?_) (a' := ?_) #[true, false, true, true, false, false, false, false, false, false, false, false] rfl rfl (any_of HT_.out (by kernel_rfl)) (fun _ _ _ h => h) (Or.inl ⟨by rfl, ?_⟩) ?_ ?_
                  rotate_left
                  ·intro w'
                   go_simp
                   with_reducible rfl
                  rotate_left
                  ·simp only [Act.put, List.setIfInBounds_toArray, List.set_cons_zero, List.set_cons_succ, i64_w, i32_w]
                   rfl
                  refine pure_ (i := 4) (N := some 152) (v := ?_) (a' := ?_) #[true, false, true, true, true, false, false, false, false, false, false, false] rfl rfl (any_of HT_.out (by kernel_rfl)) (fun _ _ _ h => h) (Or.inl ⟨by rfl, ?_⟩) ?_ ?_
                  rotate_left
                  ·intro w'
                   go_simp
                   with_reducible rfl
                  rotate_left
                  ·simp only [Act.put, List.setIfInBounds_toArray, List.set_cons_zero, List.set_cons_succ, i64_w, i32_w]
                   rfl
                  refine pure_ (i := 5) (N := some 153) (v := ?_) (a' := ?_) #[true, false, true, true, true, true, false, false, false, false, false, false] rfl rfl (any_of HT_.out (by kernel_rfl)) (fun _ _ _ h => h) (Or.inl ⟨by rfl, ?_⟩) ?_ ?_
                  rotate_left
                  ·intro w'
                   go_simp
                   with_reducible rfl
                  rotate_left
                  ·simp only [Act.put, List.setIfInBounds_toArray, List.set_cons_zero, List.set_cons_succ, i64_w, i32_w]
                   rfl
                  refine pure_ (i := 6) (N := some 154) (v := ?_) (a' := ?_) #[true, false, true, true, true, true, true, false, false, false, false, false] rfl rfl (any_of HT_.out (by kernel_rfl)) (fun _ _ _ h => h) (Or.inl ⟨by rfl, ?_⟩) ?_ ?_
                  rotate_left
                  ·intro w'
                   go_simp
                   with_reducible rfl
                  rotate_left
                  ·simp only [Act.put, List.setIfInBounds_toArray, List.set_cons_zero, List.set_cons_succ, i64_w, i32_w]
                   rfl
                  refine pure_ (i := 7) (N := some 155) (v := ?_) (a' := ?_) #[true, false, true, true, true, true, true, true, false, false, false, false] rfl rfl (any_of HT_.out (by kernel_rfl)) (fun _ _ _ h => h) (Or.inl ⟨by rfl, ?_⟩) ?_ ?_
                  rotate_left
                  ·intro w'
                   go_simp
                   with_reducible rfl
                  rotate_left
                  ·simp only [Act.put, List.setIfInBounds_toArray, List.set_cons_zero, List.set_cons_succ, i64_w, i32_w]
                   rfl
                  refine pure_ (i := 8) (N := some 156) (v := ?_) (a' := ?_) #[true, false, true, true, true, true, true, true, true, false, false, false] rfl rfl (any_of HT_.out (by kernel_rfl)) (fun _ _ _ h => h) (Or.inl ⟨by rfl, ?_⟩) ?_ ?_
                  rotate_left
                  ·intro w'
                   go_simp
                   with_reducible rfl
                  rotate_left
                  ·simp only [Act.put, List.setIfInBounds_toArray, List.set_cons_zero, List.set_cons_succ, i64_w, i32_w]
                   rfl
                  refine take_ (i := 1) (N := some 149) (v := ?_) (a' := ?_) #[true, true, true, true, true, true, true, true, true, false, false, false] rfl rfl (take_ofW HT_.out HW_.out (by kernel_rfl)) (fun _ _ _ h => h) (Or.inl ⟨by rfl, ?_⟩) hHeld ?_ ?_
                  rotate_left
                  ·rintro w' ⟨s0, s1, s2⟩
                   go_simp
                   with_reducible rfl
                  rotate_left
                  ·simp only [Act.put, List.setIfInBounds_toArray, List.set_cons_zero, List.set_cons_succ, i64_w, i32_w]
                   rfl
                  refine take_ (i := 9) (N := some 157) (v := ?_) (a' := ?_) #[true, true, true, true, true, true, true, true, true, true, false, false] rfl rfl (take_ofW HT_.out HW_.out (by kernel_rfl)) (fun _ _ _ h => h) (Or.inl ⟨by rfl, ?_⟩) hHeld ?_ ?_
                  rotate_left
                  ·rintro w' ⟨s0, s1, s2⟩
                   go_simp
                   with_reducible rfl
                  rotate_left
                  ·simp only [Act.put, List.setIfInBounds_toArray, List.set_cons_zero, List.set_cons_succ, i64_w, i32_w]
                   rfl
                  refine pure_ (i := 10) (N := some 158) (v := ?_) (a' := ?_) #[true, true, true, true, true, true, true, true, true, true, true, false] rfl rfl (any_of HT_.out (by kernel_rfl)) (fun _ _ _ h => h) (Or.inl ⟨by rfl, ?_⟩) ?_ ?_
                  rotate_left
                  ·intro w'
                   go_simp
                   with_reducible rfl
                  rotate_left
                  ·simp only [Act.put, List.setIfInBounds_toArray, List.set_cons_zero, List.set_cons_succ, i64_w, i32_w]
                   rfl
                  refine last_ (i := 11) (N := none) #[true, true, true, true, true, true, true, true, true, true, true, true] rfl rfl (one_of HT_.out (by kernel_rfl)) (by decide) (fun K hK => ?_)
                  refine skip_ (w1 := ?_) (by rfl) rfl ?_ ?_
                  rotate_left
                  ·go_simp
                   rfl
                  refine hK.out _ _ ?_
                  clear hK K
                  refine done_ (done_of HT_.out (by kernel_rfl)) ?_
                  try go_wp2
                  go_roundg k2
                  case measure => have := HK1.out; have := HK2.out; omega
                  case rel => exact ⟨(x6_2), (wrap64 (x18_2 + 1)), (t207), (y211), (.slice (some ⟨go103, 0, none⟩) x175000_2.length co109), (by first | rfl | (simp; done) | (simp [*]; done)), H', ⟨by have := HK1.out; have := HK2.out; omega⟩, ⟨by (with_reducible repeat (first | apply Kd.R_alloc | apply Kd.R_drewN | apply Kd.R_drew)); exact zI (zJ (p := ⟨go103, ((ji100) : Int).toNat, none⟩) (zI HO_6.out (fun k_ hk => (⟨hk, fun e_ => hk (by rw [e_]; rfl)⟩ : _ ∧ k_ ≠ go103))) (fun _ hk => hk.2) (.int .i64 (rd x6_2 (ji97)))) (fun _ hk => hk.1)⟩, ⟨by (with_reducible repeat (first | apply Kd.R_alloc | apply Kd.R_drewN | apply Kd.R_drew)); exact HQ111.out⟩, ⟨by (with_reducible repeat (first | refine blk_drewN ?_ _ | refine blk_drew ?_ | refine blk_alloc ?_ _)); refine blk_far ?_ (by have h_ := Kd.R_ne HO_175000.out BK166.out (by decide); intro e_; exact h_ (by rw [e_]; rfl)) _; (with_reducible repeat (first | refine blk_drewN ?_ _ | refine blk_drew ?_ | refine blk_alloc ?_ _)); exact BK166.out⟩, ⟨by (with_reducible repeat (first | refine blk_drewN ?_ _ | refine blk_drew ?_ | refine blk_alloc ?_ _)); refine blk_far ?_ (by have h_ := Kd.R_ne HO_175000.out BK174.out (by decide); intro e_; exact h_ (by rw [e_]; rfl)) _; (with_reducible repeat (first | refine blk_drewN ?_ _ | refine blk_drew ?_ | refine blk_alloc ?_ _)); exact BK174.out⟩, ⟨by repeat (first | (with_reducible first | exact HI0.out | apply IsS86.alloc | apply IsS86.drewN | apply IsS86.drew | apply IsS86.set_1 | refine IsS86.far ?_ HN0_go103.out _ | refine IsS86.far ?_ NB0_166.out _ | refine IsS86.far ?_ NB0_174.out _) | exact HI0.out)⟩, ⟨by repeat (first | (with_reducible first | exact HK.out | apply zS | apply zT | apply zW | apply zU | refine zV ?_ GB103.out _ | refine zV ?_ GW166.out _ | refine zV ?_ GW174.out _) | exact HK.out)⟩, ⟨by repeat (first | (with_reducible first | exact HB.out | apply zE | apply zC | apply zD | refine zB ?_ (Nat.le_trans HL.out GB103.out) | refine zB ?_ (IsS86.ge HI0.out) | refine zB ?_ GE166.out | refine zB ?_ GE174.out) | exact HB.out)⟩⟩
                 ·rw [if_neg c102] at H
                  exact absurd H (by simp)
                ·rw [if_neg c101] at H
                 exact absurd H (by simp)
               ·rw [if_neg c99] at H
                exact absurd H (by simp)
              ·rw [if_neg c98] at H
               exact absurd H (by simp)
             ·rw [if_neg c96] at H
              have c96b0 : ((rd x175000_2 (ji93)) == 8) = false := beq_eq_false_iff_ne.mpr c96
              have c96b1 : ((rd x175000_2 (ji93)) != 8) = true := bne_iff_ne.mpr c96
              by_cases c112 : (Int.tmod (rd x175000_2 (ji93)) 4) = 3
              ·rw [if_pos c112] at H
               have c112b0 : ((Int.tmod (rd x175000_2 (ji93)) 4) == 3) = true := beq_iff_eq.mpr c112
               have c112b1 : ((Int.tmod (rd x175000_2 (ji93)) 4) != 3) = false := bne_eq_false_iff_eq.mpr c112
               clear c112
               obtain ⟨ji113, hji113⟩ : ∃ j_ : Int, (wrap64 ((x6_2.length : Int) - 1)) = j_ := ⟨_, rfl⟩
               replace H : (if 0 ≤ (ji113) then (if (ji113) < (x6_2.length : Int) then (if 0 ≤ (wrap64 ((ji93) + 1)) then (if (wrap64 ((ji93) + 1)) < (x175000_2.length : Int) then (spec_l7heap.l2 k2 x6_2 (Int.tmod t178 16) (wrap64 (x18_2 + 1)) s0_0 t207 (x175000_2.set ((wrap64 ((ji93) + 1)) : Int).toNat (rd x6_2 (ji113))) x175001_1) else (none)) else (none)) else (none)) else (none)) = some (r1, r2, r3, r4) := by first | (rw [hji113] at H; exact H) | (simp only [hji113] at H ⊢; exact H)
               (try rw [hji113] at A88)
               have hji113w : (IntKind.i64.wrap ((x6_2.length : Int) - 1)) = ji113 := (i64_w _).trans hji113
               by_cases c114 : 0 ≤ (ji113)
               ·rw [if_pos c114] at H
                have c114b0 : decide (0 ≤ (ji113)) = true := zG c114
                clear c114
                by_cases c115 : (ji113) < (x6_2.length : Int)
                ·rw [if_pos c115] at H
                 have c115b0 : decide ((ji113) < (x6_2.length : Int)) = true := zG c115
                 clear c115
                 obtain ⟨ji116, hji116⟩ : ∃ j_ : Int, (wrap64 ((ji93) + 1)) = j_ := ⟨_, rfl⟩
                 replace H : (if 0 ≤ (ji116) then (if (ji116) < (x175000_2.length : Int) then (spec_l7heap.l2 k2 x6_2 (Int.tmod t178 16) (wrap64 (x18_2 + 1)) s0_0 t207 (x175000_2.set ((ji116) : Int).toNat (rd x6_2 (ji113))) x175001_1) else (none)) else (none)) = some (r1, r2, r3, r4) := by first | (rw [hji116] at H; exact H) | (simp only [hji116] at H ⊢; exact H)
                 (try rw [hji116] at A88)
                 have hji116w : (IntKind.i64.wrap ((ji93) + 1)) = ji116 := (i64_w _).trans hji116
                 by_cases c117 : 0 ≤ (ji116)
                 ·rw [if_pos c117] at H
                  have c117b0 : decide (0 ≤ (ji116)) = true := zG c117
                  clear c117
                  by_cases c118 : (ji116) < (x175000_2.length : Int)
                  ·rw [if_pos c118] at H
                   have c118b0 : decide ((ji116) < (x175000_2.length : Int)) = true := zG c118
                   clear c118
                   obtain ⟨y214, hy214⟩ : ∃ y_ : List Int, y_ = (x175000_2.set ((ji116) : Int).toNat (rd x6_2 (ji113))) := ⟨_, rfl⟩
                   replace H : (spec_l7heap.l2 k2 x6_2 (Int.tmod t178 16) (wrap64 (x18_2 + 1)) s0_0 t207 y214 x175001_1) = some (r1, r2, r3, r4) := by first | (rw [hy214]; with_reducible exact H) | (have H2_ := (Option.bind_some _ _).symm.trans H; rw [hy214]; with_reducible exact H2_) | (have H2_ := (Option.bind_some _ _).symm.trans H; with_reducible exact H2_) | with_reducible exact H | (rw [hy214]; exact H) | exact H
                   have Ny214 := zA hy214
                   clear hy214
                   have H' := zA H
                   clear H
                   obtain ⟨Ao120, co120, eo120⟩ := Kd.R_slice HO_6.out
                   subst eo120
                   try go_wp2_with (first | ((with_reducible refine gate_callee (f := 52) rfl ?_); refine goesL_ (some 122) rfl rfl Try.func52 (by kernel_rfl) rfl #[.pointer (some ⟨g, 0, none⟩)] rfl (by (try simp only [List.map_toArray, List.map_cons, List.map_nil]); first | done | rfl | (simp only [List.length_drop, List.length_take]; rfl)) ?_; (with_reducible refine (spec_l7rd_next.calls g s0_0 x1001_2 t206 t207 w0 _ ?side1 ?side2 A88.out).mono ?_); (case side1 => repeat (first | (with_reducible first | exact HI0.out | apply IsS86.alloc | apply IsS86.drewN | apply IsS86.drew | apply IsS86.set_1 | refine IsS86.far ?_ NB0_166.out _ | refine IsS86.far ?_ NB0_174.out _) | exact HI0.out)); (case side2 => repeat (first | (with_reducible first | exact HB.out | apply zE | apply zC | apply zD | refine zB ?_ (IsS86.ge HI0.out) | refine zB ?_ GE166.out | refine zB ?_ GE174.out) | exact HB.out)); rintro e w121 ⟨rfl, hi, hb, hk⟩; refine ⟨_, rfl, ?_⟩; have n0_ := zA (zI (Kd.R_keep (IsS86.apart (show IsS86 w0 _ g s0_0 x1001_2 from by repeat (first | (with_reducible first | exact HI0.out | apply IsS86.alloc | apply IsS86.drewN | apply IsS86.drew | apply IsS86.set_1 | refine IsS86.far ?_ NB0_166.out _ | refine IsS86.far ?_ NB0_174.out _) | exact HI0.out)) (by (with_reducible repeat (first | apply Kd.R_alloc | apply Kd.R_drewN | apply Kd.R_drew)); exact HO_6.out) (by decide)) hk (fun _ h => h.2)) (fun _ h => h.1)); have n1_ := zA (zI (Kd.R_keep (IsS86.apart (show IsS86 w0 _ g s0_0 x1001_2 from by repeat (first | (with_reducible first | exact HI0.out | apply IsS86.alloc | apply IsS86.drewN | apply IsS86.drew | apply IsS86.set_1 | refine IsS86.far ?_ NB0_166.out _ | refine IsS86.far ?_ NB0_174.out _) | exact HI0.out)) (by (with_reducible repeat (first | apply Kd.R_alloc | apply Kd.R_drewN | apply Kd.R_drew)); exact HO_175000.out) (by decide)) hk (fun _ h => h.2)) (fun _ h => h.1)); have n2_ := zA (KeepBut.blk hk (g' := gb166) (o := .cells #[.slice none 0 0, .int .i64 0] 31 (0, 0)) (by (with_reducible repeat (first | refine blk_drewN ?_ _ | refine blk_drew ?_ | refine blk_alloc ?_ _)); exact BK166.out) NB166_0.out (by simp)); have n3_ := zA (KeepBut.blk hk (g' := gb174) (o := .cells #[u175000, .int .i64 x175001_1] 31 (0, 0)) (by (with_reducible repeat (first | refine blk_drewN ?_ _ | refine blk_drew ?_ | refine blk_alloc ?_ _)); exact BK174.out) NB174_0.out (by simp)); have n4_ := zA (zg (by repeat (first | (with_reducible first | exact HK.out | apply zS | apply zT | apply zW | apply zU | refine zV ?_ GW166.out _ | refine zV ?_ GW174.out _) | exact HK.out)) hk (.inl rfl)); have n5_ := zA (hb); have n6_ := zA (hi); clear HO_6 HO_175000 BK166 BK174 HK HB HI0; have HO_6 := n0_; have HO_175000 := n1_; have BK166 := n2_; have BK174 := n3_; have HK := n4_; have HB := n5_; have HI0 := n6_; clear n0_ n1_ n2_ n3_ n4_ n5_ n6_; (try clear hb); (try clear hb2); (try clear hk); (try clear hi); have p208 : 0 ≤ ((ji90) : Int) := zF (by first | (with_reducible assumption) | assumption); have q208 : (ji90) < (x6_2.length : Int) := zF (by first | (with_reducible assumption) | assumption); obtain ⟨ad208, e208, hx208_0⟩ := Kd.at_int (zO HO_6.out).2.2 (ji90) p208 q208; cases e208; replace p208 := eq_true p208; replace q208 := eq_true q208; have hnb122 := NB174_166.out; have hnc122 := NB166_174.out; have hnb123 := NB174_0.out; have hnc123 := NB0_174.out; have hcz124_0 : w121.cell? ⟨gb174, 0, none⟩ = some (u175000) := (zZ BK174.out 0).trans rfl; have hcz124_1 : w121.cell? ⟨gb174, 1, none⟩ = some (.int .i64 x175001_1) := (zZ BK174.out 1).trans rfl; have hfz124_0 := zY BK174.out 0; have hfz124_1 := zY BK174.out 1; obtain ⟨Ao125, co125, eo125⟩ := Kd.R_slice HO_175000.out; subst eo125; have p209 : 0 ≤ ((ji93) : Int) := zF (by first | (with_reducible assumption) | assumption); have q209 : (ji93) < (x175000_2.length : Int) := zF (by first | (with_reducible assumption) | assumption); obtain ⟨ad209, e209, hx209_0⟩ := Kd.at_int (zO HO_175000.out).2.2 (ji93) p209 q209; cases e209; replace p209 := eq_true p209; replace q209 := eq_true q209; have p212 : 0 ≤ ((ji93) : Int) := zF (by first | (with_reducible assumption) | assumption); have q212 : (ji93) < (x175000_2.length : Int) := zF (by first | (with_reducible assumption) | assumption); obtain ⟨ad212, e212, hx212_0⟩ := Kd.at_int (zO HO_175000.out).2.2 (ji93) p212 q212; obtain rfl : ad209 = ad212 := (by injection e212); replace p212 := eq_true p212; replace q212 := eq_true q212))
                   have n0_ := zA (Kd.R_drew HO_6.out)
                   have n1_ := zA (Kd.R_drew HO_175000.out)
                   have n2_ := zA (blk_drew BK166.out)
                   have n3_ := zA (blk_drew BK174.out)
                   have n4_ := zA (IsS86.drew HI0.out)
                   have n5_ := zA (zW HK.out)
                   have n6_ := zA (zD HB.out)
                   clear HO_6
                   clear HO_175000
                   clear BK166
                   clear BK174
                   clear HI0
                   clear HK
                   clear HB
                   have HO_6 := n0_
                   have HO_175000 := n1_
                   have BK166 := n2_
                   have BK174 := n3_
                   have HI0 := n4_
                   have HK := n5_
                   have HB := n6_
                   clear n0_ n1_ n2_ n3_ n4_ n5_ n6_
                   have p213 : 0 ≤ ((ji113) : Int) := zF (by first | (with_reducible assumption) | assumption)
                   have q213 : (ji113) < (x6_2.length : Int) := zF (by first | (with_reducible assumption) | assumption)
                   obtain ⟨ad213, e213, hx213_0⟩ := Kd.at_int (zO HO_6.out).2.2 (ji113) p213 q213
                   obtain rfl : ad208 = ad213 := (by injection e213)
                   replace p213 := eq_true p213
                   replace q213 := eq_true q213
                   have p119 : 0 ≤ ((ji116) : Int) := zF (by first | (with_reducible assumption) | assumption)
                   have q119 : ((ji116) : Int) < ((x175000_2.length : Int) : Int) := zF (by first | (with_reducible assumption) | assumption)
                   obtain ⟨go119, co119, eo119, gb119, gl119, cl119, HG119⟩ := Kd.R_form HO_175000.out (by omega)
                   (first | cases eo119 | (injection eo119 with ea_ en_ ec_; (first | subst ea_ | (injection ea_ with ea_; subst ea_)); subst ec_; clear en_))
                   have GB119 := zA gb119
                   have GG119 := zA HG119
                   clear gb119 gl119 HG119
                   (first | simp only [add_plain] at hx209_0 | skip)
                   (first | simp only [add_plain] at hx212_0 | skip)
                   obtain ⟨hx119_0, hf119_0⟩ := Kd.R_celln 0 HO_175000.out ((ji116) : Int) p119 q119
                   replace p119 := eq_true p119
                   replace q119 := eq_true q119
                   have HN0_go119 := zA (show g ≠ go119 from by have h_ := IsS86.own_ne HI0.out HO_175000.out (by decide); intro e_; exact h_ (by rw [e_]; rfl))
                   have HP127 := Kd.R_putn HO_175000.out ((ji116) : Int) (rd x6_2 (ji113))
                   rw [← Ny214.out] at HP127
                   have HQ127 := zA HP127
                   clear HP127
                   refine start_ (n := 12) (S := fun w' => w'.cell? ⟨gb174, 0, none⟩ = some (.slice (some ⟨go119, 0, none⟩) x175000_2.length co125) ∧ w'.cell? ⟨gb174, 1, none⟩ = some (.int .i64 x175001_1) ∧ w'.cell? (ad208.add ((ji113)).toNat) = some (.int .i64 (rd x6_2 (ji113)))) (ds := [11]) #[false, false, false, false, false, false, false, false, false, false, false, false] (by kernel_rfl) rfl rfl ⟨(zZ BK174.out 0).trans rfl, (zZ BK174.out 1).trans rfl, hx213_0⟩ (fun hHeld => ?_); refine with_tabW spec_l7heap.tab35 spec_l7heap.bits35 (fun HT_ HW_ => ?_)
                   generalize w121.drew = w126 at HO_6 HO_175000 BK166 BK174 HI0 HK HB GG119 HQ127 hf119_0 hx119_0 hx209_0 hx212_0 hx213_0 hHeld ⊢
                   refine pure_ (i := 0) (N := some 148) (v := ?_) (a' := ?_) #[true, false, false, false, false, false, false, false, false, false, false, false] rfl rfl (any_of HT_.out (by kernel_rfl)) (fun _ _ _ h => h) (Or.inl ⟨by rfl, ?_⟩) ?_ ?_
                   rotate_left
                   ·intro w'
                    go_simp
                    with_reducible rfl
                   rotate_left
                   ·simp only [Act.put, List.setIfInBounds_toArray, List.set_cons_zero, List.set_cons_succ, i64_w, i32_w]
                    rfl
                   refine pure_ (i := 2) (N := some 150) (v := ?_) (a' := ?_) #[true, false, true, false, false, false, false, false, false, false, false, false] rfl rfl (any_of HT_.out (by kernel_rfl)) (fun _ _ _ h => h) (Or.inl ⟨by rfl, ?_⟩) ?_ ?_
                   rotate_left
                   ·intro w'
                    go_simp
                    with_reducible rfl
                   rotate_left
                   ·simp only [Act.put, List.setIfInBounds_toArray, List.set_cons_zero, List.set_cons_succ, i64_w, i32_w]
                    rfl
                   refine pure_ (i := 3) (N := some 151) (v := ?_) (a' := ?_) #[true, false, true, true, false, false, false, false, false, false, false, false] rfl rfl (any_of HT_.out (by kernel_rfl)) (fun _ _ _ h => h) (Or.inl ⟨by rfl, ?_⟩) ?_ ?_
                   rotate_left
                   ·intro w'
                    go_simp
                    with_reducible rfl
                   rotate_left
                   ·simp only [Act.put, List.setIfInBounds_toArray, List.set_cons_zero, List.set_cons_succ, i64_w, i32_w]
                    rfl
                   refine pure_ (i := 4) (N := some 152) (v := ?_) (a' := ?_) #[true, false, true, true, true, false, false, false, false, false, false, false] rfl rfl (any_of HT_.out (by kernel_rfl)) (fun _ _ _ h => h) (Or.inl ⟨by rfl, ?_⟩) ?_ ?_
                   rotate_left
                   ·intro w'
                    go_simp
                    with_reducible rfl
                   rotate_left
                   ·simp only [Act.put, List.setIfInBounds_toArray, List.set_cons_zero, List.set_cons_succ, i64_w, i32_w]
                    rfl
                   refine pure_ (i := 5) (N := some 153) (v := ?_) (a' := ?_) #[true, false, true, true, true, true, false, false, false, false, false, false] rfl rfl (any_of HT_.out (by kernel_rfl)) (fun _ _ _ h => h) (Or.inl ⟨by rfl, ?_⟩) ?_ ?_
                   rotate_left
                   ·intro w'
                    go_simp
                    with_reducible rfl
                   rotate_left
                   ·simp only [Act.put, List.setIfInBounds_toArray, List.set_cons_zero, List.set_cons_succ, i64_w, i32_w]
                    rfl
                   refine pure_ (i := 6) (N := some 154) (v := ?_) (a' := ?_) #[true, false, true, true, true, true, true, false, false, false, false, false] rfl rfl (any_of HT_.out (by kernel_rfl)) (fun _ _ _ h => h) (Or.inl ⟨by rfl, ?_⟩) ?_ ?_
                   rotate_left
                   ·intro w'
                    go_simp
                    with_reducible rfl
                   rotate_left
                   ·simp only [Act.put, List.setIfInBounds_toArray, List.set_cons_zero, List.set_cons_succ, i64_w, i32_w]
                    rfl
                   refine pure_ (i := 7) (N := some 155) (v := ?_) (a' := ?_) #[true, false, true, true, true, true, true, true, false, false, false, false] rfl rfl (any_of HT_.out (by kernel_rfl)) (fun _ _ _ h => h) (Or.inl ⟨by rfl, ?_⟩) ?_ ?_
                   rotate_left
                   ·intro w'
                    go_simp
                    with_reducible rfl
                   rotate_left
                   ·simp only [Act.put, List.setIfInBounds_toArray, List.set_cons_zero, List.set_cons_succ, i64_w, i32_w]
                    rfl
                   refine pure_ (i := 8) (N := some 156) (v := ?_) (a' := ?_) #[true, false, true, true, true, true, true, true, true, false, false, false] rfl rfl (any_of HT_.out (by kernel_rfl)) (fun _ _ _ h => h) (Or.inl ⟨by rfl, ?_⟩) ?_ ?_
                   rotate_left
                   ·intro w'
                    go_simp
                    with_reducible rfl
                   rotate_left
                   ·simp only [Act.put, List.setIfInBounds_toArray, List.set_cons_zero, List.set_cons_succ, i64_w, i32_w]
                    rfl
                   refine take_ (i := 1) (N := some 149) (v := ?_) (a' := ?_) #[true, true, true, true, true, true, true, true, true, false, false, false] rfl rfl (take_ofW HT_.out HW_.out (by kernel_rfl)) (fun _ _ _ h => h) (Or.inl ⟨by rfl, ?_⟩) hHeld ?_ ?_
                   rotate_left
                   ·rintro w' ⟨s0, s1, s2⟩
                    go_simp
                    with_reducible rfl
                   rotate_left
                   ·simp only [Act.put, List.setIfInBounds_toArray, List.set_cons_zero, List.set_cons_succ, i64_w, i32_w]
                    rfl
                   refine take_ (i := 9) (N := some 157) (v := ?_) (a' := ?_) #[true, true, true, true, true, true, true, true, true, true, false, false] rfl rfl (take_ofW HT_.out HW_.out (by kernel_rfl)) (fun _ _ _ h => h) (Or.inl ⟨by rfl, ?_⟩) hHeld ?_ ?_
                   rotate_left
                   ·rintro w' ⟨s0, s1, s2⟩
                    go_simp
                    with_reducible rfl
                   rotate_left
                   ·simp only [Act.put, List.setIfInBounds_toArray, List.set_cons_zero, List.set_cons_succ, i64_w, i32_w]
                    rfl
                   refine pure_ (i := 10) (N := some 158) (v := ?_) (a' := ?_) #[true, true, true, true, true, true, true, true, true, true, true, false] rfl rfl (any_of HT_.out (by kernel_rfl)) (fun _ _ _ h => h) (Or.inl ⟨by rfl, ?_⟩) ?_ ?_
                   rotate_left
                   ·intro w'
                    go_simp
                    with_reducible rfl
                   rotate_left
                   ·simp only [Act.put, List.setIfInBounds_toArray, List.set_cons_zero, List.set_cons_succ, i64_w, i32_w]
                    rfl
                   refine last_ (i := 11) (N := none) #[true, true, true, true, true, true, true, true, true, true, true, true] rfl rfl (one_of HT_.out (by kernel_rfl)) (by decide) (fun K hK => ?_)
                   refine skip_ (w1 := ?_) (by rfl) rfl ?_ ?_
                   rotate_left
                   ·go_simp
                    rfl
                   refine hK.out _ _ ?_
                   clear hK K
                   refine done_ (done_of HT_.out (by kernel_rfl)) ?_
                   try go_wp2
                   go_roundg k2
                   case measure => have := HK1.out; have := HK2.out; omega
                   case rel => exact ⟨(x6_2), (wrap64 (x18_2 + 1)), (t207), (y214), (.slice (some ⟨go119, 0, none⟩) x175000_2.length co125), (by first | rfl | (simp; done) | (simp [*]; done)), H', ⟨by have := HK1.out; have := HK2.out; omega⟩, ⟨by (with_reducible repeat (first | apply Kd.R_alloc | apply Kd.R_drewN | apply Kd.R_drew)); exact zI (zJ (p := ⟨go119, ((ji116) : Int).toNat, none⟩) (zI HO_6.out (fun k_ hk => (⟨hk, fun e_ => hk (by rw [e_]; rfl)⟩ : _ ∧ k_ ≠ go119))) (fun _ hk => hk.2) (.int .i64 (rd x6_2 (ji113)))) (fun _ hk => hk.1)⟩, ⟨by (with_reducible repeat (first | apply Kd.R_alloc | apply Kd.R_drewN | apply Kd.R_drew)); exact HQ127.out⟩, ⟨by (with_reducible repeat (first | refine blk_drewN ?_ _ | refine blk_drew ?_ | refine blk_alloc ?_ _)); refine blk_far ?_ (by have h_ := Kd.R_ne HO_175000.out BK166.out (by decide); intro e_; exact h_ (by rw [e_]; rfl)) _; (with_reducible repeat (first | refine blk_drewN ?_ _ | refine blk_drew ?_ | refine blk_alloc ?_ _)); exact BK166.out⟩, ⟨by (with_reducible repeat (first | refine blk_drewN ?_ _ | refine blk_drew ?_ | refine blk_alloc ?_ _)); refine blk_far ?_ (by have h_ := Kd.R_ne HO_175000.out BK174.out (by decide); intro e_; exact h_ (by rw [e_]; rfl)) _; (with_reducible repeat (first | refine blk_drewN ?_ _ | refine blk_drew ?_ | refine blk_alloc ?_ _)); exact BK174.out⟩, ⟨by repeat (first | (with_reducible first | exact HI0.out | apply IsS86.alloc | apply IsS86.drewN | apply IsS86.drew | apply IsS86.set_1 | refine IsS86.far ?_ HN0_go119.out _ | refine IsS86.far ?_ NB0_166.out _ | refine IsS86.far ?_ NB0_174.out _) | exact HI0.out)⟩, ⟨by repeat (first | (with_reducible first | exact HK.out | apply zS | apply zT | apply zW | apply zU | refine zV ?_ GB119.out _ | refine zV ?_ GW166.out _ | refine zV ?_ GW174.out _) | exact HK.out)⟩, ⟨by repeat (first | (with_reducible first | exact HB.out | apply zE | apply zC | apply zD | refine zB ?_ (Nat.le_trans HL.out GB119.out) | refine zB ?_ (IsS86.ge HI0.out) | refine zB ?_ GE166.out | refine zB ?_ GE174.out) | exact HB.out)⟩⟩
                  ·rw [if_neg c118] at H
                   exact absurd H (by simp)
                 ·rw [if_neg c117] at H
                  exact absurd H (by simp)
                ·rw [if_neg c115] at H
                 exact absurd H (by simp)
               ·rw [if_neg c114] at H
                exact absurd H (by simp)
              ·rw [if_neg c112] at H
               have c112b0 : ((Int.tmod (rd x175000_2 (ji93)) 4) == 3) = false := beq_eq_false_iff_ne.mpr c112
               have c112b1 : ((Int.tmod (rd x175000_2 (ji93)) 4) != 3) = true := bne_iff_ne.mpr c112
               have H' := zA H
               clear H
               obtain ⟨Ao128, co128, eo128⟩ := Kd.R_slice HO_6.out
               subst eo128
               go_wp2_with (first | ((with_reducible refine gate_callee (f := 52) rfl ?_); refine goesL_ (some 122) rfl rfl Try.func52 (by kernel_rfl) rfl #[.pointer (some ⟨g, 0, none⟩)] rfl (by (try simp only [List.map_toArray, List.map_cons, List.map_nil]); first | done | rfl | (simp only [List.length_drop, List.length_take]; rfl)) ?_; (with_reducible refine (spec_l7rd_next.calls g s0_0 x1001_2 t206 t207 w0 _ ?side1 ?side2 A88.out).mono ?_); (case side1 => repeat (first | (with_reducible first | exact HI0.out | apply IsS86.alloc | apply IsS86.drewN | apply IsS86.drew | apply IsS86.set_1 | refine IsS86.far ?_ NB0_166.out _ | refine IsS86.far ?_ NB0_174.out _) | exact HI0.out)); (case side2 => repeat (first | (with_reducible first | exact HB.out | apply zE | apply zC | apply zD | refine zB ?_ (IsS86.ge HI0.out) | refine zB ?_ GE166.out | refine zB ?_ GE174.out) | exact HB.out)); rintro e w129 ⟨rfl, hi, hb, hk⟩; refine ⟨_, rfl, ?_⟩; have n0_ := zA (zI (Kd.R_keep (IsS86.apart (show IsS86 w0 _ g s0_0 x1001_2 from by repeat (first | (with_reducible first | exact HI0.out | apply IsS86.alloc | apply IsS86.drewN | apply IsS86.drew | apply IsS86.set_1 | refine IsS86.far ?_ NB0_166.out _ | refine IsS86.far ?_ NB0_174.out _) | exact HI0.out)) (by (with_reducible repeat (first | apply Kd.R_alloc | apply Kd.R_drewN | apply Kd.R_drew)); exact HO_6.out) (by decide)) hk (fun _ h => h.2)) (fun _ h => h.1)); have n1_ := zA (zI (Kd.R_keep (IsS86.apart (show IsS86 w0 _ g s0_0 x1001_2 from by repeat (first | (with_reducible first | exact HI0.out | apply IsS86.alloc | apply IsS86.drewN | apply IsS86.drew | apply IsS86.set_1 | refine IsS86.far ?_ NB0_166.out _ | refine IsS86.far ?_ NB0_174.out _) | exact HI0.out)) (by (with_reducible repeat (first | apply Kd.R_alloc | apply Kd.R_drewN | apply Kd.R_drew)); exact HO_175000.out) (by decide)) hk (fun _ h => h.2)) (fun _ h => h.1)); have n2_ := zA (KeepBut.blk hk (g' := gb166) (o := .cells #[.slice none 0 0, .int .i64 0] 31 (0, 0)) (by (with_reducible repeat (first | refine blk_drewN ?_ _ | refine blk_drew ?_ | refine blk_alloc ?_ _)); exact BK166.out) NB166_0.out (by simp)); have n3_ := zA (KeepBut.blk hk (g' := gb174) (o := .cells #[u175000, .int .i64 x175001_1] 31 (0, 0)) (by (with_reducible repeat (first | refine blk_drewN ?_ _ | refine blk_drew ?_ | refine blk_alloc ?_ _)); exact BK174.out) NB174_0.out (by simp)); have n4_ := zA (zg (by repeat (first | (with_reducible first | exact HK.out | apply zS | apply zT | apply zW | apply zU | refine zV ?_ GW166.out _ | refine zV ?_ GW174.out _) | exact HK.out)) hk (.inl rfl)); have n5_ := zA (hb); have n6_ := zA (hi); clear HO_6 HO_175000 BK166 BK174 HK HB HI0; have HO_6 := n0_; have HO_175000 := n1_; have BK166 := n2_; have BK174 := n3_; have HK := n4_; have HB := n5_; have HI0 := n6_; clear n0_ n1_ n2_ n3_ n4_ n5_ n6_; (try clear hb); (try clear hb2); (try clear hk); (try clear hi); have p208 : 0 ≤ ((ji90) : Int) := zF (by first | (with_reducible assumption) | assumption); have q208 : (ji90) < (x6_2.length : Int) := zF (by first | (with_reducible assumption) | assumption); obtain ⟨ad208, e208, hx208_0⟩ := Kd.at_int (zO HO_6.out).2.2 (ji90) p208 q208; cases e208; replace p208 := eq_true p208; replace q208 := eq_true q208; have hnb130 := NB174_166.out; have hnc130 := NB166_174.out; have hnb131 := NB174_0.out; have hnc131 := NB0_174.out; have hcz132_0 : w129.cell? ⟨gb174, 0, none⟩ = some (u175000) := (zZ BK174.out 0).trans rfl; have hcz132_1 : w129.cell? ⟨gb174, 1, none⟩ = some (.int .i64 x175001_1) := (zZ BK174.out 1).trans rfl; have hfz132_0 := zY BK174.out 0; have hfz132_1 := zY BK174.out 1; obtain ⟨Ao133, co133, eo133⟩ := Kd.R_slice HO_175000.out; subst eo133; have p209 : 0 ≤ ((ji93) : Int) := zF (by first | (with_reducible assumption) | assumption); have q209 : (ji93) < (x175000_2.length : Int) := zF (by first | (with_reducible assumption) | assumption); obtain ⟨ad209, e209, hx209_0⟩ := Kd.at_int (zO HO_175000.out).2.2 (ji93) p209 q209; cases e209; replace p209 := eq_true p209; replace q209 := eq_true q209; have p212 : 0 ≤ ((ji93) : Int) := zF (by first | (with_reducible assumption) | assumption); have q212 : (ji93) < (x175000_2.length : Int) := zF (by first | (with_reducible assumption) | assumption); obtain ⟨ad212, e212, hx212_0⟩ := Kd.at_int (zO HO_175000.out).2.2 (ji93) p212 q212; obtain rfl : ad209 = ad212 := (by injection e212); replace p212 := eq_true p212; replace q212 := eq_true q212))
               go_roundg k2
               case measure => have := HK1.out; have := HK2.out; omega
               case rel => exact ⟨(x6_2), (wrap64 (x18_2 + 1)), (t207), (x175000_2), (.slice (some ad209) x175000_2.length co133), (by first | rfl | (simp; done) | (simp [*]; done)), H', ⟨by have := HK1.out; have := HK2.out; omega⟩, ⟨by (with_reducible repeat (first | apply Kd.R_alloc | apply Kd.R_drewN | apply Kd.R_drew)); exact HO_6.out⟩, ⟨by (with_reducible repeat (first | apply Kd.R_alloc | apply Kd.R_drewN | apply Kd.R_drew)); exact HO_175000.out⟩, ⟨by (with_reducible repeat (first | refine blk_drewN ?_ _ | refine blk_drew ?_ | refine blk_alloc ?_ _)); exact BK166.out⟩, ⟨by (with_reducible repeat (first | refine blk_drewN ?_ _ | refine blk_drew ?_ | refine blk_alloc ?_ _)); exact BK174.out⟩, ⟨by repeat (first | (with_reducible first | exact HI0.out | apply IsS86.alloc | apply IsS86.drewN | apply IsS86.drew | apply IsS86.set_1 | refine IsS86.far ?_ NB0_166.out _ | refine IsS86.far ?_ NB0_174.out _) | exact HI0.out)⟩, ⟨by repeat (first | (with_reducible first | exact HK.out | apply zS | apply zT | apply zW | apply zU | refine zV ?_ GW166.out _ | refine zV ?_ GW174.out _) | exact HK.out)⟩, ⟨by repeat (first | (with_reducible first | exact HB.out | apply zE | apply zC | apply zD | refine zB ?_ (IsS86.ge HI0.out) | refine zB ?_ GE166.out | refine zB ?_ GE174.out) | exact HB.out)⟩⟩
            ·rw [if_neg c95] at H
             exact absurd H (by simp)
           ·rw [if_neg c94] at H
            exact absurd H (by simp)
          ·rw [if_neg c92] at H
           exact absurd H (by simp)
         ·rw [if_neg c91] at H
          exact absurd H (by simp)
       ·rw [if_neg c87] at H
        have c87b0 : decide (8 < (x6_2.length : Int)) = false := zH c87
        have c87b1 : decide (8 < x6_2.length) = false := zH (by omega)
        clear c87
        have H' := zA H
        clear H
        obtain ⟨Ao134, co134, eo134⟩ := Kd.R_slice HO_6.out
        subst eo134
        go_wp2
        go_roundg k2
        case measure => have := HK1.out; have := HK2.out; omega
        case rel => exact ⟨(x6_2), (wrap64 (x18_2 + 1)), (x1001_2), (x175000_2), (u175000), (by first | rfl | (simp; done) | (simp [*]; done)), H', ⟨by have := HK1.out; have := HK2.out; omega⟩, ⟨by (with_reducible repeat (first | apply Kd.R_alloc | apply Kd.R_drewN | apply Kd.R_drew)); exact HO_6.out⟩, ⟨by (with_reducible repeat (first | apply Kd.R_alloc | apply Kd.R_drewN | apply Kd.R_drew)); exact HO_175000.out⟩, ⟨by (with_reducible repeat (first | refine blk_drewN ?_ _ | refine blk_drew ?_ | refine blk_alloc ?_ _)); exact BK166.out⟩, ⟨by (with_reducible repeat (first | refine blk_drewN ?_ _ | refine blk_drew ?_ | refine blk_alloc ?_ _)); exact BK174.out⟩, ⟨by repeat (first | (with_reducible first | exact HI0.out | apply IsS86.alloc | apply IsS86.drewN | apply IsS86.drew | apply IsS86.set_1 | refine IsS86.far ?_ NB0_166.out _ | refine IsS86.far ?_ NB0_174.out _) | exact HI0.out)⟩, ⟨by repeat (first | (with_reducible first | exact HK.out | apply zS | apply zT | apply zW | apply zU | refine zV ?_ GW166.out _ | refine zV ?_ GW174.out _) | exact HK.out)⟩, ⟨by repeat (first | (with_reducible first | exact HB.out | apply zE | apply zC | apply zD | refine zB ?_ (IsS86.ge HI0.out) | refine zB ?_ GE166.out | refine zB ?_ GE174.out) | exact HB.out)⟩⟩
      ·rw [if_neg c86] at H
       have c86b0 : decide (x18_2 < (wrap64 (Int.tdiv (Int.tmod t178 16) 3))) = false := zH c86
       clear c86
       simp only [Option.some.injEq, Prod.mk.injEq] at H
       obtain ⟨rfl, rfl, rfl, rfl⟩ := H
       have hnb135 := NB174_166.out
       have hnc135 := NB166_174.out
       have hnb136 := NB174_0.out
       have hnc136 := NB0_174.out
       have hcz137_0 : wr.cell? ⟨gb174, 0, none⟩ = some (u175000) := (zZ BK174.out 0).trans rfl
       have hcz137_1 : wr.cell? ⟨gb174, 1, none⟩ = some (.int .i64 x175001_1) := (zZ BK174.out 1).trans rfl
       have hfz137_0 := zY BK174.out 0
       have hfz137_1 := zY BK174.out 1
       obtain ⟨Ao138, co138, eo138⟩ := Kd.R_slice HO_175000.out
       subst eo138
       have hnb139 := NB166_0.out
       have hnc139 := NB0_166.out
       have hcz140_0 : wr.cell? ⟨gb166, 0, none⟩ = some (.slice none 0 0) := (zZ BK166.out 0).trans rfl
       have hcz140_1 : wr.cell? ⟨gb166, 1, none⟩ = some (.int .i64 0) := (zZ BK166.out 1).trans rfl
       have hfz140_0 := zY BK166.out 0
       have hfz140_1 := zY BK166.out 1
       go_wp2
       refine bodyPost_ret (results_ct rfl _ _ gb166 31 #[.slice Ao138 x175000_2.length co138, .int .i64 x175001_1] (0, 0) _ rfl (by (with_reducible repeat (first | refine blk_drewN ?_ _ | refine blk_drew ?_ | refine blk_alloc ?_ _)); refine blk_put (cs := #[.slice Ao138 x175000_2.length co138, .int .i64 0]) ?_ 1 _ rfl; (with_reducible repeat (first | refine blk_drewN ?_ _ | refine blk_drew ?_ | refine blk_alloc ?_ _)); refine blk_put (cs := #[.slice none 0 0, .int .i64 0]) ?_ 0 _ rfl; (with_reducible repeat (first | refine blk_drewN ?_ _ | refine blk_drew ?_ | refine blk_alloc ?_ _)); exact BK166.out) Try.underlying31 rfl (by kernel_rfl)) rfl ?_
       exact ⟨_, _, by first | rfl | (simp [errW_none, errW_some] <;> rfl) | (simp [*, errW_none, errW_some] <;> rfl), by (with_reducible repeat (first | apply Kd.R_alloc | apply Kd.R_drewN | apply Kd.R_drew)); exact zI (zJ (p := ⟨gb166, 1, none⟩) (zJ (p := ⟨gb166, 0, none⟩) (zL HO_175000.out BK166.out (by decide)) (fun _ hk => hk.2) (.slice Ao138 x175000_2.length co138)) (fun _ hk => hk.2) (.int .i64 x175001_1)) (fun _ hk => hk.1), by (with_reducible repeat (first | apply Kd.R_alloc | apply Kd.R_drewN | apply Kd.R_drew)); exact zI (zJ (p := ⟨gb166, 1, none⟩) (zJ (p := ⟨gb166, 0, none⟩) (zL HO_6.out BK166.out (by decide)) (fun _ hk => hk.2) (.slice Ao138 x175000_2.length co138)) (fun _ hk => hk.2) (.int .i64 x175001_1)) (fun _ hk => hk.1), by repeat (first | (with_reducible first | exact HI0.out | apply IsS86.alloc | apply IsS86.drewN | apply IsS86.drew | apply IsS86.set_1 | refine IsS86.far ?_ NB0_166.out _ | refine IsS86.far ?_ NB0_174.out _) | exact HI0.out), by repeat (first | (with_reducible first | exact HB.out | apply zE | apply zC | apply zD | refine zB ?_ (IsS86.ge HI0.out) | refine zB ?_ GE166.out | refine zB ?_ GE174.out) | exact HB.out), by repeat (first | (with_reducible first | exact HK.out | apply zS | apply zT | apply zW | apply zU | refine zV ?_ GW166.out _ | refine zV ?_ GW174.out _) | exact HK.out)⟩

end Go.Proofs.Ytggkkgkjhfgipaa.QFnAlloc
