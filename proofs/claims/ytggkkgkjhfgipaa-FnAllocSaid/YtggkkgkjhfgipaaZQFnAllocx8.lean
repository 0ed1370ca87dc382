-- Written by a program of this session (wip/tools/ownprint.py) over hand-proved contracts.
import Derived.Test.YtggkkgkjhfgipaaZQFnAllocx0
import Derived.Test.YtggkkgkjhfgipaaZQFnAllocx5
import Derived.Test.YtggkkgkjhfgipaaZQFnAllocx6
import Derived.Test.YtggkkgkjhfgipaaZQFnAllocx7
namespace Go.Proofs.Ytggkkgkjhfgipaa.QFnAlloc
open Go.RowKit Go.Proofs.YtggkkgkjhfgipaaW.PrintWords Go.Proofs.YtggkkgkjhfgipaaW.PrintLast Go.Proofs.YtggkkgkjhfgipaaW.PrintMore
attribute [local go_sem] max2_int min2_int max_two min_two max_three min_three max_four min_four   -- for this text's walks alone
abbrev zq := @Kd.R_alloc
abbrev zr := @Kd.R_drewN
abbrev zs := @Kd.R_drew
abbrev zt := @blk_drewN
abbrev zu := @blk_drew
abbrev zv := @blk_alloc
set_option linter.unusedVariables false
set_option linter.unusedSimpArgs false

/-! ### spec_DrawAlloc: function 34 -/
mutual
def spec_DrawAlloc.j0 : Nat → Int → List Int → Int → List Int → Int → List Int → Int → Option (List Int × Int × Int × List Int)
 | 0, _, _, _, _, _, _, _ => none
 | k + 1, x6, x9, x10, x250000, x250001, x261000, x261001 => if x10 = 3 then (if x9.length < 17592186044416 then ((some (x9 ++ [4] : List Int)).bind fun y274 => (if 1 ≤ (y274.length : Int) then (spec_DrawAlloc.j1 k x6 (y274.take (1 : Int).toNat) x10 x250000 x250001 x261000 x261001) else (none))) else (none)) else (spec_DrawAlloc.j1 k x6 x9 x10 x250000 x250001 x261000 x261001)
def spec_DrawAlloc.j1 : Nat → Int → List Int → Int → List Int → Int → List Int → Int → Option (List Int × Int × Int × List Int)
 | 0, _, _, _, _, _, _, _ => none
 | k + 1, x6, x9, x10, x250000, x250001, x261000, x261001 => if x10 = 2 then ((some (([8] : List Int) : List Int)).bind fun y280 => (if y280.length + x9.length < 17592186044416 then (spec_DrawAlloc.j2 k x6 (y280 ++ x9) x10 x250000 x250001 x261000 x261001) else (none))) else (spec_DrawAlloc.j2 k x6 x9 x10 x250000 x250001 x261000 x261001)
def spec_DrawAlloc.j2 : Nat → Int → List Int → Int → List Int → Int → List Int → Int → Option (List Int × Int × Int × List Int)
 | 0, _, _, _, _, _, _, _ => none
 | k + 1, x6, x9, x10, x250000, x250001, x261000, x261001 => if x6 > 240 then ((spec_l7rd_next.f x250000 x250001).bind fun bt286 => (if x9.length < 17592186044416 then (spec_DrawAlloc.j3 k x6 (x9 ++ [bt286.1]) x10 x250000 bt286.2 x261000 x261001) else (none))) else (spec_DrawAlloc.j3 k x6 x9 x10 x250000 x250001 x261000 x261001)
def spec_DrawAlloc.j3 : Nat → Int → List Int → Int → List Int → Int → List Int → Int → Option (List Int × Int × Int × List Int)
 | 0, _, _, _, _, _, _, _ => none
 | k + 1, x6, x9, x10, x250000, x250001, x261000, x261001 => if x6 = 239 then (spec_DrawAlloc.j4 k x6 x9 4 x250000 x250001 x261000 x261001) else (spec_DrawAlloc.j4 k x6 x9 x10 x250000 x250001 x261000 x261001)
def spec_DrawAlloc.j4 : Nat → Int → List Int → Int → List Int → Int → List Int → Int → Option (List Int × Int × Int × List Int)
 | 0, _, _, _, _, _, _, _ => none
 | k + 1, x6, x9, x10, x250000, x250001, x261000, x261001 => if x6 = 238 then ((spec_l7rd_next.f x250000 x250001).bind fun bt291 => (if 0 ≤ (wrap64 (1000 + (Int.tmod bt291.1 2))) then (if (wrap64 (1000 + (Int.tmod bt291.1 2)) : Int).toNat ≤ 35184372088832 then (spec_DrawAlloc.j5 k x6 (List.replicate (wrap64 (1000 + (Int.tmod bt291.1 2)) : Int).toNat 0) 1 x250000 bt291.2 x261000 x261001) else (none)) else (none))) else (spec_DrawAlloc.j5 k x6 x9 x10 x250000 x250001 x261000 x261001)
def spec_DrawAlloc.j5 : Nat → Int → List Int → Int → List Int → Int → List Int → Int → Option (List Int × Int × Int × List Int)
 | 0, _, _, _, _, _, _, _ => none
 | k + 1, x6, x9, x10, x250000, x250001, x261000, x261001 => if x6 = 237 then ((spec_l7spoilHeap.f x261000 x261001 x250000 x250001).bind fun bt296 => (some (bt296.1, bt296.2.1, x10, x9))) else (some (x261000, x261001, x10, x9))
end
def spec_DrawAlloc.f (k : Nat) (l0 : List Int) : Option (List Int × Int × Int × List Int) := (spec_l7open.f l0).bind fun bt247 => ((spec_l7rd_next.f bt247.1 bt247.2).bind fun bt250 => ((spec_l7heap.f k bt247.1 bt250.2).bind fun bt252 => ((spec_l7roots.f k bt247.1 bt252.2.2.2 bt252.2.2.1).bind fun bt261 => (if (Int.tmod bt250.1 4) = 0 then ((some (([4, 8] : List Int) : List Int)).bind fun y265 => (if bt261.1.length + y265.length < 17592186044416 then ((some (bt261.1 ++ y265 : List Int)).bind fun y268 => (if 2 ≤ (y268.length : Int) then (spec_DrawAlloc.j0 k bt250.1 (y268.take (2 : Int).toNat) (Int.tmod bt250.1 4) bt247.1 bt261.2 bt252.1 bt252.2.1) else (none))) else (none))) else (spec_DrawAlloc.j0 k bt250.1 bt261.1 (Int.tmod bt250.1 4) bt247.1 bt261.2 bt252.1 bt252.2.1)))))
theorem spec_DrawAlloc.mono_l : ∀ k, (∀ y0 y1 y2 y3 y4 y5 y6, LeO (spec_DrawAlloc.j0 k y0 y1 y2 y3 y4 y5 y6) (spec_DrawAlloc.j0 (k + 1) y0 y1 y2 y3 y4 y5 y6)) ∧ (∀ y0 y1 y2 y3 y4 y5 y6, LeO (spec_DrawAlloc.j1 k y0 y1 y2 y3 y4 y5 y6) (spec_DrawAlloc.j1 (k + 1) y0 y1 y2 y3 y4 y5 y6)) ∧ (∀ y0 y1 y2 y3 y4 y5 y6, LeO (spec_DrawAlloc.j2 k y0 y1 y2 y3 y4 y5 y6) (spec_DrawAlloc.j2 (k + 1) y0 y1 y2 y3 y4 y5 y6)) ∧ (∀ y0 y1 y2 y3 y4 y5 y6, LeO (spec_DrawAlloc.j3 k y0 y1 y2 y3 y4 y5 y6) (spec_DrawAlloc.j3 (k + 1) y0 y1 y2 y3 y4 y5 y6)) ∧ (∀ y0 y1 y2 y3 y4 y5 y6, LeO (spec_DrawAlloc.j4 k y0 y1 y2 y3 y4 y5 y6) (spec_DrawAlloc.j4 (k + 1) y0 y1 y2 y3 y4 y5 y6)) ∧ (∀ y0 y1 y2 y3 y4 y5 y6, LeO (spec_DrawAlloc.j5 k y0 y1 y2 y3 y4 y5 y6) (spec_DrawAlloc.j5 (k + 1) y0 y1 y2 y3 y4 y5 y6))
 | 0 => ⟨fun _ _ _ _ _ _ _ r h => by simp [spec_DrawAlloc.j0] at h, fun _ _ _ _ _ _ _ r h => by simp [spec_DrawAlloc.j1] at h, fun _ _ _ _ _ _ _ r h => by simp [spec_DrawAlloc.j2] at h, fun _ _ _ _ _ _ _ r h => by simp [spec_DrawAlloc.j3] at h, fun _ _ _ _ _ _ _ r h => by simp [spec_DrawAlloc.j4] at h, fun _ _ _ _ _ _ _ r h => by simp [spec_DrawAlloc.j5] at h⟩
 | k + 1 => by
  obtain ⟨ih0, ih1, ih2, ih3, ih4, ih5⟩ := spec_DrawAlloc.mono_l k
  refine ⟨?_, ?_, ?_, ?_, ?_, ?_⟩
  ·intro y0 y1 y2 y3 y4 y5 y6
   unfold spec_DrawAlloc.j0
   repeat' first
   | (with_reducible exact ih0 _ _ _ _ _ _ _)
   | (with_reducible exact ih1 _ _ _ _ _ _ _)
   | (with_reducible exact ih2 _ _ _ _ _ _ _)
   | (with_reducible exact ih3 _ _ _ _ _ _ _)
   | (with_reducible exact ih4 _ _ _ _ _ _ _)
   | (with_reducible exact ih5 _ _ _ _ _ _ _)
   | (with_reducible exact spec_l7heap.mono _ _ _)
   | (with_reducible exact spec_l7roots.mono _ _ _ _)
   | (with_reducible exact LeO.refl _)
   | (with_reducible exact LeO.none _)
   | (with_reducible refine LeO.ite ?_ ?_)
   | (with_reducible refine LeO.bind ?_ (fun _ => ?_))
   | exact ih0 _ _ _ _ _ _ _
   | exact ih1 _ _ _ _ _ _ _
   | exact ih2 _ _ _ _ _ _ _
   | exact ih3 _ _ _ _ _ _ _
   | exact ih4 _ _ _ _ _ _ _
   | exact ih5 _ _ _ _ _ _ _
   | exact spec_l7heap.mono _ _ _
   | exact spec_l7roots.mono _ _ _ _
   | exact LeO.none _
   | refine LeO.ite ?_ ?_
   | refine LeO.bind ?_ (fun _ => ?_)
  ·intro y0 y1 y2 y3 y4 y5 y6
   unfold spec_DrawAlloc.j1
   repeat' first
   | (with_reducible exact ih0 _ _ _ _ _ _ _)
   | (with_reducible exact ih1 _ _ _ _ _ _ _)
   | (with_reducible exact ih2 _ _ _ _ _ _ _)
   | (with_reducible exact ih3 _ _ _ _ _ _ _)
   | (with_reducible exact ih4 _ _ _ _ _ _ _)
   | (with_reducible exact ih5 _ _ _ _ _ _ _)
   | (with_reducible exact spec_l7heap.mono _ _ _)
   | (with_reducible exact spec_l7roots.mono _ _ _ _)
   | (with_reducible exact LeO.refl _)
   | (with_reducible exact LeO.none _)
   | (with_reducible refine LeO.ite ?_ ?_)
   | (with_reducible refine LeO.bind ?_ (fun _ => ?_))
   | exact ih0 _ _ _ _ _ _ _
   | exact ih1 _ _ _ _ _ _ _
   | exact ih2 _ _ _ _ _ _ _
   | exact ih3 _ _ _ _ _ _ _
   | exact ih4 _ _ _ _ _ _ _
   | exact ih5 _ _ _ _ _ _ _
   | exact spec_l7heap.mono _ _ _
   | exact spec_l7roots.mono _ _ _ _
   | exact LeO.none _
   | refine LeO.ite ?_ ?_
   | refine LeO.bind ?_ (fun _ => ?_)
  ·intro y0 y1 y2 y3 y4 y5 y6
   unfold spec_DrawAlloc.j2
   repeat' first
   | (with_reducible exact ih0 _ _ _ _ _ _ _)
   | (with_reducible exact ih1 _ _ _ _ _ _ _)
   | (with_reducible exact ih2 _ _ _ _ _ _ _)
   | (with_reducible exact ih3 _ _ _ _ _ _ _)
   | (with_reducible exact ih4 _ _ _ _ _ _ _)
   | (with_reducible exact ih5 _ _ _ _ _ _ _)
   | (with_reducible exact spec_l7heap.mono _ _ _)
   | (with_reducible exact spec_l7roots.mono _ _ _ _)
   | (with_reducible exact LeO.refl _)
   | (with_reducible exact LeO.none _)
   | (with_reducible refine LeO.ite ?_ ?_)
   | (with_reducible refine LeO.bind ?_ (fun _ => ?_))
   | exact ih0 _ _ _ _ _ _ _
   | exact ih1 _ _ _ _ _ _ _
   | exact ih2 _ _ _ _ _ _ _
   | exact ih3 _ _ _ _ _ _ _
   | exact ih4 _ _ _ _ _ _ _
   | exact ih5 _ _ _ _ _ _ _
   | exact spec_l7heap.mono _ _ _
   | exact spec_l7roots.mono _ _ _ _
   | exact LeO.none _
   | refine LeO.ite ?_ ?_
   | refine LeO.bind ?_ (fun _ => ?_)
  ·intro y0 y1 y2 y3 y4 y5 y6
   unfold spec_DrawAlloc.j3
   repeat' first
   | (with_reducible exact ih0 _ _ _ _ _ _ _)
   | (with_reducible exact ih1 _ _ _ _ _ _ _)
   | (with_reducible exact ih2 _ _ _ _ _ _ _)
   | (with_reducible exact ih3 _ _ _ _ _ _ _)
   | (with_reducible exact ih4 _ _ _ _ _ _ _)
   | (with_reducible exact ih5 _ _ _ _ _ _ _)
   | (with_reducible exact spec_l7heap.mono _ _ _)
   | (with_reducible exact spec_l7roots.mono _ _ _ _)
   | (with_reducible exact LeO.refl _)
   | (with_reducible exact LeO.none _)
   | (with_reducible refine LeO.ite ?_ ?_)
   | (with_reducible refine LeO.bind ?_ (fun _ => ?_))
   | exact ih0 _ _ _ _ _ _ _
   | exact ih1 _ _ _ _ _ _ _
   | exact ih2 _ _ _ _ _ _ _
   | exact ih3 _ _ _ _ _ _ _
   | exact ih4 _ _ _ _ _ _ _
   | exact ih5 _ _ _ _ _ _ _
   | exact spec_l7heap.mono _ _ _
   | exact spec_l7roots.mono _ _ _ _
   | exact LeO.none _
   | refine LeO.ite ?_ ?_
   | refine LeO.bind ?_ (fun _ => ?_)
  ·intro y0 y1 y2 y3 y4 y5 y6
   unfold spec_DrawAlloc.j4
   repeat' first
   | (with_reducible exact ih0 _ _ _ _ _ _ _)
   | (with_reducible exact ih1 _ _ _ _ _ _ _)
   | (with_reducible exact ih2 _ _ _ _ _ _ _)
   | (with_reducible exact ih3 _ _ _ _ _ _ _)
   | (with_reducible exact ih4 _ _ _ _ _ _ _)
   | (with_reducible exact ih5 _ _ _ _ _ _ _)
   | (with_reducible exact spec_l7heap.mono _ _ _)
   | (with_reducible exact spec_l7roots.mono _ _ _ _)
   | (with_reducible exact LeO.refl _)
   | (with_reducible exact LeO.none _)
   | (with_reducible refine LeO.ite ?_ ?_)
   | (with_reducible refine LeO.bind ?_ (fun _ => ?_))
   | exact ih0 _ _ _ _ _ _ _
   | exact ih1 _ _ _ _ _ _ _
   | exact ih2 _ _ _ _ _ _ _
   | exact ih3 _ _ _ _ _ _ _
   | exact ih4 _ _ _ _ _ _ _
   | exact ih5 _ _ _ _ _ _ _
   | exact spec_l7heap.mono _ _ _
   | exact spec_l7roots.mono _ _ _ _
   | exact LeO.none _
   | refine LeO.ite ?_ ?_
   | refine LeO.bind ?_ (fun _ => ?_)
  ·intro y0 y1 y2 y3 y4 y5 y6
   unfold spec_DrawAlloc.j5
   repeat' first
   | (with_reducible exact ih0 _ _ _ _ _ _ _)
   | (with_reducible exact ih1 _ _ _ _ _ _ _)
   | (with_reducible exact ih2 _ _ _ _ _ _ _)
   | (with_reducible exact ih3 _ _ _ _ _ _ _)
   | (with_reducible exact ih4 _ _ _ _ _ _ _)
   | (with_reducible exact ih5 _ _ _ _ _ _ _)
   | (with_reducible exact spec_l7heap.mono _ _ _)
   | (with_reducible exact spec_l7roots.mono _ _ _ _)
   | (with_reducible exact LeO.refl _)
   | (with_reducible exact LeO.none _)
   | (with_reducible refine LeO.ite ?_ ?_)
   | (with_reducible refine LeO.bind ?_ (fun _ => ?_))
   | exact ih0 _ _ _ _ _ _ _
   | exact ih1 _ _ _ _ _ _ _
   | exact ih2 _ _ _ _ _ _ _
   | exact ih3 _ _ _ _ _ _ _
   | exact ih4 _ _ _ _ _ _ _
   | exact ih5 _ _ _ _ _ _ _
   | exact spec_l7heap.mono _ _ _
   | exact spec_l7roots.mono _ _ _ _
   | exact LeO.none _
   | refine LeO.ite ?_ ?_
   | refine LeO.bind ?_ (fun _ => ?_)
theorem spec_DrawAlloc.mono : ∀ a0 k, LeO (spec_DrawAlloc.f k a0) (spec_DrawAlloc.f (k + 1) a0) := by
 intro a0 k
 obtain ⟨ih0, ih1, ih2, ih3, ih4, ih5⟩ := spec_DrawAlloc.mono_l k
 unfold spec_DrawAlloc.f
 repeat' first
   | (with_reducible exact ih0 _ _ _ _ _ _ _)
   | (with_reducible exact ih1 _ _ _ _ _ _ _)
   | (with_reducible exact ih2 _ _ _ _ _ _ _)
   | (with_reducible exact ih3 _ _ _ _ _ _ _)
   | (with_reducible exact ih4 _ _ _ _ _ _ _)
   | (with_reducible exact ih5 _ _ _ _ _ _ _)
   | (with_reducible exact spec_l7heap.mono _ _ _)
   | (with_reducible exact spec_l7roots.mono _ _ _ _)
   | (with_reducible exact LeO.refl _)
   | (with_reducible exact LeO.none _)
   | (with_reducible refine LeO.ite ?_ ?_)
   | (with_reducible refine LeO.bind ?_ (fun _ => ?_))
   | exact ih0 _ _ _ _ _ _ _
   | exact ih1 _ _ _ _ _ _ _
   | exact ih2 _ _ _ _ _ _ _
   | exact ih3 _ _ _ _ _ _ _
   | exact ih4 _ _ _ _ _ _ _
   | exact ih5 _ _ _ _ _ _ _
   | exact spec_l7heap.mono _ _ _
   | exact spec_l7roots.mono _ _ _ _
   | exact LeO.none _
   | refine LeO.ite ?_ ?_
   | refine LeO.bind ?_ (fun _ => ?_)
set_option maxHeartbeats 8000000 in
set_option maxRecDepth 100000 in
theorem spec_DrawAlloc.calls (k : Nat) (A0 : Option Addr) (c0 : Nat) (l0 : List Int) (r1 : List Int) (r2 : Int) (r3 : Int) (r4 : List Int) (w : World) (hr0 : Kd.C (Kd.int .u8) w A0 l0.length l0) (hc0 : l0.length ≤ c0) (h : spec_DrawAlloc.f k l0 = some (r1, r2, r3, r4)) :
  Calls Try.prog 34 #[.slice A0 l0.length c0] w fun e w' => ∃ v0_ v3_ : Value, e = .returned (.tuple #[.agg #[v0_, .int .i64 r2], .int .i64 r3, v3_]) ∧ Kd.R (Kd.int .i64) 3 w' w.heap.size (fun k_ => some k_ ≠ (v3_ : Value).ownBlock) v0_ r1 ∧ Kd.R (Kd.int .i64) 3 w' w.heap.size (fun k_ => some k_ ≠ (v0_ : Value).ownBlock) v3_ r4 ∧ Below w.heap.size w w' := by
 have hu31 := Try.underlying31
 have HR0 := zA hr0
 have HC0 := zA hc0
 clear hr0 hc0
 have HB := zA (Below.refl w.heap.size w)
 have H : ((spec_l7open.f l0).bind fun bt247 => ((spec_l7rd_next.f bt247.1 bt247.2).bind fun bt250 => ((spec_l7heap.f k bt247.1 bt250.2).bind fun bt252 => ((spec_l7roots.f k bt247.1 bt252.2.2.2 bt252.2.2.1).bind fun bt261 => (if (Int.tmod bt250.1 4) = 0 then ((some (([4, 8] : List Int) : List Int)).bind fun y265 => (if bt261.1.length + y265.length < 17592186044416 then ((some (bt261.1 ++ y265 : List Int)).bind fun y268 => (if 2 ≤ (y268.length : Int) then (spec_DrawAlloc.j0 k bt250.1 (y268.take (2 : Int).toNat) (Int.tmod bt250.1 4) bt247.1 bt261.2 bt252.1 bt252.2.1) else (none))) else (none))) else (spec_DrawAlloc.j0 k bt250.1 bt261.1 (Int.tmod bt250.1 4) bt247.1 bt261.2 bt252.1 bt252.2.1)))))) = some (r1, r2, r3, r4) := h
 clear h
 replace H := Option.bind_eq_some_iff.mp H
 obtain ⟨⟨t247, t248⟩, A20, H⟩ := H
 replace H : ((spec_l7rd_next.f t247 t248).bind fun bt250 => ((spec_l7heap.f k t247 bt250.2).bind fun bt252 => ((spec_l7roots.f k t247 bt252.2.2.2 bt252.2.2.1).bind fun bt261 => (if (Int.tmod bt250.1 4) = 0 then ((some (([4, 8] : List Int) : List Int)).bind fun y265 => (if bt261.1.length + y265.length < 17592186044416 then ((some (bt261.1 ++ y265 : List Int)).bind fun y268 => (if 2 ≤ (y268.length : Int) then (spec_DrawAlloc.j0 k bt250.1 (y268.take (2 : Int).toNat) (Int.tmod bt250.1 4) t247 bt261.2 bt252.1 bt252.2.1) else (none))) else (none))) else (spec_DrawAlloc.j0 k bt250.1 bt261.1 (Int.tmod bt250.1 4) t247 bt261.2 bt252.1 bt252.2.1))))) = some (r1, r2, r3, r4) := H
 have A2 := zA A20
 clear A20
 replace H := Option.bind_eq_some_iff.mp H
 obtain ⟨⟨t250, t251⟩, A30, H⟩ := H
 replace H : ((spec_l7heap.f k t247 t251).bind fun bt252 => ((spec_l7roots.f k t247 bt252.2.2.2 bt252.2.2.1).bind fun bt261 => (if (Int.tmod t250 4) = 0 then ((some (([4, 8] : List Int) : List Int)).bind fun y265 => (if bt261.1.length + y265.length < 17592186044416 then ((some (bt261.1 ++ y265 : List Int)).bind fun y268 => (if 2 ≤ (y268.length : Int) then (spec_DrawAlloc.j0 k t250 (y268.take (2 : Int).toNat) (Int.tmod t250 4) t247 bt261.2 bt252.1 bt252.2.1) else (none))) else (none))) else (spec_DrawAlloc.j0 k t250 bt261.1 (Int.tmod t250 4) t247 bt261.2 bt252.1 bt252.2.1)))) = some (r1, r2, r3, r4) := H
 have A3 := zA A30
 clear A30
 replace H := Option.bind_eq_some_iff.mp H
 obtain ⟨⟨t252, t255, t256, t259⟩, A40, H⟩ := H
 replace H : ((spec_l7roots.f k t247 t259 t256).bind fun bt261 => (if (Int.tmod t250 4) = 0 then ((some (([4, 8] : List Int) : List Int)).bind fun y265 => (if bt261.1.length + y265.length < 17592186044416 then ((some (bt261.1 ++ y265 : List Int)).bind fun y268 => (if 2 ≤ (y268.length : Int) then (spec_DrawAlloc.j0 k t250 (y268.take (2 : Int).toNat) (Int.tmod t250 4) t247 bt261.2 t252 t255) else (none))) else (none))) else (spec_DrawAlloc.j0 k t250 bt261.1 (Int.tmod t250 4) t247 bt261.2 t252 t255))) = some (r1, r2, r3, r4) := H
 have A4 := zA A40
 clear A40
 replace H := Option.bind_eq_some_iff.mp H
 obtain ⟨⟨t261, t264⟩, A50, H⟩ := H
 replace H : (if (Int.tmod t250 4) = 0 then ((some (([4, 8] : List Int) : List Int)).bind fun y265 => (if t261.length + y265.length < 17592186044416 then ((some (t261 ++ y265 : List Int)).bind fun y268 => (if 2 ≤ (y268.length : Int) then (spec_DrawAlloc.j0 k t250 (y268.take (2 : Int).toNat) (Int.tmod t250 4) t247 t264 t252 t255) else (none))) else (none))) else (spec_DrawAlloc.j0 k t250 t261 (Int.tmod t250 4) t247 t264 t252 t255)) = some (r1, r2, r3, r4) := H
 have A5 := zA A50
 clear A50
 have HC6 := zA H
 clear H
 go_enter Try.func34, Try.ntmps34
 go_upto_if 26 with (first | ((with_reducible refine gate_dst (N := 2) rfl ?_); refine box_event ?hg (N := 2) ?hd (cs := #[.slice none 0 0, .int .i64 0]) (t := 31) ?hr ?_; (case hd => rfl); (case hg => rfl); (case hr => first | (go_simp; done) | (go_simp; rfl)); intro gb246 hg w7 hbox hb; have n0_ := zA (zX (by repeat (first | (with_reducible first | exact HB.out | apply zE | apply zC | apply zD) | exact HB.out)) hb); have n1_ := zA (hbox); have n2_ := zA ((by rw [hg]; exact (below_size (by repeat (first | (with_reducible first | exact HB.out | apply zE | apply zC | apply zD) | exact HB.out))) : w.heap.size ≤ gb246)); have n3_ := zA ((by rw [hg]; exact (below_size (by repeat (first | (with_reducible first | exact HB.out | apply zE | apply zC | apply zD) | exact HB.out))) : w.heap.size ≤ gb246)); clear HB; have HB := n0_; have BK246 := n1_; have GW246 := n2_; have GE246 := n3_; clear n0_ n1_ n2_ n3_; clear hb hbox hg) | ((with_reducible refine gate_callee (f := 51) rfl ?_); refine goesL_ (some 12) rfl rfl Try.func51 (by kernel_rfl) rfl #[.slice A0 l0.length c0] rfl (by (try simp only [List.map_toArray, List.map_cons, List.map_nil]); first | done | rfl | (simp only [List.length_drop, List.length_take]; rfl)) ?_; (with_reducible refine (spec_l7open.calls _ _ l0 t247 t248 w _ ?side1 ?side2 ?side3 A2.out).mono ?_); (case side1 => repeat (first | (with_reducible first | exact HB.out | apply zE | apply zC | apply zD | refine zB ?_ GE246.out) | exact HB.out)); (case side2 => exact HR0.out); (case side3 => exact HC0.out); rintro e w8 ⟨g249, rfl, hi, hb, hb2⟩; refine ⟨_, rfl, ?_⟩; have n0_ := zA (zN (g := gb246) (o := .cells #[.slice none 0 0, .int .i64 0] 31 (0, 0)) (by (repeat with_reducible first|apply zt|apply zu|apply zv); exact BK246.out) hb2); have n1_ := zA (hb); have n2_ := zA (hi); have n3_ := zA (IsS86.ne_blk hi (zN (g := gb246) (o := .cells #[.slice none 0 0, .int .i64 0] 31 (0, 0)) (by (repeat with_reducible first|apply zt|apply zu|apply zv); exact BK246.out) hb2) (by decide)); have n4_ := zA (Ne.symm (IsS86.ne_blk hi (zN (g := gb246) (o := .cells #[.slice none 0 0, .int .i64 0] 31 (0, 0)) (by (repeat with_reducible first|apply zt|apply zu|apply zv); exact BK246.out) hb2) (by decide))); clear BK246 HB; have BK246 := n0_; have HB := n1_; have HI249 := n2_; have NB249_246 := n3_; have NB246_249 := n4_; clear n0_ n1_ n2_ n3_ n4_; (try clear hb); (try clear hb2); (try clear hk); (try clear hi)) | ((with_reducible refine gate_callee (f := 52) rfl ?_); refine goesL_ (some 14) rfl rfl Try.func52 (by kernel_rfl) rfl #[.pointer (some ⟨g249, 0, none⟩)] rfl (by (try simp only [List.map_toArray, List.map_cons, List.map_nil]); first | done | rfl | (simp only [List.length_drop, List.length_take]; rfl)) ?_; (with_reducible refine (spec_l7rd_next.calls g249 t247 t248 t250 t251 w _ ?side1 ?side2 A3.out).mono ?_); (case side1 => repeat (first | (with_reducible first | exact HI249.out | apply IsS86.alloc | apply IsS86.drewN | apply IsS86.drew | apply IsS86.set_1 | refine IsS86.far ?_ NB249_246.out _) | exact HI249.out)); (case side2 => repeat (first | (with_reducible first | exact HB.out | apply zE | apply zC | apply zD | refine zB ?_ (IsS86.ge HI249.out) | refine zB ?_ GE246.out) | exact HB.out)); rintro e w9 ⟨rfl, hi, hb, hk⟩; refine ⟨_, rfl, ?_⟩; have n0_ := zA (KeepBut.blk hk (g' := gb246) (o := .cells #[.slice none 0 0, .int .i64 0] 31 (0, 0)) (by (repeat with_reducible first|apply zt|apply zu|apply zv); exact BK246.out) NB246_249.out (by simp)); have n1_ := zA (hb); have n2_ := zA (hi); clear BK246 HB HI249; have BK246 := n0_; have HB := n1_; have HI249 := n2_; clear n0_ n1_ n2_; (try clear hb); (try clear hb2); (try clear hk); (try clear hi)) | ((with_reducible refine gate_callee (f := 53) rfl ?_); refine goesL_ (some 17) rfl rfl Try.func53 (by kernel_rfl) rfl #[.pointer (some ⟨g249, 0, none⟩)] rfl (by (try simp only [List.map_toArray, List.map_cons, List.map_nil]); first | done | rfl | (simp only [List.length_drop, List.length_take]; rfl)) ?_; (with_reducible refine (spec_l7heap.calls k g249 t247 t251 t252 t255 t256 t259 w _ ?side1 ?side2 A4.out).mono ?_); (case side1 => repeat (first | (with_reducible first | exact HI249.out | apply IsS86.alloc | apply IsS86.drewN | apply IsS86.drew | apply IsS86.set_1 | refine IsS86.far ?_ NB249_246.out _) | exact HI249.out)); (case side2 => repeat (first | (with_reducible first | exact HB.out | apply zE | apply zC | apply zD | refine zB ?_ (IsS86.ge HI249.out) | refine zB ?_ GE246.out) | exact HB.out)); rintro e w10 ⟨v253, v257, rfl, ho0, ho1, hi, hb, hk⟩; refine ⟨_, rfl, ?_⟩; have n0_ := zA (KeepBut.blk hk (g' := gb246) (o := .cells #[.slice none 0 0, .int .i64 0] 31 (0, 0)) (by (repeat with_reducible first|apply zt|apply zu|apply zv); exact BK246.out) NB246_249.out (by simp)); have n1_ := zA (Kd.R_lower ho0 (below_size (by repeat (first | (with_reducible first | exact HB.out | apply zE | apply zC | apply zD | refine zB ?_ (IsS86.ge HI249.out) | refine zB ?_ GE246.out) | exact HB.out)))); have n2_ := zA (Kd.R_lower ho1 (below_size (by repeat (first | (with_reducible first | exact HB.out | apply zE | apply zC | apply zD | refine zB ?_ (IsS86.ge HI249.out) | refine zB ?_ GE246.out) | exact HB.out)))); have n3_ := zA (hb); have n4_ := zA (hi); clear BK246 HB HI249; have BK246 := n0_; have HO254 := n1_; have HO258 := n2_; have HB := n3_; have HI249 := n4_; clear n0_ n1_ n2_ n3_ n4_; (try clear hb); (try clear hb2); (try clear hk); (try clear hi); (try clear ho0); (try clear ho1)) | ((with_reducible refine gate_dst (N := 7) rfl ?_); refine box_event ?hg (N := 7) ?hd (cs := #[.slice none 0 0, .int .i64 0]) (t := 31) ?hr ?_; (case hd => rfl); (case hg => rfl); (case hr => first | (go_simp; done) | (go_simp; rfl)); intro gb260 hg w11 hbox hb; have n0_ := zA (zP (by (repeat with_reducible first|apply zq|apply zr|apply zs); exact HO254.out) hb); have n1_ := zA (zP (by (repeat with_reducible first|apply zq|apply zr|apply zs); exact HO258.out) hb); have n2_ := zA (zN (g := gb246) (o := .cells #[.slice none 0 0, .int .i64 0] 31 (0, 0)) (by (repeat with_reducible first|apply zt|apply zu|apply zv); exact BK246.out) hb); have n3_ := zA (IsS86.below (by repeat (first | (with_reducible first | exact HI249.out | apply IsS86.alloc | apply IsS86.drewN | apply IsS86.drew | apply IsS86.set_1 | refine IsS86.far ?_ NB249_246.out _) | exact HI249.out)) hb); have n4_ := zA (zX (by repeat (first | (with_reducible first | exact HB.out | apply zE | apply zC | apply zD | refine zB ?_ (IsS86.ge HI249.out) | refine zB ?_ GE246.out) | exact HB.out)) hb); have n5_ := zA (hbox); have n6_ := zA ((by rw [hg]; exact (below_size (by repeat (first | (with_reducible first | exact HB.out | apply zE | apply zC | apply zD | refine zB ?_ (IsS86.ge HI249.out) | refine zB ?_ GE246.out) | exact HB.out))) : w.heap.size ≤ gb260)); have n7_ := zA ((by rw [hg]; exact (below_size (by repeat (first | (with_reducible first | exact HB.out | apply zE | apply zC | apply zD | refine zB ?_ (IsS86.ge HI249.out) | refine zB ?_ GE246.out) | exact HB.out))) : w.heap.size ≤ gb260)); have n8_ := zA ((by rw [hg]; exact Nat.ne_of_lt (blk_lt (g := gb246) (o := .cells #[.slice none 0 0, .int .i64 0] 31 (0, 0)) (by (repeat with_reducible first|apply zt|apply zu|apply zv); exact BK246.out)) : gb246 ≠ gb260)); have n9_ := zA ((by rw [hg]; exact Nat.ne_of_gt (blk_lt (g := gb246) (o := .cells #[.slice none 0 0, .int .i64 0] 31 (0, 0)) (by (repeat with_reducible first|apply zt|apply zu|apply zv); exact BK246.out)) : gb260 ≠ gb246)); have n10_ := zA ((by rw [hg]; exact Nat.ne_of_lt (IsS86.lt (show IsS86 w _ g249 t247 t259 from by repeat (first | (with_reducible first | exact HI249.out | apply IsS86.alloc | apply IsS86.drewN | apply IsS86.drew | apply IsS86.set_1 | refine IsS86.far ?_ NB249_246.out _) | exact HI249.out))) : g249 ≠ gb260)); have n11_ := zA ((by rw [hg]; exact Nat.ne_of_gt (IsS86.lt (show IsS86 w _ g249 t247 t259 from by repeat (first | (with_reducible first | exact HI249.out | apply IsS86.alloc | apply IsS86.drewN | apply IsS86.drew | apply IsS86.set_1 | refine IsS86.far ?_ NB249_246.out _) | exact HI249.out))) : gb260 ≠ g249)); clear HO254 HO258 BK246 HI249 HB; have HO254 := n0_; have HO258 := n1_; have BK246 := n2_; have HI249 := n3_; have HB := n4_; have BK260 := n5_; have GW260 := n6_; have GE260 := n7_; have NB246_260 := n8_; have NB260_246 := n9_; have NB249_260 := n10_; have NB260_249 := n11_; clear n0_ n1_ n2_ n3_ n4_ n5_ n6_ n7_ n8_ n9_ n10_ n11_; clear hb hbox hg; obtain ⟨Ao12, co12, eo12⟩ := Kd.R_slice HO254.out; subst eo12; have hnb13 := NB260_246.out; have hnc13 := NB246_260.out; have hnb14 := NB260_249.out; have hnc14 := NB249_260.out; have hcz15_0 : w11.cell? ⟨gb260, 0, none⟩ = some (.slice none 0 0) := (zZ BK260.out 0).trans rfl; have hcz15_1 : w11.cell? ⟨gb260, 1, none⟩ = some (.int .i64 0) := (zZ BK260.out 1).trans rfl; have hfz15_0 := zY BK260.out 0; have hfz15_1 := zY BK260.out 1; obtain ⟨Ao16, co16, eo16⟩ := Kd.R_slice HO258.out; subst eo16) | ((with_reducible refine gate_callee (f := 54) rfl ?_); refine goesL_ (some 22) rfl rfl Try.func54 (by kernel_rfl) rfl #[.pointer (some ⟨g249, 0, none⟩), .slice Ao16 t256.length co16] rfl (by (try simp only [List.map_toArray, List.map_cons, List.map_nil]); first | done | rfl | (simp only [List.length_drop, List.length_take]; rfl)) ?_; (with_reducible refine (spec_l7roots.calls k g249 t247 t259 _ _ t256 t261 t264 w _ ?side1 ?side2 ?side3 ?side4 ?side5 A5.out).mono ?_); (case side1 => repeat (first | (with_reducible first | exact HI249.out | apply IsS86.alloc | apply IsS86.drewN | apply IsS86.drew | apply IsS86.set_1 | refine IsS86.far ?_ NB249_246.out _ | refine IsS86.far ?_ NB249_260.out _) | exact HI249.out)); (case side2 => repeat (first | (with_reducible first | exact HB.out | apply zE | apply zC | apply zD | refine zB ?_ (IsS86.ge HI249.out) | refine zB ?_ GE246.out | refine zB ?_ GE260.out) | exact HB.out)); (case side3 => refine (zO (e := 3) (base := w.heap.size) (ok := fun k_ => some k_ ≠ (.slice Ao12 t252.length co12 : Value).ownBlock) (n := t256.length) (c := co16) ?_).2.2; exact (by (repeat with_reducible first|apply zq|apply zr|apply zs); exact (zI (zJ (p := ⟨gb260, 1, none⟩) (zJ (p := ⟨gb260, 0, none⟩) (zL HO258.out BK260.out (by decide)) (fun _ hk => hk.2) (.slice Ao12 t252.length co12)) (fun _ hk => hk.2) (.int .i64 t255)) (fun _ h_ => h_.1)))); (case side4 => exact (zO HO258.out).2.1); (case side5 => exact far_slice (IsS86.own_ne HI249.out HO258.out (by decide))); rintro e w17 ⟨v262, rfl, ho0, hi, hb, hk⟩; refine ⟨_, rfl, ?_⟩; have n0_ := zA (KeepBut.blk hk (g' := gb246) (o := .cells #[.slice none 0 0, .int .i64 0] 31 (0, 0)) (by (repeat with_reducible first|apply zt|apply zu|apply zv); refine blk_far ?_ NB246_260.out _; (repeat with_reducible first|apply zt|apply zu|apply zv); refine blk_far ?_ NB246_260.out _; (repeat with_reducible first|apply zt|apply zu|apply zv); exact BK246.out) NB246_249.out (by simp)); have n1_ := zA (zI (Kd.R_told (Kd.R_oldK (IsS86.apart (show IsS86 w _ g249 t247 t259 from by repeat (first | (with_reducible first | exact HI249.out | apply IsS86.alloc | apply IsS86.drewN | apply IsS86.drew | apply IsS86.set_1 | refine IsS86.far ?_ NB249_246.out _ | refine IsS86.far ?_ NB249_260.out _) | exact HI249.out)) (by (repeat with_reducible first|apply zq|apply zr|apply zs); exact (zI (zJ (p := ⟨gb260, 1, none⟩) (zJ (p := ⟨gb260, 0, none⟩) (zL HO254.out BK260.out (by decide)) (fun _ hk => hk.2) (.slice Ao12 t252.length co12)) (fun _ hk => hk.2) (.int .i64 t255)) (fun _ h_ => h_.1))) (by decide)) hk) (zQ ho0)) (fun _ h_ => h_.1)); have n2_ := zA (zI (Kd.R_told (Kd.R_oldK (IsS86.apart (show IsS86 w _ g249 t247 t259 from by repeat (first | (with_reducible first | exact HI249.out | apply IsS86.alloc | apply IsS86.drewN | apply IsS86.drew | apply IsS86.set_1 | refine IsS86.far ?_ NB249_246.out _ | refine IsS86.far ?_ NB249_260.out _) | exact HI249.out)) (by (repeat with_reducible first|apply zq|apply zr|apply zs); exact (zI (zJ (p := ⟨gb260, 1, none⟩) (zJ (p := ⟨gb260, 0, none⟩) (zL HO258.out BK260.out (by decide)) (fun _ hk => hk.2) (.slice Ao12 t252.length co12)) (fun _ hk => hk.2) (.int .i64 t255)) (fun _ h_ => h_.1))) (by decide)) hk) (zQ ho0)) (fun _ h_ => h_.1)); have n3_ := zA (KeepBut.blk hk (g' := gb260) (o := .cells #[.slice Ao12 t252.length co12, .int .i64 t255] 31 (0, 0)) (by (repeat with_reducible first|apply zt|apply zu|apply zv); refine blk_put (cs := #[.slice Ao12 t252.length co12, .int .i64 0]) ?_ 1 _ rfl; (repeat with_reducible first|apply zt|apply zu|apply zv); refine blk_put (cs := #[.slice none 0 0, .int .i64 0]) ?_ 0 _ rfl; (repeat with_reducible first|apply zt|apply zu|apply zv); exact BK260.out) NB260_249.out (by simp)); have n4_ := zA (Kd.R_lower (zR (zR ho0 (Kd.R_lt (by (repeat with_reducible first|apply zq|apply zr|apply zs); exact (zI (zJ (p := ⟨gb260, 1, none⟩) (zJ (p := ⟨gb260, 0, none⟩) (zL HO254.out BK260.out (by decide)) (fun _ hk => hk.2) (.slice Ao12 t252.length co12)) (fun _ hk => hk.2) (.int .i64 t255)) (fun _ h_ => h_.1))))) (Kd.R_lt (by (repeat with_reducible first|apply zq|apply zr|apply zs); exact (zI (zJ (p := ⟨gb260, 1, none⟩) (zJ (p := ⟨gb260, 0, none⟩) (zL HO258.out BK260.out (by decide)) (fun _ hk => hk.2) (.slice Ao12 t252.length co12)) (fun _ hk => hk.2) (.int .i64 t255)) (fun _ h_ => h_.1))))) (below_size (by repeat (first | (with_reducible first | exact HB.out | apply zE | apply zC | apply zD | refine zB ?_ (IsS86.ge HI249.out) | refine zB ?_ GE246.out | refine zB ?_ GE260.out) | exact HB.out)))); have n5_ := zA (hb); have n6_ := zA (hi); clear BK246 HO254 HO258 BK260 HB HI249; have BK246 := n0_; have HO254 := n1_; have HO258 := n2_; have BK260 := n3_; have HO263 := n4_; have HB := n5_; have HI249 := n6_; clear n0_ n1_ n2_ n3_ n4_ n5_ n6_; (try clear hb); (try clear hb2); (try clear hk); (try clear hi); (try clear ho0)))
 (try simp only [Act.put, List.setIfInBounds_toArray, List.set_cons_zero, List.set_cons_succ])
 go_cut [9] (fun v9 wc => ∃ (kq : Nat) (x9_5 : List Int), Aside0 (spec_DrawAlloc.j0 kq t250 x9_5 (Int.tmod t250 4) t247 t264 t252 t255 = some (r1, r2, r3, r4)) ∧ Aside0 (kq ≤ k) ∧ Aside0 (Kd.R (Kd.int .i64) 3 wc w.heap.size (fun k_ => some k_ ≠ ((.slice Ao12 t252.length co12) : Value).ownBlock) v9 x9_5) ∧ Aside0 (Kd.R (Kd.int .i64) 3 wc w.heap.size (fun k_ => some k_ ≠ (v9 : Value).ownBlock) (.slice Ao12 t252.length co12) t252) ∧ Aside0 (wc.heap[gb246]? = some (.cells #[(.slice none 0 0), .int .i64 0] 31 (0, 0))) ∧ Aside0 (wc.heap[gb260]? = some (.cells #[(.slice Ao12 t252.length co12), .int .i64 t255] 31 (0, 0))) ∧ Aside0 (IsS86 w wc g249 t247 t264) ∧ Aside0 (Below w.heap.size w wc))
 case first =>
  have H := HC6.out
  clear HC6
  by_cases c18 : (Int.tmod t250 4) = 0
  ·rw [if_pos c18] at H
   have c18b0 : ((Int.tmod t250 4) == 0) = true := beq_iff_eq.mpr c18
   have c18b1 : ((Int.tmod t250 4) != 0) = false := bne_eq_false_iff_eq.mpr c18
   clear c18
   (first | rw [c18b0] | (simp only [i64_w, i32_w]; rw [c18b0]) | skip)
   obtain ⟨y265, hy265⟩ : ∃ y_ : List Int, y_ = (([4, 8] : List Int)) := ⟨_, rfl⟩
   replace H : (if t261.length + y265.length < 17592186044416 then ((some (t261 ++ y265 : List Int)).bind fun y268 => (if 2 ≤ (y268.length : Int) then (spec_DrawAlloc.j0 k t250 (y268.take (2 : Int).toNat) (Int.tmod t250 4) t247 t264 t252 t255) else (none))) else (none)) = some (r1, r2, r3, r4) := by first | (rw [hy265]; with_reducible exact H) | (have H2_ := (Option.bind_some _ _).symm.trans H; rw [hy265]; with_reducible exact H2_) | (have H2_ := (Option.bind_some _ _).symm.trans H; with_reducible exact H2_) | with_reducible exact H | (rw [hy265]; exact H) | exact H
   have Ny265 := zA hy265
   clear hy265
   by_cases c19 : t261.length + y265.length < 17592186044416
   ·rw [if_pos c19] at H
    have LMc19 := zA c19
    clear c19
    obtain ⟨y268, hy268⟩ : ∃ y_ : List Int, y_ = (t261 ++ y265) := ⟨_, rfl⟩
    replace H : (if 2 ≤ (y268.length : Int) then (spec_DrawAlloc.j0 k t250 (y268.take (2 : Int).toNat) (Int.tmod t250 4) t247 t264 t252 t255) else (none)) = some (r1, r2, r3, r4) := by first | (rw [hy268]; with_reducible exact H) | (have H2_ := (Option.bind_some _ _).symm.trans H; rw [hy268]; with_reducible exact H2_) | (have H2_ := (Option.bind_some _ _).symm.trans H; with_reducible exact H2_) | with_reducible exact H | (rw [hy268]; exact H) | exact H
    have Ny268 := zA hy268
    clear hy268
    by_cases c20 : 2 ≤ (y268.length : Int)
    ·rw [if_pos c20] at H
     have c20b0 := eq_true c20
     have c20b1 : decide (2 ≤ (y268.length : Int)) = true := zG c20
     clear c20
     obtain ⟨y271, hy271⟩ : ∃ y_ : List Int, y_ = (y268.take (2 : Int).toNat) := ⟨_, rfl⟩
     replace H : (spec_DrawAlloc.j0 k t250 y271 (Int.tmod t250 4) t247 t264 t252 t255) = some (r1, r2, r3, r4) := by first | (rw [hy271]; with_reducible exact H) | (have H2_ := (Option.bind_some _ _).symm.trans H; rw [hy271]; with_reducible exact H2_) | (have H2_ := (Option.bind_some _ _).symm.trans H; with_reducible exact H2_) | with_reducible exact H | (rw [hy271]; exact H) | exact H
     have Ny271 := zA hy271
     clear hy271
     have H' := zA H
     clear H
     go_wp2_with (first | ((with_reducible refine gate_dst (N := 28) rfl ?_); refine Kd.R_lit (Kd.int .i64) _ 3 ?hg (N := 28) ?hd (xs := ([4, 8] : List Int)) (inner := [.int .i64 4, .int .i64 8]) (ok := fun _ => True) (okp := fun _ => True) ?hr ?hp (fun _ hk => hk) trivial (Below.refl _ _) (Nat.le_refl _) (by simp) ?_; (case hd => rfl); (case hg => rfl); (case hr => first | (go_simp; done) | (go_simp; rfl)); (case hp => exact (Reps.one (show Kd.M (Kd.int .i64) _ _ _ 4 [.int .i64 4] from rfl) (Reps.one (show Kd.M (Kd.int .i64) _ _ _ 8 [.int .i64 8] from rfl) (Reps.none _ _)))); intro v266 w21 ho22 hb hg_ hnew_; clear hg_ hnew_; (first | rw [← Ny265.out] at ho22 | (simp only [Int.reduceToNat] at ho22; rw [← Ny265.out] at ho22)); have n0_ := zA (zM (by (repeat with_reducible first|apply zq|apply zr|apply zs); exact HO254.out) (zQ ho22) hb); have n1_ := zA (zM (by (repeat with_reducible first|apply zq|apply zr|apply zs); exact HO258.out) (zQ ho22) hb); have n2_ := zA (zM (by (repeat with_reducible first|apply zq|apply zr|apply zs); exact HO263.out) (zQ ho22) hb); have n3_ := zA (Kd.R_lower (zR (zR (zR ho22 (Kd.R_lt (by (repeat with_reducible first|apply zq|apply zr|apply zs); exact HO254.out))) (Kd.R_lt (by (repeat with_reducible first|apply zq|apply zr|apply zs); exact HO258.out))) (Kd.R_lt (by (repeat with_reducible first|apply zq|apply zr|apply zs); exact HO263.out))) (below_size (by repeat (first | (with_reducible first | exact HB.out | apply zE | apply zC | apply zD | refine zB ?_ (IsS86.ge HI249.out) | refine zB ?_ GE246.out | refine zB ?_ GE260.out) | exact HB.out)))); have n4_ := zA (zN (g := gb246) (o := .cells #[.slice none 0 0, .int .i64 0] 31 (0, 0)) (by (repeat with_reducible first|apply zt|apply zu|apply zv); exact BK246.out) hb); have n5_ := zA (IsS86.below (by repeat (first | (with_reducible first | exact HI249.out | apply IsS86.alloc | apply IsS86.drewN | apply IsS86.drew | apply IsS86.set_1 | refine IsS86.far ?_ NB249_246.out _ | refine IsS86.far ?_ NB249_260.out _) | exact HI249.out)) hb); have n6_ := zA (zN (g := gb260) (o := .cells #[.slice Ao12 t252.length co12, .int .i64 t255] 31 (0, 0)) (by (repeat with_reducible first|apply zt|apply zu|apply zv); exact BK260.out) hb); have n7_ := zA (zX (by repeat (first | (with_reducible first | exact HB.out | apply zE | apply zC | apply zD | refine zB ?_ (IsS86.ge HI249.out) | refine zB ?_ GE246.out | refine zB ?_ GE260.out) | exact HB.out)) hb); clear HO254 HO258 HO263 BK246 HI249 BK260 HB; have HO254 := n0_; have HO258 := n1_; have HO263 := n2_; have HO267 := n3_; have BK246 := n4_; have HI249 := n5_; have BK260 := n6_; have HB := n7_; clear n0_ n1_ n2_ n3_ n4_ n5_ n6_ n7_; clear hb ho22; obtain ⟨Ao24, co24, eo24⟩ := Kd.R_slice HO267.out; subst eo24) | ((with_reducible refine gate_builtin (b := .append) (xs := #[.tmp 27, .tmp 28]) rfl ?_); at_builtin; refine Kd.R_append_rows (Kd.int .i64) (w0 := w) w.heap.size rfl (.tmp 27) (.tmp 28) 29 3 (.int .i64 0) 8 rfl Try.underlying29 info3 rfl (by decide) (by omega) v262 t261 y265 _ _ _ (fun k_ => some k_ ≠ (.slice Ao12 t252.length co12 : Value).ownBlock ∧ some k_ ≠ (.slice Ao16 t256.length co16 : Value).ownBlock ∧ some k_ ≠ (.slice Ao24 y265.length co24 : Value).ownBlock) (fun _ => False) rfl rfl ?aO ?aR (fun _ _ h => h) (fun _ h => h.elim) ?aF ?aB ?aS ?aL ?_; (case aR => repeat (first | exact (zO HO267.out).2.2 | (with_reducible refine zc ?_ _) | (with_reducible refine zd ?_ _) | (with_reducible refine ze ?_))); (case aB => exact (by repeat (first | (with_reducible first | exact HB.out | apply zE | apply zC | apply zD | refine zB ?_ (IsS86.ge HI249.out) | refine zB ?_ GE246.out | refine zB ?_ GE260.out) | exact HB.out))); (case aF => exact (fun k_ hk => ⟨Kd.fresh' (Kd.R_lt (by (repeat with_reducible first|apply zq|apply zr|apply zs); exact HO254.out)) k_ hk, za (Kd.R_lt (by (repeat with_reducible first|apply zq|apply zr|apply zs); exact HO258.out)) k_ hk, za (Kd.R_lt (by (repeat with_reducible first|apply zq|apply zr|apply zs); exact HO267.out)) k_ hk⟩)); (case aO => exact (by (repeat with_reducible first|apply zq|apply zr|apply zs); exact zI HO263.out (fun _ hk => ⟨hk.1.1.2, ⟨hk.1.2, hk.2⟩⟩))); (case aS => exact (below_size (by repeat (first | (with_reducible first | exact HB.out | apply zE | apply zC | apply zD | refine zB ?_ (IsS86.ge HI249.out) | refine zB ?_ GE246.out | refine zB ?_ GE260.out) | exact HB.out)))); (case aL => have := LMc19.out; omega); intro v269 w23 ho hb hg hat; rw [← Ny268.out] at ho; have n0_ := zA (blk_grown (g := gb246) (o := .cells #[.slice none 0 0, .int .i64 0] 31 (0, 0)) (by (repeat with_reducible first|apply zt|apply zu|apply zv); exact BK246.out) hg (Kd.R_ne HO263.out BK246.out (by decide))); have n1_ := zA (IsS86.grown (by repeat (first | (with_reducible first | exact HI249.out | apply IsS86.alloc | apply IsS86.drewN | apply IsS86.drew | apply IsS86.set_1 | refine IsS86.far ?_ NB249_246.out _ | refine IsS86.far ?_ NB249_260.out _) | exact HI249.out)) hg (IsS86.own_ne HI249.out HO263.out (by decide))); have n2_ := zA (zb (ok := (fun k_ => some k_ ≠ (.slice Ao16 t256.length co16 : Value).ownBlock ∧ some k_ ≠ (.slice Ao24 y265.length co24 : Value).ownBlock)) (by (repeat with_reducible first|apply zq|apply zr|apply zs); exact zI HO254.out (fun _ hk => ⟨⟨hk.1.1, hk.2⟩, hk.1.2⟩)) hg hat); have n3_ := zA (zb (ok := (fun k_ => some k_ ≠ (.slice Ao12 t252.length co12 : Value).ownBlock ∧ some k_ ≠ (.slice Ao24 y265.length co24 : Value).ownBlock)) (by (repeat with_reducible first|apply zq|apply zr|apply zs); exact zI HO258.out (fun _ hk => ⟨⟨hk.1.1, hk.2⟩, hk.1.2⟩)) hg hat); have n4_ := zA (blk_grown (g := gb260) (o := .cells #[.slice Ao12 t252.length co12, .int .i64 t255] 31 (0, 0)) (by (repeat with_reducible first|apply zt|apply zu|apply zv); exact BK260.out) hg (Kd.R_ne HO263.out BK260.out (by decide))); have n5_ := zA (zb (ok := (fun k_ => some k_ ≠ (.slice Ao12 t252.length co12 : Value).ownBlock ∧ some k_ ≠ (.slice Ao16 t256.length co16 : Value).ownBlock)) (by (repeat with_reducible first|apply zq|apply zr|apply zs); exact zI HO267.out (fun _ hk => ⟨⟨hk.1.1.2, hk.1.2⟩, hk.2⟩)) hg hat); have n6_ := zA (hb); have n7_ := zA (ho); clear BK246 HI249 HO254 HO258 BK260 HO267 HB HO263; have BK246 := n0_; have HI249 := n1_; have HO254 := n2_; have HO258 := n3_; have BK260 := n4_; have HO267 := n5_; have HB := n6_; have HO270 := n7_; clear n0_ n1_ n2_ n3_ n4_ n5_ n6_ n7_; clear ho hb hg hat; obtain ⟨Ao25, co25, eo25⟩ := Kd.R_slice HO270.out; subst eo25; have q26 : (2 : Int) ≤ ((y268.length : Int) : Int) := zF (by first | (with_reducible assumption) | assumption); obtain ⟨i026, hi026, _, hsz26, _⟩ := info_parts info3; have hcut26 := cut_to (P := Try.prog) 29 3 .i64 Try.underlying29 hi026 Ao25 y268.length co25 2 (by omega) q26 (zO HO270.out).2.1; have hr26 := Kd.R_take (m := (2 : Int).toNat) HO270.out (by have e_ := (zO HO270.out).1; omega); have hy26 : y271.length = (2 : Int).toNat := (by have e_ := (zO HO270.out).1; rw [Ny271.out, List.length_take]; omega); rw [← Ny271.out] at hr26; rw [← hy26] at hr26 hcut26; clear hy26 hi026 hsz26 HO270; have HO273 := zA hr26; clear hr26; replace q26 := eq_true q26))
     go_meet
     case rel => exact ⟨_, (y271), H', ⟨by first | omega | exact Nat.le_refl _⟩, ⟨by (repeat with_reducible first|apply zq|apply zr|apply zs); exact zI HO273.out (fun _ hk => hk.1)⟩, ⟨by (repeat with_reducible first|apply zq|apply zr|apply zs); exact zI HO254.out (fun _ hk e_ => hk.2 (e_.trans (by cases Ao25 <;> rfl)))⟩, ⟨by (repeat with_reducible first|apply zt|apply zu|apply zv); exact BK246.out⟩, ⟨by (repeat with_reducible first|apply zt|apply zu|apply zv); exact BK260.out⟩, ⟨by repeat (first | (with_reducible first | exact HI249.out | apply IsS86.alloc | apply IsS86.drewN | apply IsS86.drew | apply IsS86.set_1 | refine IsS86.far ?_ NB249_246.out _ | refine IsS86.far ?_ NB249_260.out _) | exact HI249.out)⟩, ⟨by repeat (first | (with_reducible first | exact HB.out | apply zE | apply zC | apply zD | refine zB ?_ (IsS86.ge HI249.out) | refine zB ?_ GE246.out | refine zB ?_ GE260.out) | exact HB.out)⟩⟩
    ·rw [if_neg c20] at H
     exact absurd H (by simp)
   ·rw [if_neg c19] at H
    exact absurd H (by simp)
  ·rw [if_neg c18] at H
   have c18b0 : ((Int.tmod t250 4) == 0) = false := beq_eq_false_iff_ne.mpr c18
   have c18b1 : ((Int.tmod t250 4) != 0) = true := bne_iff_ne.mpr c18
   (first | rw [c18b0] | (simp only [i64_w, i32_w]; rw [c18b0]) | skip)
   have H' := zA H
   clear H
   go_wp2
   go_meet
   case rel => exact ⟨_, (t261), H', ⟨by first | omega | exact Nat.le_refl _⟩, ⟨by (repeat with_reducible first|apply zq|apply zr|apply zs); exact zI HO263.out (fun _ hk => hk.1.2)⟩, ⟨by (repeat with_reducible first|apply zq|apply zr|apply zs); exact zI HO254.out (fun _ hk => hk.2)⟩, ⟨by (repeat with_reducible first|apply zt|apply zu|apply zv); exact BK246.out⟩, ⟨by (repeat with_reducible first|apply zt|apply zu|apply zv); exact BK260.out⟩, ⟨by repeat (first | (with_reducible first | exact HI249.out | apply IsS86.alloc | apply IsS86.drewN | apply IsS86.drew | apply IsS86.set_1 | refine IsS86.far ?_ NB249_246.out _ | refine IsS86.far ?_ NB249_260.out _) | exact HI249.out)⟩, ⟨by repeat (first | (with_reducible first | exact HB.out | apply zE | apply zC | apply zD | refine zB ?_ (IsS86.ge HI249.out) | refine zB ?_ GE246.out | refine zB ?_ GE260.out) | exact HB.out)⟩⟩
 case rest =>
  clear HC6
  try clear c1
  try clear c2
  try clear p2
  try clear q2
  try clear c3
  try clear c5
  try clear c13
  try clear c14
  try clear c18
  try clear c18b0
  try clear c18b1
  try clear c19
  try clear c20
  try clear c20b0
  try clear c20b1
  try clear q26
  try clear hcz15_0
  try clear hcz15_1
  try clear hfz15_0
  try clear hfz15_1
  try clear q26
  obtain ⟨kq, x9_5, HA, HJ5, HO_9, HO_261000, BK246, BK260, HI249, HB⟩ := hcut
  cases kq with
  | zero => exact absurd HA.out (by simp [spec_DrawAlloc.j0])
  | succ kj5 =>
   have H := HA.out
   clear HA
   simp only [spec_DrawAlloc.j0] at H
   have HC27 := zA H
   clear H
   go_upto_if 32 with (fail)
   go_cut [9] (fun v9 wc => ∃ (kq : Nat) (x9_26 : List Int), Aside0 (spec_DrawAlloc.j1 kq t250 x9_26 (Int.tmod t250 4) t247 t264 t252 t255 = some (r1, r2, r3, r4)) ∧ Aside0 (kq ≤ kj5) ∧ Aside0 (Kd.R (Kd.int .i64) 3 wc w.heap.size (fun k_ => some k_ ≠ ((.slice Ao12 t252.length co12) : Value).ownBlock) v9 x9_26) ∧ Aside0 (Kd.R (Kd.int .i64) 3 wc w.heap.size (fun k_ => some k_ ≠ (v9 : Value).ownBlock) (.slice Ao12 t252.length co12) t252) ∧ Aside0 (wc.heap[gb246]? = some (.cells #[(.slice none 0 0), .int .i64 0] 31 (0, 0))) ∧ Aside0 (wc.heap[gb260]? = some (.cells #[(.slice Ao12 t252.length co12), .int .i64 t255] 31 (0, 0))) ∧ Aside0 (IsS86 w wc g249 t247 t264) ∧ Aside0 (Below w.heap.size w wc))
   case first =>
    have H := HC27.out
    clear HC27
    by_cases c28 : (Int.tmod t250 4) = 3
    ·rw [if_pos c28] at H
     have c28b0 : ((Int.tmod t250 4) == 3) = true := beq_iff_eq.mpr c28
     have c28b1 : ((Int.tmod t250 4) != 3) = false := bne_eq_false_iff_eq.mpr c28
     clear c28
     (first | rw [c28b0] | (simp only [i64_w, i32_w]; rw [c28b0]) | skip)
     by_cases c29 : x9_5.length < 17592186044416
     ·rw [if_pos c29] at H
      have LMc29 := zA c29
      clear c29
      obtain ⟨y274, hy274⟩ : ∃ y_ : List Int, y_ = (x9_5 ++ [4]) := ⟨_, rfl⟩
      replace H : (if 1 ≤ (y274.length : Int) then (spec_DrawAlloc.j1 kj5 t250 (y274.take (1 : Int).toNat) (Int.tmod t250 4) t247 t264 t252 t255) else (none)) = some (r1, r2, r3, r4) := by first | (rw [hy274]; with_reducible exact H) | (have H2_ := (Option.bind_some _ _).symm.trans H; rw [hy274]; with_reducible exact H2_) | (have H2_ := (Option.bind_some _ _).symm.trans H; with_reducible exact H2_) | with_reducible exact H | (rw [hy274]; exact H) | exact H
      have Ny274 := zA hy274
      clear hy274
      by_cases c30 : 1 ≤ (y274.length : Int)
      ·rw [if_pos c30] at H
       have c30b0 := eq_true c30
       have c30b1 : decide (1 ≤ (y274.length : Int)) = true := zG c30
       clear c30
       obtain ⟨y277, hy277⟩ : ∃ y_ : List Int, y_ = (y274.take (1 : Int).toNat) := ⟨_, rfl⟩
       replace H : (spec_DrawAlloc.j1 kj5 t250 y277 (Int.tmod t250 4) t247 t264 t252 t255) = some (r1, r2, r3, r4) := by first | (rw [hy277]; with_reducible exact H) | (have H2_ := (Option.bind_some _ _).symm.trans H; rw [hy277]; with_reducible exact H2_) | (have H2_ := (Option.bind_some _ _).symm.trans H; with_reducible exact H2_) | with_reducible exact H | (rw [hy277]; exact H) | exact H
       have Ny277 := zA hy277
       clear hy277
       have H' := zA H
       clear H
       go_wp2_with (first | ((with_reducible refine gate_builtin (b := .append) (xs := #[.tmp 33, .tmp 34]) rfl ?_); at_builtin; refine Kd.R_append (Kd.int .i64) (w0 := w) w.heap.size rfl (.tmp 33) (.tmp 34) 29 3 (.int .i64 0) 8 rfl Try.underlying29 info3 rfl (by decide) (by omega) u9 x9_5 4 [.int .i64 4] (fun k_ => some k_ ≠ (.slice Ao12 t252.length co12 : Value).ownBlock) (fun _ => False) rfl rfl ?aP (fun _ hk => hk.elim) ?aF ?aO ?aB ?aS ?aL ?_; (case aP => exact rfl); (case aB => exact (by repeat (first | (with_reducible first | exact HB.out | apply zE | apply zC | apply zD | refine zB ?_ (IsS86.ge HI249.out) | refine zB ?_ GE246.out | refine zB ?_ GE260.out) | exact HB.out))); (case aF => exact (fun k_ hk => za (Kd.R_lt (by (repeat with_reducible first|apply zq|apply zr|apply zs); exact HO_261000.out)) k_ hk)); (case aO => exact (by (repeat with_reducible first|apply zq|apply zr|apply zs); exact HO_9.out)); (case aS => exact (below_size (by repeat (first | (with_reducible first | exact HB.out | apply zE | apply zC | apply zD | refine zB ?_ (IsS86.ge HI249.out) | refine zB ?_ GE246.out | refine zB ?_ GE260.out) | exact HB.out)))); (case aL => have := LMc29.out; omega); intro v275 w31 ho hb hg hat; rw [← Ny274.out] at ho; have n0_ := zA (zb (ok := (fun _ => True)) (by (repeat with_reducible first|apply zq|apply zr|apply zs); exact zI HO_261000.out (fun _ hk => ⟨trivial, hk⟩)) hg hat); have n1_ := zA (blk_grown (g := gb246) (o := .cells #[.slice none 0 0, .int .i64 0] 31 (0, 0)) (by (repeat with_reducible first|apply zt|apply zu|apply zv); exact BK246.out) hg (Kd.R_ne HO_9.out BK246.out (by decide))); have n2_ := zA (blk_grown (g := gb260) (o := .cells #[.slice Ao12 t252.length co12, .int .i64 t255] 31 (0, 0)) (by (repeat with_reducible first|apply zt|apply zu|apply zv); exact BK260.out) hg (Kd.R_ne HO_9.out BK260.out (by decide))); have n3_ := zA (IsS86.grown (by repeat (first | (with_reducible first | exact HI249.out | apply IsS86.alloc | apply IsS86.drewN | apply IsS86.drew | apply IsS86.set_1 | refine IsS86.far ?_ NB249_246.out _ | refine IsS86.far ?_ NB249_260.out _) | exact HI249.out)) hg (IsS86.own_ne HI249.out HO_9.out (by decide))); have n4_ := zA (hb); have n5_ := zA (ho); clear HO_261000 BK246 BK260 HI249 HB HO_9; have HO_261000 := n0_; have BK246 := n1_; have BK260 := n2_; have HI249 := n3_; have HB := n4_; have HO276 := n5_; clear n0_ n1_ n2_ n3_ n4_ n5_; clear ho hb hg hat; obtain ⟨Ao32, co32, eo32⟩ := Kd.R_slice HO276.out; subst eo32; have q33 : (1 : Int) ≤ ((y274.length : Int) : Int) := zF (by first | (with_reducible assumption) | assumption); obtain ⟨i033, hi033, _, hsz33, _⟩ := info_parts info3; have hcut33 := cut_to (P := Try.prog) 29 3 .i64 Try.underlying29 hi033 Ao32 y274.length co32 1 (by omega) q33 (zO HO276.out).2.1; have hr33 := Kd.R_take (m := (1 : Int).toNat) HO276.out (by have e_ := (zO HO276.out).1; omega); have hy33 : y277.length = (1 : Int).toNat := (by have e_ := (zO HO276.out).1; rw [Ny277.out, List.length_take]; omega); rw [← Ny277.out] at hr33; rw [← hy33] at hr33 hcut33; clear hy33 hi033 hsz33 HO276; have HO279 := zA hr33; clear hr33; replace q33 := eq_true q33))
       go_meet
       case rel => exact ⟨_, (y277), H', ⟨by have := HJ5.out; first | omega | exact Nat.le_refl _⟩, ⟨by (repeat with_reducible first|apply zq|apply zr|apply zs); exact HO279.out⟩, ⟨by (repeat with_reducible first|apply zq|apply zr|apply zs); exact zI HO_261000.out (fun _ hk e_ => hk.2 (e_.trans (by cases Ao32 <;> rfl)))⟩, ⟨by (repeat with_reducible first|apply zt|apply zu|apply zv); exact BK246.out⟩, ⟨by (repeat with_reducible first|apply zt|apply zu|apply zv); exact BK260.out⟩, ⟨by repeat (first | (with_reducible first | exact HI249.out | apply IsS86.alloc | apply IsS86.drewN | apply IsS86.drew | apply IsS86.set_1 | refine IsS86.far ?_ NB249_246.out _ | refine IsS86.far ?_ NB249_260.out _) | exact HI249.out)⟩, ⟨by repeat (first | (with_reducible first | exact HB.out | apply zE | apply zC | apply zD | refine zB ?_ (IsS86.ge HI249.out) | refine zB ?_ GE246.out | refine zB ?_ GE260.out) | exact HB.out)⟩⟩
      ·rw [if_neg c30] at H
       exact absurd H (by simp)
     ·rw [if_neg c29] at H
      exact absurd H (by simp)
    ·rw [if_neg c28] at H
     have c28b0 : ((Int.tmod t250 4) == 3) = false := beq_eq_false_iff_ne.mpr c28
     have c28b1 : ((Int.tmod t250 4) != 3) = true := bne_iff_ne.mpr c28
     (first | rw [c28b0] | (simp only [i64_w, i32_w]; rw [c28b0]) | skip)
     have H' := zA H
     clear H
     go_wp2
     go_meet
     case rel => exact ⟨_, (x9_5), H', ⟨by have := HJ5.out; first | omega | exact Nat.le_refl _⟩, ⟨by (repeat with_reducible first|apply zq|apply zr|apply zs); exact HO_9.out⟩, ⟨by (repeat with_reducible first|apply zq|apply zr|apply zs); exact HO_261000.out⟩, ⟨by (repeat with_reducible first|apply zt|apply zu|apply zv); exact BK246.out⟩, ⟨by (repeat with_reducible first|apply zt|apply zu|apply zv); exact BK260.out⟩, ⟨by repeat (first | (with_reducible first | exact HI249.out | apply IsS86.alloc | apply IsS86.drewN | apply IsS86.drew | apply IsS86.set_1 | refine IsS86.far ?_ NB249_246.out _ | refine IsS86.far ?_ NB249_260.out _) | exact HI249.out)⟩, ⟨by repeat (first | (with_reducible first | exact HB.out | apply zE | apply zC | apply zD | refine zB ?_ (IsS86.ge HI249.out) | refine zB ?_ GE246.out | refine zB ?_ GE260.out) | exact HB.out)⟩⟩
   case rest =>
    clear HC27
    try clear c1
    try clear c2
    try clear p2
    try clear q2
    try clear c3
    try clear q3
    try clear c5
    try clear c13
    try clear c14
    try clear c18
    try clear c18b0
    try clear c18b1
    try clear c19
    try clear c20
    try clear c20b0
    try clear c20b1
    try clear q26
    try clear c28
    try clear c28b0
    try clear c28b1
    try clear c29
    try clear c30
    try clear c30b0
    try clear c30b1
    try clear q33
    try clear hcz15_0
    try clear hcz15_1
    try clear hfz15_0
    try clear hfz15_1
    try clear p2
    try clear q2
    try clear q26
    try clear q33
    obtain ⟨kq, x9_26, HA, HJ26, HO_9, HO_261000, BK246, BK260, HI249, HB⟩ := hcut
    cases kq with
    | zero => exact absurd HA.out (by simp [spec_DrawAlloc.j1])
    | succ kj26 =>
     have H := HA.out
     clear HA
     simp only [spec_DrawAlloc.j1] at H
     have HC34 := zA H
     clear H
     go_upto_if 38 with (fail)
     go_cut [9] (fun v9 wc => ∃ (kq : Nat) (x9_33 : List Int), Aside0 (spec_DrawAlloc.j2 kq t250 x9_33 (Int.tmod t250 4) t247 t264 t252 t255 = some (r1, r2, r3, r4)) ∧ Aside0 (kq ≤ kj26) ∧ Aside0 (Kd.R (Kd.int .i64) 3 wc w.heap.size (fun k_ => some k_ ≠ ((.slice Ao12 t252.length co12) : Value).ownBlock) v9 x9_33) ∧ Aside0 (Kd.R (Kd.int .i64) 3 wc w.heap.size (fun k_ => some k_ ≠ (v9 : Value).ownBlock) (.slice Ao12 t252.length co12) t252) ∧ Aside0 (wc.heap[gb246]? = some (.cells #[(.slice none 0 0), .int .i64 0] 31 (0, 0))) ∧ Aside0 (wc.heap[gb260]? = some (.cells #[(.slice Ao12 t252.length co12), .int .i64 t255] 31 (0, 0))) ∧ Aside0 (IsS86 w wc g249 t247 t264) ∧ Aside0 (Below w.heap.size w wc))
     case first =>
      have H := HC34.out
      clear HC34
      by_cases c35 : (Int.tmod t250 4) = 2
      ·rw [if_pos c35] at H
       have c35b0 : ((Int.tmod t250 4) == 2) = true := beq_iff_eq.mpr c35
       have c35b1 : ((Int.tmod t250 4) != 2) = false := bne_eq_false_iff_eq.mpr c35
       clear c35
       (first | rw [c35b0] | (simp only [i64_w, i32_w]; rw [c35b0]) | skip)
       obtain ⟨y280, hy280⟩ : ∃ y_ : List Int, y_ = (([8] : List Int)) := ⟨_, rfl⟩
       replace H : (if y280.length + x9_26.length < 17592186044416 then (spec_DrawAlloc.j2 kj26 t250 (y280 ++ x9_26) (Int.tmod t250 4) t247 t264 t252 t255) else (none)) = some (r1, r2, r3, r4) := by first | (rw [hy280]; with_reducible exact H) | (have H2_ := (Option.bind_some _ _).symm.trans H; rw [hy280]; with_reducible exact H2_) | (have H2_ := (Option.bind_some _ _).symm.trans H; with_reducible exact H2_) | with_reducible exact H | (rw [hy280]; exact H) | exact H
       have Ny280 := zA hy280
       clear hy280
       by_cases c36 : y280.length + x9_26.length < 17592186044416
       ·rw [if_pos c36] at H
        have LMc36 := zA c36
        clear c36
        obtain ⟨y283, hy283⟩ : ∃ y_ : List Int, y_ = (y280 ++ x9_26) := ⟨_, rfl⟩
        replace H : (spec_DrawAlloc.j2 kj26 t250 y283 (Int.tmod t250 4) t247 t264 t252 t255) = some (r1, r2, r3, r4) := by first | (rw [hy283]; with_reducible exact H) | (have H2_ := (Option.bind_some _ _).symm.trans H; rw [hy283]; with_reducible exact H2_) | (have H2_ := (Option.bind_some _ _).symm.trans H; with_reducible exact H2_) | with_reducible exact H | (rw [hy283]; exact H) | exact H
        have Ny283 := zA hy283
        clear hy283
        have H' := zA H
        clear H
        go_wp2_with (first | ((with_reducible refine gate_dst (N := 39) rfl ?_); refine Kd.R_lit (Kd.int .i64) _ 3 ?hg (N := 39) ?hd (xs := ([8] : List Int)) (inner := [.int .i64 8]) (ok := fun _ => True) (okp := fun _ => True) ?hr ?hp (fun _ hk => hk) trivial (Below.refl _ _) (Nat.le_refl _) (by simp) ?_; (case hd => rfl); (case hg => rfl); (case hr => first | (go_simp; done) | (go_simp; rfl)); (case hp => exact (Reps.one (show Kd.M (Kd.int .i64) _ _ _ 8 [.int .i64 8] from rfl) (Reps.none _ _))); intro v281 w37 ho38 hb hg_ hnew_; clear hg_ hnew_; (first | rw [← Ny280.out] at ho38 | (simp only [Int.reduceToNat] at ho38; rw [← Ny280.out] at ho38)); have n0_ := zA (zM (by (repeat with_reducible first|apply zq|apply zr|apply zs); exact HO_9.out) (zQ ho38) hb); have n1_ := zA (zM (by (repeat with_reducible first|apply zq|apply zr|apply zs); exact HO_261000.out) (zQ ho38) hb); have n2_ := zA (Kd.R_lower (zR (zR ho38 (Kd.R_lt (by (repeat with_reducible first|apply zq|apply zr|apply zs); exact HO_9.out))) (Kd.R_lt (by (repeat with_reducible first|apply zq|apply zr|apply zs); exact HO_261000.out))) (below_size (by repeat (first | (with_reducible first | exact HB.out | apply zE | apply zC | apply zD | refine zB ?_ (IsS86.ge HI249.out) | refine zB ?_ GE246.out | refine zB ?_ GE260.out) | exact HB.out)))); have n3_ := zA (zN (g := gb246) (o := .cells #[.slice none 0 0, .int .i64 0] 31 (0, 0)) (by (repeat with_reducible first|apply zt|apply zu|apply zv); exact BK246.out) hb); have n4_ := zA (zN (g := gb260) (o := .cells #[.slice Ao12 t252.length co12, .int .i64 t255] 31 (0, 0)) (by (repeat with_reducible first|apply zt|apply zu|apply zv); exact BK260.out) hb); have n5_ := zA (IsS86.below (by repeat (first | (with_reducible first | exact HI249.out | apply IsS86.alloc | apply IsS86.drewN | apply IsS86.drew | apply IsS86.set_1 | refine IsS86.far ?_ NB249_246.out _ | refine IsS86.far ?_ NB249_260.out _) | exact HI249.out)) hb); have n6_ := zA (zX (by repeat (first | (with_reducible first | exact HB.out | apply zE | apply zC | apply zD | refine zB ?_ (IsS86.ge HI249.out) | refine zB ?_ GE246.out | refine zB ?_ GE260.out) | exact HB.out)) hb); clear HO_9 HO_261000 BK246 BK260 HI249 HB; have HO_9 := n0_; have HO_261000 := n1_; have HO282 := n2_; have BK246 := n3_; have BK260 := n4_; have HI249 := n5_; have HB := n6_; clear n0_ n1_ n2_ n3_ n4_ n5_ n6_; clear hb ho38; obtain ⟨Ao40, co40, eo40⟩ := Kd.R_slice HO_9.out; subst eo40) | ((with_reducible refine gate_builtin (b := .append) (xs := #[.tmp 39, .tmp 40]) rfl ?_); at_builtin; refine Kd.R_append_rows (Kd.int .i64) (w0 := w) w.heap.size rfl (.tmp 39) (.tmp 40) 29 3 (.int .i64 0) 8 rfl Try.underlying29 info3 rfl (by decide) (by omega) v281 y280 x9_26 _ _ _ (fun k_ => some k_ ≠ (.slice Ao40 x9_26.length co40 : Value).ownBlock ∧ some k_ ≠ (.slice Ao12 t252.length co12 : Value).ownBlock) (fun _ => False) rfl rfl ?aO ?aR (fun _ _ h => h) (fun _ h => h.elim) ?aF ?aB ?aS ?aL ?_; (case aR => repeat (first | exact (zO HO_9.out).2.2 | (with_reducible refine zc ?_ _) | (with_reducible refine zd ?_ _) | (with_reducible refine ze ?_))); (case aB => exact (by repeat (first | (with_reducible first | exact HB.out | apply zE | apply zC | apply zD | refine zB ?_ (IsS86.ge HI249.out) | refine zB ?_ GE246.out | refine zB ?_ GE260.out) | exact HB.out))); (case aF => exact (fun k_ hk => ⟨Kd.fresh' (Kd.R_lt (by (repeat with_reducible first|apply zq|apply zr|apply zs); exact HO_9.out)) k_ hk, za (Kd.R_lt (by (repeat with_reducible first|apply zq|apply zr|apply zs); exact HO_261000.out)) k_ hk⟩)); (case aO => exact (by (repeat with_reducible first|apply zq|apply zr|apply zs); exact zI HO282.out (fun _ hk => ⟨hk.1.2, hk.2⟩))); (case aS => exact (below_size (by repeat (first | (with_reducible first | exact HB.out | apply zE | apply zC | apply zD | refine zB ?_ (IsS86.ge HI249.out) | refine zB ?_ GE246.out | refine zB ?_ GE260.out) | exact HB.out)))); (case aL => have := LMc36.out; omega); intro v284 w39 ho hb hg hat; rw [← Ny283.out] at ho; have n0_ := zA (zb (ok := (fun k_ => some k_ ≠ (.slice Ao12 t252.length co12 : Value).ownBlock)) (by (repeat with_reducible first|apply zq|apply zr|apply zs); exact HO_9.out) hg hat); have n1_ := zA (zb (ok := (fun k_ => some k_ ≠ (.slice Ao40 x9_26.length co40 : Value).ownBlock)) (by (repeat with_reducible first|apply zq|apply zr|apply zs); exact HO_261000.out) hg hat); have n2_ := zA (blk_grown (g := gb246) (o := .cells #[.slice none 0 0, .int .i64 0] 31 (0, 0)) (by (repeat with_reducible first|apply zt|apply zu|apply zv); exact BK246.out) hg (Kd.R_ne HO282.out BK246.out (by decide))); have n3_ := zA (blk_grown (g := gb260) (o := .cells #[.slice Ao12 t252.length co12, .int .i64 t255] 31 (0, 0)) (by (repeat with_reducible first|apply zt|apply zu|apply zv); exact BK260.out) hg (Kd.R_ne HO282.out BK260.out (by decide))); have n4_ := zA (IsS86.grown (by repeat (first | (with_reducible first | exact HI249.out | apply IsS86.alloc | apply IsS86.drewN | apply IsS86.drew | apply IsS86.set_1 | refine IsS86.far ?_ NB249_246.out _ | refine IsS86.far ?_ NB249_260.out _) | exact HI249.out)) hg (IsS86.own_ne HI249.out HO282.out (by decide))); have n5_ := zA (hb); have n6_ := zA (ho); clear HO_9 HO_261000 BK246 BK260 HI249 HB HO282; have HO_9 := n0_; have HO_261000 := n1_; have BK246 := n2_; have BK260 := n3_; have HI249 := n4_; have HB := n5_; have HO285 := n6_; clear n0_ n1_ n2_ n3_ n4_ n5_ n6_; clear ho hb hg hat))
        go_meet
        case rel => exact ⟨_, (y283), H', ⟨by have := HJ5.out; have := HJ26.out; first | omega | exact Nat.le_refl _⟩, ⟨by (repeat with_reducible first|apply zq|apply zr|apply zs); exact zI HO285.out (fun _ hk => hk.2)⟩, ⟨by (repeat with_reducible first|apply zq|apply zr|apply zs); exact zI HO_261000.out (fun _ hk => hk.2)⟩, ⟨by (repeat with_reducible first|apply zt|apply zu|apply zv); exact BK246.out⟩, ⟨by (repeat with_reducible first|apply zt|apply zu|apply zv); exact BK260.out⟩, ⟨by repeat (first | (with_reducible first | exact HI249.out | apply IsS86.alloc | apply IsS86.drewN | apply IsS86.drew | apply IsS86.set_1 | refine IsS86.far ?_ NB249_246.out _ | refine IsS86.far ?_ NB249_260.out _) | exact HI249.out)⟩, ⟨by repeat (first | (with_reducible first | exact HB.out | apply zE | apply zC | apply zD | refine zB ?_ (IsS86.ge HI249.out) | refine zB ?_ GE246.out | refine zB ?_ GE260.out) | exact HB.out)⟩⟩
       ·rw [if_neg c36] at H
        exact absurd H (by simp)
      ·rw [if_neg c35] at H
       have c35b0 : ((Int.tmod t250 4) == 2) = false := beq_eq_false_iff_ne.mpr c35
       have c35b1 : ((Int.tmod t250 4) != 2) = true := bne_iff_ne.mpr c35
       (first | rw [c35b0] | (simp only [i64_w, i32_w]; rw [c35b0]) | skip)
       have H' := zA H
       clear H
       go_wp2
       go_meet
       case rel => exact ⟨_, (x9_26), H', ⟨by have := HJ5.out; have := HJ26.out; first | omega | exact Nat.le_refl _⟩, ⟨by (repeat with_reducible first|apply zq|apply zr|apply zs); exact HO_9.out⟩, ⟨by (repeat with_reducible first|apply zq|apply zr|apply zs); exact HO_261000.out⟩, ⟨by (repeat with_reducible first|apply zt|apply zu|apply zv); exact BK246.out⟩, ⟨by (repeat with_reducible first|apply zt|apply zu|apply zv); exact BK260.out⟩, ⟨by repeat (first | (with_reducible first | exact HI249.out | apply IsS86.alloc | apply IsS86.drewN | apply IsS86.drew | apply IsS86.set_1 | refine IsS86.far ?_ NB249_246.out _ | refine IsS86.far ?_ NB249_260.out _) | exact HI249.out)⟩, ⟨by repeat (first | (with_reducible first | exact HB.out | apply zE | apply zC | apply zD | refine zB ?_ (IsS86.ge HI249.out) | refine zB ?_ GE246.out | refine zB ?_ GE260.out) | exact HB.out)⟩⟩
     case rest =>
      clear HC34
      try clear c1
      try clear c2
      try clear p2
      try clear q2
      try clear c3
      try clear q3
      try clear c5
      try clear c13
      try clear c14
      try clear c18
      try clear c18b0
      try clear c18b1
      try clear c19
      try clear c20
      try clear c20b0
      try clear c20b1
      try clear q26
      try clear c28
      try clear c28b0
      try clear c28b1
      try clear c29
      try clear c30
      try clear c30b0
      try clear c30b1
      try clear q33
      try clear c34
      try clear c35
      try clear c35b0
      try clear c35b1
      try clear c36
      try clear hcz15_0
      try clear hcz15_1
      try clear hfz15_0
      try clear hfz15_1
      try clear p2
      try clear q2
      try clear q26
      try clear q3
      try clear q33
      obtain ⟨kq, x9_33, HA, HJ33, HO_9, HO_261000, BK246, BK260, HI249, HB⟩ := hcut
      cases kq with
      | zero => exact absurd HA.out (by simp [spec_DrawAlloc.j2])
      | succ kj33 =>
       have H := HA.out
       clear HA
       simp only [spec_DrawAlloc.j2] at H
       have HC41 := zA H
       clear H
       go_upto_if 43 with (fail)
       go_cut [9] (fun v9 wc => ∃ (kq : Nat) (x9_40 : List Int) (x250001_40 : Int), Aside0 (spec_DrawAlloc.j3 kq t250 x9_40 (Int.tmod t250 4) t247 x250001_40 t252 t255 = some (r1, r2, r3, r4)) ∧ Aside0 (kq ≤ kj33) ∧ Aside0 (Kd.R (Kd.int .i64) 3 wc w.heap.size (fun k_ => some k_ ≠ ((.slice Ao12 t252.length co12) : Value).ownBlock) v9 x9_40) ∧ Aside0 (Kd.R (Kd.int .i64) 3 wc w.heap.size (fun k_ => some k_ ≠ (v9 : Value).ownBlock) (.slice Ao12 t252.length co12) t252) ∧ Aside0 (wc.heap[gb246]? = some (.cells #[(.slice none 0 0), .int .i64 0] 31 (0, 0))) ∧ Aside0 (wc.heap[gb260]? = some (.cells #[(.slice Ao12 t252.length co12), .int .i64 t255] 31 (0, 0))) ∧ Aside0 (IsS86 w wc g249 t247 x250001_40) ∧ Aside0 (Below w.heap.size w wc))
       case first =>
        have H := HC41.out
        clear HC41
        by_cases c42 : t250 > 240
        ·rw [if_pos c42] at H
         have c42b0 : decide (240 < t250) = true := zG c42
         clear c42
         (first | rw [c42b0] | (simp only [i64_w, i32_w]; rw [c42b0]) | skip)
         replace H := Option.bind_eq_some_iff.mp H
         obtain ⟨⟨t286, t287⟩, A430, H⟩ := H
         replace H : (if x9_33.length < 17592186044416 then (spec_DrawAlloc.j3 kj33 t250 (x9_33 ++ [t286]) (Int.tmod t250 4) t247 t287 t252 t255) else (none)) = some (r1, r2, r3, r4) := H
         have A43 := zA A430
         clear A430
         by_cases c44 : x9_33.length < 17592186044416
         ·rw [if_pos c44] at H
          have LMc44 := zA c44
          clear c44
          obtain ⟨y288, hy288⟩ : ∃ y_ : List Int, y_ = (x9_33 ++ [t286]) := ⟨_, rfl⟩
          replace H : (spec_DrawAlloc.j3 kj33 t250 y288 (Int.tmod t250 4) t247 t287 t252 t255) = some (r1, r2, r3, r4) := by first | (rw [hy288]; with_reducible exact H) | (have H2_ := (Option.bind_some _ _).symm.trans H; rw [hy288]; with_reducible exact H2_) | (have H2_ := (Option.bind_some _ _).symm.trans H; with_reducible exact H2_) | with_reducible exact H | (rw [hy288]; exact H) | exact H
          have Ny288 := zA hy288
          clear hy288
          have H' := zA H
          clear H
          go_wp2_with (first | ((with_reducible refine gate_callee (f := 52) rfl ?_); refine goesL_ (some 46) rfl rfl Try.func52 (by kernel_rfl) rfl #[.pointer (some ⟨g249, 0, none⟩)] rfl (by (try simp only [List.map_toArray, List.map_cons, List.map_nil]); first | done | rfl | (simp only [List.length_drop, List.length_take]; rfl)) ?_; (with_reducible refine (spec_l7rd_next.calls g249 t247 t264 t286 t287 w _ ?side1 ?side2 A43.out).mono ?_); (case side1 => repeat (first | (with_reducible first | exact HI249.out | apply IsS86.alloc | apply IsS86.drewN | apply IsS86.drew | apply IsS86.set_1 | refine IsS86.far ?_ NB249_246.out _ | refine IsS86.far ?_ NB249_260.out _) | exact HI249.out)); (case side2 => repeat (first | (with_reducible first | exact HB.out | apply zE | apply zC | apply zD | refine zB ?_ (IsS86.ge HI249.out) | refine zB ?_ GE246.out | refine zB ?_ GE260.out) | exact HB.out)); rintro e w45 ⟨rfl, hi, hb, hk⟩; refine ⟨_, rfl, ?_⟩; have n0_ := zA (zI (Kd.R_keep (IsS86.apart (show IsS86 w _ g249 t247 t264 from by repeat (first | (with_reducible first | exact HI249.out | apply IsS86.alloc | apply IsS86.drewN | apply IsS86.drew | apply IsS86.set_1 | refine IsS86.far ?_ NB249_246.out _ | refine IsS86.far ?_ NB249_260.out _) | exact HI249.out)) (by (repeat with_reducible first|apply zq|apply zr|apply zs); exact HO_9.out) (by decide)) hk (fun _ h => h.2)) (fun _ h => h.1)); have n1_ := zA (zI (Kd.R_keep (IsS86.apart (show IsS86 w _ g249 t247 t264 from by repeat (first | (with_reducible first | exact HI249.out | apply IsS86.alloc | apply IsS86.drewN | apply IsS86.drew | apply IsS86.set_1 | refine IsS86.far ?_ NB249_246.out _ | refine IsS86.far ?_ NB249_260.out _) | exact HI249.out)) (by (repeat with_reducible first|apply zq|apply zr|apply zs); exact HO_261000.out) (by decide)) hk (fun _ h => h.2)) (fun _ h => h.1)); have n2_ := zA (KeepBut.blk hk (g' := gb246) (o := .cells #[.slice none 0 0, .int .i64 0] 31 (0, 0)) (by (repeat with_reducible first|apply zt|apply zu|apply zv); exact BK246.out) NB246_249.out (by simp)); have n3_ := zA (KeepBut.blk hk (g' := gb260) (o := .cells #[.slice Ao12 t252.length co12, .int .i64 t255] 31 (0, 0)) (by (repeat with_reducible first|apply zt|apply zu|apply zv); exact BK260.out) NB260_249.out (by simp)); have n4_ := zA (hb); have n5_ := zA (hi); clear HO_9 HO_261000 BK246 BK260 HB HI249; have HO_9 := n0_; have HO_261000 := n1_; have BK246 := n2_; have BK260 := n3_; have HB := n4_; have HI249 := n5_; clear n0_ n1_ n2_ n3_ n4_ n5_; (try clear hb); (try clear hb2); (try clear hk); (try clear hi)) | ((with_reducible refine gate_builtin (b := .append) (xs := #[.tmp 44, .tmp 47]) rfl ?_); at_builtin; refine Kd.R_append (Kd.int .i64) (w0 := w) w.heap.size rfl (.tmp 44) (.tmp 47) 29 3 (.int .i64 0) 8 rfl Try.underlying29 info3 rfl (by decide) (by omega) u9 x9_33 t286 [.int .i64 t286] (fun k_ => some k_ ≠ (.slice Ao12 t252.length co12 : Value).ownBlock) (fun _ => False) rfl rfl ?aP (fun _ hk => hk.elim) ?aF ?aO ?aB ?aS ?aL ?_; (case aP => exact rfl); (case aB => exact (by repeat (first | (with_reducible first | exact HB.out | apply zE | apply zC | apply zD | refine zB ?_ (IsS86.ge HI249.out) | refine zB ?_ GE246.out | refine zB ?_ GE260.out) | exact HB.out))); (case aF => exact (fun k_ hk => za (Kd.R_lt (by (repeat with_reducible first|apply zq|apply zr|apply zs); exact HO_261000.out)) k_ hk)); (case aO => exact (by (repeat with_reducible first|apply zq|apply zr|apply zs); exact HO_9.out)); (case aS => exact (below_size (by repeat (first | (with_reducible first | exact HB.out | apply zE | apply zC | apply zD | refine zB ?_ (IsS86.ge HI249.out) | refine zB ?_ GE246.out | refine zB ?_ GE260.out) | exact HB.out)))); (case aL => have := LMc44.out; omega); intro v289 w46 ho hb hg hat; rw [← Ny288.out] at ho; have n0_ := zA (zb (ok := (fun _ => True)) (by (repeat with_reducible first|apply zq|apply zr|apply zs); exact zI HO_261000.out (fun _ hk => ⟨trivial, hk⟩)) hg hat); have n1_ := zA (blk_grown (g := gb246) (o := .cells #[.slice none 0 0, .int .i64 0] 31 (0, 0)) (by (repeat with_reducible first|apply zt|apply zu|apply zv); exact BK246.out) hg (Kd.R_ne HO_9.out BK246.out (by decide))); have n2_ := zA (blk_grown (g := gb260) (o := .cells #[.slice Ao12 t252.length co12, .int .i64 t255] 31 (0, 0)) (by (repeat with_reducible first|apply zt|apply zu|apply zv); exact BK260.out) hg (Kd.R_ne HO_9.out BK260.out (by decide))); have n3_ := zA (IsS86.grown (by repeat (first | (with_reducible first | exact HI249.out | apply IsS86.alloc | apply IsS86.drewN | apply IsS86.drew | apply IsS86.set_1 | refine IsS86.far ?_ NB249_246.out _ | refine IsS86.far ?_ NB249_260.out _) | exact HI249.out)) hg (IsS86.own_ne HI249.out HO_9.out (by decide))); have n4_ := zA (hb); have n5_ := zA (ho); clear HO_261000 BK246 BK260 HI249 HB HO_9; have HO_261000 := n0_; have BK246 := n1_; have BK260 := n2_; have HI249 := n3_; have HB := n4_; have HO290 := n5_; clear n0_ n1_ n2_ n3_ n4_ n5_; clear ho hb hg hat))
          go_meet
          case rel => exact ⟨_, (y288), (t287), H', ⟨by have := HJ5.out; have := HJ26.out; have := HJ33.out; first | omega | exact Nat.le_refl _⟩, ⟨by (repeat with_reducible first|apply zq|apply zr|apply zs); exact HO290.out⟩, ⟨by (repeat with_reducible first|apply zq|apply zr|apply zs); exact zI HO_261000.out (fun _ hk => hk.2)⟩, ⟨by (repeat with_reducible first|apply zt|apply zu|apply zv); exact BK246.out⟩, ⟨by (repeat with_reducible first|apply zt|apply zu|apply zv); exact BK260.out⟩, ⟨by repeat (first | (with_reducible first | exact HI249.out | apply IsS86.alloc | apply IsS86.drewN | apply IsS86.drew | apply IsS86.set_1 | refine IsS86.far ?_ NB249_246.out _ | refine IsS86.far ?_ NB249_260.out _) | exact HI249.out)⟩, ⟨by repeat (first | (with_reducible first | exact HB.out | apply zE | apply zC | apply zD | refine zB ?_ (IsS86.ge HI249.out) | refine zB ?_ GE246.out | refine zB ?_ GE260.out) | exact HB.out)⟩⟩
         ·rw [if_neg c44] at H
          exact absurd H (by simp)
        ·rw [if_neg c42] at H
         have c42b0 : decide (240 < t250) = false := zH c42
         clear c42
         (first | rw [c42b0] | (simp only [i64_w, i32_w]; rw [c42b0]) | skip)
         have H' := zA H
         clear H
         go_wp2
         go_meet
         case rel => exact ⟨_, (x9_33), (t264), H', ⟨by have := HJ5.out; have := HJ26.out; have := HJ33.out; first | omega | exact Nat.le_refl _⟩, ⟨by (repeat with_reducible first|apply zq|apply zr|apply zs); exact HO_9.out⟩, ⟨by (repeat with_reducible first|apply zq|apply zr|apply zs); exact HO_261000.out⟩, ⟨by (repeat with_reducible first|apply zt|apply zu|apply zv); exact BK246.out⟩, ⟨by (repeat with_reducible first|apply zt|apply zu|apply zv); exact BK260.out⟩, ⟨by repeat (first | (with_reducible first | exact HI249.out | apply IsS86.alloc | apply IsS86.drewN | apply IsS86.drew | apply IsS86.set_1 | refine IsS86.far ?_ NB249_246.out _ | refine IsS86.far ?_ NB249_260.out _) | exact HI249.out)⟩, ⟨by repeat (first | (with_reducible first | exact HB.out | apply zE | apply zC | apply zD | refine zB ?_ (IsS86.ge HI249.out) | refine zB ?_ GE246.out | refine zB ?_ GE260.out) | exact HB.out)⟩⟩
       case rest =>
        clear HC41
        try clear c1
        try clear c2
        try clear p2
        try clear q2
        try clear c3
        try clear q3
        try clear c4
        try clear c5
        try clear c13
        try clear c14
        try clear c18
        try clear c18b0
        try clear c18b1
        try clear c19
        try clear c20
        try clear c20b0
        try clear c20b1
        try clear q26
        try clear c28
        try clear c28b0
        try clear c28b1
        try clear c29
        try clear c30
        try clear c30b0
        try clear c30b1
        try clear q33
        try clear c34
        try clear c35
        try clear c35b0
        try clear c35b1
        try clear c36
        try clear c42
        try clear c42b0
        try clear c44
        try clear hcz15_0
        try clear hcz15_1
        try clear hfz15_0
        try clear hfz15_1
        try clear p2
        try clear q2
        try clear q26
        try clear q3
        try clear q33
        obtain ⟨kq, x9_40, x250001_40, HA, HJ40, HO_9, HO_261000, BK246, BK260, HI249, HB⟩ := hcut
        cases kq with
        | zero => exact absurd HA.out (by simp [spec_DrawAlloc.j3])
        | succ kj40 =>
         have H := HA.out
         clear HA
         simp only [spec_DrawAlloc.j3] at H
         have HC47 := zA H
         clear H
         go_upto_if 50 with (fail)
         go_cut [10] (fun v10 wc => ∃ (kq : Nat) (x10_46 : Int), v10 = .int .i64 x10_46 ∧ Aside0 (spec_DrawAlloc.j4 kq t250 x9_40 x10_46 t247 x250001_40 t252 t255 = some (r1, r2, r3, r4)) ∧ Aside0 (kq ≤ kj40) ∧ Aside0 (Kd.R (Kd.int .i64) 3 wc w.heap.size (fun k_ => some k_ ≠ ((.slice Ao12 t252.length co12) : Value).ownBlock) u9 x9_40) ∧ Aside0 (Kd.R (Kd.int .i64) 3 wc w.heap.size (fun k_ => some k_ ≠ (u9 : Value).ownBlock) (.slice Ao12 t252.length co12) t252) ∧ Aside0 (wc.heap[gb246]? = some (.cells #[(.slice none 0 0), .int .i64 0] 31 (0, 0))) ∧ Aside0 (wc.heap[gb260]? = some (.cells #[(.slice Ao12 t252.length co12), .int .i64 t255] 31 (0, 0))) ∧ Aside0 (IsS86 w wc g249 t247 x250001_40) ∧ Aside0 (Below w.heap.size w wc))
         case first =>
          have H := HC47.out
          clear HC47
          by_cases c48 : t250 = 239
          ·rw [if_pos c48] at H
           have c48b0 : (t250 == 239) = true := beq_iff_eq.mpr c48
           have c48b1 : (t250 != 239) = false := bne_eq_false_iff_eq.mpr c48
           clear c48
           (first | rw [c48b0] | (simp only [i64_w, i32_w]; rw [c48b0]) | skip)
           have H' := zA H
           clear H
           go_wp2
           go_meet
           case rel => exact ⟨_, (4), (by first | rfl | (simp; done) | (simp [*]; done)), H', ⟨by have := HJ5.out; have := HJ26.out; have := HJ33.out; have := HJ40.out; first | omega | exact Nat.le_refl _⟩, ⟨by (repeat with_reducible first|apply zq|apply zr|apply zs); exact HO_9.out⟩, ⟨by (repeat with_reducible first|apply zq|apply zr|apply zs); exact HO_261000.out⟩, ⟨by (repeat with_reducible first|apply zt|apply zu|apply zv); exact BK246.out⟩, ⟨by (repeat with_reducible first|apply zt|apply zu|apply zv); exact BK260.out⟩, ⟨by repeat (first | (with_reducible first | exact HI249.out | apply IsS86.alloc | apply IsS86.drewN | apply IsS86.drew | apply IsS86.set_1 | refine IsS86.far ?_ NB249_246.out _ | refine IsS86.far ?_ NB249_260.out _) | exact HI249.out)⟩, ⟨by repeat (first | (with_reducible first | exact HB.out | apply zE | apply zC | apply zD | refine zB ?_ (IsS86.ge HI249.out) | refine zB ?_ GE246.out | refine zB ?_ GE260.out) | exact HB.out)⟩⟩
          ·rw [if_neg c48] at H
           have c48b0 : (t250 == 239) = false := beq_eq_false_iff_ne.mpr c48
           have c48b1 : (t250 != 239) = true := bne_iff_ne.mpr c48
           (first | rw [c48b0] | (simp only [i64_w, i32_w]; rw [c48b0]) | skip)
           have H' := zA H
           clear H
           go_wp2
           go_meet
           case rel => exact ⟨_, ((Int.tmod t250 4)), (by first | rfl | (simp; done) | (simp [*]; done)), H', ⟨by have := HJ5.out; have := HJ26.out; have := HJ33.out; have := HJ40.out; first | omega | exact Nat.le_refl _⟩, ⟨by (repeat with_reducible first|apply zq|apply zr|apply zs); exact HO_9.out⟩, ⟨by (repeat with_reducible first|apply zq|apply zr|apply zs); exact HO_261000.out⟩, ⟨by (repeat with_reducible first|apply zt|apply zu|apply zv); exact BK246.out⟩, ⟨by (repeat with_reducible first|apply zt|apply zu|apply zv); exact BK260.out⟩, ⟨by repeat (first | (with_reducible first | exact HI249.out | apply IsS86.alloc | apply IsS86.drewN | apply IsS86.drew | apply IsS86.set_1 | refine IsS86.far ?_ NB249_246.out _ | refine IsS86.far ?_ NB249_260.out _) | exact HI249.out)⟩, ⟨by repeat (first | (with_reducible first | exact HB.out | apply zE | apply zC | apply zD | refine zB ?_ (IsS86.ge HI249.out) | refine zB ?_ GE246.out | refine zB ?_ GE260.out) | exact HB.out)⟩⟩
         case rest =>
          clear HC47
          try clear c1
          try clear c2
          try clear p2
          try clear q2
          try clear c3
          try clear q3
          try clear c4
          try clear c5
          try clear c13
          try clear c14
          try clear c18
          try clear c18b0
          try clear c18b1
          try clear c19
          try clear c20
          try clear c20b0
          try clear c20b1
          try clear q26
          try clear c28
          try clear c28b0
          try clear c28b1
          try clear c29
          try clear c30
          try clear c30b0
          try clear c30b1
          try clear q33
          try clear c34
          try clear c35
          try clear c35b0
          try clear c35b1
          try clear c36
          try clear c42
          try clear c42b0
          try clear c44
          try clear c48
          try clear c48b0
          try clear c48b1
          try clear hcz15_0
          try clear hcz15_1
          try clear hfz15_0
          try clear hfz15_1
          try clear p2
          try clear q2
          try clear q26
          try clear q3
          try clear q33
          obtain ⟨kq, x10_46, rfl, HA, HJ46, HO_9, HO_261000, BK246, BK260, HI249, HB⟩ := hcut
          cases kq with
          | zero => exact absurd HA.out (by simp [spec_DrawAlloc.j4])
          | succ kj46 =>
           have H := HA.out
           clear HA
           simp only [spec_DrawAlloc.j4] at H
           have HC49 := zA H
           clear H
           go_upto_if 52 with (fail)
           go_cut [9, 10] (fun v9 v10 wc => ∃ (kq : Nat) (x9_48 : List Int) (x10_48 : Int) (x250001_48 : Int), v10 = .int .i64 x10_48 ∧ Aside0 (spec_DrawAlloc.j5 kq t250 x9_48 x10_48 t247 x250001_48 t252 t255 = some (r1, r2, r3, r4)) ∧ Aside0 (kq ≤ kj46) ∧ Aside0 (Kd.R (Kd.int .i64) 3 wc w.heap.size (fun k_ => some k_ ≠ ((.slice Ao12 t252.length co12) : Value).ownBlock) v9 x9_48) ∧ Aside0 (Kd.R (Kd.int .i64) 3 wc w.heap.size (fun k_ => some k_ ≠ (v9 : Value).ownBlock) (.slice Ao12 t252.length co12) t252) ∧ Aside0 (wc.heap[gb246]? = some (.cells #[(.slice none 0 0), .int .i64 0] 31 (0, 0))) ∧ Aside0 (wc.heap[gb260]? = some (.cells #[(.slice Ao12 t252.length co12), .int .i64 t255] 31 (0, 0))) ∧ Aside0 (IsS86 w wc g249 t247 x250001_48) ∧ Aside0 (Below w.heap.size w wc))
           case first =>
            have H := HC49.out
            clear HC49
            by_cases c50 : t250 = 238
            ·rw [if_pos c50] at H
             have c50b0 : (t250 == 238) = true := beq_iff_eq.mpr c50
             have c50b1 : (t250 != 238) = false := bne_eq_false_iff_eq.mpr c50
             clear c50
             (first | rw [c50b0] | (simp only [i64_w, i32_w]; rw [c50b0]) | skip)
             replace H := Option.bind_eq_some_iff.mp H
             obtain ⟨⟨t291, t292⟩, A510, H⟩ := H
             replace H : (if 0 ≤ (wrap64 (1000 + (Int.tmod t291 2))) then (if (wrap64 (1000 + (Int.tmod t291 2)) : Int).toNat ≤ 35184372088832 then (spec_DrawAlloc.j5 kj46 t250 (List.replicate (wrap64 (1000 + (Int.tmod t291 2)) : Int).toNat 0) 1 t247 t292 t252 t255) else (none)) else (none)) = some (r1, r2, r3, r4) := H
             have A51 := zA A510
             clear A510
             obtain ⟨ji52, hji52⟩ : ∃ j_ : Int, (wrap64 (1000 + (Int.tmod t291 2))) = j_ := ⟨_, rfl⟩
             replace H : (if 0 ≤ (ji52) then (if (ji52 : Int).toNat ≤ 35184372088832 then (spec_DrawAlloc.j5 kj46 t250 (List.replicate (ji52 : Int).toNat 0) 1 t247 t292 t252 t255) else (none)) else (none)) = some (r1, r2, r3, r4) := by first | (rw [hji52] at H; exact H) | (simp only [hji52] at H ⊢; exact H)
             (try rw [hji52] at A51)
             have hji52w : (IntKind.i64.wrap (1000 + (Int.tmod t291 2))) = ji52 := (i64_w _).trans hji52
             by_cases c53 : 0 ≤ (ji52)
             ·rw [if_pos c53] at H
              have c53b0 := eq_true c53
              have c53b1 : decide (0 ≤ (ji52)) = true := zG c53
              clear c53
              by_cases c54 : (ji52 : Int).toNat ≤ 35184372088832
              ·rw [if_pos c54] at H
               have c54b0 := eq_true c54
               have c54b1 : decide ((ji52 : Int).toNat ≤ 35184372088832) = true := zG c54
               clear c54
               obtain ⟨y293, hy293⟩ : ∃ y_ : List Int, y_ = (List.replicate (ji52 : Int).toNat 0) := ⟨_, rfl⟩
               replace H : (spec_DrawAlloc.j5 kj46 t250 y293 1 t247 t292 t252 t255) = some (r1, r2, r3, r4) := by first | (rw [hy293]; with_reducible exact H) | (have H2_ := (Option.bind_some _ _).symm.trans H; rw [hy293]; with_reducible exact H2_) | (have H2_ := (Option.bind_some _ _).symm.trans H; with_reducible exact H2_) | with_reducible exact H | (rw [hy293]; exact H) | exact H
               have Ny293 := zA hy293
               clear hy293
               have H' := zA H
               clear H
               go_wp2_with (first | ((with_reducible refine gate_callee (f := 52) rfl ?_); refine goesL_ (some 54) rfl rfl Try.func52 (by kernel_rfl) rfl #[.pointer (some ⟨g249, 0, none⟩)] rfl (by (try simp only [List.map_toArray, List.map_cons, List.map_nil]); first | done | rfl | (simp only [List.length_drop, List.length_take]; rfl)) ?_; (with_reducible refine (spec_l7rd_next.calls g249 t247 x250001_40 t291 t292 w _ ?side1 ?side2 A51.out).mono ?_); (case side1 => repeat (first | (with_reducible first | exact HI249.out | apply IsS86.alloc | apply IsS86.drewN | apply IsS86.drew | apply IsS86.set_1 | refine IsS86.far ?_ NB249_246.out _ | refine IsS86.far ?_ NB249_260.out _) | exact HI249.out)); (case side2 => repeat (first | (with_reducible first | exact HB.out | apply zE | apply zC | apply zD | refine zB ?_ (IsS86.ge HI249.out) | refine zB ?_ GE246.out | refine zB ?_ GE260.out) | exact HB.out)); rintro e w55 ⟨rfl, hi, hb, hk⟩; refine ⟨_, rfl, ?_⟩; have n0_ := zA (zI (Kd.R_keep (IsS86.apart (show IsS86 w _ g249 t247 x250001_40 from by repeat (first | (with_reducible first | exact HI249.out | apply IsS86.alloc | apply IsS86.drewN | apply IsS86.drew | apply IsS86.set_1 | refine IsS86.far ?_ NB249_246.out _ | refine IsS86.far ?_ NB249_260.out _) | exact HI249.out)) (by (repeat with_reducible first|apply zq|apply zr|apply zs); exact HO_9.out) (by decide)) hk (fun _ h => h.2)) (fun _ h => h.1)); have n1_ := zA (zI (Kd.R_keep (IsS86.apart (show IsS86 w _ g249 t247 x250001_40 from by repeat (first | (with_reducible first | exact HI249.out | apply IsS86.alloc | apply IsS86.drewN | apply IsS86.drew | apply IsS86.set_1 | refine IsS86.far ?_ NB249_246.out _ | refine IsS86.far ?_ NB249_260.out _) | exact HI249.out)) (by (repeat with_reducible first|apply zq|apply zr|apply zs); exact HO_261000.out) (by decide)) hk (fun _ h => h.2)) (fun _ h => h.1)); have n2_ := zA (KeepBut.blk hk (g' := gb246) (o := .cells #[.slice none 0 0, .int .i64 0] 31 (0, 0)) (by (repeat with_reducible first|apply zt|apply zu|apply zv); exact BK246.out) NB246_249.out (by simp)); have n3_ := zA (KeepBut.blk hk (g' := gb260) (o := .cells #[.slice Ao12 t252.length co12, .int .i64 t255] 31 (0, 0)) (by (repeat with_reducible first|apply zt|apply zu|apply zv); exact BK260.out) NB260_249.out (by simp)); have n4_ := zA (hb); have n5_ := zA (hi); clear HO_9 HO_261000 BK246 BK260 HB HI249; have HO_9 := n0_; have HO_261000 := n1_; have BK246 := n2_; have BK260 := n3_; have HB := n4_; have HI249 := n5_; clear n0_ n1_ n2_ n3_ n4_ n5_; (try clear hb); (try clear hb2); (try clear hk); (try clear hi)) | ((with_reducible refine gate_dst (N := 57) rfl ?_); refine Kd.R_make (Kd.int .i64) _ 3 rfl (N := 57) rfl 29 _ _ rfl ji52 rfl rfl Try.underlying29 (.int .i64 0) 8 info3 rfl (by decide) (by omega) 0 (ok := fun _ => True) (okp := fun _ => True) rfl (fun _ hk => hk) trivial (zF (by first | (with_reducible assumption) | assumption)) (Nat.le_trans (Nat.mul_le_mul_right _ (zF (by first | (with_reducible assumption) | assumption) : ji52.toNat ≤ 35184372088832)) (by omega)) (Below.refl _ _) (Nat.le_refl _) ?_; intro v294 w56 ho57 hb hg_ hnew_; clear hg_ hnew_; (first | rw [← Ny293.out] at ho57 | (simp only [Int.reduceToNat] at ho57; rw [← Ny293.out] at ho57)); have n0_ := zA (zM (by (repeat with_reducible first|apply zq|apply zr|apply zs); exact HO_9.out) (zQ ho57) hb); have n1_ := zA (zM (by (repeat with_reducible first|apply zq|apply zr|apply zs); exact HO_261000.out) (zQ ho57) hb); have n2_ := zA (Kd.R_lower (zR (zR ho57 (Kd.R_lt (by (repeat with_reducible first|apply zq|apply zr|apply zs); exact HO_9.out))) (Kd.R_lt (by (repeat with_reducible first|apply zq|apply zr|apply zs); exact HO_261000.out))) (below_size (by repeat (first | (with_reducible first | exact HB.out | apply zE | apply zC | apply zD | refine zB ?_ (IsS86.ge HI249.out) | refine zB ?_ GE246.out | refine zB ?_ GE260.out) | exact HB.out)))); have n3_ := zA (zN (g := gb246) (o := .cells #[.slice none 0 0, .int .i64 0] 31 (0, 0)) (by (repeat with_reducible first|apply zt|apply zu|apply zv); exact BK246.out) hb); have n4_ := zA (zN (g := gb260) (o := .cells #[.slice Ao12 t252.length co12, .int .i64 t255] 31 (0, 0)) (by (repeat with_reducible first|apply zt|apply zu|apply zv); exact BK260.out) hb); have n5_ := zA (IsS86.below (by repeat (first | (with_reducible first | exact HI249.out | apply IsS86.alloc | apply IsS86.drewN | apply IsS86.drew | apply IsS86.set_1 | refine IsS86.far ?_ NB249_246.out _ | refine IsS86.far ?_ NB249_260.out _) | exact HI249.out)) hb); have n6_ := zA (zX (by repeat (first | (with_reducible first | exact HB.out | apply zE | apply zC | apply zD | refine zB ?_ (IsS86.ge HI249.out) | refine zB ?_ GE246.out | refine zB ?_ GE260.out) | exact HB.out)) hb); clear HO_9 HO_261000 BK246 BK260 HI249 HB; have HO_9 := n0_; have HO_261000 := n1_; have HO295 := n2_; have BK246 := n3_; have BK260 := n4_; have HI249 := n5_; have HB := n6_; clear n0_ n1_ n2_ n3_ n4_ n5_ n6_; clear hb ho57))
               go_meet
               case rel => exact ⟨_, (y293), (1), (t292), (by first | rfl | (simp; done) | (simp [*]; done)), H', ⟨by have := HJ5.out; have := HJ26.out; have := HJ33.out; have := HJ40.out; have := HJ46.out; first | omega | exact Nat.le_refl _⟩, ⟨by (repeat with_reducible first|apply zq|apply zr|apply zs); exact zI HO295.out (fun _ hk => hk.2)⟩, ⟨by (repeat with_reducible first|apply zq|apply zr|apply zs); exact zI HO_261000.out (fun _ hk => hk.2)⟩, ⟨by (repeat with_reducible first|apply zt|apply zu|apply zv); exact BK246.out⟩, ⟨by (repeat with_reducible first|apply zt|apply zu|apply zv); exact BK260.out⟩, ⟨by repeat (first | (with_reducible first | exact HI249.out | apply IsS86.alloc | apply IsS86.drewN | apply IsS86.drew | apply IsS86.set_1 | refine IsS86.far ?_ NB249_246.out _ | refine IsS86.far ?_ NB249_260.out _) | exact HI249.out)⟩, ⟨by repeat (first | (with_reducible first | exact HB.out | apply zE | apply zC | apply zD | refine zB ?_ (IsS86.ge HI249.out) | refine zB ?_ GE246.out | refine zB ?_ GE260.out) | exact HB.out)⟩⟩
              ·rw [if_neg c54] at H
               exact absurd H (by simp)
             ·rw [if_neg c53] at H
              exact absurd H (by simp)
            ·rw [if_neg c50] at H
             have c50b0 : (t250 == 238) = false := beq_eq_false_iff_ne.mpr c50
             have c50b1 : (t250 != 238) = true := bne_iff_ne.mpr c50
             (first | rw [c50b0] | (simp only [i64_w, i32_w]; rw [c50b0]) | skip)
             have H' := zA H
             clear H
             go_wp2
             go_meet
             case rel => exact ⟨_, (x9_40), (x10_46), (x250001_40), (by first | rfl | (simp; done) | (simp [*]; done)), H', ⟨by have := HJ5.out; have := HJ26.out; have := HJ33.out; have := HJ40.out; have := HJ46.out; first | omega | exact Nat.le_refl _⟩, ⟨by (repeat with_reducible first|apply zq|apply zr|apply zs); exact HO_9.out⟩, ⟨by (repeat with_reducible first|apply zq|apply zr|apply zs); exact HO_261000.out⟩, ⟨by (repeat with_reducible first|apply zt|apply zu|apply zv); exact BK246.out⟩, ⟨by (repeat with_reducible first|apply zt|apply zu|apply zv); exact BK260.out⟩, ⟨by repeat (first | (with_reducible first | exact HI249.out | apply IsS86.alloc | apply IsS86.drewN | apply IsS86.drew | apply IsS86.set_1 | refine IsS86.far ?_ NB249_246.out _ | refine IsS86.far ?_ NB249_260.out _) | exact HI249.out)⟩, ⟨by repeat (first | (with_reducible first | exact HB.out | apply zE | apply zC | apply zD | refine zB ?_ (IsS86.ge HI249.out) | refine zB ?_ GE246.out | refine zB ?_ GE260.out) | exact HB.out)⟩⟩
           case rest =>
            clear HC49
            try clear c1
            try clear c2
            try clear p2
            try clear q2
            try clear c3
            try clear q3
            try clear c4
            try clear c5
            try clear p6
            try clear c13
            try clear c14
            try clear c18
            try clear c18b0
            try clear c18b1
            try clear c19
            try clear c20
            try clear c20b0
            try clear c20b1
            try clear q26
            try clear c28
            try clear c28b0
            try clear c28b1
            try clear c29
            try clear c30
            try clear c30b0
            try clear c30b1
            try clear q33
            try clear c34
            try clear c35
            try clear c35b0
            try clear c35b1
            try clear c36
            try clear c42
            try clear c42b0
            try clear c44
            try clear c48
            try clear c48b0
            try clear c48b1
            try clear c50
            try clear c50b0
            try clear c50b1
            try clear c51
            try clear c52
            try clear c53
            try clear c53b0
            try clear c53b1
            try clear c54
            try clear c54b0
            try clear c54b1
            try clear hcz15_0
            try clear hcz15_1
            try clear hfz15_0
            try clear hfz15_1
            try clear p2
            try clear q2
            try clear q26
            try clear q3
            try clear q33
            obtain ⟨kq, x9_48, x10_48, x250001_48, rfl, HA, HJ48, HO_9, HO_261000, BK246, BK260, HI249, HB⟩ := hcut
            cases kq with
            | zero => exact absurd HA.out (by simp [spec_DrawAlloc.j5])
            | succ kj48 =>
             have H := HA.out
             clear HA
             simp only [spec_DrawAlloc.j5] at H
             by_cases c58 : t250 = 237
             ·rw [if_pos c58] at H
              have c58b0 : (t250 == 237) = true := beq_iff_eq.mpr c58
              have c58b1 : (t250 != 237) = false := bne_eq_false_iff_eq.mpr c58
              clear c58
              replace H := Option.bind_eq_some_iff.mp H
              obtain ⟨⟨t296, t299, t300⟩, A590, H⟩ := H
              replace H : (some (t296, t299, x10_48, x9_48)) = some (r1, r2, r3, r4) := H
              have A59 := zA A590
              clear A590
              simp only [Option.some.injEq, Prod.mk.injEq] at H
              obtain ⟨rfl, rfl, rfl, rfl⟩ := H
              have hnb60 := NB260_246.out
              have hnc60 := NB246_260.out
              have hnb61 := NB260_249.out
              have hnc61 := NB249_260.out
              have hcz62_0 : wc.cell? ⟨gb260, 0, none⟩ = some (.slice Ao12 t252.length co12) := (zZ BK260.out 0).trans rfl
              have hcz62_1 : wc.cell? ⟨gb260, 1, none⟩ = some (.int .i64 t255) := (zZ BK260.out 1).trans rfl
              have hfz62_0 := zY BK260.out 0
              have hfz62_1 := zY BK260.out 1
              go_wp2_with (first | ((with_reducible refine gate_callee (f := 55) rfl ?_); refine goesL_ (some 62) rfl rfl Try.func55 (by kernel_rfl) rfl #[.agg #[.slice Ao12 t252.length co12, .int .i64 t255], .pointer (some ⟨g249, 0, none⟩)] rfl (by (try simp only [List.map_toArray, List.map_cons, List.map_nil]); first | done | rfl | (simp only [List.length_drop, List.length_take]; rfl)) ?_; (with_reducible refine (spec_l7spoilHeap.calls (fun k_ => some k_ = (.slice Ao12 t252.length co12 : Value).ownBlock) (.slice Ao12 t252.length co12) t252 t255 g249 t247 x250001_48 t296 t299 t300 w _ ?side1 ?side2 ?side3 A59.out).mono ?_); (case side1 => repeat (first | (with_reducible first | exact HI249.out | apply IsS86.alloc | apply IsS86.drewN | apply IsS86.drew | apply IsS86.set_1 | refine IsS86.far ?_ NB249_246.out _ | refine IsS86.far ?_ NB249_260.out _) | exact HI249.out)); (case side2 => repeat (first | (with_reducible first | exact HB.out | apply zE | apply zC | apply zD | refine zB ?_ (IsS86.ge HI249.out) | refine zB ?_ GE246.out | refine zB ?_ GE260.out) | exact HB.out)); (case side3 => exact Kd.R_tight rfl HO_261000.out); rintro e w63 ⟨v297, rfl, ho0, hi, hb, hkp⟩; refine ⟨_, rfl, ?_⟩; have n0_ := zA (zI (ok' := fun k_ => some k_ ≠ (v297 : Value).ownBlock) (Kd.R_keptB ((IsS86.apart HI249.out HO_9.out (by decide))) hkp (fun k_ hk_ hs_ => Or.elim hs_ (fun hs_ => (hk_.1) hs_) (fun e_ => (hk_.2) e_))) (fun k_ hk_ => fun e_ => Or.elim (ho0.1 k_ e_.symm) (fun hs_ => hk_.2.1 (.inl hs_)) (fun hn_ => Nat.not_le.2 hk_.2.2 hn_))); have n1_ := zA (blk_kept (by (repeat with_reducible first|apply zt|apply zu|apply zv); exact BK246.out) hkp (fun hs_ => Or.elim hs_ (fun hs_ => (fun e_ => (Kd.R_ne HO_261000.out BK246.out (by decide)) e_) hs_) (fun e_ => NB246_249.out e_))); have n2_ := zA (blk_kept (by (repeat with_reducible first|apply zt|apply zu|apply zv); exact BK260.out) hkp (fun hs_ => Or.elim hs_ (fun hs_ => (fun e_ => (Kd.R_ne HO_261000.out BK260.out (by decide)) e_) hs_) (fun e_ => NB260_249.out e_))); have n3_ := zA (hi); have n4_ := zA (zI (ok' := fun k_ => some k_ ≠ (u9 : Value).ownBlock) ho0 (fun k_ hk_ => Or.elim hk_ (fun hs_ => fun e_ => ((((IsS86.apart HI249.out HO_9.out (by decide))).1 k_ e_.symm).1) hs_) (fun hn_ => (za (Kd.R_lt (by (repeat with_reducible first|apply zq|apply zr|apply zs); exact HO_9.out)) k_ hn_)))); have n5_ := zA (hb); clear HO_9 BK246 BK260 HI249 HB HO_261000; have HO_9 := n0_; have BK246 := n1_; have BK260 := n2_; have HI249 := n3_; have HO298 := n4_; have HB := n5_; clear n0_ n1_ n2_ n3_ n4_ n5_; (try clear hb); (try clear hkp); (try clear ho0); obtain ⟨Ao64, co64, eo64⟩ := Kd.R_slice HO298.out; subst eo64; have hcz65_0 : w63.cell? ⟨gb260, 0, none⟩ = some (.slice Ao12 t252.length co12) := (zZ BK260.out 0).trans rfl; have hcz65_1 : w63.cell? ⟨gb260, 1, none⟩ = some (.int .i64 t255) := (zZ BK260.out 1).trans rfl; have hfz65_0 := zY BK260.out 0; have hfz65_1 := zY BK260.out 1; have hnb66 := NB246_249.out; have hnc66 := NB249_246.out; have hcz67_0 : w63.cell? ⟨gb246, 0, none⟩ = some (.slice none 0 0) := (zZ BK246.out 0).trans rfl; have hcz67_1 : w63.cell? ⟨gb246, 1, none⟩ = some (.int .i64 0) := (zZ BK246.out 1).trans rfl; have hfz67_0 := zY BK246.out 0; have hfz67_1 := zY BK246.out 1))
              refine bodyPost_ret (results_ctt rfl _ _ gb246 31 #[.slice Ao64 t296.length co64, .int .i64 t299] (0, 0) _ rfl (by (repeat with_reducible first|apply zt|apply zu|apply zv); refine blk_put (cs := #[.slice Ao64 t296.length co64, .int .i64 0]) ?_ 1 _ rfl; (repeat with_reducible first|apply zt|apply zu|apply zv); refine blk_put (cs := #[.slice none 0 0, .int .i64 0]) ?_ 0 _ rfl; (repeat with_reducible first|apply zt|apply zu|apply zv); refine blk_far ?_ NB246_260.out _; (repeat with_reducible first|apply zt|apply zu|apply zv); refine blk_far ?_ NB246_260.out _; (repeat with_reducible first|apply zt|apply zu|apply zv); exact BK246.out) Try.underlying31 rfl (by kernel_rfl)) rfl ?_
              exact ⟨_, _, by first | rfl | (simp [errW_none, errW_some] <;> rfl) | (simp [*, errW_none, errW_some] <;> rfl), by (repeat with_reducible first|apply zq|apply zr|apply zs); exact zI (zJ (p := ⟨gb246, 1, none⟩) (zJ (p := ⟨gb246, 0, none⟩) (zJ (p := ⟨gb260, 1, none⟩) (zJ (p := ⟨gb260, 0, none⟩) (zL (zL HO298.out BK260.out (by decide)) BK246.out (by decide)) (fun _ hk => hk.1.2) (.slice Ao64 t296.length co64)) (fun _ hk => hk.1.2) (.int .i64 t299)) (fun _ hk => hk.2) (.slice Ao64 t296.length co64)) (fun _ hk => hk.2) (.int .i64 t299)) (fun _ hk => hk.1.1), by (repeat with_reducible first|apply zq|apply zr|apply zs); exact zI (zJ (p := ⟨gb246, 1, none⟩) (zJ (p := ⟨gb246, 0, none⟩) (zJ (p := ⟨gb260, 1, none⟩) (zJ (p := ⟨gb260, 0, none⟩) (zL (zL HO_9.out BK260.out (by decide)) BK246.out (by decide)) (fun _ hk => hk.1.2) (.slice Ao64 t296.length co64)) (fun _ hk => hk.1.2) (.int .i64 t299)) (fun _ hk => hk.2) (.slice Ao64 t296.length co64)) (fun _ hk => hk.2) (.int .i64 t299)) (fun _ hk => hk.1.1), by repeat (first | (with_reducible first | exact HB.out | apply zE | apply zC | apply zD | refine zB ?_ (IsS86.ge HI249.out) | refine zB ?_ GE246.out | refine zB ?_ GE260.out) | exact HB.out)⟩
             ·rw [if_neg c58] at H
              have c58b0 : (t250 == 237) = false := beq_eq_false_iff_ne.mpr c58
              have c58b1 : (t250 != 237) = true := bne_iff_ne.mpr c58
              simp only [Option.some.injEq, Prod.mk.injEq] at H
              obtain ⟨rfl, rfl, rfl, rfl⟩ := H
              have hnb68 := NB260_246.out
              have hnc68 := NB246_260.out
              have hnb69 := NB260_249.out
              have hnc69 := NB249_260.out
              have hcz70_0 : wc.cell? ⟨gb260, 0, none⟩ = some (.slice Ao12 t252.length co12) := (zZ BK260.out 0).trans rfl
              have hcz70_1 : wc.cell? ⟨gb260, 1, none⟩ = some (.int .i64 t255) := (zZ BK260.out 1).trans rfl
              have hfz70_0 := zY BK260.out 0
              have hfz70_1 := zY BK260.out 1
              have hnb71 := NB246_249.out
              have hnc71 := NB249_246.out
              have hcz72_0 : wc.cell? ⟨gb246, 0, none⟩ = some (.slice none 0 0) := (zZ BK246.out 0).trans rfl
              have hcz72_1 : wc.cell? ⟨gb246, 1, none⟩ = some (.int .i64 0) := (zZ BK246.out 1).trans rfl
              have hfz72_0 := zY BK246.out 0
              have hfz72_1 := zY BK246.out 1
              go_wp2
              refine bodyPost_ret (results_ctt rfl _ _ gb246 31 #[.slice Ao12 t252.length co12, .int .i64 t255] (0, 0) _ rfl (by (repeat with_reducible first|apply zt|apply zu|apply zv); refine blk_put (cs := #[.slice Ao12 t252.length co12, .int .i64 0]) ?_ 1 _ rfl; (repeat with_reducible first|apply zt|apply zu|apply zv); refine blk_put (cs := #[.slice none 0 0, .int .i64 0]) ?_ 0 _ rfl; (repeat with_reducible first|apply zt|apply zu|apply zv); exact BK246.out) Try.underlying31 rfl (by kernel_rfl)) rfl ?_
              exact ⟨_, _, by first | rfl | (simp [errW_none, errW_some] <;> rfl) | (simp [*, errW_none, errW_some] <;> rfl), by (repeat with_reducible first|apply zq|apply zr|apply zs); exact zI (zJ (p := ⟨gb246, 1, none⟩) (zJ (p := ⟨gb246, 0, none⟩) (zL HO_261000.out BK246.out (by decide)) (fun _ hk => hk.2) (.slice Ao12 t252.length co12)) (fun _ hk => hk.2) (.int .i64 t255)) (fun _ hk => hk.1), by (repeat with_reducible first|apply zq|apply zr|apply zs); exact zI (zJ (p := ⟨gb246, 1, none⟩) (zJ (p := ⟨gb246, 0, none⟩) (zL HO_9.out BK246.out (by decide)) (fun _ hk => hk.2) (.slice Ao12 t252.length co12)) (fun _ hk => hk.2) (.int .i64 t255)) (fun _ hk => hk.1), by repeat (first | (with_reducible first | exact HB.out | apply zE | apply zC | apply zD | refine zB ?_ (IsS86.ge HI249.out) | refine zB ?_ GE246.out | refine zB ?_ GE260.out) | exact HB.out)⟩

end Go.Proofs.Ytggkkgkjhfgipaa.QFnAlloc
