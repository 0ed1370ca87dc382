-- Written by a program of this session (wip/tools/ownprint.py) over hand-proved contracts.
import Derived.Test.YtggkkgkjhfgipaaZQFnAllocx0
import Derived.Test.YtggkkgkjhfgipaaZQFnAllocx5
namespace Go.Proofs.Ytggkkgkjhfgipaa.QFnAlloc
open Go.RowKit Go.Proofs.YtggkkgkjhfgipaaW.PrintWords Go.Proofs.YtggkkgkjhfgipaaW.PrintLast Go.Proofs.YtggkkgkjhfgipaaW.PrintMore
attribute [local go_sem] max2_int min2_int max_two min_two max_three min_three max_four min_four   -- for this text's walks alone
set_option linter.unusedVariables false
set_option linter.unusedSimpArgs false

/-! ### spec_l7roots: function 54 -/
def spec_l7roots.l0 : Nat → List Int → List Int → Int → Int → List Int → Int → Option (List Int × Int)
 | 0, _, _, _, _, _, _ => none
 | k + 1, x1, x5, x6, x7, x1000, x1001 => if x7 < x6 then ((spec_l7rd_next.f x1000 x1001).bind fun bt217 => (if (Int.tmod bt217.1 3) > 0 then (if (x1.length : Int) > 8 then (if (wrap64 ((x1.length : Int) - 8)) = 0 then (none) else (if 0 ≤ (wrap64 (8 + (Int.tmod bt217.1 (wrap64 ((x1.length : Int) - 8))))) then (if (wrap64 (8 + (Int.tmod bt217.1 (wrap64 ((x1.length : Int) - 8))))) < (x1.length : Int) then (if x5.length < 17592186044416 then (spec_l7roots.l0 k x1 (x5 ++ [rd x1 (wrap64 (8 + (Int.tmod bt217.1 (wrap64 ((x1.length : Int) - 8)))))]) x6 (wrap64 (x7 + 1)) x1000 bt217.2) else (none)) else (none)) else (none))) else (if (x1.length : Int) = 0 then (none) else (if 0 ≤ (Int.tmod bt217.1 (x1.length : Int)) then (if (Int.tmod bt217.1 (x1.length : Int)) < (x1.length : Int) then (if x5.length < 17592186044416 then (spec_l7roots.l0 k x1 (x5 ++ [rd x1 (Int.tmod bt217.1 (x1.length : Int))]) x6 (wrap64 (x7 + 1)) x1000 bt217.2) else (none)) else (none)) else (none)))) else (if (x1.length : Int) = 0 then (none) else (if 0 ≤ (Int.tmod bt217.1 (x1.length : Int)) then (if (Int.tmod bt217.1 (x1.length : Int)) < (x1.length : Int) then (if x5.length < 17592186044416 then (spec_l7roots.l0 k x1 (x5 ++ [rd x1 (Int.tmod bt217.1 (x1.length : Int))]) x6 (wrap64 (x7 + 1)) x1000 bt217.2) else (none)) else (none)) else (none))))) else (some (x5, x1001))
def spec_l7roots.f (k : Nat) (s0_0 : List Int) (s0_1 : Int) (l1 : List Int) : Option (List Int × Int) := (spec_l7rd_next.f s0_0 s0_1).bind fun bt215 => (spec_l7roots.l0 k l1 ([] : List Int) (Int.tmod bt215.1 6) 0 s0_0 bt215.2)
theorem spec_l7roots.mono_l : ∀ k, (∀ y0 y1 y2 y3 y4 y5, LeO (spec_l7roots.l0 k y0 y1 y2 y3 y4 y5) (spec_l7roots.l0 (k + 1) y0 y1 y2 y3 y4 y5))
 | 0 => fun _ _ _ _ _ _ r h => by simp [spec_l7roots.l0] at h
 | k + 1 => by
  have ih0 := spec_l7roots.mono_l k
  ·intro y0 y1 y2 y3 y4 y5
   unfold spec_l7roots.l0
   repeat' first
   | (with_reducible exact ih0 _ _ _ _ _ _)
   | (with_reducible exact LeO.refl _)
   | (with_reducible exact LeO.none _)
   | (with_reducible refine LeO.ite ?_ ?_)
   | (with_reducible refine LeO.bind ?_ (fun _ => ?_))
   | exact ih0 _ _ _ _ _ _
   | exact LeO.none _
   | refine LeO.ite ?_ ?_
   | refine LeO.bind ?_ (fun _ => ?_)
theorem spec_l7roots.mono : ∀ a0 a1 a2 k, LeO (spec_l7roots.f k a0 a1 a2) (spec_l7roots.f (k + 1) a0 a1 a2) := by
 intro a0 a1 a2 k
 have ih0 := spec_l7roots.mono_l k
 unfold spec_l7roots.f
 repeat' first
   | (with_reducible exact ih0 _ _ _ _ _ _)
   | (with_reducible exact LeO.refl _)
   | (with_reducible exact LeO.none _)
   | (with_reducible refine LeO.ite ?_ ?_)
   | (with_reducible refine LeO.bind ?_ (fun _ => ?_))
   | exact ih0 _ _ _ _ _ _
   | exact LeO.none _
   | refine LeO.ite ?_ ?_
   | refine LeO.bind ?_ (fun _ => ?_)
set_option maxHeartbeats 8000000 in
set_option maxRecDepth 100000 in
theorem spec_l7roots.calls (k : Nat) (g : Nat) (s0_0 : List Int) (s0_1 : Int) (A1 : Option Addr) (c1 : Nat) (l1 : List Int) (r1 : List Int) (r2 : Int) (w0 w : World) (hI : IsS86 w0 w g s0_0 s0_1) (hB : Below w0.heap.size w0 w) (hr1 : Kd.C (Kd.int .i64) w A1 l1.length l1) (hc1 : l1.length ≤ c1) (hf1 : ∀ ad, A1 = some ad → 0 < l1.length → ad.block ≠ g) (h : spec_l7roots.f k s0_0 s0_1 l1 = some (r1, r2)) :
  Calls Try.prog 54 #[.pointer (some ⟨g, 0, none⟩), .slice A1 l1.length c1] w fun e w' => ∃ v0_ : Value, e = .returned (v0_) ∧ Kd.R (Kd.int .i64) 3 w' w.heap.size (fun _ => True) v0_ r1 ∧ IsS86 w0 w' g s0_0 r2 ∧ Below w0.heap.size w0 w' ∧ KeepBut w w' g none := by
 have HR1 := zA hr1
 have HC1 := zA hc1
 clear hr1 hc1
 have HI0 := zA hI
 have HK := zA (KeepBut.refl w g none)
 have HL := zA hB.size
 clear hI
 have HW0 := zA hB.size
 have HB := zA hB
 clear hB
 have H : ((spec_l7rd_next.f s0_0 s0_1).bind fun bt215 => (spec_l7roots.l0 k l1 ([] : List Int) (Int.tmod bt215.1 6) 0 s0_0 bt215.2)) = some (r1, r2) := h
 clear h
 replace H := Option.bind_eq_some_iff.mp H
 obtain ⟨⟨t215, t216⟩, A30, H⟩ := H
 replace H : (spec_l7roots.l0 k l1 ([] : List Int) (Int.tmod t215 6) 0 s0_0 t216) = some (r1, r2) := H
 have A3 := zA A30
 clear A30
 have H' := zA H
 clear H
 go_enter Try.func54, Try.ntmps54
 go_wp2_with (first | ((with_reducible refine gate_callee (f := 52) rfl ?_); refine goesL_ (some 10) rfl rfl Try.func52 (by kernel_rfl) rfl #[.pointer (some ⟨g, 0, none⟩)] rfl (by (try simp only [List.map_toArray, List.map_cons, List.map_nil]); first | done | rfl | (simp only [List.length_drop, List.length_take]; rfl)) ?_; (with_reducible refine (spec_l7rd_next.calls g s0_0 s0_1 t215 t216 w0 _ ?side1 ?side2 A3.out).mono ?_); (case side1 => repeat (first | (with_reducible first | exact HI0.out | apply IsS86.alloc | apply IsS86.drewN | apply IsS86.drew | apply IsS86.set_1) | exact HI0.out)); (case side2 => repeat (first | (with_reducible first | exact HB.out | apply zE | apply zC | apply zD | refine zB ?_ (IsS86.ge HI0.out)) | exact HB.out)); rintro e w4 ⟨rfl, hi, hb, hk⟩; refine ⟨_, rfl, ?_⟩; have n0_ := zA (zg (bJ HK.out) hk (.inl rfl)); have n1_ := zA (hb); have n2_ := zA (hi); clear HK HB HI0; have HK := n0_; have HB := n1_; have HI0 := n2_; clear n0_ n1_ n2_; (try clear hb); (try clear hb2); (try clear hk); (try clear hi)))
 go_loopg [5, 7] k (fun kq v5 v7 w' => ∃ (x5_1 : List Int) (x7_1 : Int) (x1001_1 : Int), v7 = .int .i64 x7_1 ∧ Aside0 (spec_l7roots.l0 kq l1 x5_1 (Int.tmod t215 6) x7_1 s0_0 x1001_1 = some (r1, r2)) ∧ Aside0 (kq ≤ k) ∧ Aside0 (Kd.R (Kd.int .i64) 3 w' w.heap.size (fun _ => True) v5 x5_1) ∧ Aside0 (IsS86 w0 w' g s0_0 x1001_1) ∧ Aside0 (KeepBut w w' g none) ∧ Aside0 (Below w0.heap.size w0 w'))
 case atStart => exact ⟨(([] : List Int)), (0), (t216), (by first | rfl | (simp; done) | (simp [*]; done)), H', ⟨Nat.le_refl _⟩, ⟨by first | exact Kd.R_nil _ _ _ _ _ | exact Kd.N_nil _ _ _ _ _ | exact Kd.V_nil _ _ _ _ _ | exact Kd.Q_nil _ _ _ _ _ | exact Kd.S_nil _ _ _ _ _⟩, ⟨bG HI0.out⟩, ⟨bJ HK.out⟩, ⟨bA HB.out (IsS86.ge HI0.out)⟩⟩
 case round =>
  clear H'
  try clear c1
  try clear p2
  obtain ⟨x5_1, x7_1, x1001_1, rfl, HA, HK1, HO_5, HI0, HK, HB⟩ := hrel
  cases gk with
  | zero => exact absurd HA.out (by simp [spec_l7roots.l0])
  | succ k1 =>
   have H := HA.out
   clear HA
   simp only [spec_l7roots.l0] at H
   by_cases c5 : x7_1 < (Int.tmod t215 6)
   ·rw [if_pos c5] at H
    have c5b0 : decide (x7_1 < (Int.tmod t215 6)) = true := zG c5
    clear c5
    replace H := Option.bind_eq_some_iff.mp H
    obtain ⟨⟨t217, t218⟩, A60, H⟩ := H
    replace H : (if (Int.tmod t217 3) > 0 then (if (l1.length : Int) > 8 then (if (wrap64 ((l1.length : Int) - 8)) = 0 then (none) else (if 0 ≤ (wrap64 (8 + (Int.tmod t217 (wrap64 ((l1.length : Int) - 8))))) then (if (wrap64 (8 + (Int.tmod t217 (wrap64 ((l1.length : Int) - 8))))) < (l1.length : Int) then (if x5_1.length < 17592186044416 then (spec_l7roots.l0 k1 l1 (x5_1 ++ [rd l1 (wrap64 (8 + (Int.tmod t217 (wrap64 ((l1.length : Int) - 8)))))]) (Int.tmod t215 6) (wrap64 (x7_1 + 1)) s0_0 t218) else (none)) else (none)) else (none))) else (if (l1.length : Int) = 0 then (none) else (if 0 ≤ (Int.tmod t217 (l1.length : Int)) then (if (Int.tmod t217 (l1.length : Int)) < (l1.length : Int) then (if x5_1.length < 17592186044416 then (spec_l7roots.l0 k1 l1 (x5_1 ++ [rd l1 (Int.tmod t217 (l1.length : Int))]) (Int.tmod t215 6) (wrap64 (x7_1 + 1)) s0_0 t218) else (none)) else (none)) else (none)))) else (if (l1.length : Int) = 0 then (none) else (if 0 ≤ (Int.tmod t217 (l1.length : Int)) then (if (Int.tmod t217 (l1.length : Int)) < (l1.length : Int) then (if x5_1.length < 17592186044416 then (spec_l7roots.l0 k1 l1 (x5_1 ++ [rd l1 (Int.tmod t217 (l1.length : Int))]) (Int.tmod t215 6) (wrap64 (x7_1 + 1)) s0_0 t218) else (none)) else (none)) else (none)))) = some (r1, r2) := H
    have A6 := zA A60
    clear A60
    by_cases c7 : (Int.tmod t217 3) > 0
    ·rw [if_pos c7] at H
     have c7b0 : decide (0 < (Int.tmod t217 3)) = true := zG c7
     clear c7
     by_cases c8 : (l1.length : Int) > 8
     ·rw [if_pos c8] at H
      have c8b0 : decide (8 < (l1.length : Int)) = true := zG c8
      have c8b1 : decide (8 < l1.length) = true := zG (by omega)
      clear c8
      by_cases c9 : (wrap64 ((l1.length : Int) - 8)) = 0
      ·rw [if_pos c9] at H
       exact absurd H (by simp)
      ·rw [if_neg c9] at H
       have c9b0 : ((wrap64 ((l1.length : Int) - 8)) == 0) = false := beq_eq_false_iff_ne.mpr c9
       have c9b1 : ((wrap64 ((l1.length : Int) - 8)) != 0) = true := bne_iff_ne.mpr c9
       obtain ⟨ji10, hji10⟩ : ∃ j_ : Int, (wrap64 (8 + (Int.tmod t217 (wrap64 ((l1.length : Int) - 8))))) = j_ := ⟨_, rfl⟩
       replace H : (if 0 ≤ (ji10) then (if (ji10) < (l1.length : Int) then (if x5_1.length < 17592186044416 then (spec_l7roots.l0 k1 l1 (x5_1 ++ [rd l1 (ji10)]) (Int.tmod t215 6) (wrap64 (x7_1 + 1)) s0_0 t218) else (none)) else (none)) else (none)) = some (r1, r2) := by first | (rw [hji10] at H; exact H) | (simp only [hji10] at H ⊢; exact H)
       (try rw [hji10] at A6)
       have hji10w : (IntKind.i64.wrap (8 + (Int.tmod t217 (wrap64 ((l1.length : Int) - 8))))) = ji10 := (i64_w _).trans hji10
       by_cases c11 : 0 ≤ (ji10)
       ·rw [if_pos c11] at H
        have c11b0 : decide (0 ≤ (ji10)) = true := zG c11
        clear c11
        by_cases c12 : (ji10) < (l1.length : Int)
        ·rw [if_pos c12] at H
         have c12b0 : decide ((ji10) < (l1.length : Int)) = true := zG c12
         clear c12
         by_cases c13 : x5_1.length < 17592186044416
         ·rw [if_pos c13] at H
          have LMc13 := zA c13
          clear c13
          obtain ⟨y220, hy220⟩ : ∃ y_ : List Int, y_ = (x5_1 ++ [rd l1 (ji10)]) := ⟨_, rfl⟩
          replace H : (spec_l7roots.l0 k1 l1 y220 (Int.tmod t215 6) (wrap64 (x7_1 + 1)) s0_0 t218) = some (r1, r2) := by first | (rw [hy220]; with_reducible exact H) | (have H2_ := (Option.bind_some _ _).symm.trans H; rw [hy220]; with_reducible exact H2_) | (have H2_ := (Option.bind_some _ _).symm.trans H; with_reducible exact H2_) | with_reducible exact H | (rw [hy220]; exact H) | exact H
          have Ny220 := zA hy220
          clear hy220
          have H' := zA H
          clear H
          go_wp2_with (first | ((with_reducible refine gate_callee (f := 52) rfl ?_); refine goesL_ (some 18) rfl rfl Try.func52 (by kernel_rfl) rfl #[.pointer (some ⟨g, 0, none⟩)] rfl (by (try simp only [List.map_toArray, List.map_cons, List.map_nil]); first | done | rfl | (simp only [List.length_drop, List.length_take]; rfl)) ?_; (with_reducible refine (spec_l7rd_next.calls g s0_0 x1001_1 t217 t218 w0 _ ?side1 ?side2 A6.out).mono ?_); (case side1 => repeat (first | (with_reducible first | exact HI0.out | apply IsS86.alloc | apply IsS86.drewN | apply IsS86.drew | apply IsS86.set_1) | exact HI0.out)); (case side2 => repeat (first | (with_reducible first | exact HB.out | apply zE | apply zC | apply zD | refine zB ?_ (IsS86.ge HI0.out)) | exact HB.out)); rintro e w14 ⟨rfl, hi, hb, hk⟩; refine ⟨_, rfl, ?_⟩; have n0_ := zA (zI (Kd.R_keep (IsS86.apart (show IsS86 w0 _ g s0_0 x1001_1 from bG HI0.out) (bR HO_5.out) (by decide)) hk (fun _ h => h.2)) (fun _ h => h.1)); have n1_ := zA (zg (bJ HK.out) hk (.inl rfl)); have n2_ := zA (hb); have n3_ := zA (hi); clear HO_5 HK HB HI0; have HO_5 := n0_; have HK := n1_; have HB := n2_; have HI0 := n3_; clear n0_ n1_ n2_ n3_; (try clear hb); (try clear hb2); (try clear hk); (try clear hi); have p219 : 0 ≤ ((ji10) : Int) := zF (by first | (with_reducible assumption) | assumption); have q219 : (ji10) < (l1.length : Int) := zF (by first | (with_reducible assumption) | assumption); obtain ⟨ad219, e219, hx219_0⟩ := Kd.at_int HR1.out (ji10) p219 q219; cases e219; replace hx219_0 := keep_cell HK.out hx219_0 (by first | (rw [add_block]; exact hf1 _ rfl (by omega)) | exact hf1 _ rfl (by omega) | exact hf1 ad219 rfl (by omega)); replace p219 := eq_true p219; replace q219 := eq_true q219) | ((with_reducible refine gate_builtin (b := .append) (xs := #[.tmp 27, .tmp 37]) rfl ?_); (try (refine gate_guard (by rfl) ?_; dsimp only)); at_builtin; refine Kd.R_append (Kd.int .i64) w.heap.size rfl (.tmp 27) (.tmp 37) 29 3 (.int .i64 0) 8 rfl Try.underlying29 info3 rfl (by decide) (by omega) u5 x5_1 (rd l1 (ji10)) [.int .i64 (rd l1 (ji10))] (fun _ => True) (fun _ => False) rfl rfl ?aP (fun _ hk => hk.elim) ?aF ?aO (Below.refl _ _) ?aS ?aL ?_; (case aP => exact rfl); (case aF => exact (fun _ _ => trivial)); (case aO => exact (bR HO_5.out)); (case aS => exact (keep_size (w := w) (g := g) (row := none) (bJ HK.out))); (case aL => have := LMc13.out; omega); intro v221 w15 ho hb hg hat; rw [← Ny220.out] at ho; have n0_ := zA (IsS86.grown (bG HI0.out) hg (IsS86.own_ne HI0.out HO_5.out (by decide))); have n1_ := zA (zf (bA HB.out (IsS86.ge HI0.out)) HL.out hb); have n2_ := zA (zg (bJ HK.out) (KeepBut.of_grown hg g) (Kd.R_base2 HO_5.out)); have n3_ := zA (ho); clear HI0 HB HK HO_5; have HI0 := n0_; have HB := n1_; have HK := n2_; have HO222 := n3_; clear n0_ n1_ n2_ n3_; clear ho hb hg hat))
          go_roundg k1
          case measure => have := HK1.out; omega
          case rel => exact ⟨(y220), (wrap64 (x7_1 + 1)), (t218), (by first | rfl | (simp; done) | (simp [*]; done)), H', ⟨by have := HK1.out; omega⟩, ⟨bR HO222.out⟩, ⟨bG HI0.out⟩, ⟨bJ HK.out⟩, ⟨bA HB.out (IsS86.ge HI0.out)⟩⟩
         ·rw [if_neg c13] at H
          exact absurd H (by simp)
        ·rw [if_neg c12] at H
         exact absurd H (by simp)
       ·rw [if_neg c11] at H
        exact absurd H (by simp)
     ·rw [if_neg c8] at H
      have c8b0 : decide (8 < (l1.length : Int)) = false := zH c8
      have c8b1 : decide (8 < l1.length) = false := zH (by omega)
      clear c8
      by_cases c16 : (l1.length : Int) = 0
      ·rw [if_pos c16] at H
       exact absurd H (by simp)
      ·rw [if_neg c16] at H
       have c16b0 : ((l1.length : Int) == 0) = false := beq_eq_false_iff_ne.mpr c16
       have c16b1 : ((l1.length : Int) != 0) = true := bne_iff_ne.mpr c16
       have c16b2 : ¬ (l1 = []) := fun h_ => c16 (by rw [h_]; rfl)
       obtain ⟨ji17, hji17⟩ : ∃ j_ : Int, (Int.tmod t217 (l1.length : Int)) = j_ := ⟨_, rfl⟩
       replace H : (if 0 ≤ (ji17) then (if (ji17) < (l1.length : Int) then (if x5_1.length < 17592186044416 then (spec_l7roots.l0 k1 l1 (x5_1 ++ [rd l1 (ji17)]) (Int.tmod t215 6) (wrap64 (x7_1 + 1)) s0_0 t218) else (none)) else (none)) else (none)) = some (r1, r2) := by first | (rw [hji17] at H; exact H) | (simp only [hji17] at H ⊢; exact H)
       (try rw [hji17] at A6)
       by_cases c18 : 0 ≤ (ji17)
       ·rw [if_pos c18] at H
        have c18b0 : decide (0 ≤ (ji17)) = true := zG c18
        clear c18
        by_cases c19 : (ji17) < (l1.length : Int)
        ·rw [if_pos c19] at H
         have c19b0 : decide ((ji17) < (l1.length : Int)) = true := zG c19
         clear c19
         by_cases c20 : x5_1.length < 17592186044416
         ·rw [if_pos c20] at H
          have LMc20 := zA c20
          clear c20
          obtain ⟨y224, hy224⟩ : ∃ y_ : List Int, y_ = (x5_1 ++ [rd l1 (ji17)]) := ⟨_, rfl⟩
          replace H : (spec_l7roots.l0 k1 l1 y224 (Int.tmod t215 6) (wrap64 (x7_1 + 1)) s0_0 t218) = some (r1, r2) := by first | (rw [hy224]; with_reducible exact H) | (have H2_ := (Option.bind_some _ _).symm.trans H; rw [hy224]; with_reducible exact H2_) | (have H2_ := (Option.bind_some _ _).symm.trans H; with_reducible exact H2_) | with_reducible exact H | (rw [hy224]; exact H) | exact H
          have Ny224 := zA hy224
          clear hy224
          have H' := zA H
          clear H
          go_wp2_with (first | ((with_reducible refine gate_callee (f := 52) rfl ?_); refine goesL_ (some 18) rfl rfl Try.func52 (by kernel_rfl) rfl #[.pointer (some ⟨g, 0, none⟩)] rfl (by (try simp only [List.map_toArray, List.map_cons, List.map_nil]); first | done | rfl | (simp only [List.length_drop, List.length_take]; rfl)) ?_; (with_reducible refine (spec_l7rd_next.calls g s0_0 x1001_1 t217 t218 w0 _ ?side1 ?side2 A6.out).mono ?_); (case side1 => repeat (first | (with_reducible first | exact HI0.out | apply IsS86.alloc | apply IsS86.drewN | apply IsS86.drew | apply IsS86.set_1) | exact HI0.out)); (case side2 => repeat (first | (with_reducible first | exact HB.out | apply zE | apply zC | apply zD | refine zB ?_ (IsS86.ge HI0.out)) | exact HB.out)); rintro e w21 ⟨rfl, hi, hb, hk⟩; refine ⟨_, rfl, ?_⟩; have n0_ := zA (zI (Kd.R_keep (IsS86.apart (show IsS86 w0 _ g s0_0 x1001_1 from bG HI0.out) (bR HO_5.out) (by decide)) hk (fun _ h => h.2)) (fun _ h => h.1)); have n1_ := zA (zg (bJ HK.out) hk (.inl rfl)); have n2_ := zA (hb); have n3_ := zA (hi); clear HO_5 HK HB HI0; have HO_5 := n0_; have HK := n1_; have HB := n2_; have HI0 := n3_; clear n0_ n1_ n2_ n3_; (try clear hb); (try clear hb2); (try clear hk); (try clear hi); have p223 : 0 ≤ ((ji17) : Int) := zF (by first | (with_reducible assumption) | assumption); have q223 : (ji17) < (l1.length : Int) := zF (by first | (with_reducible assumption) | assumption); obtain ⟨ad223, e223, hx223_0⟩ := Kd.at_int HR1.out (ji17) p223 q223; cases e223; replace hx223_0 := keep_cell HK.out hx223_0 (by first | (rw [add_block]; exact hf1 _ rfl (by omega)) | exact hf1 _ rfl (by omega) | exact hf1 ad223 rfl (by omega)); replace p223 := eq_true p223; replace q223 := eq_true q223) | ((with_reducible refine gate_builtin (b := .append) (xs := #[.tmp 39, .tmp 47]) rfl ?_); (try (refine gate_guard (by rfl) ?_; dsimp only)); at_builtin; refine Kd.R_append (Kd.int .i64) w.heap.size rfl (.tmp 39) (.tmp 47) 29 3 (.int .i64 0) 8 rfl Try.underlying29 info3 rfl (by decide) (by omega) u5 x5_1 (rd l1 (ji17)) [.int .i64 (rd l1 (ji17))] (fun _ => True) (fun _ => False) rfl rfl ?aP (fun _ hk => hk.elim) ?aF ?aO (Below.refl _ _) ?aS ?aL ?_; (case aP => exact rfl); (case aF => exact (fun _ _ => trivial)); (case aO => exact (bR HO_5.out)); (case aS => exact (keep_size (w := w) (g := g) (row := none) (bJ HK.out))); (case aL => have := LMc20.out; omega); intro v225 w22 ho hb hg hat; rw [← Ny224.out] at ho; have n0_ := zA (IsS86.grown (bG HI0.out) hg (IsS86.own_ne HI0.out HO_5.out (by decide))); have n1_ := zA (zf (bA HB.out (IsS86.ge HI0.out)) HL.out hb); have n2_ := zA (zg (bJ HK.out) (KeepBut.of_grown hg g) (Kd.R_base2 HO_5.out)); have n3_ := zA (ho); clear HI0 HB HK HO_5; have HI0 := n0_; have HB := n1_; have HK := n2_; have HO226 := n3_; clear n0_ n1_ n2_ n3_; clear ho hb hg hat))
          go_roundg k1
          case measure => have := HK1.out; omega
          case rel => exact ⟨(y224), (wrap64 (x7_1 + 1)), (t218), (by first | rfl | (simp; done) | (simp [*]; done)), H', ⟨by have := HK1.out; omega⟩, ⟨bR HO226.out⟩, ⟨bG HI0.out⟩, ⟨bJ HK.out⟩, ⟨bA HB.out (IsS86.ge HI0.out)⟩⟩
         ·rw [if_neg c20] at H
          exact absurd H (by simp)
        ·rw [if_neg c19] at H
         exact absurd H (by simp)
       ·rw [if_neg c18] at H
        exact absurd H (by simp)
    ·rw [if_neg c7] at H
     have c7b0 : decide (0 < (Int.tmod t217 3)) = false := zH c7
     clear c7
     by_cases c23 : (l1.length : Int) = 0
     ·rw [if_pos c23] at H
      exact absurd H (by simp)
     ·rw [if_neg c23] at H
      have c23b0 : ((l1.length : Int) == 0) = false := beq_eq_false_iff_ne.mpr c23
      have c23b1 : ((l1.length : Int) != 0) = true := bne_iff_ne.mpr c23
      have c23b2 : ¬ (l1 = []) := fun h_ => c23 (by rw [h_]; rfl)
      obtain ⟨ji24, hji24⟩ : ∃ j_ : Int, (Int.tmod t217 (l1.length : Int)) = j_ := ⟨_, rfl⟩
      replace H : (if 0 ≤ (ji24) then (if (ji24) < (l1.length : Int) then (if x5_1.length < 17592186044416 then (spec_l7roots.l0 k1 l1 (x5_1 ++ [rd l1 (ji24)]) (Int.tmod t215 6) (wrap64 (x7_1 + 1)) s0_0 t218) else (none)) else (none)) else (none)) = some (r1, r2) := by first | (rw [hji24] at H; exact H) | (simp only [hji24] at H ⊢; exact H)
      (try rw [hji24] at A6)
      by_cases c25 : 0 ≤ (ji24)
      ·rw [if_pos c25] at H
       have c25b0 : decide (0 ≤ (ji24)) = true := zG c25
       clear c25
       by_cases c26 : (ji24) < (l1.length : Int)
       ·rw [if_pos c26] at H
        have c26b0 : decide ((ji24) < (l1.length : Int)) = true := zG c26
        clear c26
        by_cases c27 : x5_1.length < 17592186044416
        ·rw [if_pos c27] at H
         have LMc27 := zA c27
         clear c27
         obtain ⟨y228, hy228⟩ : ∃ y_ : List Int, y_ = (x5_1 ++ [rd l1 (ji24)]) := ⟨_, rfl⟩
         replace H : (spec_l7roots.l0 k1 l1 y228 (Int.tmod t215 6) (wrap64 (x7_1 + 1)) s0_0 t218) = some (r1, r2) := by first | (rw [hy228]; with_reducible exact H) | (have H2_ := (Option.bind_some _ _).symm.trans H; rw [hy228]; with_reducible exact H2_) | (have H2_ := (Option.bind_some _ _).symm.trans H; with_reducible exact H2_) | with_reducible exact H | (rw [hy228]; exact H) | exact H
         have Ny228 := zA hy228
         clear hy228
         have H' := zA H
         clear H
         go_wp2_with (first | ((with_reducible refine gate_callee (f := 52) rfl ?_); refine goesL_ (some 18) rfl rfl Try.func52 (by kernel_rfl) rfl #[.pointer (some ⟨g, 0, none⟩)] rfl (by (try simp only [List.map_toArray, List.map_cons, List.map_nil]); first | done | rfl | (simp only [List.length_drop, List.length_take]; rfl)) ?_; (with_reducible refine (spec_l7rd_next.calls g s0_0 x1001_1 t217 t218 w0 _ ?side1 ?side2 A6.out).mono ?_); (case side1 => repeat (first | (with_reducible first | exact HI0.out | apply IsS86.alloc | apply IsS86.drewN | apply IsS86.drew | apply IsS86.set_1) | exact HI0.out)); (case side2 => repeat (first | (with_reducible first | exact HB.out | apply zE | apply zC | apply zD | refine zB ?_ (IsS86.ge HI0.out)) | exact HB.out)); rintro e w28 ⟨rfl, hi, hb, hk⟩; refine ⟨_, rfl, ?_⟩; have n0_ := zA (zI (Kd.R_keep (IsS86.apart (show IsS86 w0 _ g s0_0 x1001_1 from bG HI0.out) (bR HO_5.out) (by decide)) hk (fun _ h => h.2)) (fun _ h => h.1)); have n1_ := zA (zg (bJ HK.out) hk (.inl rfl)); have n2_ := zA (hb); have n3_ := zA (hi); clear HO_5 HK HB HI0; have HO_5 := n0_; have HK := n1_; have HB := n2_; have HI0 := n3_; clear n0_ n1_ n2_ n3_; (try clear hb); (try clear hb2); (try clear hk); (try clear hi); have p227 : 0 ≤ ((ji24) : Int) := zF (by first | (with_reducible assumption) | assumption); have q227 : (ji24) < (l1.length : Int) := zF (by first | (with_reducible assumption) | assumption); obtain ⟨ad227, e227, hx227_0⟩ := Kd.at_int HR1.out (ji24) p227 q227; cases e227; replace hx227_0 := keep_cell HK.out hx227_0 (by first | (rw [add_block]; exact hf1 _ rfl (by omega)) | exact hf1 _ rfl (by omega) | exact hf1 ad227 rfl (by omega)); replace p227 := eq_true p227; replace q227 := eq_true q227) | ((with_reducible refine gate_builtin (b := .append) (xs := #[.tmp 39, .tmp 47]) rfl ?_); (try (refine gate_guard (by rfl) ?_; dsimp only)); at_builtin; refine Kd.R_append (Kd.int .i64) w.heap.size rfl (.tmp 39) (.tmp 47) 29 3 (.int .i64 0) 8 rfl Try.underlying29 info3 rfl (by decide) (by omega) u5 x5_1 (rd l1 (ji24)) [.int .i64 (rd l1 (ji24))] (fun _ => True) (fun _ => False) rfl rfl ?aP (fun _ hk => hk.elim) ?aF ?aO (Below.refl _ _) ?aS ?aL ?_; (case aP => exact rfl); (case aF => exact (fun _ _ => trivial)); (case aO => exact (bR HO_5.out)); (case aS => exact (keep_size (w := w) (g := g) (row := none) (bJ HK.out))); (case aL => have := LMc27.out; omega); intro v229 w29 ho hb hg hat; rw [← Ny228.out] at ho; have n0_ := zA (IsS86.grown (bG HI0.out) hg (IsS86.own_ne HI0.out HO_5.out (by decide))); have n1_ := zA (zf (bA HB.out (IsS86.ge HI0.out)) HL.out hb); have n2_ := zA (zg (bJ HK.out) (KeepBut.of_grown hg g) (Kd.R_base2 HO_5.out)); have n3_ := zA (ho); clear HI0 HB HK HO_5; have HI0 := n0_; have HB := n1_; have HK := n2_; have HO230 := n3_; clear n0_ n1_ n2_ n3_; clear ho hb hg hat))
         go_roundg k1
         case measure => have := HK1.out; omega
         case rel => exact ⟨(y228), (wrap64 (x7_1 + 1)), (t218), (by first | rfl | (simp; done) | (simp [*]; done)), H', ⟨by have := HK1.out; omega⟩, ⟨bR HO230.out⟩, ⟨bG HI0.out⟩, ⟨bJ HK.out⟩, ⟨bA HB.out (IsS86.ge HI0.out)⟩⟩
        ·rw [if_neg c27] at H
         exact absurd H (by simp)
       ·rw [if_neg c26] at H
        exact absurd H (by simp)
      ·rw [if_neg c25] at H
       exact absurd H (by simp)
   ·rw [if_neg c5] at H
    have c5b0 : decide (x7_1 < (Int.tmod t215 6)) = false := zH c5
    clear c5
    simp only [Option.some.injEq, Prod.mk.injEq] at H
    obtain ⟨rfl, rfl⟩ := H
    go_wp2
    go_ret
    exact ⟨_, by first | rfl | (simp [errW_none, errW_some] <;> rfl) | (simp [*, errW_none, errW_some] <;> rfl), bR HO_5.out, bG HI0.out, bA HB.out (IsS86.ge HI0.out), bJ HK.out⟩

/-! ### spec_l7spoilHeap: function 55 -/
def spec_l7spoilHeap.f (l0_0 : List Int) (a0_1 : Int) (s1_0 : List Int) (s1_1 : Int) : Option (List Int × Int × Int) := (spec_l7rd_next.f s1_0 s1_1).bind fun bt233 => ((spec_l7rd_next.f s1_0 bt233.2).bind fun bt235 => (if (Int.tmod bt233.1 5) = 0 then (some (l0_0, wrap64 (a0_1 + 1), bt235.2)) else (if (Int.tmod bt233.1 5) = 1 then (some (l0_0, (-1), bt235.2)) else (if (l0_0.length : Int) = 0 then (some (l0_0, 1, bt235.2)) else (if (Int.tmod bt233.1 5) = 2 then ((spec_l7rd_next.f s1_0 bt235.2).bind fun bt237 => (if 0 ≤ (Int.tmod bt235.1 (l0_0.length : Int)) then (if (Int.tmod bt235.1 (l0_0.length : Int)) < (l0_0.length : Int) then (some ((l0_0.set ((Int.tmod bt235.1 (l0_0.length : Int)) : Int).toNat bt237.1), a0_1, bt237.2)) else (none)) else (none))) else (if (Int.tmod bt233.1 5) = 3 then ((spec_l7rd_next.f s1_0 bt235.2).bind fun bt240 => (if 0 ≤ (Int.tmod bt235.1 (l0_0.length : Int)) then (if (Int.tmod bt235.1 (l0_0.length : Int)) < (l0_0.length : Int) then (some ((l0_0.set ((Int.tmod bt235.1 (l0_0.length : Int)) : Int).toNat (wrap64 (-bt240.1))), a0_1, bt240.2)) else (none)) else (none))) else (if 0 ≤ (wrap64 ((wrap64 (20000 + (Int.tmod bt235.1 2))) - (l0_0.length : Int))) then (if l0_0.length + (wrap64 ((wrap64 (20000 + (Int.tmod bt235.1 2))) - (l0_0.length : Int)) : Int).toNat < 17592186044416 then (some ((l0_0 ++ List.replicate (wrap64 ((wrap64 (20000 + (Int.tmod bt235.1 2))) - (l0_0.length : Int)) : Int).toNat 0), a0_1, bt235.2)) else (none)) else (none))))))))
def spec_l7spoilHeap.T10 : Bool × List (List Nat × List Nat) := (true, [([], []), ([0], [0]), ([], []), ([], []), ([3], [3]), ([4], [4]), ([2, 5], [2, 5]), ([], []), ([7], [7]), ([1, 6, 0, 1, 2, 3, 4, 5, 6, 7, 8], [1, 6]), ([9, 8, 8, 0, 1, 2, 3, 4, 5, 6, 7, 8], [8, 9])])
def spec_l7spoilHeap.B10 : List Nat := [0, 1, 0, 0, 8, 24, 60, 0, 128, 511, 1023]
theorem spec_l7spoilHeap.tab10 : rtab .any (opsOf Try.f55 10) = spec_l7spoilHeap.T10 := by kernel_rfl
theorem spec_l7spoilHeap.bits10 : waitsOk spec_l7spoilHeap.T10.2 spec_l7spoilHeap.B10 = true := by kernel_rfl
def spec_l7spoilHeap.T12 : Bool × List (List Nat × List Nat) := (true, [([], []), ([0], [0]), ([], []), ([], []), ([3], [3]), ([4], [4]), ([2, 5], [2, 5]), ([], []), ([7], [7]), ([8], [8]), ([1, 6, 0, 1, 2, 3, 4, 5, 6, 7, 8, 9], [1, 6]), ([10, 9, 8, 0, 1, 2, 3, 4, 5, 6, 7, 8, 9], [9, 10])])
def spec_l7spoilHeap.B12 : List Nat := [0, 1, 0, 0, 8, 24, 60, 0, 128, 384, 1023, 2047]
theorem spec_l7spoilHeap.tab12 : rtab .any (opsOf Try.f55 12) = spec_l7spoilHeap.T12 := by kernel_rfl
theorem spec_l7spoilHeap.bits12 : waitsOk spec_l7spoilHeap.T12.2 spec_l7spoilHeap.B12 = true := by kernel_rfl
set_option maxHeartbeats 8000000 in
set_option maxRecDepth 100000 in
theorem spec_l7spoilHeap.calls (P0_0_ : Nat → Prop) (u9000_ : Value) (l0_0 : List Int) (a0_1 : Int) (g : Nat) (s1_0 : List Int) (s1_1 : Int) (r1 : List Int) (r2 : Int) (r3 : Int) (w0 w : World) (hI : IsS86 w0 w g s1_0 s1_1) (hB : Below w0.heap.size w0 w) (ho0_0 : Kd.R (Kd.int .i64) 3 w w0.heap.size P0_0_ u9000_ l0_0) (h : spec_l7spoilHeap.f l0_0 a0_1 s1_0 s1_1 = some (r1, r2, r3)) :
  Calls Try.prog 55 #[.agg #[u9000_, .int .i64 a0_1], .pointer (some ⟨g, 0, none⟩)] w fun e w' => ∃ v0_ : Value, e = .returned (.agg #[v0_, .int .i64 r2]) ∧ Kd.R (Kd.int .i64) 3 w' w0.heap.size (fun k_ => (P0_0_ k_ ∨ w.heap.size ≤ k_)) v0_ r1 ∧ IsS86 w0 w' g s1_0 r3 ∧ Below w0.heap.size w0 w' ∧ Kept w w' (fun k_ => (P0_0_ k_) ∨ k_ = g) := by
 have hu31 := Try.underlying31
 have HO0_0 := zA (show Kd.R (Kd.int .i64) 3 w w0.heap.size (fun k_ => (P0_0_ k_ ∨ w.heap.size ≤ k_)) u9000_ l0_0 from zI ho0_0 (fun k_ hk => (.inl hk)))
 have HI1 := zA hI
 have HL := zA hB.size
 clear hI
 have HK := zA (Kept.refl w (fun k_ => (P0_0_ k_) ∨ k_ = g))
 have HW0 := zA hB.size
 have HB := zA hB
 clear hB
 have H : ((spec_l7rd_next.f s1_0 s1_1).bind fun bt233 => ((spec_l7rd_next.f s1_0 bt233.2).bind fun bt235 => (if (Int.tmod bt233.1 5) = 0 then (some (l0_0, wrap64 (a0_1 + 1), bt235.2)) else (if (Int.tmod bt233.1 5) = 1 then (some (l0_0, (-1), bt235.2)) else (if (l0_0.length : Int) = 0 then (some (l0_0, 1, bt235.2)) else (if (Int.tmod bt233.1 5) = 2 then ((spec_l7rd_next.f s1_0 bt235.2).bind fun bt237 => (if 0 ≤ (Int.tmod bt235.1 (l0_0.length : Int)) then (if (Int.tmod bt235.1 (l0_0.length : Int)) < (l0_0.length : Int) then (some ((l0_0.set ((Int.tmod bt235.1 (l0_0.length : Int)) : Int).toNat bt237.1), a0_1, bt237.2)) else (none)) else (none))) else (if (Int.tmod bt233.1 5) = 3 then ((spec_l7rd_next.f s1_0 bt235.2).bind fun bt240 => (if 0 ≤ (Int.tmod bt235.1 (l0_0.length : Int)) then (if (Int.tmod bt235.1 (l0_0.length : Int)) < (l0_0.length : Int) then (some ((l0_0.set ((Int.tmod bt235.1 (l0_0.length : Int)) : Int).toNat (wrap64 (-bt240.1))), a0_1, bt240.2)) else (none)) else (none))) else (if 0 ≤ (wrap64 ((wrap64 (20000 + (Int.tmod bt235.1 2))) - (l0_0.length : Int))) then (if l0_0.length + (wrap64 ((wrap64 (20000 + (Int.tmod bt235.1 2))) - (l0_0.length : Int)) : Int).toNat < 17592186044416 then (some ((l0_0 ++ List.replicate (wrap64 ((wrap64 (20000 + (Int.tmod bt235.1 2))) - (l0_0.length : Int)) : Int).toNat 0), a0_1, bt235.2)) else (none)) else (none))))))))) = some (r1, r2, r3) := h
 clear h
 replace H := Option.bind_eq_some_iff.mp H
 obtain ⟨⟨t233, t234⟩, A30, H⟩ := H
 replace H : ((spec_l7rd_next.f s1_0 t234).bind fun bt235 => (if (Int.tmod t233 5) = 0 then (some (l0_0, wrap64 (a0_1 + 1), bt235.2)) else (if (Int.tmod t233 5) = 1 then (some (l0_0, (-1), bt235.2)) else (if (l0_0.length : Int) = 0 then (some (l0_0, 1, bt235.2)) else (if (Int.tmod t233 5) = 2 then ((spec_l7rd_next.f s1_0 bt235.2).bind fun bt237 => (if 0 ≤ (Int.tmod bt235.1 (l0_0.length : Int)) then (if (Int.tmod bt235.1 (l0_0.length : Int)) < (l0_0.length : Int) then (some ((l0_0.set ((Int.tmod bt235.1 (l0_0.length : Int)) : Int).toNat bt237.1), a0_1, bt237.2)) else (none)) else (none))) else (if (Int.tmod t233 5) = 3 then ((spec_l7rd_next.f s1_0 bt235.2).bind fun bt240 => (if 0 ≤ (Int.tmod bt235.1 (l0_0.length : Int)) then (if (Int.tmod bt235.1 (l0_0.length : Int)) < (l0_0.length : Int) then (some ((l0_0.set ((Int.tmod bt235.1 (l0_0.length : Int)) : Int).toNat (wrap64 (-bt240.1))), a0_1, bt240.2)) else (none)) else (none))) else (if 0 ≤ (wrap64 ((wrap64 (20000 + (Int.tmod bt235.1 2))) - (l0_0.length : Int))) then (if l0_0.length + (wrap64 ((wrap64 (20000 + (Int.tmod bt235.1 2))) - (l0_0.length : Int)) : Int).toNat < 17592186044416 then (some ((l0_0 ++ List.replicate (wrap64 ((wrap64 (20000 + (Int.tmod bt235.1 2))) - (l0_0.length : Int)) : Int).toNat 0), a0_1, bt235.2)) else (none)) else (none)))))))) = some (r1, r2, r3) := H
 have A3 := zA A30
 clear A30
 replace H := Option.bind_eq_some_iff.mp H
 obtain ⟨⟨t235, t236⟩, A40, H⟩ := H
 replace H : (if (Int.tmod t233 5) = 0 then (some (l0_0, wrap64 (a0_1 + 1), t236)) else (if (Int.tmod t233 5) = 1 then (some (l0_0, (-1), t236)) else (if (l0_0.length : Int) = 0 then (some (l0_0, 1, t236)) else (if (Int.tmod t233 5) = 2 then ((spec_l7rd_next.f s1_0 t236).bind fun bt237 => (if 0 ≤ (Int.tmod t235 (l0_0.length : Int)) then (if (Int.tmod t235 (l0_0.length : Int)) < (l0_0.length : Int) then (some ((l0_0.set ((Int.tmod t235 (l0_0.length : Int)) : Int).toNat bt237.1), a0_1, bt237.2)) else (none)) else (none))) else (if (Int.tmod t233 5) = 3 then ((spec_l7rd_next.f s1_0 t236).bind fun bt240 => (if 0 ≤ (Int.tmod t235 (l0_0.length : Int)) then (if (Int.tmod t235 (l0_0.length : Int)) < (l0_0.length : Int) then (some ((l0_0.set ((Int.tmod t235 (l0_0.length : Int)) : Int).toNat (wrap64 (-bt240.1))), a0_1, bt240.2)) else (none)) else (none))) else (if 0 ≤ (wrap64 ((wrap64 (20000 + (Int.tmod t235 2))) - (l0_0.length : Int))) then (if l0_0.length + (wrap64 ((wrap64 (20000 + (Int.tmod t235 2))) - (l0_0.length : Int)) : Int).toNat < 17592186044416 then (some ((l0_0 ++ List.replicate (wrap64 ((wrap64 (20000 + (Int.tmod t235 2))) - (l0_0.length : Int)) : Int).toNat 0), a0_1, t236)) else (none)) else (none))))))) = some (r1, r2, r3) := H
 have A4 := zA A40
 clear A40
 by_cases c5 : (Int.tmod t233 5) = 0
 ·rw [if_pos c5] at H
  have c5b0 : ((Int.tmod t233 5) == 0) = true := beq_iff_eq.mpr c5
  have c5b1 : ((Int.tmod t233 5) != 0) = false := bne_eq_false_iff_eq.mpr c5
  clear c5
  simp only [Option.some.injEq, Prod.mk.injEq] at H
  obtain ⟨rfl, rfl, rfl⟩ := H
  obtain ⟨Ao6, co6, eo6⟩ := Kd.R_slice HO0_0.out
  subst eo6
  go_enter Try.func55, Try.ntmps55
  go_wp2_with (first | ((with_reducible refine gate_dst (N := 2) rfl ?_); refine box_event ?hg (N := 2) ?hd (cs := #[.slice Ao6 l0_0.length co6, .int .i64 a0_1]) (t := 31) ?hr ?_; (case hd => rfl); (case hg => rfl); (case hr => first | (go_simp; done) | (go_simp; rfl)); intro gb231 hg w7 hbox hb; have n0_ := zA (zP (bR HO0_0.out) hb); have n1_ := zA (IsS86.below (bG HI1.out) hb); have n2_ := zA (Kept.below (S := (fun k_ => (P0_0_ k_) ∨ k_ = g)) (by repeat (first | (with_reducible first | exact HK.out | apply Kept.alloc | apply Kept.drewN | apply Kept.drew | refine zK ?_ (.inl (.inr rfl)) _) | exact HK.out)) hb); have n3_ := zA (zX (bA HB.out (IsS86.ge HI1.out)) hb); have n4_ := zA (hbox); have n5_ := zA ((by rw [hg]; exact (by first | exact HK.out.1 | exact (show Kept w _ (fun k_ => (P0_0_ k_) ∨ k_ = g) from by repeat (first | (with_reducible first | exact HK.out | apply Kept.alloc | apply Kept.drewN | apply Kept.drew | refine zK ?_ (.inl (.inr rfl)) _) | exact HK.out)).1) : w.heap.size ≤ gb231)); have n6_ := zA ((by rw [hg]; exact (below_size (bA HB.out (IsS86.ge HI1.out))) : w0.heap.size ≤ gb231)); have n7_ := zA ((by rw [hg]; exact Nat.ne_of_lt (IsS86.lt (show IsS86 w0 _ g s1_0 s1_1 from bG HI1.out)) : g ≠ gb231)); have n8_ := zA ((by rw [hg]; exact Nat.ne_of_gt (IsS86.lt (show IsS86 w0 _ g s1_0 s1_1 from bG HI1.out)) : gb231 ≠ g)); clear HO0_0 HI1 HK HB; have HO0_0 := n0_; have HI1 := n1_; have HK := n2_; have HB := n3_; have BK231 := n4_; have GW231 := n5_; have GE231 := n6_; have NB1_231 := n7_; have NB231_1 := n8_; clear n0_ n1_ n2_ n3_ n4_ n5_ n6_ n7_ n8_; clear hb hbox hg) | ((with_reducible refine gate_dst (N := 4) rfl ?_); refine box_event ?hg (N := 4) ?hd (cs := #[.slice none 0 0, .int .i64 0]) (t := 31) ?hr ?_; (case hd => rfl); (case hg => rfl); (case hr => first | (go_simp; done) | (go_simp; rfl)); intro gb232 hg w8 hbox hb; have n0_ := zA (zP (bR HO0_0.out) hb); have n1_ := zA (IsS86.below (bH HI1.out NB1_231.out) hb); have n2_ := zA (zN (g := gb231) (o := .cells #[.slice Ao6 l0_0.length co6, .int .i64 a0_1] 31 (0, 0)) (bU BK231.out) hb); have n3_ := zA (Kept.below (S := (fun k_ => (P0_0_ k_) ∨ k_ = g)) (by repeat (first | (with_reducible first | exact HK.out | apply Kept.alloc | apply Kept.drewN | apply Kept.drew | refine zK ?_ (.inl (.inr rfl)) _ | refine zK ?_ (.inr GW231.out) _) | exact HK.out)) hb); have n4_ := zA (zX (bD HB.out (IsS86.ge HI1.out) GE231.out) hb); have n5_ := zA (hbox); have n6_ := zA ((by rw [hg]; exact (by first | exact HK.out.1 | exact (show Kept w _ (fun k_ => (P0_0_ k_) ∨ k_ = g) from by repeat (first | (with_reducible first | exact HK.out | apply Kept.alloc | apply Kept.drewN | apply Kept.drew | refine zK ?_ (.inl (.inr rfl)) _ | refine zK ?_ (.inr GW231.out) _) | exact HK.out)).1) : w.heap.size ≤ gb232)); have n7_ := zA ((by rw [hg]; exact (below_size (bD HB.out (IsS86.ge HI1.out) GE231.out)) : w0.heap.size ≤ gb232)); have n8_ := zA ((by rw [hg]; exact Nat.ne_of_lt (blk_lt (g := gb231) (o := .cells #[.slice Ao6 l0_0.length co6, .int .i64 a0_1] 31 (0, 0)) (bU BK231.out)) : gb231 ≠ gb232)); have n9_ := zA ((by rw [hg]; exact Nat.ne_of_gt (blk_lt (g := gb231) (o := .cells #[.slice Ao6 l0_0.length co6, .int .i64 a0_1] 31 (0, 0)) (bU BK231.out)) : gb232 ≠ gb231)); have n10_ := zA ((by rw [hg]; exact Nat.ne_of_lt (IsS86.lt (show IsS86 w0 _ g s1_0 s1_1 from bH HI1.out NB1_231.out)) : g ≠ gb232)); have n11_ := zA ((by rw [hg]; exact Nat.ne_of_gt (IsS86.lt (show IsS86 w0 _ g s1_0 s1_1 from bH HI1.out NB1_231.out)) : gb232 ≠ g)); clear HO0_0 HI1 BK231 HK HB; have HO0_0 := n0_; have HI1 := n1_; have BK231 := n2_; have HK := n3_; have HB := n4_; have BK232 := n5_; have GW232 := n6_; have GE232 := n7_; have NB231_232 := n8_; have NB232_231 := n9_; have NB1_232 := n10_; have NB232_1 := n11_; clear n0_ n1_ n2_ n3_ n4_ n5_ n6_ n7_ n8_ n9_ n10_ n11_; clear hb hbox hg) | ((with_reducible refine gate_callee (f := 52) rfl ?_); refine goesL_ (some 8) rfl rfl Try.func52 (by kernel_rfl) rfl #[.pointer (some ⟨g, 0, none⟩)] rfl (by (try simp only [List.map_toArray, List.map_cons, List.map_nil]); first | done | rfl | (simp only [List.length_drop, List.length_take]; rfl)) ?_; (with_reducible refine (spec_l7rd_next.calls g s1_0 s1_1 t233 t234 w0 _ ?side1 ?side2 A3.out).mono ?_); (case side1 => repeat (first | (with_reducible first | exact HI1.out | apply IsS86.alloc | apply IsS86.drewN | apply IsS86.drew | apply IsS86.set_1 | refine IsS86.far ?_ NB1_231.out _ | refine IsS86.far ?_ NB1_232.out _) | exact HI1.out)); (case side2 => repeat (first | (with_reducible first | exact HB.out | apply zE | apply zC | apply zD | refine zB ?_ (IsS86.ge HI1.out) | refine zB ?_ GE231.out | refine zB ?_ GE232.out) | exact HB.out)); rintro e w9 ⟨rfl, hi, hb, hk⟩; refine ⟨_, rfl, ?_⟩; have n0_ := zA (zI (Kd.R_keep (IsS86.apart (show IsS86 w0 _ g s1_0 s1_1 from bB HI1.out NB1_231.out NB1_232.out) (bR HO0_0.out) (by decide)) hk (fun _ h => h.2)) (fun _ h => h.1)); have n1_ := zA (KeepBut.blk hk (g' := gb231) (o := .cells #[.slice Ao6 l0_0.length co6, .int .i64 a0_1] 31 (0, 0)) (bU BK231.out) NB231_1.out (by simp)); have n2_ := zA (KeepBut.blk hk (g' := gb232) (o := .cells #[.slice none 0 0, .int .i64 0] 31 (0, 0)) (bU BK232.out) NB232_1.out (by simp)); have n3_ := zA (Kept.of_keep (S := (fun k_ => (P0_0_ k_) ∨ k_ = g)) (by repeat (first | (with_reducible first | exact HK.out | apply Kept.alloc | apply Kept.drewN | apply Kept.drew | refine zK ?_ (.inl (.inr rfl)) _ | refine zK ?_ (.inr GW231.out) _ | refine zK ?_ (.inr GW232.out) _) | exact HK.out)) hk (.inl (.inr rfl))); have n4_ := zA (hb); have n5_ := zA (hi); clear HO0_0 BK231 BK232 HK HB HI1; have HO0_0 := n0_; have BK231 := n1_; have BK232 := n2_; have HK := n3_; have HB := n4_; have HI1 := n5_; clear n0_ n1_ n2_ n3_ n4_ n5_; (try clear hb); (try clear hb2); (try clear hk); (try clear hi)) | ((with_reducible refine gate_callee (f := 52) rfl ?_); refine goesL_ (some 11) rfl rfl Try.func52 (by kernel_rfl) rfl #[.pointer (some ⟨g, 0, none⟩)] rfl (by (try simp only [List.map_toArray, List.map_cons, List.map_nil]); first | done | rfl | (simp only [List.length_drop, List.length_take]; rfl)) ?_; (with_reducible refine (spec_l7rd_next.calls g s1_0 t234 t235 t236 w0 _ ?side1 ?side2 A4.out).mono ?_); (case side1 => repeat (first | (with_reducible first | exact HI1.out | apply IsS86.alloc | apply IsS86.drewN | apply IsS86.drew | apply IsS86.set_1 | refine IsS86.far ?_ NB1_231.out _ | refine IsS86.far ?_ NB1_232.out _) | exact HI1.out)); (case side2 => repeat (first | (with_reducible first | exact HB.out | apply zE | apply zC | apply zD | refine zB ?_ (IsS86.ge HI1.out) | refine zB ?_ GE231.out | refine zB ?_ GE232.out) | exact HB.out)); rintro e w10 ⟨rfl, hi, hb, hk⟩; refine ⟨_, rfl, ?_⟩; have n0_ := zA (zI (Kd.R_keep (IsS86.apart (show IsS86 w0 _ g s1_0 t234 from bB HI1.out NB1_231.out NB1_232.out) (bR HO0_0.out) (by decide)) hk (fun _ h => h.2)) (fun _ h => h.1)); have n1_ := zA (KeepBut.blk hk (g' := gb231) (o := .cells #[.slice Ao6 l0_0.length co6, .int .i64 a0_1] 31 (0, 0)) (bU BK231.out) NB231_1.out (by simp)); have n2_ := zA (KeepBut.blk hk (g' := gb232) (o := .cells #[.slice none 0 0, .int .i64 0] 31 (0, 0)) (bU BK232.out) NB232_1.out (by simp)); have n3_ := zA (Kept.of_keep (S := (fun k_ => (P0_0_ k_) ∨ k_ = g)) (by repeat (first | (with_reducible first | exact HK.out | apply Kept.alloc | apply Kept.drewN | apply Kept.drew | refine zK ?_ (.inl (.inr rfl)) _ | refine zK ?_ (.inr GW231.out) _ | refine zK ?_ (.inr GW232.out) _) | exact HK.out)) hk (.inl (.inr rfl))); have n4_ := zA (hb); have n5_ := zA (hi); clear HO0_0 BK231 BK232 HK HB HI1; have HO0_0 := n0_; have BK231 := n1_; have BK232 := n2_; have HK := n3_; have HB := n4_; have HI1 := n5_; clear n0_ n1_ n2_ n3_ n4_ n5_; (try clear hb); (try clear hb2); (try clear hk); (try clear hi); have hnb11 := NB231_232.out; have hnc11 := NB232_231.out; have hnb12 := NB231_1.out; have hnc12 := NB1_231.out; have hcz13_0 : w10.cell? ⟨gb231, 0, none⟩ = some (.slice Ao6 l0_0.length co6) := (zZ BK231.out 0).trans rfl; have hcz13_1 : w10.cell? ⟨gb231, 1, none⟩ = some (.int .i64 a0_1) := (zZ BK231.out 1).trans rfl; have hfz13_0 := zY BK231.out 0; have hfz13_1 := zY BK231.out 1; have hnb14 := NB232_1.out; have hnc14 := NB1_232.out; have hcz15_0 : w10.cell? ⟨gb232, 0, none⟩ = some (.slice none 0 0) := (zZ BK232.out 0).trans rfl; have hcz15_1 : w10.cell? ⟨gb232, 1, none⟩ = some (.int .i64 0) := (zZ BK232.out 1).trans rfl; have hfz15_0 := zY BK232.out 0; have hfz15_1 := zY BK232.out 1))
  refine bodyPost_ret (results_cell_row rfl _ _ gb232 31 #[.slice Ao6 l0_0.length co6, .int .i64 (wrap64 (a0_1 + 1))] (0, 0) _ rfl (by (with_reducible repeat (first | refine blk_drewN ?_ _ | refine blk_drew ?_ | refine blk_alloc ?_ _)); refine blk_put (cs := #[.slice Ao6 l0_0.length co6, .int .i64 0]) ?_ 1 _ rfl; (with_reducible repeat (first | refine blk_drewN ?_ _ | refine blk_drew ?_ | refine blk_alloc ?_ _)); refine blk_put (cs := #[.slice none 0 0, .int .i64 0]) ?_ 0 _ rfl; (with_reducible repeat (first | refine blk_drewN ?_ _ | refine blk_drew ?_ | refine blk_alloc ?_ _)); refine blk_far ?_ NB232_231.out _; exact bU BK232.out) Try.underlying31 rfl (by kernel_rfl)) rfl ?_
  exact ⟨_, by first | rfl | (simp [errW_none, errW_some] <;> rfl) | (simp [*, errW_none, errW_some] <;> rfl), bR (zI (zJ (p := ⟨gb232, 1, none⟩) (zJ (p := ⟨gb232, 0, none⟩) (zJ (p := ⟨gb231, 1, none⟩) (zL (zL HO0_0.out BK231.out (by decide)) BK232.out (by decide)) (fun _ hk => hk.1.2) (.int .i64 (wrap64 (a0_1 + 1)))) (fun _ hk => hk.2) (.slice Ao6 l0_0.length co6)) (fun _ hk => hk.2) (.int .i64 (wrap64 (a0_1 + 1)))) (fun _ hk => hk.1.1)), bB HI1.out NB1_231.out NB1_232.out, bC HB.out (IsS86.ge HI1.out) GE231.out GE232.out, by repeat (first | (with_reducible first | exact HK.out | apply Kept.alloc | apply Kept.drewN | apply Kept.drew | refine zK ?_ (.inl (.inr rfl)) _ | refine zK ?_ (.inr GW231.out) _ | refine zK ?_ (.inr GW232.out) _) | exact HK.out)⟩
 ·rw [if_neg c5] at H
  have c5b0 : ((Int.tmod t233 5) == 0) = false := beq_eq_false_iff_ne.mpr c5
  have c5b1 : ((Int.tmod t233 5) != 0) = true := bne_iff_ne.mpr c5
  by_cases c16 : (Int.tmod t233 5) = 1
  ·rw [if_pos c16] at H
   have c16b0 : ((Int.tmod t233 5) == 1) = true := beq_iff_eq.mpr c16
   have c16b1 : ((Int.tmod t233 5) != 1) = false := bne_eq_false_iff_eq.mpr c16
   clear c16
   simp only [Option.some.injEq, Prod.mk.injEq] at H
   obtain ⟨rfl, rfl, rfl⟩ := H
   obtain ⟨Ao17, co17, eo17⟩ := Kd.R_slice HO0_0.out
   subst eo17
   go_enter Try.func55, Try.ntmps55
   go_wp2_with (first | ((with_reducible refine gate_dst (N := 2) rfl ?_); refine box_event ?hg (N := 2) ?hd (cs := #[.slice Ao17 l0_0.length co17, .int .i64 a0_1]) (t := 31) ?hr ?_; (case hd => rfl); (case hg => rfl); (case hr => first | (go_simp; done) | (go_simp; rfl)); intro gb231 hg w18 hbox hb; have n0_ := zA (zP (bR HO0_0.out) hb); have n1_ := zA (IsS86.below (bG HI1.out) hb); have n2_ := zA (Kept.below (S := (fun k_ => (P0_0_ k_) ∨ k_ = g)) (by repeat (first | (with_reducible first | exact HK.out | apply Kept.alloc | apply Kept.drewN | apply Kept.drew | refine zK ?_ (.inl (.inr rfl)) _) | exact HK.out)) hb); have n3_ := zA (zX (bA HB.out (IsS86.ge HI1.out)) hb); have n4_ := zA (hbox); have n5_ := zA ((by rw [hg]; exact (by first | exact HK.out.1 | exact (show Kept w _ (fun k_ => (P0_0_ k_) ∨ k_ = g) from by repeat (first | (with_reducible first | exact HK.out | apply Kept.alloc | apply Kept.drewN | apply Kept.drew | refine zK ?_ (.inl (.inr rfl)) _) | exact HK.out)).1) : w.heap.size ≤ gb231)); have n6_ := zA ((by rw [hg]; exact (below_size (bA HB.out (IsS86.ge HI1.out))) : w0.heap.size ≤ gb231)); have n7_ := zA ((by rw [hg]; exact Nat.ne_of_lt (IsS86.lt (show IsS86 w0 _ g s1_0 s1_1 from bG HI1.out)) : g ≠ gb231)); have n8_ := zA ((by rw [hg]; exact Nat.ne_of_gt (IsS86.lt (show IsS86 w0 _ g s1_0 s1_1 from bG HI1.out)) : gb231 ≠ g)); clear HO0_0 HI1 HK HB; have HO0_0 := n0_; have HI1 := n1_; have HK := n2_; have HB := n3_; have BK231 := n4_; have GW231 := n5_; have GE231 := n6_; have NB1_231 := n7_; have NB231_1 := n8_; clear n0_ n1_ n2_ n3_ n4_ n5_ n6_ n7_ n8_; clear hb hbox hg) | ((with_reducible refine gate_dst (N := 4) rfl ?_); refine box_event ?hg (N := 4) ?hd (cs := #[.slice none 0 0, .int .i64 0]) (t := 31) ?hr ?_; (case hd => rfl); (case hg => rfl); (case hr => first | (go_simp; done) | (go_simp; rfl)); intro gb232 hg w19 hbox hb; have n0_ := zA (zP (bR HO0_0.out) hb); have n1_ := zA (IsS86.below (bH HI1.out NB1_231.out) hb); have n2_ := zA (zN (g := gb231) (o := .cells #[.slice Ao17 l0_0.length co17, .int .i64 a0_1] 31 (0, 0)) (bU BK231.out) hb); have n3_ := zA (Kept.below (S := (fun k_ => (P0_0_ k_) ∨ k_ = g)) (by repeat (first | (with_reducible first | exact HK.out | apply Kept.alloc | apply Kept.drewN | apply Kept.drew | refine zK ?_ (.inl (.inr rfl)) _ | refine zK ?_ (.inr GW231.out) _) | exact HK.out)) hb); have n4_ := zA (zX (bD HB.out (IsS86.ge HI1.out) GE231.out) hb); have n5_ := zA (hbox); have n6_ := zA ((by rw [hg]; exact (by first | exact HK.out.1 | exact (show Kept w _ (fun k_ => (P0_0_ k_) ∨ k_ = g) from by repeat (first | (with_reducible first | exact HK.out | apply Kept.alloc | apply Kept.drewN | apply Kept.drew | refine zK ?_ (.inl (.inr rfl)) _ | refine zK ?_ (.inr GW231.out) _) | exact HK.out)).1) : w.heap.size ≤ gb232)); have n7_ := zA ((by rw [hg]; exact (below_size (bD HB.out (IsS86.ge HI1.out) GE231.out)) : w0.heap.size ≤ gb232)); have n8_ := zA ((by rw [hg]; exact Nat.ne_of_lt (blk_lt (g := gb231) (o := .cells #[.slice Ao17 l0_0.length co17, .int .i64 a0_1] 31 (0, 0)) (bU BK231.out)) : gb231 ≠ gb232)); have n9_ := zA ((by rw [hg]; exact Nat.ne_of_gt (blk_lt (g := gb231) (o := .cells #[.slice Ao17 l0_0.length co17, .int .i64 a0_1] 31 (0, 0)) (bU BK231.out)) : gb232 ≠ gb231)); have n10_ := zA ((by rw [hg]; exact Nat.ne_of_lt (IsS86.lt (show IsS86 w0 _ g s1_0 s1_1 from bH HI1.out NB1_231.out)) : g ≠ gb232)); have n11_ := zA ((by rw [hg]; exact Nat.ne_of_gt (IsS86.lt (show IsS86 w0 _ g s1_0 s1_1 from bH HI1.out NB1_231.out)) : gb232 ≠ g)); clear HO0_0 HI1 BK231 HK HB; have HO0_0 := n0_; have HI1 := n1_; have BK231 := n2_; have HK := n3_; have HB := n4_; have BK232 := n5_; have GW232 := n6_; have GE232 := n7_; have NB231_232 := n8_; have NB232_231 := n9_; have NB1_232 := n10_; have NB232_1 := n11_; clear n0_ n1_ n2_ n3_ n4_ n5_ n6_ n7_ n8_ n9_ n10_ n11_; clear hb hbox hg) | ((with_reducible refine gate_callee (f := 52) rfl ?_); refine goesL_ (some 8) rfl rfl Try.func52 (by kernel_rfl) rfl #[.pointer (some ⟨g, 0, none⟩)] rfl (by (try simp only [List.map_toArray, List.map_cons, List.map_nil]); first | done | rfl | (simp only [List.length_drop, List.length_take]; rfl)) ?_; (with_reducible refine (spec_l7rd_next.calls g s1_0 s1_1 t233 t234 w0 _ ?side1 ?side2 A3.out).mono ?_); (case side1 => repeat (first | (with_reducible first | exact HI1.out | apply IsS86.alloc | apply IsS86.drewN | apply IsS86.drew | apply IsS86.set_1 | refine IsS86.far ?_ NB1_231.out _ | refine IsS86.far ?_ NB1_232.out _) | exact HI1.out)); (case side2 => repeat (first | (with_reducible first | exact HB.out | apply zE | apply zC | apply zD | refine zB ?_ (IsS86.ge HI1.out) | refine zB ?_ GE231.out | refine zB ?_ GE232.out) | exact HB.out)); rintro e w20 ⟨rfl, hi, hb, hk⟩; refine ⟨_, rfl, ?_⟩; have n0_ := zA (zI (Kd.R_keep (IsS86.apart (show IsS86 w0 _ g s1_0 s1_1 from bB HI1.out NB1_231.out NB1_232.out) (bR HO0_0.out) (by decide)) hk (fun _ h => h.2)) (fun _ h => h.1)); have n1_ := zA (KeepBut.blk hk (g' := gb231) (o := .cells #[.slice Ao17 l0_0.length co17, .int .i64 a0_1] 31 (0, 0)) (bU BK231.out) NB231_1.out (by simp)); have n2_ := zA (KeepBut.blk hk (g' := gb232) (o := .cells #[.slice none 0 0, .int .i64 0] 31 (0, 0)) (bU BK232.out) NB232_1.out (by simp)); have n3_ := zA (Kept.of_keep (S := (fun k_ => (P0_0_ k_) ∨ k_ = g)) (by repeat (first | (with_reducible first | exact HK.out | apply Kept.alloc | apply Kept.drewN | apply Kept.drew | refine zK ?_ (.inl (.inr rfl)) _ | refine zK ?_ (.inr GW231.out) _ | refine zK ?_ (.inr GW232.out) _) | exact HK.out)) hk (.inl (.inr rfl))); have n4_ := zA (hb); have n5_ := zA (hi); clear HO0_0 BK231 BK232 HK HB HI1; have HO0_0 := n0_; have BK231 := n1_; have BK232 := n2_; have HK := n3_; have HB := n4_; have HI1 := n5_; clear n0_ n1_ n2_ n3_ n4_ n5_; (try clear hb); (try clear hb2); (try clear hk); (try clear hi)) | ((with_reducible refine gate_callee (f := 52) rfl ?_); refine goesL_ (some 11) rfl rfl Try.func52 (by kernel_rfl) rfl #[.pointer (some ⟨g, 0, none⟩)] rfl (by (try simp only [List.map_toArray, List.map_cons, List.map_nil]); first | done | rfl | (simp only [List.length_drop, List.length_take]; rfl)) ?_; (with_reducible refine (spec_l7rd_next.calls g s1_0 t234 t235 t236 w0 _ ?side1 ?side2 A4.out).mono ?_); (case side1 => repeat (first | (with_reducible first | exact HI1.out | apply IsS86.alloc | apply IsS86.drewN | apply IsS86.drew | apply IsS86.set_1 | refine IsS86.far ?_ NB1_231.out _ | refine IsS86.far ?_ NB1_232.out _) | exact HI1.out)); (case side2 => repeat (first | (with_reducible first | exact HB.out | apply zE | apply zC | apply zD | refine zB ?_ (IsS86.ge HI1.out) | refine zB ?_ GE231.out | refine zB ?_ GE232.out) | exact HB.out)); rintro e w21 ⟨rfl, hi, hb, hk⟩; refine ⟨_, rfl, ?_⟩; have n0_ := zA (zI (Kd.R_keep (IsS86.apart (show IsS86 w0 _ g s1_0 t234 from bB HI1.out NB1_231.out NB1_232.out) (bR HO0_0.out) (by decide)) hk (fun _ h => h.2)) (fun _ h => h.1)); have n1_ := zA (KeepBut.blk hk (g' := gb231) (o := .cells #[.slice Ao17 l0_0.length co17, .int .i64 a0_1] 31 (0, 0)) (bU BK231.out) NB231_1.out (by simp)); have n2_ := zA (KeepBut.blk hk (g' := gb232) (o := .cells #[.slice none 0 0, .int .i64 0] 31 (0, 0)) (bU BK232.out) NB232_1.out (by simp)); have n3_ := zA (Kept.of_keep (S := (fun k_ => (P0_0_ k_) ∨ k_ = g)) (by repeat (first | (with_reducible first | exact HK.out | apply Kept.alloc | apply Kept.drewN | apply Kept.drew | refine zK ?_ (.inl (.inr rfl)) _ | refine zK ?_ (.inr GW231.out) _ | refine zK ?_ (.inr GW232.out) _) | exact HK.out)) hk (.inl (.inr rfl))); have n4_ := zA (hb); have n5_ := zA (hi); clear HO0_0 BK231 BK232 HK HB HI1; have HO0_0 := n0_; have BK231 := n1_; have BK232 := n2_; have HK := n3_; have HB := n4_; have HI1 := n5_; clear n0_ n1_ n2_ n3_ n4_ n5_; (try clear hb); (try clear hb2); (try clear hk); (try clear hi); have hnb22 := NB231_232.out; have hnc22 := NB232_231.out; have hnb23 := NB231_1.out; have hnc23 := NB1_231.out; have hcz24_0 : w21.cell? ⟨gb231, 0, none⟩ = some (.slice Ao17 l0_0.length co17) := (zZ BK231.out 0).trans rfl; have hcz24_1 : w21.cell? ⟨gb231, 1, none⟩ = some (.int .i64 a0_1) := (zZ BK231.out 1).trans rfl; have hfz24_0 := zY BK231.out 0; have hfz24_1 := zY BK231.out 1; have hnb25 := NB232_1.out; have hnc25 := NB1_232.out; have hcz26_0 : w21.cell? ⟨gb232, 0, none⟩ = some (.slice none 0 0) := (zZ BK232.out 0).trans rfl; have hcz26_1 : w21.cell? ⟨gb232, 1, none⟩ = some (.int .i64 0) := (zZ BK232.out 1).trans rfl; have hfz26_0 := zY BK232.out 0; have hfz26_1 := zY BK232.out 1))
   refine bodyPost_ret (results_cell_row rfl _ _ gb232 31 #[.slice Ao17 l0_0.length co17, .int .i64 (-1)] (0, 0) _ rfl (by (with_reducible repeat (first | refine blk_drewN ?_ _ | refine blk_drew ?_ | refine blk_alloc ?_ _)); refine blk_put (cs := #[.slice Ao17 l0_0.length co17, .int .i64 0]) ?_ 1 _ rfl; (with_reducible repeat (first | refine blk_drewN ?_ _ | refine blk_drew ?_ | refine blk_alloc ?_ _)); refine blk_put (cs := #[.slice none 0 0, .int .i64 0]) ?_ 0 _ rfl; (with_reducible repeat (first | refine blk_drewN ?_ _ | refine blk_drew ?_ | refine blk_alloc ?_ _)); refine blk_far ?_ NB232_231.out _; exact bU BK232.out) Try.underlying31 rfl (by kernel_rfl)) rfl ?_
   exact ⟨_, by first | rfl | (simp [errW_none, errW_some] <;> rfl) | (simp [*, errW_none, errW_some] <;> rfl), bR (zI (zJ (p := ⟨gb232, 1, none⟩) (zJ (p := ⟨gb232, 0, none⟩) (zJ (p := ⟨gb231, 1, none⟩) (zL (zL HO0_0.out BK231.out (by decide)) BK232.out (by decide)) (fun _ hk => hk.1.2) (.int .i64 (-1))) (fun _ hk => hk.2) (.slice Ao17 l0_0.length co17)) (fun _ hk => hk.2) (.int .i64 (-1))) (fun _ hk => hk.1.1)), bB HI1.out NB1_231.out NB1_232.out, bC HB.out (IsS86.ge HI1.out) GE231.out GE232.out, by repeat (first | (with_reducible first | exact HK.out | apply Kept.alloc | apply Kept.drewN | apply Kept.drew | refine zK ?_ (.inl (.inr rfl)) _ | refine zK ?_ (.inr GW231.out) _ | refine zK ?_ (.inr GW232.out) _) | exact HK.out)⟩
  ·rw [if_neg c16] at H
   have c16b0 : ((Int.tmod t233 5) == 1) = false := beq_eq_false_iff_ne.mpr c16
   have c16b1 : ((Int.tmod t233 5) != 1) = true := bne_iff_ne.mpr c16
   by_cases c27 : (l0_0.length : Int) = 0
   ·rw [if_pos c27] at H
    have c27b0 : ((l0_0.length : Int) == 0) = true := beq_iff_eq.mpr c27
    have c27b1 : ((l0_0.length : Int) != 0) = false := bne_eq_false_iff_eq.mpr c27
    clear c27
    simp only [Option.some.injEq, Prod.mk.injEq] at H
    obtain ⟨rfl, rfl, rfl⟩ := H
    obtain ⟨Ao28, co28, eo28⟩ := Kd.R_slice HO0_0.out
    subst eo28
    go_enter Try.func55, Try.ntmps55
    go_wp2_with (first | ((with_reducible refine gate_dst (N := 2) rfl ?_); refine box_event ?hg (N := 2) ?hd (cs := #[.slice Ao28 l0_0.length co28, .int .i64 a0_1]) (t := 31) ?hr ?_; (case hd => rfl); (case hg => rfl); (case hr => first | (go_simp; done) | (go_simp; rfl)); intro gb231 hg w29 hbox hb; have n0_ := zA (zP (bR HO0_0.out) hb); have n1_ := zA (IsS86.below (bG HI1.out) hb); have n2_ := zA (Kept.below (S := (fun k_ => (P0_0_ k_) ∨ k_ = g)) (by repeat (first | (with_reducible first | exact HK.out | apply Kept.alloc | apply Kept.drewN | apply Kept.drew | refine zK ?_ (.inl (.inr rfl)) _) | exact HK.out)) hb); have n3_ := zA (zX (bA HB.out (IsS86.ge HI1.out)) hb); have n4_ := zA (hbox); have n5_ := zA ((by rw [hg]; exact (by first | exact HK.out.1 | exact (show Kept w _ (fun k_ => (P0_0_ k_) ∨ k_ = g) from by repeat (first | (with_reducible first | exact HK.out | apply Kept.alloc | apply Kept.drewN | apply Kept.drew | refine zK ?_ (.inl (.inr rfl)) _) | exact HK.out)).1) : w.heap.size ≤ gb231)); have n6_ := zA ((by rw [hg]; exact (below_size (bA HB.out (IsS86.ge HI1.out))) : w0.heap.size ≤ gb231)); have n7_ := zA ((by rw [hg]; exact Nat.ne_of_lt (IsS86.lt (show IsS86 w0 _ g s1_0 s1_1 from bG HI1.out)) : g ≠ gb231)); have n8_ := zA ((by rw [hg]; exact Nat.ne_of_gt (IsS86.lt (show IsS86 w0 _ g s1_0 s1_1 from bG HI1.out)) : gb231 ≠ g)); clear HO0_0 HI1 HK HB; have HO0_0 := n0_; have HI1 := n1_; have HK := n2_; have HB := n3_; have BK231 := n4_; have GW231 := n5_; have GE231 := n6_; have NB1_231 := n7_; have NB231_1 := n8_; clear n0_ n1_ n2_ n3_ n4_ n5_ n6_ n7_ n8_; clear hb hbox hg) | ((with_reducible refine gate_dst (N := 4) rfl ?_); refine box_event ?hg (N := 4) ?hd (cs := #[.slice none 0 0, .int .i64 0]) (t := 31) ?hr ?_; (case hd => rfl); (case hg => rfl); (case hr => first | (go_simp; done) | (go_simp; rfl)); intro gb232 hg w30 hbox hb; have n0_ := zA (zP (bR HO0_0.out) hb); have n1_ := zA (IsS86.below (bH HI1.out NB1_231.out) hb); have n2_ := zA (zN (g := gb231) (o := .cells #[.slice Ao28 l0_0.length co28, .int .i64 a0_1] 31 (0, 0)) (bU BK231.out) hb); have n3_ := zA (Kept.below (S := (fun k_ => (P0_0_ k_) ∨ k_ = g)) (by repeat (first | (with_reducible first | exact HK.out | apply Kept.alloc | apply Kept.drewN | apply Kept.drew | refine zK ?_ (.inl (.inr rfl)) _ | refine zK ?_ (.inr GW231.out) _) | exact HK.out)) hb); have n4_ := zA (zX (bD HB.out (IsS86.ge HI1.out) GE231.out) hb); have n5_ := zA (hbox); have n6_ := zA ((by rw [hg]; exact (by first | exact HK.out.1 | exact (show Kept w _ (fun k_ => (P0_0_ k_) ∨ k_ = g) from by repeat (first | (with_reducible first | exact HK.out | apply Kept.alloc | apply Kept.drewN | apply Kept.drew | refine zK ?_ (.inl (.inr rfl)) _ | refine zK ?_ (.inr GW231.out) _) | exact HK.out)).1) : w.heap.size ≤ gb232)); have n7_ := zA ((by rw [hg]; exact (below_size (bD HB.out (IsS86.ge HI1.out) GE231.out)) : w0.heap.size ≤ gb232)); have n8_ := zA ((by rw [hg]; exact Nat.ne_of_lt (blk_lt (g := gb231) (o := .cells #[.slice Ao28 l0_0.length co28, .int .i64 a0_1] 31 (0, 0)) (bU BK231.out)) : gb231 ≠ gb232)); have n9_ := zA ((by rw [hg]; exact Nat.ne_of_gt (blk_lt (g := gb231) (o := .cells #[.slice Ao28 l0_0.length co28, .int .i64 a0_1] 31 (0, 0)) (bU BK231.out)) : gb232 ≠ gb231)); have n10_ := zA ((by rw [hg]; exact Nat.ne_of_lt (IsS86.lt (show IsS86 w0 _ g s1_0 s1_1 from bH HI1.out NB1_231.out)) : g ≠ gb232)); have n11_ := zA ((by rw [hg]; exact Nat.ne_of_gt (IsS86.lt (show IsS86 w0 _ g s1_0 s1_1 from bH HI1.out NB1_231.out)) : gb232 ≠ g)); clear HO0_0 HI1 BK231 HK HB; have HO0_0 := n0_; have HI1 := n1_; have BK231 := n2_; have HK := n3_; have HB := n4_; have BK232 := n5_; have GW232 := n6_; have GE232 := n7_; have NB231_232 := n8_; have NB232_231 := n9_; have NB1_232 := n10_; have NB232_1 := n11_; clear n0_ n1_ n2_ n3_ n4_ n5_ n6_ n7_ n8_ n9_ n10_ n11_; clear hb hbox hg) | ((with_reducible refine gate_callee (f := 52) rfl ?_); refine goesL_ (some 8) rfl rfl Try.func52 (by kernel_rfl) rfl #[.pointer (some ⟨g, 0, none⟩)] rfl (by (try simp only [List.map_toArray, List.map_cons, List.map_nil]); first | done | rfl | (simp only [List.length_drop, List.length_take]; rfl)) ?_; (with_reducible refine (spec_l7rd_next.calls g s1_0 s1_1 t233 t234 w0 _ ?side1 ?side2 A3.out).mono ?_); (case side1 => repeat (first | (with_reducible first | exact HI1.out | apply IsS86.alloc | apply IsS86.drewN | apply IsS86.drew | apply IsS86.set_1 | refine IsS86.far ?_ NB1_231.out _ | refine IsS86.far ?_ NB1_232.out _) | exact HI1.out)); (case side2 => repeat (first | (with_reducible first | exact HB.out | apply zE | apply zC | apply zD | refine zB ?_ (IsS86.ge HI1.out) | refine zB ?_ GE231.out | refine zB ?_ GE232.out) | exact HB.out)); rintro e w31 ⟨rfl, hi, hb, hk⟩; refine ⟨_, rfl, ?_⟩; have n0_ := zA (zI (Kd.R_keep (IsS86.apart (show IsS86 w0 _ g s1_0 s1_1 from bB HI1.out NB1_231.out NB1_232.out) (bR HO0_0.out) (by decide)) hk (fun _ h => h.2)) (fun _ h => h.1)); have n1_ := zA (KeepBut.blk hk (g' := gb231) (o := .cells #[.slice Ao28 l0_0.length co28, .int .i64 a0_1] 31 (0, 0)) (bU BK231.out) NB231_1.out (by simp)); have n2_ := zA (KeepBut.blk hk (g' := gb232) (o := .cells #[.slice none 0 0, .int .i64 0] 31 (0, 0)) (bU BK232.out) NB232_1.out (by simp)); have n3_ := zA (Kept.of_keep (S := (fun k_ => (P0_0_ k_) ∨ k_ = g)) (by repeat (first | (with_reducible first | exact HK.out | apply Kept.alloc | apply Kept.drewN | apply Kept.drew | refine zK ?_ (.inl (.inr rfl)) _ | refine zK ?_ (.inr GW231.out) _ | refine zK ?_ (.inr GW232.out) _) | exact HK.out)) hk (.inl (.inr rfl))); have n4_ := zA (hb); have n5_ := zA (hi); clear HO0_0 BK231 BK232 HK HB HI1; have HO0_0 := n0_; have BK231 := n1_; have BK232 := n2_; have HK := n3_; have HB := n4_; have HI1 := n5_; clear n0_ n1_ n2_ n3_ n4_ n5_; (try clear hb); (try clear hb2); (try clear hk); (try clear hi)) | ((with_reducible refine gate_callee (f := 52) rfl ?_); refine goesL_ (some 11) rfl rfl Try.func52 (by kernel_rfl) rfl #[.pointer (some ⟨g, 0, none⟩)] rfl (by (try simp only [List.map_toArray, List.map_cons, List.map_nil]); first | done | rfl | (simp only [List.length_drop, List.length_take]; rfl)) ?_; (with_reducible refine (spec_l7rd_next.calls g s1_0 t234 t235 t236 w0 _ ?side1 ?side2 A4.out).mono ?_); (case side1 => repeat (first | (with_reducible first | exact HI1.out | apply IsS86.alloc | apply IsS86.drewN | apply IsS86.drew | apply IsS86.set_1 | refine IsS86.far ?_ NB1_231.out _ | refine IsS86.far ?_ NB1_232.out _) | exact HI1.out)); (case side2 => repeat (first | (with_reducible first | exact HB.out | apply zE | apply zC | apply zD | refine zB ?_ (IsS86.ge HI1.out) | refine zB ?_ GE231.out | refine zB ?_ GE232.out) | exact HB.out)); rintro e w32 ⟨rfl, hi, hb, hk⟩; refine ⟨_, rfl, ?_⟩; have n0_ := zA (zI (Kd.R_keep (IsS86.apart (show IsS86 w0 _ g s1_0 t234 from bB HI1.out NB1_231.out NB1_232.out) (bR HO0_0.out) (by decide)) hk (fun _ h => h.2)) (fun _ h => h.1)); have n1_ := zA (KeepBut.blk hk (g' := gb231) (o := .cells #[.slice Ao28 l0_0.length co28, .int .i64 a0_1] 31 (0, 0)) (bU BK231.out) NB231_1.out (by simp)); have n2_ := zA (KeepBut.blk hk (g' := gb232) (o := .cells #[.slice none 0 0, .int .i64 0] 31 (0, 0)) (bU BK232.out) NB232_1.out (by simp)); have n3_ := zA (Kept.of_keep (S := (fun k_ => (P0_0_ k_) ∨ k_ = g)) (by repeat (first | (with_reducible first | exact HK.out | apply Kept.alloc | apply Kept.drewN | apply Kept.drew | refine zK ?_ (.inl (.inr rfl)) _ | refine zK ?_ (.inr GW231.out) _ | refine zK ?_ (.inr GW232.out) _) | exact HK.out)) hk (.inl (.inr rfl))); have n4_ := zA (hb); have n5_ := zA (hi); clear HO0_0 BK231 BK232 HK HB HI1; have HO0_0 := n0_; have BK231 := n1_; have BK232 := n2_; have HK := n3_; have HB := n4_; have HI1 := n5_; clear n0_ n1_ n2_ n3_ n4_ n5_; (try clear hb); (try clear hb2); (try clear hk); (try clear hi); have hnb33 := NB231_232.out; have hnc33 := NB232_231.out; have hnb34 := NB231_1.out; have hnc34 := NB1_231.out; have hcz35_0 : w32.cell? ⟨gb231, 0, none⟩ = some (.slice Ao28 l0_0.length co28) := (zZ BK231.out 0).trans rfl; have hcz35_1 : w32.cell? ⟨gb231, 1, none⟩ = some (.int .i64 a0_1) := (zZ BK231.out 1).trans rfl; have hfz35_0 := zY BK231.out 0; have hfz35_1 := zY BK231.out 1; have hnb36 := NB232_1.out; have hnc36 := NB1_232.out; have hcz37_0 : w32.cell? ⟨gb232, 0, none⟩ = some (.slice none 0 0) := (zZ BK232.out 0).trans rfl; have hcz37_1 : w32.cell? ⟨gb232, 1, none⟩ = some (.int .i64 0) := (zZ BK232.out 1).trans rfl; have hfz37_0 := zY BK232.out 0; have hfz37_1 := zY BK232.out 1))
    refine bodyPost_ret (results_cell_row rfl _ _ gb232 31 #[.slice Ao28 l0_0.length co28, .int .i64 1] (0, 0) _ rfl (by (with_reducible repeat (first | refine blk_drewN ?_ _ | refine blk_drew ?_ | refine blk_alloc ?_ _)); refine blk_put (cs := #[.slice Ao28 l0_0.length co28, .int .i64 0]) ?_ 1 _ rfl; (with_reducible repeat (first | refine blk_drewN ?_ _ | refine blk_drew ?_ | refine blk_alloc ?_ _)); refine blk_put (cs := #[.slice none 0 0, .int .i64 0]) ?_ 0 _ rfl; (with_reducible repeat (first | refine blk_drewN ?_ _ | refine blk_drew ?_ | refine blk_alloc ?_ _)); refine blk_far ?_ NB232_231.out _; exact bU BK232.out) Try.underlying31 rfl (by kernel_rfl)) rfl ?_
    exact ⟨_, by first | rfl | (simp [errW_none, errW_some] <;> rfl) | (simp [*, errW_none, errW_some] <;> rfl), bR (zI (zJ (p := ⟨gb232, 1, none⟩) (zJ (p := ⟨gb232, 0, none⟩) (zJ (p := ⟨gb231, 1, none⟩) (zL (zL HO0_0.out BK231.out (by decide)) BK232.out (by decide)) (fun _ hk => hk.1.2) (.int .i64 1)) (fun _ hk => hk.2) (.slice Ao28 l0_0.length co28)) (fun _ hk => hk.2) (.int .i64 1)) (fun _ hk => hk.1.1)), bB HI1.out NB1_231.out NB1_232.out, bC HB.out (IsS86.ge HI1.out) GE231.out GE232.out, by repeat (first | (with_reducible first | exact HK.out | apply Kept.alloc | apply Kept.drewN | apply Kept.drew | refine zK ?_ (.inl (.inr rfl)) _ | refine zK ?_ (.inr GW231.out) _ | refine zK ?_ (.inr GW232.out) _) | exact HK.out)⟩
   ·rw [if_neg c27] at H
    have c27b0 : ((l0_0.length : Int) == 0) = false := beq_eq_false_iff_ne.mpr c27
    have c27b1 : ((l0_0.length : Int) != 0) = true := bne_iff_ne.mpr c27
    have c27b2 : ¬ (l0_0 = []) := fun h_ => c27 (by rw [h_]; rfl)
    by_cases c38 : (Int.tmod t233 5) = 2
    ·rw [if_pos c38] at H
     have c38b0 : ((Int.tmod t233 5) == 2) = true := beq_iff_eq.mpr c38
     have c38b1 : ((Int.tmod t233 5) != 2) = false := bne_eq_false_iff_eq.mpr c38
     clear c38
     replace H := Option.bind_eq_some_iff.mp H
     obtain ⟨⟨t237, t238⟩, A390, H⟩ := H
     replace H : (if 0 ≤ (Int.tmod t235 (l0_0.length : Int)) then (if (Int.tmod t235 (l0_0.length : Int)) < (l0_0.length : Int) then (some ((l0_0.set ((Int.tmod t235 (l0_0.length : Int)) : Int).toNat t237), a0_1, t238)) else (none)) else (none)) = some (r1, r2, r3) := H
     have A39 := zA A390
     clear A390
     obtain ⟨ji40, hji40⟩ : ∃ j_ : Int, (Int.tmod t235 (l0_0.length : Int)) = j_ := ⟨_, rfl⟩
     replace H : (if 0 ≤ (ji40) then (if (ji40) < (l0_0.length : Int) then (some ((l0_0.set ((ji40) : Int).toNat t237), a0_1, t238)) else (none)) else (none)) = some (r1, r2, r3) := by first | (rw [hji40] at H; exact H) | (simp only [hji40] at H ⊢; exact H)
     (try rw [hji40] at A3)
     (try rw [hji40] at A4)
     (try rw [hji40] at A39)
     by_cases c41 : 0 ≤ (ji40)
     ·rw [if_pos c41] at H
      have c41b0 : decide (0 ≤ (ji40)) = true := zG c41
      clear c41
      by_cases c42 : (ji40) < (l0_0.length : Int)
      ·rw [if_pos c42] at H
       have c42b0 : decide ((ji40) < (l0_0.length : Int)) = true := zG c42
       clear c42
       obtain ⟨y239, hy239⟩ : ∃ y_ : List Int, y_ = (l0_0.set ((ji40) : Int).toNat t237) := ⟨_, rfl⟩
       replace H : (some (y239, a0_1, t238)) = some (r1, r2, r3) := by first | (rw [hy239]; with_reducible exact H) | (have H2_ := (Option.bind_some _ _).symm.trans H; rw [hy239]; with_reducible exact H2_) | (have H2_ := (Option.bind_some _ _).symm.trans H; with_reducible exact H2_) | with_reducible exact H | (rw [hy239]; exact H) | exact H
       have Ny239 := zA hy239
       clear hy239
       simp only [Option.some.injEq, Prod.mk.injEq] at H
       obtain ⟨rfl, rfl, rfl⟩ := H
       obtain ⟨Ao44, co44, eo44⟩ := Kd.R_slice HO0_0.out
       subst eo44
       go_enter Try.func55, Try.ntmps55
       try go_wp2_with (first | ((with_reducible refine gate_dst (N := 2) rfl ?_); refine box_event ?hg (N := 2) ?hd (cs := #[.slice Ao44 l0_0.length co44, .int .i64 a0_1]) (t := 31) ?hr ?_; (case hd => rfl); (case hg => rfl); (case hr => first | (go_simp; done) | (go_simp; rfl)); intro gb231 hg w45 hbox hb; have n0_ := zA (zP (bR HO0_0.out) hb); have n1_ := zA (IsS86.below (bG HI1.out) hb); have n2_ := zA (Kept.below (S := (fun k_ => (P0_0_ k_) ∨ k_ = g)) (by repeat (first | (with_reducible first | exact HK.out | apply Kept.alloc | apply Kept.drewN | apply Kept.drew | refine zK ?_ (.inl (.inr rfl)) _) | exact HK.out)) hb); have n3_ := zA (zX (bA HB.out (IsS86.ge HI1.out)) hb); have n4_ := zA (hbox); have n5_ := zA ((by rw [hg]; exact (by first | exact HK.out.1 | exact (show Kept w _ (fun k_ => (P0_0_ k_) ∨ k_ = g) from by repeat (first | (with_reducible first | exact HK.out | apply Kept.alloc | apply Kept.drewN | apply Kept.drew | refine zK ?_ (.inl (.inr rfl)) _) | exact HK.out)).1) : w.heap.size ≤ gb231)); have n6_ := zA ((by rw [hg]; exact (below_size (bA HB.out (IsS86.ge HI1.out))) : w0.heap.size ≤ gb231)); have n7_ := zA ((by rw [hg]; exact Nat.ne_of_lt (IsS86.lt (show IsS86 w0 _ g s1_0 s1_1 from bG HI1.out)) : g ≠ gb231)); have n8_ := zA ((by rw [hg]; exact Nat.ne_of_gt (IsS86.lt (show IsS86 w0 _ g s1_0 s1_1 from bG HI1.out)) : gb231 ≠ g)); clear HO0_0 HI1 HK HB; have HO0_0 := n0_; have HI1 := n1_; have HK := n2_; have HB := n3_; have BK231 := n4_; have GW231 := n5_; have GE231 := n6_; have NB1_231 := n7_; have NB231_1 := n8_; clear n0_ n1_ n2_ n3_ n4_ n5_ n6_ n7_ n8_; clear hb hbox hg) | ((with_reducible refine gate_dst (N := 4) rfl ?_); refine box_event ?hg (N := 4) ?hd (cs := #[.slice none 0 0, .int .i64 0]) (t := 31) ?hr ?_; (case hd => rfl); (case hg => rfl); (case hr => first | (go_simp; done) | (go_simp; rfl)); intro gb232 hg w46 hbox hb; have n0_ := zA (zP (bR HO0_0.out) hb); have n1_ := zA (IsS86.below (bH HI1.out NB1_231.out) hb); have n2_ := zA (zN (g := gb231) (o := .cells #[.slice Ao44 l0_0.length co44, .int .i64 a0_1] 31 (0, 0)) (bU BK231.out) hb); have n3_ := zA (Kept.below (S := (fun k_ => (P0_0_ k_) ∨ k_ = g)) (by repeat (first | (with_reducible first | exact HK.out | apply Kept.alloc | apply Kept.drewN | apply Kept.drew | refine zK ?_ (.inl (.inr rfl)) _ | refine zK ?_ (.inr GW231.out) _) | exact HK.out)) hb); have n4_ := zA (zX (bD HB.out (IsS86.ge HI1.out) GE231.out) hb); have n5_ := zA (hbox); have n6_ := zA ((by rw [hg]; exact (by first | exact HK.out.1 | exact (show Kept w _ (fun k_ => (P0_0_ k_) ∨ k_ = g) from by repeat (first | (with_reducible first | exact HK.out | apply Kept.alloc | apply Kept.drewN | apply Kept.drew | refine zK ?_ (.inl (.inr rfl)) _ | refine zK ?_ (.inr GW231.out) _) | exact HK.out)).1) : w.heap.size ≤ gb232)); have n7_ := zA ((by rw [hg]; exact (below_size (bD HB.out (IsS86.ge HI1.out) GE231.out)) : w0.heap.size ≤ gb232)); have n8_ := zA ((by rw [hg]; exact Nat.ne_of_lt (blk_lt (g := gb231) (o := .cells #[.slice Ao44 l0_0.length co44, .int .i64 a0_1] 31 (0, 0)) (bU BK231.out)) : gb231 ≠ gb232)); have n9_ := zA ((by rw [hg]; exact Nat.ne_of_gt (blk_lt (g := gb231) (o := .cells #[.slice Ao44 l0_0.length co44, .int .i64 a0_1] 31 (0, 0)) (bU BK231.out)) : gb232 ≠ gb231)); have n10_ := zA ((by rw [hg]; exact Nat.ne_of_lt (IsS86.lt (show IsS86 w0 _ g s1_0 s1_1 from bH HI1.out NB1_231.out)) : g ≠ gb232)); have n11_ := zA ((by rw [hg]; exact Nat.ne_of_gt (IsS86.lt (show IsS86 w0 _ g s1_0 s1_1 from bH HI1.out NB1_231.out)) : gb232 ≠ g)); clear HO0_0 HI1 BK231 HK HB; have HO0_0 := n0_; have HI1 := n1_; have BK231 := n2_; have HK := n3_; have HB := n4_; have BK232 := n5_; have GW232 := n6_; have GE232 := n7_; have NB231_232 := n8_; have NB232_231 := n9_; have NB1_232 := n10_; have NB232_1 := n11_; clear n0_ n1_ n2_ n3_ n4_ n5_ n6_ n7_ n8_ n9_ n10_ n11_; clear hb hbox hg) | ((with_reducible refine gate_callee (f := 52) rfl ?_); refine goesL_ (some 8) rfl rfl Try.func52 (by kernel_rfl) rfl #[.pointer (some ⟨g, 0, none⟩)] rfl (by (try simp only [List.map_toArray, List.map_cons, List.map_nil]); first | done | rfl | (simp only [List.length_drop, List.length_take]; rfl)) ?_; (with_reducible refine (spec_l7rd_next.calls g s1_0 s1_1 t233 t234 w0 _ ?side1 ?side2 A3.out).mono ?_); (case side1 => repeat (first | (with_reducible first | exact HI1.out | apply IsS86.alloc | apply IsS86.drewN | apply IsS86.drew | apply IsS86.set_1 | refine IsS86.far ?_ NB1_231.out _ | refine IsS86.far ?_ NB1_232.out _) | exact HI1.out)); (case side2 => repeat (first | (with_reducible first | exact HB.out | apply zE | apply zC | apply zD | refine zB ?_ (IsS86.ge HI1.out) | refine zB ?_ GE231.out | refine zB ?_ GE232.out) | exact HB.out)); rintro e w47 ⟨rfl, hi, hb, hk⟩; refine ⟨_, rfl, ?_⟩; have n0_ := zA (zI (Kd.R_keep (IsS86.apart (show IsS86 w0 _ g s1_0 s1_1 from bB HI1.out NB1_231.out NB1_232.out) (bR HO0_0.out) (by decide)) hk (fun _ h => h.2)) (fun _ h => h.1)); have n1_ := zA (KeepBut.blk hk (g' := gb231) (o := .cells #[.slice Ao44 l0_0.length co44, .int .i64 a0_1] 31 (0, 0)) (bU BK231.out) NB231_1.out (by simp)); have n2_ := zA (KeepBut.blk hk (g' := gb232) (o := .cells #[.slice none 0 0, .int .i64 0] 31 (0, 0)) (bU BK232.out) NB232_1.out (by simp)); have n3_ := zA (Kept.of_keep (S := (fun k_ => (P0_0_ k_) ∨ k_ = g)) (by repeat (first | (with_reducible first | exact HK.out | apply Kept.alloc | apply Kept.drewN | apply Kept.drew | refine zK ?_ (.inl (.inr rfl)) _ | refine zK ?_ (.inr GW231.out) _ | refine zK ?_ (.inr GW232.out) _) | exact HK.out)) hk (.inl (.inr rfl))); have n4_ := zA (hb); have n5_ := zA (hi); clear HO0_0 BK231 BK232 HK HB HI1; have HO0_0 := n0_; have BK231 := n1_; have BK232 := n2_; have HK := n3_; have HB := n4_; have HI1 := n5_; clear n0_ n1_ n2_ n3_ n4_ n5_; (try clear hb); (try clear hb2); (try clear hk); (try clear hi)) | ((with_reducible refine gate_callee (f := 52) rfl ?_); refine goesL_ (some 11) rfl rfl Try.func52 (by kernel_rfl) rfl #[.pointer (some ⟨g, 0, none⟩)] rfl (by (try simp only [List.map_toArray, List.map_cons, List.map_nil]); first | done | rfl | (simp only [List.length_drop, List.length_take]; rfl)) ?_; (with_reducible refine (spec_l7rd_next.calls g s1_0 t234 t235 t236 w0 _ ?side1 ?side2 A4.out).mono ?_); (case side1 => repeat (first | (with_reducible first | exact HI1.out | apply IsS86.alloc | apply IsS86.drewN | apply IsS86.drew | apply IsS86.set_1 | refine IsS86.far ?_ NB1_231.out _ | refine IsS86.far ?_ NB1_232.out _) | exact HI1.out)); (case side2 => repeat (first | (with_reducible first | exact HB.out | apply zE | apply zC | apply zD | refine zB ?_ (IsS86.ge HI1.out) | refine zB ?_ GE231.out | refine zB ?_ GE232.out) | exact HB.out)); rintro e w48 ⟨rfl, hi, hb, hk⟩; refine ⟨_, rfl, ?_⟩; have n0_ := zA (zI (Kd.R_keep (IsS86.apart (show IsS86 w0 _ g s1_0 t234 from bB HI1.out NB1_231.out NB1_232.out) (bR HO0_0.out) (by decide)) hk (fun _ h => h.2)) (fun _ h => h.1)); have n1_ := zA (KeepBut.blk hk (g' := gb231) (o := .cells #[.slice Ao44 l0_0.length co44, .int .i64 a0_1] 31 (0, 0)) (bU BK231.out) NB231_1.out (by simp)); have n2_ := zA (KeepBut.blk hk (g' := gb232) (o := .cells #[.slice none 0 0, .int .i64 0] 31 (0, 0)) (bU BK232.out) NB232_1.out (by simp)); have n3_ := zA (Kept.of_keep (S := (fun k_ => (P0_0_ k_) ∨ k_ = g)) (by repeat (first | (with_reducible first | exact HK.out | apply Kept.alloc | apply Kept.drewN | apply Kept.drew | refine zK ?_ (.inl (.inr rfl)) _ | refine zK ?_ (.inr GW231.out) _ | refine zK ?_ (.inr GW232.out) _) | exact HK.out)) hk (.inl (.inr rfl))); have n4_ := zA (hb); have n5_ := zA (hi); clear HO0_0 BK231 BK232 HK HB HI1; have HO0_0 := n0_; have BK231 := n1_; have BK232 := n2_; have HK := n3_; have HB := n4_; have HI1 := n5_; clear n0_ n1_ n2_ n3_ n4_ n5_; (try clear hb); (try clear hb2); (try clear hk); (try clear hi); have hnb49 := NB231_232.out; have hnc49 := NB232_231.out; have hnb50 := NB231_1.out; have hnc50 := NB1_231.out; have hcz51_0 : w48.cell? ⟨gb231, 0, none⟩ = some (.slice Ao44 l0_0.length co44) := (zZ BK231.out 0).trans rfl; have hcz51_1 : w48.cell? ⟨gb231, 1, none⟩ = some (.int .i64 a0_1) := (zZ BK231.out 1).trans rfl; have hfz51_0 := zY BK231.out 0; have hfz51_1 := zY BK231.out 1))
       have n0_ := zA (Kd.R_drew HO0_0.out)
       have n1_ := zA (blk_drew BK231.out)
       have n2_ := zA (blk_drew BK232.out)
       have n3_ := zA (IsS86.drew HI1.out)
       have n4_ := zA (Kept.drew HK.out)
       have n5_ := zA (zD HB.out)
       clear HO0_0
       clear BK231
       clear BK232
       clear HI1
       clear HK
       clear HB
       have HO0_0 := n0_
       have BK231 := n1_
       have BK232 := n2_
       have HI1 := n3_
       have HK := n4_
       have HB := n5_
       clear n0_ n1_ n2_ n3_ n4_ n5_
       refine start_ (n := 11) (S := fun w' => w'.cell? ⟨gb231, 0, none⟩ = some (.slice Ao44 l0_0.length co44) ∧ w'.cell? ⟨gb231, 1, none⟩ = some (.int .i64 a0_1)) (ds := [10]) #[false, false, false, false, false, false, false, false, false, false, false] (by kernel_rfl) rfl rfl ⟨(zZ BK231.out 0).trans rfl, (zZ BK231.out 1).trans rfl⟩ (fun hHeld => ?_); refine with_tabW spec_l7spoilHeap.tab10 spec_l7spoilHeap.bits10 (fun HT_ HW_ => ?_)
       generalize w48.drew = w52 at HO0_0 BK231 BK232 HI1 HK HB hHeld ⊢
       refine pure_ (i := 0) (N := some 28) (v := ?_) (a' := ?_) #[true, false, false, false, false, false, false, false, false, false, false] rfl rfl (any_of HT_.out (by kernel_rfl)) (fun _ _ _ h => h) (Or.inl ⟨by rfl, ?_⟩) ?_ ?_
       rotate_left
       ·intro w'
        go_simp
        with_reducible rfl
       rotate_left
       ·simp only [Act.put, List.setIfInBounds_toArray, List.set_cons_zero, List.set_cons_succ, i64_w, i32_w]
        rfl
       refine pure_ (i := 2) (N := some 30) (v := ?_) (a' := ?_) #[true, false, true, false, false, false, false, false, false, false, false] rfl rfl (any_of HT_.out (by kernel_rfl)) (fun _ _ _ h => h) (Or.inl ⟨by rfl, ?_⟩) ?_ ?_
       rotate_left
       ·intro w'
        go_simp
        with_reducible rfl
       rotate_left
       ·simp only [Act.put, List.setIfInBounds_toArray, List.set_cons_zero, List.set_cons_succ, i64_w, i32_w]
        rfl
       refine pure_ (i := 3) (N := some 31) (v := ?_) (a' := ?_) #[true, false, true, true, false, false, false, false, false, false, false] rfl rfl (any_of HT_.out (by kernel_rfl)) (fun _ _ _ h => h) (Or.inl ⟨by rfl, ?_⟩) ?_ ?_
       rotate_left
       ·intro w'
        go_simp
        with_reducible rfl
       rotate_left
       ·simp only [Act.put, List.setIfInBounds_toArray, List.set_cons_zero, List.set_cons_succ, i64_w, i32_w]
        rfl
       refine pure_ (i := 7) (N := some 35) (v := ?_) (a' := ?_) #[true, false, true, true, false, false, false, true, false, false, false] rfl rfl (any_of HT_.out (by kernel_rfl)) (fun _ _ _ h => h) (Or.inl ⟨by rfl, ?_⟩) ?_ ?_
       rotate_left
       ·intro w'
        go_simp
        with_reducible rfl
       rotate_left
       ·simp only [Act.put, List.setIfInBounds_toArray, List.set_cons_zero, List.set_cons_succ, i64_w, i32_w]
        rfl
       refine take_ (i := 1) (N := some 29) (v := ?_) (a' := ?_) #[true, true, true, true, false, false, false, true, false, false, false] rfl rfl (take_ofW HT_.out HW_.out (by kernel_rfl)) (fun _ _ _ h => h) (Or.inl ⟨by rfl, ?_⟩) hHeld ?_ ?_
       rotate_left
       ·rintro w' ⟨s0, s1⟩
        go_simp
        with_reducible rfl
       rotate_left
       ·simp only [Act.put, List.setIfInBounds_toArray, List.set_cons_zero, List.set_cons_succ, i64_w, i32_w]
        rfl
       refine take_ (i := 4) (N := some 32) (v := ?_) (a' := ?_) #[true, true, true, true, true, false, false, true, false, false, false] rfl rfl (take_ofW HT_.out HW_.out (by kernel_rfl)) (fun _ _ _ h => h) (Or.inl ⟨by rfl, ?_⟩) hHeld ?_ ?_
       rotate_left
       ·rintro w' ⟨s0, s1⟩
        go_simp
        with_reducible rfl
       rotate_left
       ·simp only [Act.put, List.setIfInBounds_toArray, List.set_cons_zero, List.set_cons_succ, i64_w, i32_w]
        rfl
       refine pure_ (i := 5) (N := some 33) (v := ?_) (a' := ?_) #[true, true, true, true, true, true, false, true, false, false, false] rfl rfl (any_of HT_.out (by kernel_rfl)) (fun _ _ _ h => h) (Or.inl ⟨by rfl, ?_⟩) ?_ ?_
       rotate_left
       ·intro w'
        go_simp
        with_reducible rfl
       rotate_left
       ·simp only [Act.put, List.setIfInBounds_toArray, List.set_cons_zero, List.set_cons_succ, i64_w, i32_w]
        rfl
       refine pure_ (i := 6) (N := some 34) (v := ?_) (a' := ?_) #[true, true, true, true, true, true, true, true, false, false, false] rfl rfl (any_of HT_.out (by kernel_rfl)) (fun _ _ _ h => h) (Or.inl ⟨by rfl, ?_⟩) ?_ ?_
       rotate_left
       ·intro w'
        go_simp
        with_reducible rfl
       rotate_left
       ·simp only [Act.put, List.setIfInBounds_toArray, List.set_cons_zero, List.set_cons_succ, i64_w, i32_w]
        rfl
       refine one_ (i := 8) (N := some 36) #[true, true, true, true, true, true, true, true, true, false, false] rfl rfl (one_of HT_.out (by kernel_rfl)) (by decide) (fun K hK => ?_)
       refine goes_ Try.func52 (by kernel_rfl) rfl #[.pointer (some ⟨g, 0, none⟩)] (by rfl) rfl rfl (by (try simp only [List.map_toArray, List.map_cons, List.map_nil]); first | done | rfl | (simp only [List.length_drop, List.length_take]; rfl)) ?_
       with_reducible refine (spec_l7rd_next.calls g s1_0 t236 t237 t238 w0 _ ?side1 ?side2 A39.out).mono ?_
       (case side1 => repeat (first | (with_reducible first | exact HI1.out | apply IsS86.alloc | apply IsS86.drewN | apply IsS86.drew | apply IsS86.set_1 | refine IsS86.far ?_ NB1_231.out _ | refine IsS86.far ?_ NB1_232.out _) | exact HI1.out))
       (case side2 => repeat (first | (with_reducible first | exact HB.out | apply zE | apply zC | apply zD | refine zB ?_ (IsS86.ge HI1.out) | refine zB ?_ GE231.out | refine zB ?_ GE232.out) | exact HB.out))
       rintro e w53 ⟨rfl, hi, hb, hk⟩
       refine ⟨_, rfl, ?_⟩
       have n0_ := zA (zI (Kd.R_keep (IsS86.apart (show IsS86 w0 _ g s1_0 t236 from bB HI1.out NB1_231.out NB1_232.out) (bR HO0_0.out) (by decide)) hk (fun _ h => h.2)) (fun _ h => h.1))
       have n1_ := zA (KeepBut.blk hk (g' := gb231) (o := .cells #[.slice Ao44 l0_0.length co44, .int .i64 a0_1] 31 (0, 0)) (bU BK231.out) NB231_1.out (by simp))
       have n2_ := zA (KeepBut.blk hk (g' := gb232) (o := .cells #[.slice none 0 0, .int .i64 0] 31 (0, 0)) (bU BK232.out) NB232_1.out (by simp))
       have n3_ := zA (Kept.of_keep (S := (fun k_ => (P0_0_ k_) ∨ k_ = g)) (by repeat (first | (with_reducible first | exact HK.out | apply Kept.alloc | apply Kept.drewN | apply Kept.drew | refine zK ?_ (.inl (.inr rfl)) _ | refine zK ?_ (.inr GW231.out) _ | refine zK ?_ (.inr GW232.out) _) | exact HK.out)) hk (.inl (.inr rfl)))
       have n4_ := zA (hb)
       have n5_ := zA (hi)
       clear HO0_0
       clear BK231
       clear BK232
       clear HK
       clear HB
       clear HI1
       have HO0_0 := n0_
       have BK231 := n1_
       have BK232 := n2_
       have HK := n3_
       have HB := n4_
       have HI1 := n5_
       clear n0_ n1_ n2_ n3_ n4_ n5_
       (try clear hb)
       (try clear hb2)
       (try clear hk)
       (try clear hi)
       have p43 : 0 ≤ ((ji40) : Int) := zF (by first | (with_reducible assumption) | assumption)
       have q43 : ((ji40) : Int) < ((l0_0.length : Int) : Int) := zF (by first | (with_reducible assumption) | assumption)
       obtain ⟨go43, co43, eo43, gb43, gl43, cl43, HG43⟩ := Kd.R_form HO0_0.out (by omega)
       (first | cases eo43 | (injection eo43 with ea_ en_ ec_; (first | subst ea_ | (injection ea_ with ea_; subst ea_)); subst ec_; clear en_))
       have GB43 := zA gb43
       have GG43 := zA HG43
       clear gb43 gl43 HG43
       have HMgo43 := zA (show (P0_0_ go43 ∨ w.heap.size ≤ go43) from (HO0_0.out.1 _ rfl))
       obtain ⟨hx43_0, hf43_0⟩ := Kd.R_celln 0 HO0_0.out ((ji40) : Int) p43 q43
       replace p43 := eq_true p43
       replace q43 := eq_true q43
       have HN1_go43 := zA (show g ≠ go43 from by have h_ := IsS86.own_ne HI1.out HO0_0.out (by decide); intro e_; exact h_ (by rw [e_]; rfl))
       have HP54 := Kd.R_putn HO0_0.out ((ji40) : Int) t237
       rw [← Ny239.out] at HP54
       have HQ54 := zA HP54
       clear HP54
       refine hK.out _ _ ⟨(zZ BK231.out 0).trans rfl, (zZ BK231.out 1).trans rfl⟩ (fun hHeld => ?_)
       clear hK K
       refine norm_ (a' := ?_) ?_ ?_
       rotate_left
       ·show Act.put _ (some 36) _ = _
        simp only [Act.put, List.setIfInBounds_toArray, List.set_cons_zero, List.set_cons_succ, i64_w, i32_w]
        rfl
       refine pure_ (i := 9) (N := some 37) (v := ?_) (a' := ?_) #[true, true, true, true, true, true, true, true, true, true, false] rfl rfl (any_of HT_.out (by kernel_rfl)) (fun _ _ _ h => h) (Or.inl ⟨by rfl, ?_⟩) ?_ ?_
       rotate_left
       ·intro w'
        go_simp
        with_reducible rfl
       rotate_left
       ·simp only [Act.put, List.setIfInBounds_toArray, List.set_cons_zero, List.set_cons_succ, i64_w, i32_w]
        rfl
       refine last_ (i := 10) (N := none) #[true, true, true, true, true, true, true, true, true, true, true] rfl rfl (one_of HT_.out (by kernel_rfl)) (by decide) (fun K hK => ?_)
       refine skip_ (w1 := ?_) (by rfl) rfl ?_ ?_
       rotate_left
       ·go_simp
        rfl
       refine hK.out _ _ ?_
       clear hK K
       refine done_ (done_of HT_.out (by kernel_rfl)) ?_
       have n0_ : Aside0 (Kd.R (Kd.int .i64) 3 (w53.setCell ⟨go43, ((ji40) : Int).toNat, none⟩ (.int .i64 t237)) w0.heap.size (fun k_ => (P0_0_ k_ ∨ w.heap.size ≤ k_)) (.slice (some ⟨go43, 0, none⟩) l0_0.length co44) y239) := ⟨bR HQ54.out⟩
       have n1_ : Aside0 ((w53.setCell ⟨go43, ((ji40) : Int).toNat, none⟩ (.int .i64 t237)).heap[gb231]? = some (.cells #[.slice (some ⟨go43, 0, none⟩) l0_0.length co44, .int .i64 a0_1] 31 (0, 0))) := ⟨by (with_reducible repeat (first | refine blk_drewN ?_ _ | refine blk_drew ?_ | refine blk_alloc ?_ _)); refine blk_far ?_ (by have h_ := Kd.R_ne HO0_0.out BK231.out (by decide); intro e_; exact h_ (by rw [e_]; rfl)) _; exact bU BK231.out⟩
       have n2_ : Aside0 ((w53.setCell ⟨go43, ((ji40) : Int).toNat, none⟩ (.int .i64 t237)).heap[gb232]? = some (.cells #[.slice none 0 0, .int .i64 0] 31 (0, 0))) := ⟨by (with_reducible repeat (first | refine blk_drewN ?_ _ | refine blk_drew ?_ | refine blk_alloc ?_ _)); refine blk_far ?_ (by have h_ := Kd.R_ne HO0_0.out BK232.out (by decide); intro e_; exact h_ (by rw [e_]; rfl)) _; exact bU BK232.out⟩
       have n3_ : Aside0 (IsS86 w0 (w53.setCell ⟨go43, ((ji40) : Int).toNat, none⟩ (.int .i64 t237)) g s1_0 t238) := ⟨bN HI1.out HN1_go43.out NB1_231.out NB1_232.out⟩
       have n4_ : Aside0 (Kept w (w53.setCell ⟨go43, ((ji40) : Int).toNat, none⟩ (.int .i64 t237)) (fun k_ => (P0_0_ k_) ∨ k_ = g)) := ⟨by repeat (first | (with_reducible first | exact HK.out | apply Kept.alloc | apply Kept.drewN | apply Kept.drew | refine zK ?_ (Or.imp_left Or.inl HMgo43.out) _ | refine zK ?_ (.inl (.inr rfl)) _ | refine zK ?_ (.inr GW231.out) _ | refine zK ?_ (.inr GW232.out) _) | exact HK.out)⟩
       have n5_ : Aside0 (Below w0.heap.size w0 (w53.setCell ⟨go43, ((ji40) : Int).toNat, none⟩ (.int .i64 t237))) := ⟨bI HB.out GB43.out (IsS86.ge HI1.out) GE231.out GE232.out⟩
       (try clear HO0_0)
       (try clear BK231)
       (try clear BK232)
       (try clear HI1)
       (try clear HK)
       (try clear HB)
       generalize (w53.setCell ⟨go43, ((ji40) : Int).toNat, none⟩ (.int .i64 t237)) = w55 at n0_ n1_ n2_ n3_ n4_ n5_ ⊢
       have HO0_0 := n0_
       have BK231 := n1_
       have BK232 := n2_
       have HI1 := n3_
       have HK := n4_
       have HB := n5_
       clear n0_ n1_ n2_ n3_ n4_ n5_
       have hcz56_0 : w55.cell? ⟨gb231, 0, none⟩ = some (.slice (some ⟨go43, 0, none⟩) l0_0.length co44) := (zZ BK231.out 0).trans rfl
       have hcz56_1 : w55.cell? ⟨gb231, 1, none⟩ = some (.int .i64 a0_1) := (zZ BK231.out 1).trans rfl
       have hfz56_0 := zY BK231.out 0
       have hfz56_1 := zY BK231.out 1
       have hnb57 := NB232_1.out
       have hnc57 := NB1_232.out
       have hcz58_0 : w55.cell? ⟨gb232, 0, none⟩ = some (.slice none 0 0) := (zZ BK232.out 0).trans rfl
       have hcz58_1 : w55.cell? ⟨gb232, 1, none⟩ = some (.int .i64 0) := (zZ BK232.out 1).trans rfl
       have hfz58_0 := zY BK232.out 0
       have hfz58_1 := zY BK232.out 1
       try go_wp2
       refine bodyPost_ret (results_cell_row rfl _ _ gb232 31 #[.slice (some ⟨go43, 0, none⟩) l0_0.length co44, .int .i64 a0_1] (0, 0) _ rfl (by (with_reducible repeat (first | refine blk_drewN ?_ _ | refine blk_drew ?_ | refine blk_alloc ?_ _)); refine blk_put (cs := #[.slice (some ⟨go43, 0, none⟩) l0_0.length co44, .int .i64 0]) ?_ 1 _ rfl; (with_reducible repeat (first | refine blk_drewN ?_ _ | refine blk_drew ?_ | refine blk_alloc ?_ _)); refine blk_put (cs := #[.slice none 0 0, .int .i64 0]) ?_ 0 _ rfl; exact bU BK232.out) Try.underlying31 rfl (by kernel_rfl)) rfl ?_
       exact ⟨_, by first | rfl | (simp [errW_none, errW_some] <;> rfl) | (simp only [← hji40]; first | rfl | (simp [errW_none, errW_some] <;> rfl)) | (simp [*, errW_none, errW_some] <;> rfl), bR (zI (zJ (p := ⟨gb232, 1, none⟩) (zJ (p := ⟨gb232, 0, none⟩) (zL HO0_0.out BK232.out (by decide)) (fun _ hk => hk.2) (.slice (some ⟨go43, 0, none⟩) l0_0.length co44)) (fun _ hk => hk.2) (.int .i64 a0_1)) (fun _ hk => hk.1)), bB HI1.out NB1_231.out NB1_232.out, bC HB.out (IsS86.ge HI1.out) GE231.out GE232.out, by repeat (first | (with_reducible first | exact HK.out | apply Kept.alloc | apply Kept.drewN | apply Kept.drew | refine zK ?_ (.inl (.inr rfl)) _ | refine zK ?_ (.inr GW231.out) _ | refine zK ?_ (.inr GW232.out) _) | exact HK.out)⟩
      ·rw [if_neg c42] at H
       exact absurd H (by simp)
     ·rw [if_neg c41] at H
      exact absurd H (by simp)
    ·rw [if_neg c38] at H
     have c38b0 : ((Int.tmod t233 5) == 2) = false := beq_eq_false_iff_ne.mpr c38
     have c38b1 : ((Int.tmod t233 5) != 2) = true := bne_iff_ne.mpr c38
     by_cases c59 : (Int.tmod t233 5) = 3
     ·rw [if_pos c59] at H
      have c59b0 : ((Int.tmod t233 5) == 3) = true := beq_iff_eq.mpr c59
      have c59b1 : ((Int.tmod t233 5) != 3) = false := bne_eq_false_iff_eq.mpr c59
      clear c59
      replace H := Option.bind_eq_some_iff.mp H
      obtain ⟨⟨t240, t241⟩, A600, H⟩ := H
      replace H : (if 0 ≤ (Int.tmod t235 (l0_0.length : Int)) then (if (Int.tmod t235 (l0_0.length : Int)) < (l0_0.length : Int) then (some ((l0_0.set ((Int.tmod t235 (l0_0.length : Int)) : Int).toNat (wrap64 (-t240))), a0_1, t241)) else (none)) else (none)) = some (r1, r2, r3) := H
      have A60 := zA A600
      clear A600
      obtain ⟨ji61, hji61⟩ : ∃ j_ : Int, (Int.tmod t235 (l0_0.length : Int)) = j_ := ⟨_, rfl⟩
      replace H : (if 0 ≤ (ji61) then (if (ji61) < (l0_0.length : Int) then (some ((l0_0.set ((ji61) : Int).toNat (wrap64 (-t240))), a0_1, t241)) else (none)) else (none)) = some (r1, r2, r3) := by first | (rw [hji61] at H; exact H) | (simp only [hji61] at H ⊢; exact H)
      (try rw [hji61] at A3)
      (try rw [hji61] at A4)
      (try rw [hji61] at A60)
      by_cases c62 : 0 ≤ (ji61)
      ·rw [if_pos c62] at H
       have c62b0 : decide (0 ≤ (ji61)) = true := zG c62
       clear c62
       by_cases c63 : (ji61) < (l0_0.length : Int)
       ·rw [if_pos c63] at H
        have c63b0 : decide ((ji61) < (l0_0.length : Int)) = true := zG c63
        clear c63
        obtain ⟨y242, hy242⟩ : ∃ y_ : List Int, y_ = (l0_0.set ((ji61) : Int).toNat (wrap64 (-t240))) := ⟨_, rfl⟩
        replace H : (some (y242, a0_1, t241)) = some (r1, r2, r3) := by first | (rw [hy242]; with_reducible exact H) | (have H2_ := (Option.bind_some _ _).symm.trans H; rw [hy242]; with_reducible exact H2_) | (have H2_ := (Option.bind_some _ _).symm.trans H; with_reducible exact H2_) | with_reducible exact H | (rw [hy242]; exact H) | exact H
        have Ny242 := zA hy242
        clear hy242
        simp only [Option.some.injEq, Prod.mk.injEq] at H
        obtain ⟨rfl, rfl, rfl⟩ := H
        obtain ⟨Ao65, co65, eo65⟩ := Kd.R_slice HO0_0.out
        subst eo65
        go_enter Try.func55, Try.ntmps55
        try go_wp2_with (first | ((with_reducible refine gate_dst (N := 2) rfl ?_); refine box_event ?hg (N := 2) ?hd (cs := #[.slice Ao65 l0_0.length co65, .int .i64 a0_1]) (t := 31) ?hr ?_; (case hd => rfl); (case hg => rfl); (case hr => first | (go_simp; done) | (go_simp; rfl)); intro gb231 hg w66 hbox hb; have n0_ := zA (zP (bR HO0_0.out) hb); have n1_ := zA (IsS86.below (bG HI1.out) hb); have n2_ := zA (Kept.below (S := (fun k_ => (P0_0_ k_) ∨ k_ = g)) (by repeat (first | (with_reducible first | exact HK.out | apply Kept.alloc | apply Kept.drewN | apply Kept.drew | refine zK ?_ (.inl (.inr rfl)) _) | exact HK.out)) hb); have n3_ := zA (zX (bA HB.out (IsS86.ge HI1.out)) hb); have n4_ := zA (hbox); have n5_ := zA ((by rw [hg]; exact (by first | exact HK.out.1 | exact (show Kept w _ (fun k_ => (P0_0_ k_) ∨ k_ = g) from by repeat (first | (with_reducible first | exact HK.out | apply Kept.alloc | apply Kept.drewN | apply Kept.drew | refine zK ?_ (.inl (.inr rfl)) _) | exact HK.out)).1) : w.heap.size ≤ gb231)); have n6_ := zA ((by rw [hg]; exact (below_size (bA HB.out (IsS86.ge HI1.out))) : w0.heap.size ≤ gb231)); have n7_ := zA ((by rw [hg]; exact Nat.ne_of_lt (IsS86.lt (show IsS86 w0 _ g s1_0 s1_1 from bG HI1.out)) : g ≠ gb231)); have n8_ := zA ((by rw [hg]; exact Nat.ne_of_gt (IsS86.lt (show IsS86 w0 _ g s1_0 s1_1 from bG HI1.out)) : gb231 ≠ g)); clear HO0_0 HI1 HK HB; have HO0_0 := n0_; have HI1 := n1_; have HK := n2_; have HB := n3_; have BK231 := n4_; have GW231 := n5_; have GE231 := n6_; have NB1_231 := n7_; have NB231_1 := n8_; clear n0_ n1_ n2_ n3_ n4_ n5_ n6_ n7_ n8_; clear hb hbox hg) | ((with_reducible refine gate_dst (N := 4) rfl ?_); refine box_event ?hg (N := 4) ?hd (cs := #[.slice none 0 0, .int .i64 0]) (t := 31) ?hr ?_; (case hd => rfl); (case hg => rfl); (case hr => first | (go_simp; done) | (go_simp; rfl)); intro gb232 hg w67 hbox hb; have n0_ := zA (zP (bR HO0_0.out) hb); have n1_ := zA (IsS86.below (bH HI1.out NB1_231.out) hb); have n2_ := zA (zN (g := gb231) (o := .cells #[.slice Ao65 l0_0.length co65, .int .i64 a0_1] 31 (0, 0)) (bU BK231.out) hb); have n3_ := zA (Kept.below (S := (fun k_ => (P0_0_ k_) ∨ k_ = g)) (by repeat (first | (with_reducible first | exact HK.out | apply Kept.alloc | apply Kept.drewN | apply Kept.drew | refine zK ?_ (.inl (.inr rfl)) _ | refine zK ?_ (.inr GW231.out) _) | exact HK.out)) hb); have n4_ := zA (zX (bD HB.out (IsS86.ge HI1.out) GE231.out) hb); have n5_ := zA (hbox); have n6_ := zA ((by rw [hg]; exact (by first | exact HK.out.1 | exact (show Kept w _ (fun k_ => (P0_0_ k_) ∨ k_ = g) from by repeat (first | (with_reducible first | exact HK.out | apply Kept.alloc | apply Kept.drewN | apply Kept.drew | refine zK ?_ (.inl (.inr rfl)) _ | refine zK ?_ (.inr GW231.out) _) | exact HK.out)).1) : w.heap.size ≤ gb232)); have n7_ := zA ((by rw [hg]; exact (below_size (bD HB.out (IsS86.ge HI1.out) GE231.out)) : w0.heap.size ≤ gb232)); have n8_ := zA ((by rw [hg]; exact Nat.ne_of_lt (blk_lt (g := gb231) (o := .cells #[.slice Ao65 l0_0.length co65, .int .i64 a0_1] 31 (0, 0)) (bU BK231.out)) : gb231 ≠ gb232)); have n9_ := zA ((by rw [hg]; exact Nat.ne_of_gt (blk_lt (g := gb231) (o := .cells #[.slice Ao65 l0_0.length co65, .int .i64 a0_1] 31 (0, 0)) (bU BK231.out)) : gb232 ≠ gb231)); have n10_ := zA ((by rw [hg]; exact Nat.ne_of_lt (IsS86.lt (show IsS86 w0 _ g s1_0 s1_1 from bH HI1.out NB1_231.out)) : g ≠ gb232)); have n11_ := zA ((by rw [hg]; exact Nat.ne_of_gt (IsS86.lt (show IsS86 w0 _ g s1_0 s1_1 from bH HI1.out NB1_231.out)) : gb232 ≠ g)); clear HO0_0 HI1 BK231 HK HB; have HO0_0 := n0_; have HI1 := n1_; have BK231 := n2_; have HK := n3_; have HB := n4_; have BK232 := n5_; have GW232 := n6_; have GE232 := n7_; have NB231_232 := n8_; have NB232_231 := n9_; have NB1_232 := n10_; have NB232_1 := n11_; clear n0_ n1_ n2_ n3_ n4_ n5_ n6_ n7_ n8_ n9_ n10_ n11_; clear hb hbox hg) | ((with_reducible refine gate_callee (f := 52) rfl ?_); refine goesL_ (some 8) rfl rfl Try.func52 (by kernel_rfl) rfl #[.pointer (some ⟨g, 0, none⟩)] rfl (by (try simp only [List.map_toArray, List.map_cons, List.map_nil]); first | done | rfl | (simp only [List.length_drop, List.length_take]; rfl)) ?_; (with_reducible refine (spec_l7rd_next.calls g s1_0 s1_1 t233 t234 w0 _ ?side1 ?side2 A3.out).mono ?_); (case side1 => repeat (first | (with_reducible first | exact HI1.out | apply IsS86.alloc | apply IsS86.drewN | apply IsS86.drew | apply IsS86.set_1 | refine IsS86.far ?_ NB1_231.out _ | refine IsS86.far ?_ NB1_232.out _) | exact HI1.out)); (case side2 => repeat (first | (with_reducible first | exact HB.out | apply zE | apply zC | apply zD | refine zB ?_ (IsS86.ge HI1.out) | refine zB ?_ GE231.out | refine zB ?_ GE232.out) | exact HB.out)); rintro e w68 ⟨rfl, hi, hb, hk⟩; refine ⟨_, rfl, ?_⟩; have n0_ := zA (zI (Kd.R_keep (IsS86.apart (show IsS86 w0 _ g s1_0 s1_1 from bB HI1.out NB1_231.out NB1_232.out) (bR HO0_0.out) (by decide)) hk (fun _ h => h.2)) (fun _ h => h.1)); have n1_ := zA (KeepBut.blk hk (g' := gb231) (o := .cells #[.slice Ao65 l0_0.length co65, .int .i64 a0_1] 31 (0, 0)) (bU BK231.out) NB231_1.out (by simp)); have n2_ := zA (KeepBut.blk hk (g' := gb232) (o := .cells #[.slice none 0 0, .int .i64 0] 31 (0, 0)) (bU BK232.out) NB232_1.out (by simp)); have n3_ := zA (Kept.of_keep (S := (fun k_ => (P0_0_ k_) ∨ k_ = g)) (by repeat (first | (with_reducible first | exact HK.out | apply Kept.alloc | apply Kept.drewN | apply Kept.drew | refine zK ?_ (.inl (.inr rfl)) _ | refine zK ?_ (.inr GW231.out) _ | refine zK ?_ (.inr GW232.out) _) | exact HK.out)) hk (.inl (.inr rfl))); have n4_ := zA (hb); have n5_ := zA (hi); clear HO0_0 BK231 BK232 HK HB HI1; have HO0_0 := n0_; have BK231 := n1_; have BK232 := n2_; have HK := n3_; have HB := n4_; have HI1 := n5_; clear n0_ n1_ n2_ n3_ n4_ n5_; (try clear hb); (try clear hb2); (try clear hk); (try clear hi)) | ((with_reducible refine gate_callee (f := 52) rfl ?_); refine goesL_ (some 11) rfl rfl Try.func52 (by kernel_rfl) rfl #[.pointer (some ⟨g, 0, none⟩)] rfl (by (try simp only [List.map_toArray, List.map_cons, List.map_nil]); first | done | rfl | (simp only [List.length_drop, List.length_take]; rfl)) ?_; (with_reducible refine (spec_l7rd_next.calls g s1_0 t234 t235 t236 w0 _ ?side1 ?side2 A4.out).mono ?_); (case side1 => repeat (first | (with_reducible first | exact HI1.out | apply IsS86.alloc | apply IsS86.drewN | apply IsS86.drew | apply IsS86.set_1 | refine IsS86.far ?_ NB1_231.out _ | refine IsS86.far ?_ NB1_232.out _) | exact HI1.out)); (case side2 => repeat (first | (with_reducible first | exact HB.out | apply zE | apply zC | apply zD | refine zB ?_ (IsS86.ge HI1.out) | refine zB ?_ GE231.out | refine zB ?_ GE232.out) | exact HB.out)); rintro e w69 ⟨rfl, hi, hb, hk⟩; refine ⟨_, rfl, ?_⟩; have n0_ := zA (zI (Kd.R_keep (IsS86.apart (show IsS86 w0 _ g s1_0 t234 from bB HI1.out NB1_231.out NB1_232.out) (bR HO0_0.out) (by decide)) hk (fun _ h => h.2)) (fun _ h => h.1)); have n1_ := zA (KeepBut.blk hk (g' := gb231) (o := .cells #[.slice Ao65 l0_0.length co65, .int .i64 a0_1] 31 (0, 0)) (bU BK231.out) NB231_1.out (by simp)); have n2_ := zA (KeepBut.blk hk (g' := gb232) (o := .cells #[.slice none 0 0, .int .i64 0] 31 (0, 0)) (bU BK232.out) NB232_1.out (by simp)); have n3_ := zA (Kept.of_keep (S := (fun k_ => (P0_0_ k_) ∨ k_ = g)) (by repeat (first | (with_reducible first | exact HK.out | apply Kept.alloc | apply Kept.drewN | apply Kept.drew | refine zK ?_ (.inl (.inr rfl)) _ | refine zK ?_ (.inr GW231.out) _ | refine zK ?_ (.inr GW232.out) _) | exact HK.out)) hk (.inl (.inr rfl))); have n4_ := zA (hb); have n5_ := zA (hi); clear HO0_0 BK231 BK232 HK HB HI1; have HO0_0 := n0_; have BK231 := n1_; have BK232 := n2_; have HK := n3_; have HB := n4_; have HI1 := n5_; clear n0_ n1_ n2_ n3_ n4_ n5_; (try clear hb); (try clear hb2); (try clear hk); (try clear hi); have hnb70 := NB231_232.out; have hnc70 := NB232_231.out; have hnb71 := NB231_1.out; have hnc71 := NB1_231.out; have hcz72_0 : w69.cell? ⟨gb231, 0, none⟩ = some (.slice Ao65 l0_0.length co65) := (zZ BK231.out 0).trans rfl; have hcz72_1 : w69.cell? ⟨gb231, 1, none⟩ = some (.int .i64 a0_1) := (zZ BK231.out 1).trans rfl; have hfz72_0 := zY BK231.out 0; have hfz72_1 := zY BK231.out 1))
        have n0_ := zA (Kd.R_drew HO0_0.out)
        have n1_ := zA (blk_drew BK231.out)
        have n2_ := zA (blk_drew BK232.out)
        have n3_ := zA (IsS86.drew HI1.out)
        have n4_ := zA (Kept.drew HK.out)
        have n5_ := zA (zD HB.out)
        clear HO0_0
        clear BK231
        clear BK232
        clear HI1
        clear HK
        clear HB
        have HO0_0 := n0_
        have BK231 := n1_
        have BK232 := n2_
        have HI1 := n3_
        have HK := n4_
        have HB := n5_
        clear n0_ n1_ n2_ n3_ n4_ n5_
        refine start_ (n := 12) (S := fun w' => w'.cell? ⟨gb231, 0, none⟩ = some (.slice Ao65 l0_0.length co65) ∧ w'.cell? ⟨gb231, 1, none⟩ = some (.int .i64 a0_1)) (ds := [11]) #[false, false, false, false, false, false, false, false, false, false, false, false] (by kernel_rfl) rfl rfl ⟨(zZ BK231.out 0).trans rfl, (zZ BK231.out 1).trans rfl⟩ (fun hHeld => ?_); refine with_tabW spec_l7spoilHeap.tab12 spec_l7spoilHeap.bits12 (fun HT_ HW_ => ?_)
        generalize w69.drew = w73 at HO0_0 BK231 BK232 HI1 HK HB hHeld ⊢
        refine pure_ (i := 0) (N := some 40) (v := ?_) (a' := ?_) #[true, false, false, false, false, false, false, false, false, false, false, false] rfl rfl (any_of HT_.out (by kernel_rfl)) (fun _ _ _ h => h) (Or.inl ⟨by rfl, ?_⟩) ?_ ?_
        rotate_left
        ·intro w'
         go_simp
         with_reducible rfl
        rotate_left
        ·simp only [Act.put, List.setIfInBounds_toArray, List.set_cons_zero, List.set_cons_succ, i64_w, i32_w]
         rfl
        refine pure_ (i := 2) (N := some 42) (v := ?_) (a' := ?_) #[true, false, true, false, false, false, false, false, false, false, false, false] rfl rfl (any_of HT_.out (by kernel_rfl)) (fun _ _ _ h => h) (Or.inl ⟨by rfl, ?_⟩) ?_ ?_
        rotate_left
        ·intro w'
         go_simp
         with_reducible rfl
        rotate_left
        ·simp only [Act.put, List.setIfInBounds_toArray, List.set_cons_zero, List.set_cons_succ, i64_w, i32_w]
         rfl
        refine pure_ (i := 3) (N := some 43) (v := ?_) (a' := ?_) #[true, false, true, true, false, false, false, false, false, false, false, false] rfl rfl (any_of HT_.out (by kernel_rfl)) (fun _ _ _ h => h) (Or.inl ⟨by rfl, ?_⟩) ?_ ?_
        rotate_left
        ·intro w'
         go_simp
         with_reducible rfl
        rotate_left
        ·simp only [Act.put, List.setIfInBounds_toArray, List.set_cons_zero, List.set_cons_succ, i64_w, i32_w]
         rfl
        refine pure_ (i := 7) (N := some 47) (v := ?_) (a' := ?_) #[true, false, true, true, false, false, false, true, false, false, false, false] rfl rfl (any_of HT_.out (by kernel_rfl)) (fun _ _ _ h => h) (Or.inl ⟨by rfl, ?_⟩) ?_ ?_
        rotate_left
        ·intro w'
         go_simp
         with_reducible rfl
        rotate_left
        ·simp only [Act.put, List.setIfInBounds_toArray, List.set_cons_zero, List.set_cons_succ, i64_w, i32_w]
         rfl
        refine take_ (i := 1) (N := some 41) (v := ?_) (a' := ?_) #[true, true, true, true, false, false, false, true, false, false, false, false] rfl rfl (take_ofW HT_.out HW_.out (by kernel_rfl)) (fun _ _ _ h => h) (Or.inl ⟨by rfl, ?_⟩) hHeld ?_ ?_
        rotate_left
        ·rintro w' ⟨s0, s1⟩
         go_simp
         with_reducible rfl
        rotate_left
        ·simp only [Act.put, List.setIfInBounds_toArray, List.set_cons_zero, List.set_cons_succ, i64_w, i32_w]
         rfl
        refine take_ (i := 4) (N := some 44) (v := ?_) (a' := ?_) #[true, true, true, true, true, false, false, true, false, false, false, false] rfl rfl (take_ofW HT_.out HW_.out (by kernel_rfl)) (fun _ _ _ h => h) (Or.inl ⟨by rfl, ?_⟩) hHeld ?_ ?_
        rotate_left
        ·rintro w' ⟨s0, s1⟩
         go_simp
         with_reducible rfl
        rotate_left
        ·simp only [Act.put, List.setIfInBounds_toArray, List.set_cons_zero, List.set_cons_succ, i64_w, i32_w]
         rfl
        refine pure_ (i := 5) (N := some 45) (v := ?_) (a' := ?_) #[true, true, true, true, true, true, false, true, false, false, false, false] rfl rfl (any_of HT_.out (by kernel_rfl)) (fun _ _ _ h => h) (Or.inl ⟨by rfl, ?_⟩) ?_ ?_
        rotate_left
        ·intro w'
         go_simp
         with_reducible rfl
        rotate_left
        ·simp only [Act.put, List.setIfInBounds_toArray, List.set_cons_zero, List.set_cons_succ, i64_w, i32_w]
         rfl
        refine pure_ (i := 6) (N := some 46) (v := ?_) (a' := ?_) #[true, true, true, true, true, true, true, true, false, false, false, false] rfl rfl (any_of HT_.out (by kernel_rfl)) (fun _ _ _ h => h) (Or.inl ⟨by rfl, ?_⟩) ?_ ?_
        rotate_left
        ·intro w'
         go_simp
         with_reducible rfl
        rotate_left
        ·simp only [Act.put, List.setIfInBounds_toArray, List.set_cons_zero, List.set_cons_succ, i64_w, i32_w]
         rfl
        refine one_ (i := 8) (N := some 48) #[true, true, true, true, true, true, true, true, true, false, false, false] rfl rfl (one_of HT_.out (by kernel_rfl)) (by decide) (fun K hK => ?_)
        refine goes_ Try.func52 (by kernel_rfl) rfl #[.pointer (some ⟨g, 0, none⟩)] (by rfl) rfl rfl (by (try simp only [List.map_toArray, List.map_cons, List.map_nil]); first | done | rfl | (simp only [List.length_drop, List.length_take]; rfl)) ?_
        with_reducible refine (spec_l7rd_next.calls g s1_0 t236 t240 t241 w0 _ ?side1 ?side2 A60.out).mono ?_
        (case side1 => repeat (first | (with_reducible first | exact HI1.out | apply IsS86.alloc | apply IsS86.drewN | apply IsS86.drew | apply IsS86.set_1 | refine IsS86.far ?_ NB1_231.out _ | refine IsS86.far ?_ NB1_232.out _) | exact HI1.out))
        (case side2 => repeat (first | (with_reducible first | exact HB.out | apply zE | apply zC | apply zD | refine zB ?_ (IsS86.ge HI1.out) | refine zB ?_ GE231.out | refine zB ?_ GE232.out) | exact HB.out))
        rintro e w74 ⟨rfl, hi, hb, hk⟩
        refine ⟨_, rfl, ?_⟩
        have n0_ := zA (zI (Kd.R_keep (IsS86.apart (show IsS86 w0 _ g s1_0 t236 from bB HI1.out NB1_231.out NB1_232.out) (bR HO0_0.out) (by decide)) hk (fun _ h => h.2)) (fun _ h => h.1))
        have n1_ := zA (KeepBut.blk hk (g' := gb231) (o := .cells #[.slice Ao65 l0_0.length co65, .int .i64 a0_1] 31 (0, 0)) (bU BK231.out) NB231_1.out (by simp))
        have n2_ := zA (KeepBut.blk hk (g' := gb232) (o := .cells #[.slice none 0 0, .int .i64 0] 31 (0, 0)) (bU BK232.out) NB232_1.out (by simp))
        have n3_ := zA (Kept.of_keep (S := (fun k_ => (P0_0_ k_) ∨ k_ = g)) (by repeat (first | (with_reducible first | exact HK.out | apply Kept.alloc | apply Kept.drewN | apply Kept.drew | refine zK ?_ (.inl (.inr rfl)) _ | refine zK ?_ (.inr GW231.out) _ | refine zK ?_ (.inr GW232.out) _) | exact HK.out)) hk (.inl (.inr rfl)))
        have n4_ := zA (hb)
        have n5_ := zA (hi)
        clear HO0_0
        clear BK231
        clear BK232
        clear HK
        clear HB
        clear HI1
        have HO0_0 := n0_
        have BK231 := n1_
        have BK232 := n2_
        have HK := n3_
        have HB := n4_
        have HI1 := n5_
        clear n0_ n1_ n2_ n3_ n4_ n5_
        (try clear hb)
        (try clear hb2)
        (try clear hk)
        (try clear hi)
        have p64 : 0 ≤ ((ji61) : Int) := zF (by first | (with_reducible assumption) | assumption)
        have q64 : ((ji61) : Int) < ((l0_0.length : Int) : Int) := zF (by first | (with_reducible assumption) | assumption)
        obtain ⟨go64, co64, eo64, gb64, gl64, cl64, HG64⟩ := Kd.R_form HO0_0.out (by omega)
        (first | cases eo64 | (injection eo64 with ea_ en_ ec_; (first | subst ea_ | (injection ea_ with ea_; subst ea_)); subst ec_; clear en_))
        have GB64 := zA gb64
        have GG64 := zA HG64
        clear gb64 gl64 HG64
        have HMgo64 := zA (show (P0_0_ go64 ∨ w.heap.size ≤ go64) from (HO0_0.out.1 _ rfl))
        obtain ⟨hx64_0, hf64_0⟩ := Kd.R_celln 0 HO0_0.out ((ji61) : Int) p64 q64
        replace p64 := eq_true p64
        replace q64 := eq_true q64
        have HN1_go64 := zA (show g ≠ go64 from by have h_ := IsS86.own_ne HI1.out HO0_0.out (by decide); intro e_; exact h_ (by rw [e_]; rfl))
        have HP75 := Kd.R_putn HO0_0.out ((ji61) : Int) (wrap64 (-t240))
        rw [← Ny242.out] at HP75
        have HQ75 := zA HP75
        clear HP75
        refine hK.out _ _ ⟨(zZ BK231.out 0).trans rfl, (zZ BK231.out 1).trans rfl⟩ (fun hHeld => ?_)
        clear hK K
        refine norm_ (a' := ?_) ?_ ?_
        rotate_left
        ·show Act.put _ (some 48) _ = _
         simp only [Act.put, List.setIfInBounds_toArray, List.set_cons_zero, List.set_cons_succ, i64_w, i32_w]
         rfl
        refine pure_ (i := 9) (N := some 49) (v := ?_) (a' := ?_) #[true, true, true, true, true, true, true, true, true, true, false, false] rfl rfl (any_of HT_.out (by kernel_rfl)) (fun _ _ _ h => h) (Or.inl ⟨by rfl, ?_⟩) ?_ ?_
        rotate_left
        ·intro w'
         go_simp
         with_reducible rfl
        rotate_left
        ·simp only [Act.put, List.setIfInBounds_toArray, List.set_cons_zero, List.set_cons_succ, i64_w, i32_w]
         rfl
        refine pure_ (i := 10) (N := some 50) (v := ?_) (a' := ?_) #[true, true, true, true, true, true, true, true, true, true, true, false] rfl rfl (any_of HT_.out (by kernel_rfl)) (fun _ _ _ h => h) (Or.inl ⟨by rfl, ?_⟩) ?_ ?_
        rotate_left
        ·intro w'
         go_simp
         with_reducible rfl
        rotate_left
        ·simp only [Act.put, List.setIfInBounds_toArray, List.set_cons_zero, List.set_cons_succ, i64_w, i32_w]
         rfl
        refine last_ (i := 11) (N := none) #[true, true, true, true, true, true, true, true, true, true, true, true] rfl rfl (one_of HT_.out (by kernel_rfl)) (by decide) (fun K hK => ?_)
        refine skip_ (w1 := ?_) (by rfl) rfl ?_ ?_
        rotate_left
        ·go_simp
         rfl
        refine hK.out _ _ ?_
        clear hK K
        refine done_ (done_of HT_.out (by kernel_rfl)) ?_
        have n0_ : Aside0 (Kd.R (Kd.int .i64) 3 (w74.setCell ⟨go64, ((ji61) : Int).toNat, none⟩ (.int .i64 (wrap64 (-t240)))) w0.heap.size (fun k_ => (P0_0_ k_ ∨ w.heap.size ≤ k_)) (.slice (some ⟨go64, 0, none⟩) l0_0.length co65) y242) := ⟨bR HQ75.out⟩
        have n1_ : Aside0 ((w74.setCell ⟨go64, ((ji61) : Int).toNat, none⟩ (.int .i64 (wrap64 (-t240)))).heap[gb231]? = some (.cells #[.slice (some ⟨go64, 0, none⟩) l0_0.length co65, .int .i64 a0_1] 31 (0, 0))) := ⟨by (with_reducible repeat (first | refine blk_drewN ?_ _ | refine blk_drew ?_ | refine blk_alloc ?_ _)); refine blk_far ?_ (by have h_ := Kd.R_ne HO0_0.out BK231.out (by decide); intro e_; exact h_ (by rw [e_]; rfl)) _; exact bU BK231.out⟩
        have n2_ : Aside0 ((w74.setCell ⟨go64, ((ji61) : Int).toNat, none⟩ (.int .i64 (wrap64 (-t240)))).heap[gb232]? = some (.cells #[.slice none 0 0, .int .i64 0] 31 (0, 0))) := ⟨by (with_reducible repeat (first | refine blk_drewN ?_ _ | refine blk_drew ?_ | refine blk_alloc ?_ _)); refine blk_far ?_ (by have h_ := Kd.R_ne HO0_0.out BK232.out (by decide); intro e_; exact h_ (by rw [e_]; rfl)) _; exact bU BK232.out⟩
        have n3_ : Aside0 (IsS86 w0 (w74.setCell ⟨go64, ((ji61) : Int).toNat, none⟩ (.int .i64 (wrap64 (-t240)))) g s1_0 t241) := ⟨bN HI1.out HN1_go64.out NB1_231.out NB1_232.out⟩
        have n4_ : Aside0 (Kept w (w74.setCell ⟨go64, ((ji61) : Int).toNat, none⟩ (.int .i64 (wrap64 (-t240)))) (fun k_ => (P0_0_ k_) ∨ k_ = g)) := ⟨by repeat (first | (with_reducible first | exact HK.out | apply Kept.alloc | apply Kept.drewN | apply Kept.drew | refine zK ?_ (Or.imp_left Or.inl HMgo64.out) _ | refine zK ?_ (.inl (.inr rfl)) _ | refine zK ?_ (.inr GW231.out) _ | refine zK ?_ (.inr GW232.out) _) | exact HK.out)⟩
        have n5_ : Aside0 (Below w0.heap.size w0 (w74.setCell ⟨go64, ((ji61) : Int).toNat, none⟩ (.int .i64 (wrap64 (-t240))))) := ⟨bI HB.out GB64.out (IsS86.ge HI1.out) GE231.out GE232.out⟩
        (try clear HO0_0)
        (try clear BK231)
        (try clear BK232)
        (try clear HI1)
        (try clear HK)
        (try clear HB)
        generalize (w74.setCell ⟨go64, ((ji61) : Int).toNat, none⟩ (.int .i64 (wrap64 (-t240)))) = w76 at n0_ n1_ n2_ n3_ n4_ n5_ ⊢
        have HO0_0 := n0_
        have BK231 := n1_
        have BK232 := n2_
        have HI1 := n3_
        have HK := n4_
        have HB := n5_
        clear n0_ n1_ n2_ n3_ n4_ n5_
        have hcz77_0 : w76.cell? ⟨gb231, 0, none⟩ = some (.slice (some ⟨go64, 0, none⟩) l0_0.length co65) := (zZ BK231.out 0).trans rfl
        have hcz77_1 : w76.cell? ⟨gb231, 1, none⟩ = some (.int .i64 a0_1) := (zZ BK231.out 1).trans rfl
        have hfz77_0 := zY BK231.out 0
        have hfz77_1 := zY BK231.out 1
        have hnb78 := NB232_1.out
        have hnc78 := NB1_232.out
        have hcz79_0 : w76.cell? ⟨gb232, 0, none⟩ = some (.slice none 0 0) := (zZ BK232.out 0).trans rfl
        have hcz79_1 : w76.cell? ⟨gb232, 1, none⟩ = some (.int .i64 0) := (zZ BK232.out 1).trans rfl
        have hfz79_0 := zY BK232.out 0
        have hfz79_1 := zY BK232.out 1
        try go_wp2
        refine bodyPost_ret (results_cell_row rfl _ _ gb232 31 #[.slice (some ⟨go64, 0, none⟩) l0_0.length co65, .int .i64 a0_1] (0, 0) _ rfl (by (with_reducible repeat (first | refine blk_drewN ?_ _ | refine blk_drew ?_ | refine blk_alloc ?_ _)); refine blk_put (cs := #[.slice (some ⟨go64, 0, none⟩) l0_0.length co65, .int .i64 0]) ?_ 1 _ rfl; (with_reducible repeat (first | refine blk_drewN ?_ _ | refine blk_drew ?_ | refine blk_alloc ?_ _)); refine blk_put (cs := #[.slice none 0 0, .int .i64 0]) ?_ 0 _ rfl; exact bU BK232.out) Try.underlying31 rfl (by kernel_rfl)) rfl ?_
        exact ⟨_, by first | rfl | (simp [errW_none, errW_some] <;> rfl) | (simp only [← hji61]; first | rfl | (simp [errW_none, errW_some] <;> rfl)) | (simp [*, errW_none, errW_some] <;> rfl), bR (zI (zJ (p := ⟨gb232, 1, none⟩) (zJ (p := ⟨gb232, 0, none⟩) (zL HO0_0.out BK232.out (by decide)) (fun _ hk => hk.2) (.slice (some ⟨go64, 0, none⟩) l0_0.length co65)) (fun _ hk => hk.2) (.int .i64 a0_1)) (fun _ hk => hk.1)), bB HI1.out NB1_231.out NB1_232.out, bC HB.out (IsS86.ge HI1.out) GE231.out GE232.out, by repeat (first | (with_reducible first | exact HK.out | apply Kept.alloc | apply Kept.drewN | apply Kept.drew | refine zK ?_ (.inl (.inr rfl)) _ | refine zK ?_ (.inr GW231.out) _ | refine zK ?_ (.inr GW232.out) _) | exact HK.out)⟩
       ·rw [if_neg c63] at H
        exact absurd H (by simp)
      ·rw [if_neg c62] at H
       exact absurd H (by simp)
     ·rw [if_neg c59] at H
      have c59b0 : ((Int.tmod t233 5) == 3) = false := beq_eq_false_iff_ne.mpr c59
      have c59b1 : ((Int.tmod t233 5) != 3) = true := bne_iff_ne.mpr c59
      obtain ⟨ji80, hji80⟩ : ∃ j_ : Int, (wrap64 ((wrap64 (20000 + (Int.tmod t235 2))) - (l0_0.length : Int))) = j_ := ⟨_, rfl⟩
      replace H : (if 0 ≤ (ji80) then (if l0_0.length + (ji80 : Int).toNat < 17592186044416 then (some ((l0_0 ++ List.replicate (ji80 : Int).toNat 0), a0_1, t236)) else (none)) else (none)) = some (r1, r2, r3) := by first | (rw [hji80] at H; exact H) | (simp only [hji80] at H ⊢; exact H)
      (try rw [hji80] at A3)
      (try rw [hji80] at A4)
      have hji80w : (IntKind.i64.wrap ((wrap64 (20000 + (Int.tmod t235 2))) - (l0_0.length : Int))) = ji80 := (i64_w _).trans hji80
      by_cases c81 : 0 ≤ (ji80)
      ·rw [if_pos c81] at H
       have c81b0 := eq_true c81
       have c81b1 : decide (0 ≤ (ji80)) = true := zG c81
       clear c81
       by_cases c82 : l0_0.length + (ji80 : Int).toNat < 17592186044416
       ·rw [if_pos c82] at H
        have LMc82 := zA c82
        clear c82
        obtain ⟨y243, hy243⟩ : ∃ y_ : List Int, y_ = (l0_0 ++ List.replicate (ji80 : Int).toNat 0) := ⟨_, rfl⟩
        replace H : (some (y243, a0_1, t236)) = some (r1, r2, r3) := by first | (rw [hy243]; with_reducible exact H) | (have H2_ := (Option.bind_some _ _).symm.trans H; rw [hy243]; with_reducible exact H2_) | (have H2_ := (Option.bind_some _ _).symm.trans H; with_reducible exact H2_) | with_reducible exact H | (rw [hy243]; exact H) | exact H
        have Ny243 := zA hy243
        clear hy243
        simp only [Option.some.injEq, Prod.mk.injEq] at H
        obtain ⟨rfl, rfl, rfl⟩ := H
        obtain ⟨Ao83, co83, eo83⟩ := Kd.R_slice HO0_0.out
        subst eo83
        go_enter Try.func55, Try.ntmps55
        go_wp2_with (first | ((with_reducible refine gate_dst (N := 2) rfl ?_); refine box_event ?hg (N := 2) ?hd (cs := #[.slice Ao83 l0_0.length co83, .int .i64 a0_1]) (t := 31) ?hr ?_; (case hd => rfl); (case hg => rfl); (case hr => first | (go_simp; done) | (go_simp; rfl)); intro gb231 hg w84 hbox hb; have n0_ := zA (zP (bR HO0_0.out) hb); have n1_ := zA (IsS86.below (bG HI1.out) hb); have n2_ := zA (Kept.below (S := (fun k_ => (P0_0_ k_) ∨ k_ = g)) (by repeat (first | (with_reducible first | exact HK.out | apply Kept.alloc | apply Kept.drewN | apply Kept.drew | refine zK ?_ (.inl (.inr rfl)) _) | exact HK.out)) hb); have n3_ := zA (zX (bA HB.out (IsS86.ge HI1.out)) hb); have n4_ := zA (hbox); have n5_ := zA ((by rw [hg]; exact (by first | exact HK.out.1 | exact (show Kept w _ (fun k_ => (P0_0_ k_) ∨ k_ = g) from by repeat (first | (with_reducible first | exact HK.out | apply Kept.alloc | apply Kept.drewN | apply Kept.drew | refine zK ?_ (.inl (.inr rfl)) _) | exact HK.out)).1) : w.heap.size ≤ gb231)); have n6_ := zA ((by rw [hg]; exact (below_size (bA HB.out (IsS86.ge HI1.out))) : w0.heap.size ≤ gb231)); have n7_ := zA ((by rw [hg]; exact Nat.ne_of_lt (IsS86.lt (show IsS86 w0 _ g s1_0 s1_1 from bG HI1.out)) : g ≠ gb231)); have n8_ := zA ((by rw [hg]; exact Nat.ne_of_gt (IsS86.lt (show IsS86 w0 _ g s1_0 s1_1 from bG HI1.out)) : gb231 ≠ g)); clear HO0_0 HI1 HK HB; have HO0_0 := n0_; have HI1 := n1_; have HK := n2_; have HB := n3_; have BK231 := n4_; have GW231 := n5_; have GE231 := n6_; have NB1_231 := n7_; have NB231_1 := n8_; clear n0_ n1_ n2_ n3_ n4_ n5_ n6_ n7_ n8_; clear hb hbox hg) | ((with_reducible refine gate_dst (N := 4) rfl ?_); refine box_event ?hg (N := 4) ?hd (cs := #[.slice none 0 0, .int .i64 0]) (t := 31) ?hr ?_; (case hd => rfl); (case hg => rfl); (case hr => first | (go_simp; done) | (go_simp; rfl)); intro gb232 hg w85 hbox hb; have n0_ := zA (zP (bR HO0_0.out) hb); have n1_ := zA (IsS86.below (bH HI1.out NB1_231.out) hb); have n2_ := zA (zN (g := gb231) (o := .cells #[.slice Ao83 l0_0.length co83, .int .i64 a0_1] 31 (0, 0)) (bU BK231.out) hb); have n3_ := zA (Kept.below (S := (fun k_ => (P0_0_ k_) ∨ k_ = g)) (by repeat (first | (with_reducible first | exact HK.out | apply Kept.alloc | apply Kept.drewN | apply Kept.drew | refine zK ?_ (.inl (.inr rfl)) _ | refine zK ?_ (.inr GW231.out) _) | exact HK.out)) hb); have n4_ := zA (zX (bD HB.out (IsS86.ge HI1.out) GE231.out) hb); have n5_ := zA (hbox); have n6_ := zA ((by rw [hg]; exact (by first | exact HK.out.1 | exact (show Kept w _ (fun k_ => (P0_0_ k_) ∨ k_ = g) from by repeat (first | (with_reducible first | exact HK.out | apply Kept.alloc | apply Kept.drewN | apply Kept.drew | refine zK ?_ (.inl (.inr rfl)) _ | refine zK ?_ (.inr GW231.out) _) | exact HK.out)).1) : w.heap.size ≤ gb232)); have n7_ := zA ((by rw [hg]; exact (below_size (bD HB.out (IsS86.ge HI1.out) GE231.out)) : w0.heap.size ≤ gb232)); have n8_ := zA ((by rw [hg]; exact Nat.ne_of_lt (blk_lt (g := gb231) (o := .cells #[.slice Ao83 l0_0.length co83, .int .i64 a0_1] 31 (0, 0)) (bU BK231.out)) : gb231 ≠ gb232)); have n9_ := zA ((by rw [hg]; exact Nat.ne_of_gt (blk_lt (g := gb231) (o := .cells #[.slice Ao83 l0_0.length co83, .int .i64 a0_1] 31 (0, 0)) (bU BK231.out)) : gb232 ≠ gb231)); have n10_ := zA ((by rw [hg]; exact Nat.ne_of_lt (IsS86.lt (show IsS86 w0 _ g s1_0 s1_1 from bH HI1.out NB1_231.out)) : g ≠ gb232)); have n11_ := zA ((by rw [hg]; exact Nat.ne_of_gt (IsS86.lt (show IsS86 w0 _ g s1_0 s1_1 from bH HI1.out NB1_231.out)) : gb232 ≠ g)); clear HO0_0 HI1 BK231 HK HB; have HO0_0 := n0_; have HI1 := n1_; have BK231 := n2_; have HK := n3_; have HB := n4_; have BK232 := n5_; have GW232 := n6_; have GE232 := n7_; have NB231_232 := n8_; have NB232_231 := n9_; have NB1_232 := n10_; have NB232_1 := n11_; clear n0_ n1_ n2_ n3_ n4_ n5_ n6_ n7_ n8_ n9_ n10_ n11_; clear hb hbox hg) | ((with_reducible refine gate_callee (f := 52) rfl ?_); refine goesL_ (some 8) rfl rfl Try.func52 (by kernel_rfl) rfl #[.pointer (some ⟨g, 0, none⟩)] rfl (by (try simp only [List.map_toArray, List.map_cons, List.map_nil]); first | done | rfl | (simp only [List.length_drop, List.length_take]; rfl)) ?_; (with_reducible refine (spec_l7rd_next.calls g s1_0 s1_1 t233 t234 w0 _ ?side1 ?side2 A3.out).mono ?_); (case side1 => repeat (first | (with_reducible first | exact HI1.out | apply IsS86.alloc | apply IsS86.drewN | apply IsS86.drew | apply IsS86.set_1 | refine IsS86.far ?_ NB1_231.out _ | refine IsS86.far ?_ NB1_232.out _) | exact HI1.out)); (case side2 => repeat (first | (with_reducible first | exact HB.out | apply zE | apply zC | apply zD | refine zB ?_ (IsS86.ge HI1.out) | refine zB ?_ GE231.out | refine zB ?_ GE232.out) | exact HB.out)); rintro e w86 ⟨rfl, hi, hb, hk⟩; refine ⟨_, rfl, ?_⟩; have n0_ := zA (zI (Kd.R_keep (IsS86.apart (show IsS86 w0 _ g s1_0 s1_1 from bB HI1.out NB1_231.out NB1_232.out) (bR HO0_0.out) (by decide)) hk (fun _ h => h.2)) (fun _ h => h.1)); have n1_ := zA (KeepBut.blk hk (g' := gb231) (o := .cells #[.slice Ao83 l0_0.length co83, .int .i64 a0_1] 31 (0, 0)) (bU BK231.out) NB231_1.out (by simp)); have n2_ := zA (KeepBut.blk hk (g' := gb232) (o := .cells #[.slice none 0 0, .int .i64 0] 31 (0, 0)) (bU BK232.out) NB232_1.out (by simp)); have n3_ := zA (Kept.of_keep (S := (fun k_ => (P0_0_ k_) ∨ k_ = g)) (by repeat (first | (with_reducible first | exact HK.out | apply Kept.alloc | apply Kept.drewN | apply Kept.drew | refine zK ?_ (.inl (.inr rfl)) _ | refine zK ?_ (.inr GW231.out) _ | refine zK ?_ (.inr GW232.out) _) | exact HK.out)) hk (.inl (.inr rfl))); have n4_ := zA (hb); have n5_ := zA (hi); clear HO0_0 BK231 BK232 HK HB HI1; have HO0_0 := n0_; have BK231 := n1_; have BK232 := n2_; have HK := n3_; have HB := n4_; have HI1 := n5_; clear n0_ n1_ n2_ n3_ n4_ n5_; (try clear hb); (try clear hb2); (try clear hk); (try clear hi)) | ((with_reducible refine gate_callee (f := 52) rfl ?_); refine goesL_ (some 11) rfl rfl Try.func52 (by kernel_rfl) rfl #[.pointer (some ⟨g, 0, none⟩)] rfl (by (try simp only [List.map_toArray, List.map_cons, List.map_nil]); first | done | rfl | (simp only [List.length_drop, List.length_take]; rfl)) ?_; (with_reducible refine (spec_l7rd_next.calls g s1_0 t234 t235 t236 w0 _ ?side1 ?side2 A4.out).mono ?_); (case side1 => repeat (first | (with_reducible first | exact HI1.out | apply IsS86.alloc | apply IsS86.drewN | apply IsS86.drew | apply IsS86.set_1 | refine IsS86.far ?_ NB1_231.out _ | refine IsS86.far ?_ NB1_232.out _) | exact HI1.out)); (case side2 => repeat (first | (with_reducible first | exact HB.out | apply zE | apply zC | apply zD | refine zB ?_ (IsS86.ge HI1.out) | refine zB ?_ GE231.out | refine zB ?_ GE232.out) | exact HB.out)); rintro e w87 ⟨rfl, hi, hb, hk⟩; refine ⟨_, rfl, ?_⟩; have n0_ := zA (zI (Kd.R_keep (IsS86.apart (show IsS86 w0 _ g s1_0 t234 from bB HI1.out NB1_231.out NB1_232.out) (bR HO0_0.out) (by decide)) hk (fun _ h => h.2)) (fun _ h => h.1)); have n1_ := zA (KeepBut.blk hk (g' := gb231) (o := .cells #[.slice Ao83 l0_0.length co83, .int .i64 a0_1] 31 (0, 0)) (bU BK231.out) NB231_1.out (by simp)); have n2_ := zA (KeepBut.blk hk (g' := gb232) (o := .cells #[.slice none 0 0, .int .i64 0] 31 (0, 0)) (bU BK232.out) NB232_1.out (by simp)); have n3_ := zA (Kept.of_keep (S := (fun k_ => (P0_0_ k_) ∨ k_ = g)) (by repeat (first | (with_reducible first | exact HK.out | apply Kept.alloc | apply Kept.drewN | apply Kept.drew | refine zK ?_ (.inl (.inr rfl)) _ | refine zK ?_ (.inr GW231.out) _ | refine zK ?_ (.inr GW232.out) _) | exact HK.out)) hk (.inl (.inr rfl))); have n4_ := zA (hb); have n5_ := zA (hi); clear HO0_0 BK231 BK232 HK HB HI1; have HO0_0 := n0_; have BK231 := n1_; have BK232 := n2_; have HK := n3_; have HB := n4_; have HI1 := n5_; clear n0_ n1_ n2_ n3_ n4_ n5_; (try clear hb); (try clear hb2); (try clear hk); (try clear hi); have hnb88 := NB231_232.out; have hnc88 := NB232_231.out; have hnb89 := NB231_1.out; have hnc89 := NB1_231.out; have hcz90_0 : w87.cell? ⟨gb231, 0, none⟩ = some (.slice Ao83 l0_0.length co83) := (zZ BK231.out 0).trans rfl; have hcz90_1 : w87.cell? ⟨gb231, 1, none⟩ = some (.int .i64 a0_1) := (zZ BK231.out 1).trans rfl; have hfz90_0 := zY BK231.out 0; have hfz90_1 := zY BK231.out 1) | (at_builtin; refine Kd.R_append_zeros (Kd.int .i64) (w0 := w0) w0.heap.size rfl (.tmp 52) (.tmp 59) 29 3 3 (.int .i64 0) 8 rfl Try.underlying29 Try.underlying3 info3 rfl (by decide) (by omega) (.slice Ao83 l0_0.length co83) l0_0 0 (ji80 : Int) (fun k_ => (P0_0_ k_ ∨ w.heap.size ≤ k_)) rfl rfl rfl ?aF ?aO (zF (by first | (with_reducible assumption) | assumption)) ?aB ?aS ?aL ?_; (case aB => exact (bC HB.out (IsS86.ge HI1.out) GE231.out GE232.out)); (case aF => exact (fun k_ hk => (.inr (Nat.le_trans (by first | exact HK.out.1 | exact (show Kept w _ (fun k_ => (P0_0_ k_) ∨ k_ = g) from by repeat (first | (with_reducible first | exact HK.out | apply Kept.alloc | apply Kept.drewN | apply Kept.drew | refine zK ?_ (.inl (.inr rfl)) _ | refine zK ?_ (.inr GW231.out) _ | refine zK ?_ (.inr GW232.out) _) | exact HK.out)).1) hk)))); (case aO => exact (bR HO0_0.out)); (case aS => exact (below_size (bC HB.out (IsS86.ge HI1.out) GE231.out GE232.out))); (case aL => have := LMc82.out; omega); intro v244 w91 ho hb hg hat; rw [← Ny243.out] at ho; have n0_ := zA (IsS86.grown (bB HI1.out NB1_231.out NB1_232.out) hg (IsS86.own_ne HI1.out HO0_0.out (by decide))); have n1_ := zA (blk_grown (g := gb231) (o := .cells #[.slice Ao83 l0_0.length co83, .int .i64 a0_1] 31 (0, 0)) (bU BK231.out) hg (Kd.R_ne HO0_0.out BK231.out (by decide))); have n2_ := zA (blk_grown (g := gb232) (o := .cells #[.slice none 0 0, .int .i64 0] 31 (0, 0)) (bU BK232.out) hg (Kd.R_ne HO0_0.out BK232.out (by decide))); have n3_ := zA (hb); have n4_ := zA (Kept.of_grown (S := (fun k_ => (P0_0_ k_) ∨ k_ = g)) hg (by repeat (first | (with_reducible first | exact HK.out | apply Kept.alloc | apply Kept.drewN | apply Kept.drew | refine zK ?_ (.inl (.inr rfl)) _ | refine zK ?_ (.inr GW231.out) _ | refine zK ?_ (.inr GW232.out) _) | exact HK.out)) (fun k_ e_ => Or.imp_left Or.inl ((HO0_0.out.1 k_ e_)))); have n5_ := zA (ho); clear HI1 BK231 BK232 HB HK HO0_0; have HI1 := n0_; have BK231 := n1_; have BK232 := n2_; have HB := n3_; have HK := n4_; have HO245 := n5_; clear n0_ n1_ n2_ n3_ n4_ n5_; clear ho hb hg hat; obtain ⟨Ao92, co92, eo92⟩ := Kd.R_slice HO245.out; subst eo92; have hcz93_0 : w91.cell? ⟨gb231, 0, none⟩ = some (.slice Ao83 l0_0.length co83) := (zZ BK231.out 0).trans rfl; have hcz93_1 : w91.cell? ⟨gb231, 1, none⟩ = some (.int .i64 a0_1) := (zZ BK231.out 1).trans rfl; have hfz93_0 := zY BK231.out 0; have hfz93_1 := zY BK231.out 1; have hnb94 := NB232_1.out; have hnc94 := NB1_232.out; have hcz95_0 : w91.cell? ⟨gb232, 0, none⟩ = some (.slice none 0 0) := (zZ BK232.out 0).trans rfl; have hcz95_1 : w91.cell? ⟨gb232, 1, none⟩ = some (.int .i64 0) := (zZ BK232.out 1).trans rfl; have hfz95_0 := zY BK232.out 0; have hfz95_1 := zY BK232.out 1))
        refine bodyPost_ret (results_cell_row rfl _ _ gb232 31 #[.slice Ao92 y243.length co92, .int .i64 a0_1] (0, 0) _ rfl (by (with_reducible repeat (first | refine blk_drewN ?_ _ | refine blk_drew ?_ | refine blk_alloc ?_ _)); refine blk_put (cs := #[.slice Ao92 y243.length co92, .int .i64 0]) ?_ 1 _ rfl; (with_reducible repeat (first | refine blk_drewN ?_ _ | refine blk_drew ?_ | refine blk_alloc ?_ _)); refine blk_put (cs := #[.slice none 0 0, .int .i64 0]) ?_ 0 _ rfl; (with_reducible repeat (first | refine blk_drewN ?_ _ | refine blk_drew ?_ | refine blk_alloc ?_ _)); refine blk_far ?_ NB232_231.out _; exact bU BK232.out) Try.underlying31 rfl (by kernel_rfl)) rfl ?_
        exact ⟨_, by first | rfl | (simp [errW_none, errW_some] <;> rfl) | (simp only [← hji80]; first | rfl | (simp [errW_none, errW_some] <;> rfl)) | (simp [*, errW_none, errW_some] <;> rfl), bR (zI (zJ (p := ⟨gb232, 1, none⟩) (zJ (p := ⟨gb232, 0, none⟩) (zJ (p := ⟨gb231, 0, none⟩) (zL (zL HO245.out BK231.out (by decide)) BK232.out (by decide)) (fun _ hk => hk.1.2) (.slice Ao92 y243.length co92)) (fun _ hk => hk.2) (.slice Ao92 y243.length co92)) (fun _ hk => hk.2) (.int .i64 a0_1)) (fun _ hk => hk.1.1)), bB HI1.out NB1_231.out NB1_232.out, bC HB.out (IsS86.ge HI1.out) GE231.out GE232.out, by repeat (first | (with_reducible first | exact HK.out | apply Kept.alloc | apply Kept.drewN | apply Kept.drew | refine zK ?_ (.inl (.inr rfl)) _ | refine zK ?_ (.inr GW231.out) _ | refine zK ?_ (.inr GW232.out) _) | exact HK.out)⟩
       ·rw [if_neg c82] at H
        exact absurd H (by simp)
      ·rw [if_neg c81] at H
       exact absurd H (by simp)

end Go.Proofs.Ytggkkgkjhfgipaa.QFnAlloc
