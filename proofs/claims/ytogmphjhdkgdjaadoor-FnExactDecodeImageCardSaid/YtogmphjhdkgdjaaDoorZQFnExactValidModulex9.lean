import Derived.Test.YtogmphjhdkgdjaaDoorZQFnExactValidModulex0
import Derived.Test.YtogmphjhdkgdjaaDoorZQFnExactValidModulex8
namespace Go.Proofs.YtogmphjhdkgdjaaDoor.QFnExactValidModule
set_option maxHeartbeats 8000000
set_option maxRecDepth 100000
open Go.RowKit Go.Proofs.YtogmphjhdkgdjaaDoorW.PrintWords Go.Proofs.YtogmphjhdkgdjaaDoorW.PrintLast Go.Proofs.YtogmphjhdkgdjaaDoorW.PrintMore
attribute [local go_sem] max2_int min2_int max_two min_two max_three min_three max_four min_four
set_option linter.unusedVariables false
set_option linter.unusedSimpArgs false
mutual
def impl_ValidData.l0 : Nat → List Int → List (S57) → Int → Int → Option (Bool)
 | 0, _, _, _, _ => none
 | k + 1, x3, x10, x11, x12 => if x12 < x11 then (if 0 ≤ x12 then (if x12 < (x10.length : Int) then ((impl_datumOk.f k ((rd_T57 x10 x12).f0) ((rd_T57 x10 x12).f1) ((rd_T57 x10 x12).f2) ((rd_T57 x10 x12).f3)).bind fun t265 => (if t265 = true then (if ((rd_T57 x10 x12).f0) = 3 then (if x3.length < 17592186044416 then ((some (x3 ++ [(rd_T57 x10 x12).f3] : List Int)).bind fun y266 => (if (y266.length : Int) > 100 then (some false) else (if ((rd_T57 x10 x12).f3) > 0 then (impl_ValidData.l0 k y266 x10 x11 (wrap64 (x12 + 1))) else (if 0 ≤ (wrap64 ((y266.length : Int) - 1)) then (if (wrap64 ((y266.length : Int) - 1)) ≤ (y266.length : Int) then (impl_ValidData.j1 k (y266.take ((wrap64 ((y266.length : Int) - 1)) : Int).toNat) x10 x11 x12) else (none)) else (none))))) else (none)) else (impl_ValidData.j1 k x3 x10 x11 x12)) else (some false))) else (none)) else (none)) else (some ((x3.length : Int) == 0))
def impl_ValidData.j1 : Nat → List Int → List (S57) → Int → Int → Option (Bool)
 | 0, _, _, _, _ => none
 | k + 1, x3, x10, x11, x12 => impl_ValidData.l1 k x3 x10 x11 x12
def impl_ValidData.l1 : Nat → List Int → List (S57) → Int → Int → Option (Bool)
 | 0, _, _, _, _ => none
 | k + 1, x3, x10, x11, x12 => if (x3.length : Int) > 0 then (if 0 ≤ (wrap64 ((x3.length : Int) - 1)) then (if (wrap64 ((x3.length : Int) - 1)) < (x3.length : Int) then ((some (x3.set ((wrap64 ((x3.length : Int) - 1)) : Int).toNat (wrap64 ((rd x3 (wrap64 ((x3.length : Int) - 1))) - 1)) : List Int)).bind fun y273 => (if (rd y273 (wrap64 ((x3.length : Int) - 1))) > 0 then (impl_ValidData.l0 k y273 x10 x11 (wrap64 (x12 + 1))) else (if (wrap64 ((x3.length : Int) - 1)) ≤ (x3.length : Int) then (impl_ValidData.l1 k (y273.take ((wrap64 ((x3.length : Int) - 1)) : Int).toNat) x10 x11 x12) else (none)))) else (none)) else (none)) else (impl_ValidData.l0 k x3 x10 x11 (wrap64 (x12 + 1)))
end
def impl_ValidData.f (k : Nat) (l0 : List (S57)) : Option (Bool) := if (l0.length : Int) > 3000 then (some false) else (impl_ValidData.l0 k (([] : List Int)) l0 (l0.length : Int) 0)
theorem impl_ValidData.mono_l : ∀ k, (∀ y0 y1 y2 y3, LeO (impl_ValidData.l0 k y0 y1 y2 y3) (impl_ValidData.l0 (k + 1) y0 y1 y2 y3)) ∧ (∀ y0 y1 y2 y3, LeO (impl_ValidData.j1 k y0 y1 y2 y3) (impl_ValidData.j1 (k + 1) y0 y1 y2 y3)) ∧ (∀ y0 y1 y2 y3, LeO (impl_ValidData.l1 k y0 y1 y2 y3) (impl_ValidData.l1 (k + 1) y0 y1 y2 y3))
 | 0 => ⟨fun _ _ _ _ r h => by simp [impl_ValidData.l0] at h, fun _ _ _ _ r h => by simp [impl_ValidData.j1] at h, fun _ _ _ _ r h => by simp [impl_ValidData.l1] at h⟩
 | k + 1 => by
  obtain ⟨ih0, ih1, ih2⟩ := impl_ValidData.mono_l k
  refine ⟨?_, ?_, ?_⟩
  ·intro y0 y1 y2 y3
   unfold impl_ValidData.l0
   repeat' first
   | (with_reducible exact ih0 _ _ _ _)
   | (with_reducible exact ih1 _ _ _ _)
   | (with_reducible exact ih2 _ _ _ _)
   | (with_reducible exact impl_datumOk.mono _ _ _ _ _)
   | (with_reducible exact LeO.refl _)
   | (with_reducible exact LeO.none _)
   | (with_reducible refine LeO.ite ?_ ?_)
   | (with_reducible refine LeO.bind ?_ (fun _ => ?_))
   | exact ih0 _ _ _ _
   | exact ih1 _ _ _ _
   | exact ih2 _ _ _ _
   | exact impl_datumOk.mono _ _ _ _ _
   | exact LeO.none _
   | refine LeO.ite ?_ ?_
   | refine LeO.bind ?_ (fun _ => ?_)
  ·intro y0 y1 y2 y3
   unfold impl_ValidData.j1
   repeat' first
   | (with_reducible exact ih0 _ _ _ _)
   | (with_reducible exact ih1 _ _ _ _)
   | (with_reducible exact ih2 _ _ _ _)
   | (with_reducible exact impl_datumOk.mono _ _ _ _ _)
   | (with_reducible exact LeO.refl _)
   | (with_reducible exact LeO.none _)
   | (with_reducible refine LeO.ite ?_ ?_)
   | (with_reducible refine LeO.bind ?_ (fun _ => ?_))
   | exact ih0 _ _ _ _
   | exact ih1 _ _ _ _
   | exact ih2 _ _ _ _
   | exact impl_datumOk.mono _ _ _ _ _
   | exact LeO.none _
   | refine LeO.ite ?_ ?_
   | refine LeO.bind ?_ (fun _ => ?_)
  ·intro y0 y1 y2 y3
   unfold impl_ValidData.l1
   repeat' first
   | (with_reducible exact ih0 _ _ _ _)
   | (with_reducible exact ih1 _ _ _ _)
   | (with_reducible exact ih2 _ _ _ _)
   | (with_reducible exact impl_datumOk.mono _ _ _ _ _)
   | (with_reducible exact LeO.refl _)
   | (with_reducible exact LeO.none _)
   | (with_reducible refine LeO.ite ?_ ?_)
   | (with_reducible refine LeO.bind ?_ (fun _ => ?_))
   | exact ih0 _ _ _ _
   | exact ih1 _ _ _ _
   | exact ih2 _ _ _ _
   | exact impl_datumOk.mono _ _ _ _ _
   | exact LeO.none _
   | refine LeO.ite ?_ ?_
   | refine LeO.bind ?_ (fun _ => ?_)
theorem impl_ValidData.mono : ∀ a0 k, LeO (impl_ValidData.f k a0) (impl_ValidData.f (k + 1) a0) := by
 intro a0 k
 obtain ⟨ih0, ih1, ih2⟩ := impl_ValidData.mono_l k
 unfold impl_ValidData.f
 repeat' first
   | (with_reducible exact ih0 _ _ _ _)
   | (with_reducible exact ih1 _ _ _ _)
   | (with_reducible exact ih2 _ _ _ _)
   | (with_reducible exact impl_datumOk.mono _ _ _ _ _)
   | (with_reducible exact LeO.refl _)
   | (with_reducible exact LeO.none _)
   | (with_reducible refine LeO.ite ?_ ?_)
   | (with_reducible refine LeO.bind ?_ (fun _ => ?_))
   | exact ih0 _ _ _ _
   | exact ih1 _ _ _ _
   | exact ih2 _ _ _ _
   | exact impl_datumOk.mono _ _ _ _ _
   | exact LeO.none _
   | refine LeO.ite ?_ ?_
   | refine LeO.bind ?_ (fun _ => ?_)
theorem impl_ValidData.calls (k : Nat) (A0 : Option Addr) (c0 : Nat) (l0 : List (S57)) (r : Bool) (w : World) (hr0 : Kd.C k57 w A0 l0.length l0) (hc0 : l0.length ≤ c0) (h : impl_ValidData.f k l0 = some r) :
  Calls Tryd.prog 11 #[.slice A0 l0.length c0] w fun e w' => e = .returned (.bool r) ∧ Below w.heap.size w w' := by
 have hu57 := Tryd.underlying57
 have HR0 := zA hr0
 have HC0 := zA hc0
 clear hr0 hc0
 have HB := zA (Below.refl w.heap.size w)
 have H : (if (l0.length : Int) > 3000 then (some false) else (impl_ValidData.l0 k (([] : List Int)) l0 (l0.length : Int) 0)) = some r := h
 clear h
 by_cases c2 : (l0.length : Int) > 3000
 ·rw [if_pos c2] at H
  have c2b0 : decide (3000 < (l0.length : Int)) = true := zG c2
  have c2b1 : decide (3000 < l0.length) = true := zG (by omega)
  clear c2
  obtain rfl := zl H
  go_enter Tryd.func11, Tryd.ntmps11
  go_wp2
  go_ret
  exact ⟨by first | rfl | (simp [errW_none, errW_some] <;> rfl) | (simp [*, errW_none, errW_some] <;> rfl), by repeat (first | (with_reducible first | exact HB.out | apply zE | apply zC | apply zD) | exact HB.out)⟩
 ·rw [if_neg c2] at H
  have c2b0 : decide (3000 < (l0.length : Int)) = false := zH c2
  have c2b1 : decide (3000 < l0.length) = false := zH (by omega)
  clear c2
  obtain ⟨y260, hy260⟩ : ∃ y_ : List Int, y_ = (([] : List Int)) := ⟨_, rfl⟩
  replace H : (impl_ValidData.l0 k y260 l0 (l0.length : Int) 0) = some r := by first | (rw [hy260]; with_reducible exact H) | (have H2_ := (Option.bind_some _ _).symm.trans H; rw [hy260]; with_reducible exact H2_) | (have H2_ := (Option.bind_some _ _).symm.trans H; with_reducible exact H2_) | with_reducible exact H | (rw [hy260]; exact H) | exact H
  have Ny260 := zA hy260
  clear hy260
  have H' := zA H
  clear H
  go_enter Tryd.func11, Tryd.ntmps11
  go_wp2_with (first | ((with_reducible refine gate_dst (N := 9) rfl ?_); refine Kd.R_lit (Kd.int .i64) _ 3 ?hg (N := 9) ?hd (xs := ([] : List Int)) (inner := []) (ok := fun _ => True) (okp := fun _ => True) ?hr ?hp (fun _ hk => hk) trivial (Below.refl _ _) (Nat.le_refl _) (by simp) ?_; (case hd => rfl); (case hg => rfl); (case hr => first | (go_simp; done) | (go_simp; rfl)); (case hp => exact (Reps.none _ _)); intro v261 w3 ho4 hb hg_ hnew_; clear hg_ hnew_; (first | rw [← Ny260.out] at ho4 | (simp only [Int.reduceToNat] at ho4; rw [← Ny260.out] at ho4)); have n0_ := zA (Kd.R_lower ho4 (below_size (by repeat (first | (with_reducible first | exact HB.out | apply zE | apply zC | apply zD) | exact HB.out)))); have n1_ := zA (zX (by repeat (first | (with_reducible first | exact HB.out | apply zE | apply zC | apply zD) | exact HB.out)) hb); clear HB; have HO262 := n0_; have HB := n1_; clear n0_ n1_; clear hb ho4))
  go_loopg [3, 12] k (fun kq v3 v12 w' => ∃ (x3_1 : List Int) (x12_1 : Int), v12 = .int .i64 x12_1 ∧ Aside0 (impl_ValidData.l0 kq x3_1 l0 (l0.length : Int) x12_1 = some r) ∧ Aside0 (kq ≤ k) ∧ Aside0 (Kd.R (Kd.int .i64) 3 w' w.heap.size (fun _ => True) v3 x3_1) ∧ Aside0 (Below w.heap.size w w'))
  case atStart => exact ⟨(y260), (0), (by first | rfl | (simp; done) | (simp [*]; done)), H', ⟨Nat.le_refl _⟩, ⟨by exact rUp HO262.out⟩, ⟨by repeat (first | (with_reducible first | exact HB.out | apply zE | apply zC | apply zD) | exact HB.out)⟩⟩
  case round =>
   clear H'
   try clear c1
   try clear c2
   try clear c2b0
   try clear c2b1
   try clear p2
   obtain ⟨x3_1, x12_1, rfl, HA, HK1, HO_3, HB⟩ := hrel
   cases gk with
   | zero => exact absurd HA.out (by simp [impl_ValidData.l0])
   | succ k1 =>
    have H := HA.out
    clear HA
    simp only [impl_ValidData.l0] at H
    by_cases c5 : x12_1 < (l0.length : Int)
    ·rw [if_pos c5] at H
     have c5b0 : decide (x12_1 < (l0.length : Int)) = true := zG c5
     clear c5
     by_cases c6 : 0 ≤ x12_1
     ·rw [if_pos c6] at H
      have c6b0 : decide (0 ≤ x12_1) = true := zG c6
      clear c6
      by_cases c7 : x12_1 < (l0.length : Int)
      ·rw [if_pos c7] at H
       have c7b0 : decide (x12_1 < (l0.length : Int)) = true := zG c7
       clear c7
       replace H := zo.mp H
       obtain ⟨t265, A80, H⟩ := H
       replace H : (if t265 = true then (if ((rd_T57 l0 x12_1).f0) = 3 then (if x3_1.length < 17592186044416 then ((some (x3_1 ++ [(rd_T57 l0 x12_1).f3] : List Int)).bind fun y266 => (if (y266.length : Int) > 100 then (some false) else (if ((rd_T57 l0 x12_1).f3) > 0 then (impl_ValidData.l0 k1 y266 l0 (l0.length : Int) (wrap64 (x12_1 + 1))) else (if 0 ≤ (wrap64 ((y266.length : Int) - 1)) then (if (wrap64 ((y266.length : Int) - 1)) ≤ (y266.length : Int) then (impl_ValidData.j1 k1 (y266.take ((wrap64 ((y266.length : Int) - 1)) : Int).toNat) l0 (l0.length : Int) x12_1) else (none)) else (none))))) else (none)) else (impl_ValidData.j1 k1 x3_1 l0 (l0.length : Int) x12_1)) else (some false)) = some r := H
       have A8 := zA A80
       clear A80
       by_cases c9 : t265 = true
       ·subst c9
        have H1 : (if ((rd_T57 l0 x12_1).f0) = 3 then (if x3_1.length < 17592186044416 then ((some (x3_1 ++ [(rd_T57 l0 x12_1).f3] : List Int)).bind fun y266 => (if (y266.length : Int) > 100 then (some false) else (if ((rd_T57 l0 x12_1).f3) > 0 then (impl_ValidData.l0 k1 y266 l0 (l0.length : Int) (wrap64 (x12_1 + 1))) else (if 0 ≤ (wrap64 ((y266.length : Int) - 1)) then (if (wrap64 ((y266.length : Int) - 1)) ≤ (y266.length : Int) then (impl_ValidData.j1 k1 (y266.take ((wrap64 ((y266.length : Int) - 1)) : Int).toNat) l0 (l0.length : Int) x12_1) else (none)) else (none))))) else (none)) else (impl_ValidData.j1 k1 x3_1 l0 (l0.length : Int) x12_1)) = some r := by rw [if_pos rfl] at H; exact H
        clear H
        have H := H1
        clear H1
        have HC10 := zA H
        clear H
        have p263 : 0 ≤ (x12_1 : Int) := zF (by first | (with_reducible assumption) | assumption)
        have q263 : x12_1 < (l0.length : Int) := zF (by first | (with_reducible assumption) | assumption)
        obtain ⟨ad263, A263_2, c263_2, e263, hx263_0, hx263_1, hx263_2, hx263_3, hl263_2, hi263_2⟩ := at_T57 HR0.out x12_1 p263 q263
        cases e263
        replace hx263_0 := (HB.out.cell (zk? w _ hx263_0)).trans hx263_0
        replace hx263_1 := (HB.out.cell (zk? w _ hx263_1)).trans hx263_1
        replace hx263_2 := (HB.out.cell (zk? w _ hx263_2)).trans hx263_2
        replace hx263_3 := (HB.out.cell (zk? w _ hx263_3)).trans hx263_3
        have HR263_2 := zA hi263_2
        have HC263_2 := zA hl263_2
        clear hi263_2 hl263_2
        replace p263 := eq_true p263
        replace q263 := eq_true q263
        go_upto_if 21 with (first | ((with_reducible refine gate_dst (N := 5) rfl ?_); refine box_event ?hg (N := 5) ?hd (cs := #[.int .i64 0, .int .i64 0, .slice none 0 0, .int .i64 0]) (t := 57) ?hr ?_; (case hd => rfl); (case hg => rfl); (case hr => first | (go_simp; done) | (go_simp; rfl)); intro gb264 hg w11 hbox hb; have n0_ := zA (zP (rUp HO_3.out) hb); have n1_ := zA (zX (by repeat (first | (with_reducible first | exact HB.out | apply zE | apply zC | apply zD) | exact HB.out)) hb); have n2_ := zA (hbox); have n3_ := zA ((by rw [hg]; exact (below_size (by repeat (first | (with_reducible first | exact HB.out | apply zE | apply zC | apply zD) | exact HB.out))) : w.heap.size ≤ gb264)); have n4_ := zA ((by rw [hg]; exact (below_size (by repeat (first | (with_reducible first | exact HB.out | apply zE | apply zC | apply zD) | exact HB.out))) : w.heap.size ≤ gb264)); clear HO_3 HB; have HO_3 := n0_; have HB := n1_; have BK264 := n2_; have GW264 := n3_; have GE264 := n4_; clear n0_ n1_ n2_ n3_ n4_; clear hb hbox hg; have hcz12_0 : w11.cell? ⟨gb264, 0, none⟩ = some (.int .i64 0) := (zZ BK264.out 0).trans rfl; have hcz12_1 : w11.cell? ⟨gb264, 1, none⟩ = some (.int .i64 0) := (zZ BK264.out 1).trans rfl; have hcz12_2 : w11.cell? ⟨gb264, 2, none⟩ = some (.slice none 0 0) := (zZ BK264.out 2).trans rfl; have hcz12_3 : w11.cell? ⟨gb264, 3, none⟩ = some (.int .i64 0) := (zZ BK264.out 3).trans rfl; have hfz12_0 := zY BK264.out 0; have hfz12_1 := zY BK264.out 1; have hfz12_2 := zY BK264.out 2; have hfz12_3 := zY BK264.out 3) | ((with_reducible refine gate_callee (f := 34) rfl ?_); refine goesL_ (some 17) rfl rfl Tryd.func34 (by kernel_rfl) rfl #[.agg #[.int .i64 ((rd_T57 l0 x12_1).f0), .int .i64 ((rd_T57 l0 x12_1).f1), .slice A263_2 ((rd_T57 l0 x12_1).f2).length c263_2, .int .i64 ((rd_T57 l0 x12_1).f3)]] rfl (by (try simp only [List.map_toArray, List.map_cons, List.map_nil]); first | done | rfl | (simp only [List.length_drop, List.length_take]; rfl)) ?_; (with_reducible refine (impl_datumOk.calls k1 ((rd_T57 l0 x12_1).f0) ((rd_T57 l0 x12_1).f1) _ _ ((rd_T57 l0 x12_1).f2) ((rd_T57 l0 x12_1).f3) true _ ?side1 ?side2 A8.out).mono ?_); (case side1 => exact Kd.C_below HR263_2.out (by repeat (first | (with_reducible first | exact HB.out | apply zE | apply zC | apply zD | refine zB ?_ GE264.out) | exact HB.out))); (case side2 => exact HC263_2.out); rintro e w13 ⟨rfl, hb⟩; refine ⟨_, rfl, ?_⟩; have n0_ := zA (zP (by (with_reducible repeat (first | apply Kd.R_alloc | apply Kd.R_drewN | apply Kd.R_drew)); exact ((zI (zJ (p := ⟨gb264, 3, none⟩) (zJ (p := ⟨gb264, 2, none⟩) (zJ (p := ⟨gb264, 1, none⟩) (zJ (p := ⟨gb264, 0, none⟩) (zL HO_3.out BK264.out (by decide)) (fun _ hk => hk.2) (.int .i64 ((rd_T57 l0 x12_1).f0))) (fun _ hk => hk.2) (.int .i64 ((rd_T57 l0 x12_1).f1))) (fun _ hk => hk.2) (.slice A263_2 ((rd_T57 l0 x12_1).f2).length c263_2)) (fun _ hk => hk.2) (.int .i64 ((rd_T57 l0 x12_1).f3))) (fun _ h_ => h_.1)))) hb); have n1_ := zA (zN (g := gb264) (o := .cells #[.int .i64 ((rd_T57 l0 x12_1).f0), .int .i64 ((rd_T57 l0 x12_1).f1), .slice A263_2 ((rd_T57 l0 x12_1).f2).length c263_2, .int .i64 ((rd_T57 l0 x12_1).f3)] 57 (0, 0)) (by (with_reducible repeat (first | refine blk_drewN ?_ _ | refine blk_drew ?_ | refine blk_alloc ?_ _)); refine blk_put (cs := #[.int .i64 ((rd_T57 l0 x12_1).f0), .int .i64 ((rd_T57 l0 x12_1).f1), .slice A263_2 ((rd_T57 l0 x12_1).f2).length c263_2, .int .i64 0]) ?_ 3 _ rfl; (with_reducible repeat (first | refine blk_drewN ?_ _ | refine blk_drew ?_ | refine blk_alloc ?_ _)); refine blk_put (cs := #[.int .i64 ((rd_T57 l0 x12_1).f0), .int .i64 ((rd_T57 l0 x12_1).f1), .slice none 0 0, .int .i64 0]) ?_ 2 _ rfl; (with_reducible repeat (first | refine blk_drewN ?_ _ | refine blk_drew ?_ | refine blk_alloc ?_ _)); refine blk_put (cs := #[.int .i64 ((rd_T57 l0 x12_1).f0), .int .i64 0, .slice none 0 0, .int .i64 0]) ?_ 1 _ rfl; (with_reducible repeat (first | refine blk_drewN ?_ _ | refine blk_drew ?_ | refine blk_alloc ?_ _)); refine blk_put (cs := #[.int .i64 0, .int .i64 0, .slice none 0 0, .int .i64 0]) ?_ 0 _ rfl; exact kUp BK264.out) hb); have n2_ := zA (zX (by repeat (first | (with_reducible first | exact HB.out | apply zE | apply zC | apply zD | refine zB ?_ GE264.out) | exact HB.out)) hb); clear HO_3 BK264 HB; have HO_3 := n0_; have BK264 := n1_; have HB := n2_; clear n0_ n1_ n2_; (try clear hb); (try clear hb2); (try clear hk); (try clear hi); have hcz14_0 : w13.cell? ⟨gb264, 0, none⟩ = some (.int .i64 ((rd_T57 l0 x12_1).f0)) := (zZ BK264.out 0).trans rfl; have hcz14_1 : w13.cell? ⟨gb264, 1, none⟩ = some (.int .i64 ((rd_T57 l0 x12_1).f1)) := (zZ BK264.out 1).trans rfl; have hcz14_2 : w13.cell? ⟨gb264, 2, none⟩ = some (.slice A263_2 ((rd_T57 l0 x12_1).f2).length c263_2) := (zZ BK264.out 2).trans rfl; have hcz14_3 : w13.cell? ⟨gb264, 3, none⟩ = some (.int .i64 ((rd_T57 l0 x12_1).f3)) := (zZ BK264.out 3).trans rfl; have hfz14_0 := zY BK264.out 0; have hfz14_1 := zY BK264.out 1; have hfz14_2 := zY BK264.out 2; have hfz14_3 := zY BK264.out 3))
        (try simp only [Act.put, List.setIfInBounds_toArray, List.set_cons_zero, List.set_cons_succ])
        go_cut [3] (fun v3 wc => ∃ (kq : Nat) (x3_9 : List Int), Aside0 (impl_ValidData.j1 kq x3_9 l0 (l0.length : Int) x12_1 = some r) ∧ Aside0 (kq ≤ k1) ∧ Aside0 (Kd.R (Kd.int .i64) 3 wc w.heap.size (fun _ => True) v3 x3_9) ∧ Aside0 (wc.heap[gb264]? = some (.cells #[.int .i64 ((rd_T57 l0 x12_1).f0), .int .i64 ((rd_T57 l0 x12_1).f1), (.slice A263_2 ((rd_T57 l0 x12_1).f2).length c263_2), .int .i64 ((rd_T57 l0 x12_1).f3)] 57 (0, 0))) ∧ Aside0 (Below w.heap.size w wc))
        case first =>
         have H := HC10.out
         clear HC10
         by_cases c15 : ((rd_T57 l0 x12_1).f0) = 3
         ·rw [if_pos c15] at H
          have c15b0 : (((rd_T57 l0 x12_1).f0) == 3) = true := beq_iff_eq.mpr c15
          have c15b1 : (((rd_T57 l0 x12_1).f0) != 3) = false := zn.mpr c15
          clear c15
          (first | rw [c15b0] | (simp only [i64_w, i32_w]; rw [c15b0]) | skip)
          by_cases c16 : x3_1.length < 17592186044416
          ·rw [if_pos c16] at H
           have LMc16 := zA c16
           clear c16
           obtain ⟨y266, hy266⟩ : ∃ y_ : List Int, y_ = (x3_1 ++ [(rd_T57 l0 x12_1).f3]) := ⟨_, rfl⟩
           replace H : (if (y266.length : Int) > 100 then (some false) else (if ((rd_T57 l0 x12_1).f3) > 0 then (impl_ValidData.l0 k1 y266 l0 (l0.length : Int) (wrap64 (x12_1 + 1))) else (if 0 ≤ (wrap64 ((y266.length : Int) - 1)) then (if (wrap64 ((y266.length : Int) - 1)) ≤ (y266.length : Int) then (impl_ValidData.j1 k1 (y266.take ((wrap64 ((y266.length : Int) - 1)) : Int).toNat) l0 (l0.length : Int) x12_1) else (none)) else (none)))) = some r := by first | (rw [hy266]; with_reducible exact H) | (have H2_ := (Option.bind_some _ _).symm.trans H; rw [hy266]; with_reducible exact H2_) | (have H2_ := (Option.bind_some _ _).symm.trans H; with_reducible exact H2_) | with_reducible exact H | (rw [hy266]; exact H) | exact H
           have Ny266 := zA hy266
           clear hy266
           by_cases c17 : (y266.length : Int) > 100
           ·rw [if_pos c17] at H
            have c17b0 : decide (100 < (y266.length : Int)) = true := zG c17
            have c17b1 : decide (100 < y266.length) = true := zG (by omega)
            clear c17
            obtain rfl := zl H
            have hcz18_0 : w13.cell? ⟨gb264, 0, none⟩ = some (.int .i64 ((rd_T57 l0 x12_1).f0)) := (zZ BK264.out 0).trans rfl
            have hcz18_1 : w13.cell? ⟨gb264, 1, none⟩ = some (.int .i64 ((rd_T57 l0 x12_1).f1)) := (zZ BK264.out 1).trans rfl
            have hcz18_2 : w13.cell? ⟨gb264, 2, none⟩ = some (.slice A263_2 ((rd_T57 l0 x12_1).f2).length c263_2) := (zZ BK264.out 2).trans rfl
            have hcz18_3 : w13.cell? ⟨gb264, 3, none⟩ = some (.int .i64 ((rd_T57 l0 x12_1).f3)) := (zZ BK264.out 3).trans rfl
            have hfz18_0 := zY BK264.out 0
            have hfz18_1 := zY BK264.out 1
            have hfz18_2 := zY BK264.out 2
            have hfz18_3 := zY BK264.out 3
            go_wp2_with (first | ((with_reducible refine gate_builtin (b := .append) (xs := #[.tmp 22, .tmp 25]) rfl ?_); at_builtin; refine Kd.R_append (Kd.int .i64) (w0 := w) w.heap.size rfl (.tmp 22) (.tmp 25) 59 3 (.int .i64 0) 8 rfl Tryd.underlying59 info3 rfl (by decide) (by omega) u3 x3_1 ((rd_T57 l0 x12_1).f3) [.int .i64 ((rd_T57 l0 x12_1).f3)] (fun _ => True) (fun _ => False) rfl rfl ?aP (fun _ hk => hk.elim) ?aF ?aO ?aB ?aS ?aL ?_; (case aP => exact rfl); (case aB => exact (by repeat (first | (with_reducible first | exact HB.out | apply zE | apply zC | apply zD | refine zB ?_ GE264.out) | exact HB.out))); (case aF => exact (fun _ _ => trivial)); (case aO => exact (rUp HO_3.out)); (case aS => exact (below_size (by repeat (first | (with_reducible first | exact HB.out | apply zE | apply zC | apply zD | refine zB ?_ GE264.out) | exact HB.out)))); (case aL => have := LMc16.out; omega); intro v267 w19 ho hb hg hat; rw [← Ny266.out] at ho; have n0_ := zA (blk_grown (g := gb264) (o := .cells #[.int .i64 ((rd_T57 l0 x12_1).f0), .int .i64 ((rd_T57 l0 x12_1).f1), .slice A263_2 ((rd_T57 l0 x12_1).f2).length c263_2, .int .i64 ((rd_T57 l0 x12_1).f3)] 57 (0, 0)) (kUp BK264.out) hg (Kd.R_ne HO_3.out BK264.out (by decide))); have n1_ := zA (hb); have n2_ := zA (ho); clear BK264 HB HO_3; have BK264 := n0_; have HB := n1_; have HO268 := n2_; clear n0_ n1_ n2_; clear ho hb hg hat; obtain ⟨Ao20, co20, eo20⟩ := Kd.R_slice HO268.out; subst eo20))
            go_ret
            exact ⟨by first | rfl | (simp [errW_none, errW_some] <;> rfl) | (simp [*, errW_none, errW_some] <;> rfl), by repeat (first | (with_reducible first | exact HB.out | apply zE | apply zC | apply zD | refine zB ?_ GE264.out) | exact HB.out)⟩
           ·rw [if_neg c17] at H
            have c17b0 : decide (100 < (y266.length : Int)) = false := zH c17
            have c17b1 : decide (100 < y266.length) = false := zH (by omega)
            clear c17
            by_cases c21 : ((rd_T57 l0 x12_1).f3) > 0
            ·rw [if_pos c21] at H
             have c21b0 : decide (0 < ((rd_T57 l0 x12_1).f3)) = true := zG c21
             clear c21
             have H' := zA H
             clear H
             have hcz22_0 : w13.cell? ⟨gb264, 0, none⟩ = some (.int .i64 ((rd_T57 l0 x12_1).f0)) := (zZ BK264.out 0).trans rfl
             have hcz22_1 : w13.cell? ⟨gb264, 1, none⟩ = some (.int .i64 ((rd_T57 l0 x12_1).f1)) := (zZ BK264.out 1).trans rfl
             have hcz22_2 : w13.cell? ⟨gb264, 2, none⟩ = some (.slice A263_2 ((rd_T57 l0 x12_1).f2).length c263_2) := (zZ BK264.out 2).trans rfl
             have hcz22_3 : w13.cell? ⟨gb264, 3, none⟩ = some (.int .i64 ((rd_T57 l0 x12_1).f3)) := (zZ BK264.out 3).trans rfl
             have hfz22_0 := zY BK264.out 0
             have hfz22_1 := zY BK264.out 1
             have hfz22_2 := zY BK264.out 2
             have hfz22_3 := zY BK264.out 3
             go_wp2_with (first | ((with_reducible refine gate_builtin (b := .append) (xs := #[.tmp 22, .tmp 25]) rfl ?_); at_builtin; refine Kd.R_append (Kd.int .i64) (w0 := w) w.heap.size rfl (.tmp 22) (.tmp 25) 59 3 (.int .i64 0) 8 rfl Tryd.underlying59 info3 rfl (by decide) (by omega) u3 x3_1 ((rd_T57 l0 x12_1).f3) [.int .i64 ((rd_T57 l0 x12_1).f3)] (fun _ => True) (fun _ => False) rfl rfl ?aP (fun _ hk => hk.elim) ?aF ?aO ?aB ?aS ?aL ?_; (case aP => exact rfl); (case aB => exact (by repeat (first | (with_reducible first | exact HB.out | apply zE | apply zC | apply zD | refine zB ?_ GE264.out) | exact HB.out))); (case aF => exact (fun _ _ => trivial)); (case aO => exact (rUp HO_3.out)); (case aS => exact (below_size (by repeat (first | (with_reducible first | exact HB.out | apply zE | apply zC | apply zD | refine zB ?_ GE264.out) | exact HB.out)))); (case aL => have := LMc16.out; omega); intro v267 w23 ho hb hg hat; rw [← Ny266.out] at ho; have n0_ := zA (blk_grown (g := gb264) (o := .cells #[.int .i64 ((rd_T57 l0 x12_1).f0), .int .i64 ((rd_T57 l0 x12_1).f1), .slice A263_2 ((rd_T57 l0 x12_1).f2).length c263_2, .int .i64 ((rd_T57 l0 x12_1).f3)] 57 (0, 0)) (kUp BK264.out) hg (Kd.R_ne HO_3.out BK264.out (by decide))); have n1_ := zA (hb); have n2_ := zA (ho); clear BK264 HB HO_3; have BK264 := n0_; have HB := n1_; have HO268 := n2_; clear n0_ n1_ n2_; clear ho hb hg hat; obtain ⟨Ao24, co24, eo24⟩ := Kd.R_slice HO268.out; subst eo24; have hcz25_0 : w23.cell? ⟨gb264, 0, none⟩ = some (.int .i64 ((rd_T57 l0 x12_1).f0)) := (zZ BK264.out 0).trans rfl; have hcz25_1 : w23.cell? ⟨gb264, 1, none⟩ = some (.int .i64 ((rd_T57 l0 x12_1).f1)) := (zZ BK264.out 1).trans rfl; have hcz25_2 : w23.cell? ⟨gb264, 2, none⟩ = some (.slice A263_2 ((rd_T57 l0 x12_1).f2).length c263_2) := (zZ BK264.out 2).trans rfl; have hcz25_3 : w23.cell? ⟨gb264, 3, none⟩ = some (.int .i64 ((rd_T57 l0 x12_1).f3)) := (zZ BK264.out 3).trans rfl; have hfz25_0 := zY BK264.out 0; have hfz25_1 := zY BK264.out 1; have hfz25_2 := zY BK264.out 2; have hfz25_3 := zY BK264.out 3))
             go_roundg k1
             case measure => have := HK1.out; omega
             case rel => exact ⟨(y266), (wrap64 (x12_1 + 1)), (by first | rfl | (simp; done) | (simp [*]; done)), H', ⟨by have := HK1.out; omega⟩, ⟨by exact rUp HO268.out⟩, ⟨by repeat (first | (with_reducible first | exact HB.out | apply zE | apply zC | apply zD | refine zB ?_ GE264.out) | exact HB.out)⟩⟩
            ·rw [if_neg c21] at H
             have c21b0 : decide (0 < ((rd_T57 l0 x12_1).f3)) = false := zH c21
             clear c21
             obtain ⟨ji26, hji26⟩ : ∃ j_ : Int, (wrap64 ((y266.length : Int) - 1)) = j_ := ⟨_, rfl⟩
             replace H : (if 0 ≤ (ji26) then (if (ji26) ≤ (y266.length : Int) then (impl_ValidData.j1 k1 (y266.take ((ji26) : Int).toNat) l0 (l0.length : Int) x12_1) else (none)) else (none)) = some r := by first | (rw [hji26] at H; exact H) | (simp only [hji26] at H ⊢; exact H)
             have hji26w : (IntKind.i64.wrap ((y266.length : Int) - 1)) = ji26 := (i64_w _).trans hji26
             by_cases c27 : 0 ≤ (ji26)
             ·rw [if_pos c27] at H
              have c27b0 := eq_true c27
              have c27b1 : decide (0 ≤ (ji26)) = true := zG c27
              clear c27
              by_cases c28 : (ji26) ≤ (y266.length : Int)
              ·rw [if_pos c28] at H
               have c28b0 := eq_true c28
               have c28b1 : decide ((ji26) ≤ (y266.length : Int)) = true := zG c28
               clear c28
               obtain ⟨y269, hy269⟩ : ∃ y_ : List Int, y_ = (y266.take ((ji26) : Int).toNat) := ⟨_, rfl⟩
               replace H : (impl_ValidData.j1 k1 y269 l0 (l0.length : Int) x12_1) = some r := by first | (rw [hy269]; with_reducible exact H) | (have H2_ := (Option.bind_some _ _).symm.trans H; rw [hy269]; with_reducible exact H2_) | (have H2_ := (Option.bind_some _ _).symm.trans H; with_reducible exact H2_) | with_reducible exact H | (rw [hy269]; exact H) | exact H
               have Ny269 := zA hy269
               clear hy269
               have H' := zA H
               clear H
               have hcz29_0 : w13.cell? ⟨gb264, 0, none⟩ = some (.int .i64 ((rd_T57 l0 x12_1).f0)) := (zZ BK264.out 0).trans rfl
               have hcz29_1 : w13.cell? ⟨gb264, 1, none⟩ = some (.int .i64 ((rd_T57 l0 x12_1).f1)) := (zZ BK264.out 1).trans rfl
               have hcz29_2 : w13.cell? ⟨gb264, 2, none⟩ = some (.slice A263_2 ((rd_T57 l0 x12_1).f2).length c263_2) := (zZ BK264.out 2).trans rfl
               have hcz29_3 : w13.cell? ⟨gb264, 3, none⟩ = some (.int .i64 ((rd_T57 l0 x12_1).f3)) := (zZ BK264.out 3).trans rfl
               have hfz29_0 := zY BK264.out 0
               have hfz29_1 := zY BK264.out 1
               have hfz29_2 := zY BK264.out 2
               have hfz29_3 := zY BK264.out 3
               go_wp2_with (first | ((with_reducible refine gate_builtin (b := .append) (xs := #[.tmp 22, .tmp 25]) rfl ?_); at_builtin; refine Kd.R_append (Kd.int .i64) (w0 := w) w.heap.size rfl (.tmp 22) (.tmp 25) 59 3 (.int .i64 0) 8 rfl Tryd.underlying59 info3 rfl (by decide) (by omega) u3 x3_1 ((rd_T57 l0 x12_1).f3) [.int .i64 ((rd_T57 l0 x12_1).f3)] (fun _ => True) (fun _ => False) rfl rfl ?aP (fun _ hk => hk.elim) ?aF ?aO ?aB ?aS ?aL ?_; (case aP => exact rfl); (case aB => exact (by repeat (first | (with_reducible first | exact HB.out | apply zE | apply zC | apply zD | refine zB ?_ GE264.out) | exact HB.out))); (case aF => exact (fun _ _ => trivial)); (case aO => exact (rUp HO_3.out)); (case aS => exact (below_size (by repeat (first | (with_reducible first | exact HB.out | apply zE | apply zC | apply zD | refine zB ?_ GE264.out) | exact HB.out)))); (case aL => have := LMc16.out; omega); intro v267 w30 ho hb hg hat; rw [← Ny266.out] at ho; have n0_ := zA (blk_grown (g := gb264) (o := .cells #[.int .i64 ((rd_T57 l0 x12_1).f0), .int .i64 ((rd_T57 l0 x12_1).f1), .slice A263_2 ((rd_T57 l0 x12_1).f2).length c263_2, .int .i64 ((rd_T57 l0 x12_1).f3)] 57 (0, 0)) (kUp BK264.out) hg (Kd.R_ne HO_3.out BK264.out (by decide))); have n1_ := zA (hb); have n2_ := zA (ho); clear BK264 HB HO_3; have BK264 := n0_; have HB := n1_; have HO268 := n2_; clear n0_ n1_ n2_; clear ho hb hg hat; obtain ⟨Ao31, co31, eo31⟩ := Kd.R_slice HO268.out; subst eo31; have hcz32_0 : w30.cell? ⟨gb264, 0, none⟩ = some (.int .i64 ((rd_T57 l0 x12_1).f0)) := (zZ BK264.out 0).trans rfl; have hcz32_1 : w30.cell? ⟨gb264, 1, none⟩ = some (.int .i64 ((rd_T57 l0 x12_1).f1)) := (zZ BK264.out 1).trans rfl; have hcz32_2 : w30.cell? ⟨gb264, 2, none⟩ = some (.slice A263_2 ((rd_T57 l0 x12_1).f2).length c263_2) := (zZ BK264.out 2).trans rfl; have hcz32_3 : w30.cell? ⟨gb264, 3, none⟩ = some (.int .i64 ((rd_T57 l0 x12_1).f3)) := (zZ BK264.out 3).trans rfl; have hfz32_0 := zY BK264.out 0; have hfz32_1 := zY BK264.out 1; have hfz32_2 := zY BK264.out 2; have hfz32_3 := zY BK264.out 3; have q33 : ((ji26) : Int) ≤ ((y266.length : Int) : Int) := zF (by first | (with_reducible assumption) | assumption); obtain ⟨i033, hi033, _, hsz33, _⟩ := info_parts info3; have hcut33 := cut_to (P := Tryd.prog) 59 3 .i64 Tryd.underlying59 hi033 Ao31 y266.length co31 (ji26) (zF (by first | (with_reducible assumption) | assumption)) q33 (zO HO268.out).2.1; have hr33 := Kd.R_take (m := ((ji26) : Int).toNat) HO268.out (by have e_ := (zO HO268.out).1; omega); have hy33 : y269.length = ((ji26) : Int).toNat := (by have e_ := (zO HO268.out).1; rw [Ny269.out, List.length_take]; omega); rw [← Ny269.out] at hr33; rw [← hy33] at hr33 hcut33; clear hy33 hi033 hsz33 HO268; have HO271 := zA hr33; clear hr33; replace q33 := eq_true q33))
               go_meet
               case rel => exact ⟨_, (y269), H', ⟨by have := HK1.out; first | omega | exact Nat.le_refl _⟩, ⟨by exact rUp HO271.out⟩, ⟨by exact kUp BK264.out⟩, ⟨by repeat (first | (with_reducible first | exact HB.out | apply zE | apply zC | apply zD | refine zB ?_ GE264.out) | exact HB.out)⟩⟩
              ·rw [if_neg c28] at H
               exact absurd H (by simp)
             ·rw [if_neg c27] at H
              exact absurd H (by simp)
          ·rw [if_neg c16] at H
           exact absurd H (by simp)
         ·rw [if_neg c15] at H
          have c15b0 : (((rd_T57 l0 x12_1).f0) == 3) = false := zm.mpr c15
          have c15b1 : (((rd_T57 l0 x12_1).f0) != 3) = true := bne_iff_ne.mpr c15
          (first | rw [c15b0] | (simp only [i64_w, i32_w]; rw [c15b0]) | skip)
          have H' := zA H
          clear H
          go_wp2
          go_meet
          case rel => exact ⟨_, (x3_1), H', ⟨by have := HK1.out; first | omega | exact Nat.le_refl _⟩, ⟨by exact rUp HO_3.out⟩, ⟨by exact kUp BK264.out⟩, ⟨by repeat (first | (with_reducible first | exact HB.out | apply zE | apply zC | apply zD | refine zB ?_ GE264.out) | exact HB.out)⟩⟩
        case rest =>
         clear HC10
         try clear c1
         try clear c2
         try clear c2b0
         try clear c2b1
         try clear p2
         try clear q2
         try clear hx2
         try clear c3
         try clear q3
         try clear c5
         try clear c5b0
         try clear c6
         try clear c6b0
         try clear p6
         try clear c7
         try clear c7b0
         try clear c9
         try clear c11
         try clear c15
         try clear c15b0
         try clear c15b1
         try clear c16
         try clear c17
         try clear c17b0
         try clear c17b1
         try clear c21
         try clear c21b0
         try clear c26
         try clear p26
         try clear q26
         try clear hx26
         try clear c27
         try clear c27b0
         try clear c27b1
         try clear c28
         try clear c28b0
         try clear c28b1
         try clear q33
         try clear hcz12_0
         try clear hcz12_1
         try clear hcz12_2
         try clear hcz12_3
         try clear hcz14_0
         try clear hcz14_1
         try clear hcz14_2
         try clear hcz14_3
         try clear hcz18_0
         try clear hcz18_1
         try clear hcz18_2
         try clear hcz18_3
         try clear hcz22_0
         try clear hcz22_1
         try clear hcz22_2
         try clear hcz22_3
         try clear hcz25_0
         try clear hcz25_1
         try clear hcz25_2
         try clear hcz25_3
         try clear hcz29_0
         try clear hcz29_1
         try clear hcz29_2
         try clear hcz29_3
         try clear hcz32_0
         try clear hcz32_1
         try clear hcz32_2
         try clear hcz32_3
         try clear hfz12_0
         try clear hfz12_1
         try clear hfz12_2
         try clear hfz12_3
         try clear hfz14_0
         try clear hfz14_1
         try clear hfz14_2
         try clear hfz14_3
         try clear hfz18_0
         try clear hfz18_1
         try clear hfz18_2
         try clear hfz18_3
         try clear hfz22_0
         try clear hfz22_1
         try clear hfz22_2
         try clear hfz22_3
         try clear hfz25_0
         try clear hfz25_1
         try clear hfz25_2
         try clear hfz25_3
         try clear hfz29_0
         try clear hfz29_1
         try clear hfz29_2
         try clear hfz29_3
         try clear hfz32_0
         try clear hfz32_1
         try clear hfz32_2
         try clear hfz32_3
         try clear hx263_0
         try clear hx263_1
         try clear hx263_2
         try clear hx263_3
         try clear p2
         try clear p263
         try clear q263
         try clear q33
         obtain ⟨kq, x3_9, HA, HJ9, HO_3, BK264, HB⟩ := hcut
         cases kq with
         | zero => exact absurd HA.out (by simp [impl_ValidData.j1])
         | succ kj9 =>
          have H := HA.out
          clear HA
          simp only [impl_ValidData.j1] at H
          have H' := zA H
          clear H
          go_wp2
          go_loopg [3] kj9 (fun kq v3 w' => ∃ (x3_3 : List Int), Aside0 (impl_ValidData.l1 kq x3_3 l0 (l0.length : Int) x12_1 = some r) ∧ Aside0 (kq ≤ kj9) ∧ Aside0 (Kd.R (Kd.int .i64) 3 w' w.heap.size (fun _ => True) v3 x3_3) ∧ Aside0 (w'.heap[gb264]? = some (.cells #[.int .i64 ((rd_T57 l0 x12_1).f0), .int .i64 ((rd_T57 l0 x12_1).f1), (.slice A263_2 ((rd_T57 l0 x12_1).f2).length c263_2), .int .i64 ((rd_T57 l0 x12_1).f3)] 57 (0, 0))) ∧ Aside0 (Below w.heap.size w w'))
          case atStart => exact ⟨(x3_9), H', ⟨Nat.le_refl _⟩, ⟨by exact rUp HO_3.out⟩, ⟨by exact kUp BK264.out⟩, ⟨by repeat (first | (with_reducible first | exact HB.out | apply zE | apply zC | apply zD | refine zB ?_ GE264.out) | exact HB.out)⟩⟩
          case round =>
           clear H'
           try clear c1
           try clear c2
           try clear c2b0
           try clear c2b1
           try clear p2
           try clear q2
           try clear hx2
           try clear c3
           try clear q3
           try clear c5
           try clear c5b0
           try clear c6
           try clear c6b0
           try clear p6
           try clear c7
           try clear c7b0
           try clear c9
           try clear c11
           try clear c15
           try clear c15b0
           try clear c15b1
           try clear c16
           try clear c17
           try clear c17b0
           try clear c17b1
           try clear c21
           try clear c21b0
           try clear c26
           try clear p26
           try clear q26
           try clear hx26
           try clear c27
           try clear c27b0
           try clear c27b1
           try clear c28
           try clear c28b0
           try clear c28b1
           try clear q33
           try clear hcz12_0
           try clear hcz12_1
           try clear hcz12_2
           try clear hcz12_3
           try clear hcz14_0
           try clear hcz14_1
           try clear hcz14_2
           try clear hcz14_3
           try clear hcz18_0
           try clear hcz18_1
           try clear hcz18_2
           try clear hcz18_3
           try clear hcz22_0
           try clear hcz22_1
           try clear hcz22_2
           try clear hcz22_3
           try clear hcz25_0
           try clear hcz25_1
           try clear hcz25_2
           try clear hcz25_3
           try clear hcz29_0
           try clear hcz29_1
           try clear hcz29_2
           try clear hcz29_3
           try clear hcz32_0
           try clear hcz32_1
           try clear hcz32_2
           try clear hcz32_3
           try clear hfz12_0
           try clear hfz12_1
           try clear hfz12_2
           try clear hfz12_3
           try clear hfz14_0
           try clear hfz14_1
           try clear hfz14_2
           try clear hfz14_3
           try clear hfz18_0
           try clear hfz18_1
           try clear hfz18_2
           try clear hfz18_3
           try clear hfz22_0
           try clear hfz22_1
           try clear hfz22_2
           try clear hfz22_3
           try clear hfz25_0
           try clear hfz25_1
           try clear hfz25_2
           try clear hfz25_3
           try clear hfz29_0
           try clear hfz29_1
           try clear hfz29_2
           try clear hfz29_3
           try clear hfz32_0
           try clear hfz32_1
           try clear hfz32_2
           try clear hfz32_3
           try clear hx263_0
           try clear hx263_1
           try clear hx263_2
           try clear hx263_3
           try clear p2
           try clear p26
           try clear p263
           try clear p6
           try clear q2
           try clear q26
           try clear q263
           try clear q3
           try clear q33
           obtain ⟨x3_3, HA, HK3, HO_3, BK264, HB⟩ := hrel
           cases gk with
           | zero => exact absurd HA.out (by simp [impl_ValidData.l1])
           | succ k3 =>
            have H := HA.out
            clear HA
            simp only [impl_ValidData.l1] at H
            by_cases c34 : (x3_3.length : Int) > 0
            ·rw [if_pos c34] at H
             have c34b0 : decide (0 < (x3_3.length : Int)) = true := zG c34
             have c34b1 : decide (0 < x3_3.length) = true := zG (by omega)
             clear c34
             obtain ⟨ji35, hji35⟩ : ∃ j_ : Int, (wrap64 ((x3_3.length : Int) - 1)) = j_ := ⟨_, rfl⟩
             replace H : (if 0 ≤ (ji35) then (if (ji35) < (x3_3.length : Int) then ((some (x3_3.set ((ji35) : Int).toNat (wrap64 ((rd x3_3 (ji35)) - 1)) : List Int)).bind fun y273 => (if (rd y273 (ji35)) > 0 then (impl_ValidData.l0 k3 y273 l0 (l0.length : Int) (wrap64 (x12_1 + 1))) else (if (ji35) ≤ (x3_3.length : Int) then (impl_ValidData.l1 k3 (y273.take ((ji35) : Int).toNat) l0 (l0.length : Int) x12_1) else (none)))) else (none)) else (none)) = some r := by first | (rw [hji35] at H; exact H) | (simp only [hji35] at H ⊢; exact H)
             have hji35w : (IntKind.i64.wrap ((x3_3.length : Int) - 1)) = ji35 := (i64_w _).trans hji35
             by_cases c36 : 0 ≤ (ji35)
             ·rw [if_pos c36] at H
              have c36b0 : decide (0 ≤ (ji35)) = true := zG c36
              clear c36
              by_cases c37 : (ji35) < (x3_3.length : Int)
              ·rw [if_pos c37] at H
               have c37b0 : decide ((ji35) < (x3_3.length : Int)) = true := zG c37
               clear c37
               obtain ⟨y273, hy273⟩ : ∃ y_ : List Int, y_ = (x3_3.set ((ji35) : Int).toNat (wrap64 ((rd x3_3 (ji35)) - 1))) := ⟨_, rfl⟩
               replace H : (if (rd y273 (ji35)) > 0 then (impl_ValidData.l0 k3 y273 l0 (l0.length : Int) (wrap64 (x12_1 + 1))) else (if (ji35) ≤ (x3_3.length : Int) then (impl_ValidData.l1 k3 (y273.take ((ji35) : Int).toNat) l0 (l0.length : Int) x12_1) else (none))) = some r := by first | (rw [hy273]; with_reducible exact H) | (have H2_ := (Option.bind_some _ _).symm.trans H; rw [hy273]; with_reducible exact H2_) | (have H2_ := (Option.bind_some _ _).symm.trans H; with_reducible exact H2_) | with_reducible exact H | (rw [hy273]; exact H) | exact H
               have Ny273 := zA hy273
               clear hy273
               by_cases c39 : (rd y273 (ji35)) > 0
               ·rw [if_pos c39] at H
                have c39b0 : decide (0 < (rd y273 (ji35))) = true := zG c39
                clear c39
                have H' := zA H
                clear H
                obtain ⟨Ao40, co40, eo40⟩ := Kd.R_slice HO_3.out
                subst eo40
                have p272 : 0 ≤ ((ji35) : Int) := zF (by first | (with_reducible assumption) | assumption)
                have q272 : (ji35) < (x3_3.length : Int) := zF (by first | (with_reducible assumption) | assumption)
                obtain ⟨ad272, e272, hx272_0⟩ := Kd.at_int (zO HO_3.out).2.2 (ji35) p272 q272
                cases e272
                replace p272 := eq_true p272
                replace q272 := eq_true q272
                have p38 : 0 ≤ ((ji35) : Int) := zF (by first | (with_reducible assumption) | assumption)
                have q38 : ((ji35) : Int) < ((x3_3.length : Int) : Int) := zF (by first | (with_reducible assumption) | assumption)
                obtain ⟨go38, co38, eo38, gb38, gl38, cl38, HG38⟩ := Kd.R_form HO_3.out (by omega)
                (first | cases eo38 | (injection eo38 with ea_ en_ ec_; (first | subst ea_ | (injection ea_ with ea_; subst ea_)); subst ec_; clear en_))
                have GB38 := zA gb38
                have GG38 := zA HG38
                clear gb38 gl38 HG38
                (first | simp only [add_plain] at hx272_0 | skip)
                obtain ⟨hx38_0, hf38_0⟩ := Kd.R_celln 0 HO_3.out ((ji35) : Int) p38 q38
                replace p38 := eq_true p38
                replace q38 := eq_true q38
                have HP41 := Kd.R_putg HO_3.out ((ji35) : Int) (wrap64 ((rd x3_3 (ji35)) - 1))
                go_wp2_with (first | ((with_reducible refine gate_store (t := 3) (p := 48) rfl ?_); refine store_event (t := 3) (p := 48) (v := ?vo_w42) (w1 := (wr.setCell ⟨go38, ((ji35) : Int).toNat, none⟩ (.int .i64 (wrap64 ((rd x3_3 (ji35)) - 1))))) ?hg ?ho ?hn ?hr ?_; (case ho => rfl); (case hg => rfl); (case hn => rfl); (case hr => first | (go_simp; done) | (go_simp; rfl)); intro w42 hw; have hg : wr.grownBy w42 (some go38) := (by rw [hw]; exact HP41.2); have hp_ : Kd.R (Kd.int .i64) 3 w42 w.heap.size (fun _ => True) (.slice (some ⟨go38, 0, none⟩) x3_3.length co40) y273 := (by rw [hw, Ny273.out]; exact HP41.1); clear HP41; have n0_ := zA (hp_); have n1_ := zA (blk_grown (g := gb264) (o := .cells #[.int .i64 ((rd_T57 l0 x12_1).f0), .int .i64 ((rd_T57 l0 x12_1).f1), .slice A263_2 ((rd_T57 l0 x12_1).f2).length c263_2, .int .i64 ((rd_T57 l0 x12_1).f3)] 57 (0, 0)) (kUp BK264.out) hg (Kd.R_ne HO_3.out BK264.out (by decide))); have n2_ := zA ((by rw [hw]; exact zB (HB.out) GB38.out : Below w.heap.size w w42)); clear HO_3 BK264 HB; have HO_3 := n0_; have BK264 := n1_; have HB := n2_; clear n0_ n1_ n2_; clear hg hw hp_; have p274 : 0 ≤ ((ji35) : Int) := zF (by first | (with_reducible assumption) | assumption); have q274 : (ji35) < (y273.length : Int) := (by have h_ : ((ji35) : Int) < ((x3_3.length : Int) : Int) := zF (by first | (with_reducible assumption) | assumption); first | (have e_ := (zO HO_3.out).1; omega) | simpa only [Ny273.out, List.length_set] using h_); have ql274 : (((ji35) : Int) < ((x3_3.length : Int) : Int)) = True := eq_true (zF (by first | (with_reducible assumption) | assumption)); obtain ⟨ad274, e274, hx274_0⟩ := Kd.at_int (zO HO_3.out).2.2 (ji35) p274 q274; obtain rfl : (⟨go38, 0, none⟩ : Addr) = ad274 := (by injection e274); (first | simp only [add_plain] at hx274_0 | simp only [add_at] at hx274_0 | simp only [Addr.add, Nat.zero_add] at hx274_0 | skip); replace p274 := eq_true p274; replace q274 := eq_true q274))
                go_roundg k3
                case measure => have := HK1.out; have := HJ9.out; have := HK3.out; omega
                case rel => exact ⟨(y273), (wrap64 (x12_1 + 1)), (by first | rfl | (simp; done) | (simp [*]; done)), H', ⟨by have := HK1.out; have := HJ9.out; have := HK3.out; omega⟩, ⟨by exact rUp HO_3.out⟩, ⟨by repeat (first | (with_reducible first | exact HB.out | apply zE | apply zC | apply zD | refine zB ?_ GE264.out) | exact HB.out)⟩⟩
               ·rw [if_neg c39] at H
                have c39b0 : decide (0 < (rd y273 (ji35))) = false := zH c39
                clear c39
                by_cases c43 : (ji35) ≤ (x3_3.length : Int)
                ·rw [if_pos c43] at H
                 have c43b0 := eq_true c43
                 have c43b1 : decide ((ji35) ≤ (x3_3.length : Int)) = true := zG c43
                 clear c43
                 obtain ⟨y275, hy275⟩ : ∃ y_ : List Int, y_ = (y273.take ((ji35) : Int).toNat) := ⟨_, rfl⟩
                 replace H : (impl_ValidData.l1 k3 y275 l0 (l0.length : Int) x12_1) = some r := by first | (rw [hy275]; with_reducible exact H) | (have H2_ := (Option.bind_some _ _).symm.trans H; rw [hy275]; with_reducible exact H2_) | (have H2_ := (Option.bind_some _ _).symm.trans H; with_reducible exact H2_) | with_reducible exact H | (rw [hy275]; exact H) | exact H
                 have Ny275 := zA hy275
                 clear hy275
                 have H' := zA H
                 clear H
                 obtain ⟨Ao44, co44, eo44⟩ := Kd.R_slice HO_3.out
                 subst eo44
                 have p272 : 0 ≤ ((ji35) : Int) := zF (by first | (with_reducible assumption) | assumption)
                 have q272 : (ji35) < (x3_3.length : Int) := zF (by first | (with_reducible assumption) | assumption)
                 obtain ⟨ad272, e272, hx272_0⟩ := Kd.at_int (zO HO_3.out).2.2 (ji35) p272 q272
                 cases e272
                 replace p272 := eq_true p272
                 replace q272 := eq_true q272
                 have p38 : 0 ≤ ((ji35) : Int) := zF (by first | (with_reducible assumption) | assumption)
                 have q38 : ((ji35) : Int) < ((x3_3.length : Int) : Int) := zF (by first | (with_reducible assumption) | assumption)
                 obtain ⟨go38, co38, eo38, gb38, gl38, cl38, HG38⟩ := Kd.R_form HO_3.out (by omega)
                 (first | cases eo38 | (injection eo38 with ea_ en_ ec_; (first | subst ea_ | (injection ea_ with ea_; subst ea_)); subst ec_; clear en_))
                 have GB38 := zA gb38
                 have GG38 := zA HG38
                 clear gb38 gl38 HG38
                 (first | simp only [add_plain] at hx272_0 | skip)
                 obtain ⟨hx38_0, hf38_0⟩ := Kd.R_celln 0 HO_3.out ((ji35) : Int) p38 q38
                 replace p38 := eq_true p38
                 replace q38 := eq_true q38
                 have HP45 := Kd.R_putg HO_3.out ((ji35) : Int) (wrap64 ((rd x3_3 (ji35)) - 1))
                 go_wp2_with (first | ((with_reducible refine gate_store (t := 3) (p := 48) rfl ?_); refine store_event (t := 3) (p := 48) (v := ?vo_w46) (w1 := (wr.setCell ⟨go38, ((ji35) : Int).toNat, none⟩ (.int .i64 (wrap64 ((rd x3_3 (ji35)) - 1))))) ?hg ?ho ?hn ?hr ?_; (case ho => rfl); (case hg => rfl); (case hn => rfl); (case hr => first | (go_simp; done) | (go_simp; rfl)); intro w46 hw; have hg : wr.grownBy w46 (some go38) := (by rw [hw]; exact HP45.2); have hp_ : Kd.R (Kd.int .i64) 3 w46 w.heap.size (fun _ => True) (.slice (some ⟨go38, 0, none⟩) x3_3.length co44) y273 := (by rw [hw, Ny273.out]; exact HP45.1); clear HP45; have n0_ := zA (hp_); have n1_ := zA (blk_grown (g := gb264) (o := .cells #[.int .i64 ((rd_T57 l0 x12_1).f0), .int .i64 ((rd_T57 l0 x12_1).f1), .slice A263_2 ((rd_T57 l0 x12_1).f2).length c263_2, .int .i64 ((rd_T57 l0 x12_1).f3)] 57 (0, 0)) (kUp BK264.out) hg (Kd.R_ne HO_3.out BK264.out (by decide))); have n2_ := zA ((by rw [hw]; exact zB (HB.out) GB38.out : Below w.heap.size w w46)); clear HO_3 BK264 HB; have HO_3 := n0_; have BK264 := n1_; have HB := n2_; clear n0_ n1_ n2_; clear hg hw hp_; have p274 : 0 ≤ ((ji35) : Int) := zF (by first | (with_reducible assumption) | assumption); have q274 : (ji35) < (y273.length : Int) := (by have h_ : ((ji35) : Int) < ((x3_3.length : Int) : Int) := zF (by first | (with_reducible assumption) | assumption); first | (have e_ := (zO HO_3.out).1; omega) | simpa only [Ny273.out, List.length_set] using h_); have ql274 : (((ji35) : Int) < ((x3_3.length : Int) : Int)) = True := eq_true (zF (by first | (with_reducible assumption) | assumption)); obtain ⟨ad274, e274, hx274_0⟩ := Kd.at_int (zO HO_3.out).2.2 (ji35) p274 q274; obtain rfl : (⟨go38, 0, none⟩ : Addr) = ad274 := (by injection e274); (first | simp only [add_plain] at hx274_0 | simp only [add_at] at hx274_0 | simp only [Addr.add, Nat.zero_add] at hx274_0 | skip); replace p274 := eq_true p274; replace q274 := eq_true q274; have q47 : ((ji35) : Int) ≤ ((x3_3.length : Int) : Int) := zF (by first | (with_reducible assumption) | assumption); obtain ⟨i047, hi047, _, hsz47, _⟩ := info_parts info3; have hcut47 := cut_to (P := Tryd.prog) 59 3 .i64 Tryd.underlying59 hi047 (some ⟨go38, 0, none⟩) x3_3.length co44 (ji35) (zF (by first | (with_reducible assumption) | assumption)) q47 (zO HO_3.out).2.1; have hr47 := Kd.R_take (m := ((ji35) : Int).toNat) HO_3.out (by have e_ := (zO HO_3.out).1; omega); have hy47 : y275.length = ((ji35) : Int).toNat := (by have e_ := (zO HO_3.out).1; rw [Ny275.out, List.length_take]; omega); rw [← Ny275.out] at hr47; rw [← hy47] at hr47 hcut47; clear hy47 hi047 hsz47 HO_3; have HO277 := zA hr47; clear hr47; replace q47 := eq_true q47))
                 go_roundg k3
                 case measure => have := HK1.out; have := HJ9.out; have := HK3.out; omega
                 case rel => exact ⟨(y275), H', ⟨by have := HK1.out; have := HJ9.out; have := HK3.out; omega⟩, ⟨by exact rUp HO277.out⟩, ⟨by exact kUp BK264.out⟩, ⟨by repeat (first | (with_reducible first | exact HB.out | apply zE | apply zC | apply zD | refine zB ?_ GE264.out) | exact HB.out)⟩⟩
                ·rw [if_neg c43] at H
                 exact absurd H (by simp)
              ·rw [if_neg c37] at H
               exact absurd H (by simp)
             ·rw [if_neg c36] at H
              exact absurd H (by simp)
            ·rw [if_neg c34] at H
             have c34b0 : decide (0 < (x3_3.length : Int)) = false := zH c34
             have c34b1 : decide (0 < x3_3.length) = false := zH (by omega)
             clear c34
             have H' := zA H
             clear H
             obtain ⟨Ao48, co48, eo48⟩ := Kd.R_slice HO_3.out
             subst eo48
             go_wp2
             go_roundg k3
             case measure => have := HK1.out; have := HJ9.out; have := HK3.out; omega
             case rel => exact ⟨(x3_3), (wrap64 (x12_1 + 1)), (by first | rfl | (simp; done) | (simp [*]; done)), H', ⟨by have := HK1.out; have := HJ9.out; have := HK3.out; omega⟩, ⟨by exact rUp HO_3.out⟩, ⟨by repeat (first | (with_reducible first | exact HB.out | apply zE | apply zC | apply zD | refine zB ?_ GE264.out) | exact HB.out)⟩⟩
       ·replace c9 := zp.mpr c9
        subst c9
        have H1 : (some false) = some r := by rw [if_neg (show ¬ (false = true) by decide)] at H; exact H
        clear H
        have H := H1
        clear H1
        obtain rfl := zl H
        have p263 : 0 ≤ (x12_1 : Int) := zF (by first | (with_reducible assumption) | assumption)
        have q263 : x12_1 < (l0.length : Int) := zF (by first | (with_reducible assumption) | assumption)
        obtain ⟨ad263, A263_2, c263_2, e263, hx263_0, hx263_1, hx263_2, hx263_3, hl263_2, hi263_2⟩ := at_T57 HR0.out x12_1 p263 q263
        cases e263
        replace hx263_0 := (HB.out.cell (zk? w _ hx263_0)).trans hx263_0
        replace hx263_1 := (HB.out.cell (zk? w _ hx263_1)).trans hx263_1
        replace hx263_2 := (HB.out.cell (zk? w _ hx263_2)).trans hx263_2
        replace hx263_3 := (HB.out.cell (zk? w _ hx263_3)).trans hx263_3
        have HR263_2 := zA hi263_2
        have HC263_2 := zA hl263_2
        clear hi263_2 hl263_2
        replace p263 := eq_true p263
        replace q263 := eq_true q263
        go_wp2_with (first | ((with_reducible refine gate_dst (N := 5) rfl ?_); refine box_event ?hg (N := 5) ?hd (cs := #[.int .i64 0, .int .i64 0, .slice none 0 0, .int .i64 0]) (t := 57) ?hr ?_; (case hd => rfl); (case hg => rfl); (case hr => first | (go_simp; done) | (go_simp; rfl)); intro gb264 hg w49 hbox hb; have n0_ := zA (zP (rUp HO_3.out) hb); have n1_ := zA (zX (by repeat (first | (with_reducible first | exact HB.out | apply zE | apply zC | apply zD) | exact HB.out)) hb); have n2_ := zA (hbox); have n3_ := zA ((by rw [hg]; exact (below_size (by repeat (first | (with_reducible first | exact HB.out | apply zE | apply zC | apply zD) | exact HB.out))) : w.heap.size ≤ gb264)); have n4_ := zA ((by rw [hg]; exact (below_size (by repeat (first | (with_reducible first | exact HB.out | apply zE | apply zC | apply zD) | exact HB.out))) : w.heap.size ≤ gb264)); clear HO_3 HB; have HO_3 := n0_; have HB := n1_; have BK264 := n2_; have GW264 := n3_; have GE264 := n4_; clear n0_ n1_ n2_ n3_ n4_; clear hb hbox hg; have hcz50_0 : w49.cell? ⟨gb264, 0, none⟩ = some (.int .i64 0) := (zZ BK264.out 0).trans rfl; have hcz50_1 : w49.cell? ⟨gb264, 1, none⟩ = some (.int .i64 0) := (zZ BK264.out 1).trans rfl; have hcz50_2 : w49.cell? ⟨gb264, 2, none⟩ = some (.slice none 0 0) := (zZ BK264.out 2).trans rfl; have hcz50_3 : w49.cell? ⟨gb264, 3, none⟩ = some (.int .i64 0) := (zZ BK264.out 3).trans rfl; have hfz50_0 := zY BK264.out 0; have hfz50_1 := zY BK264.out 1; have hfz50_2 := zY BK264.out 2; have hfz50_3 := zY BK264.out 3) | ((with_reducible refine gate_callee (f := 34) rfl ?_); refine goesL_ (some 17) rfl rfl Tryd.func34 (by kernel_rfl) rfl #[.agg #[.int .i64 ((rd_T57 l0 x12_1).f0), .int .i64 ((rd_T57 l0 x12_1).f1), .slice A263_2 ((rd_T57 l0 x12_1).f2).length c263_2, .int .i64 ((rd_T57 l0 x12_1).f3)]] rfl (by (try simp only [List.map_toArray, List.map_cons, List.map_nil]); first | done | rfl | (simp only [List.length_drop, List.length_take]; rfl)) ?_; (with_reducible refine (impl_datumOk.calls k1 ((rd_T57 l0 x12_1).f0) ((rd_T57 l0 x12_1).f1) _ _ ((rd_T57 l0 x12_1).f2) ((rd_T57 l0 x12_1).f3) false _ ?side1 ?side2 A8.out).mono ?_); (case side1 => exact Kd.C_below HR263_2.out (by repeat (first | (with_reducible first | exact HB.out | apply zE | apply zC | apply zD | refine zB ?_ GE264.out) | exact HB.out))); (case side2 => exact HC263_2.out); rintro e w51 ⟨rfl, hb⟩; refine ⟨_, rfl, ?_⟩; have n0_ := zA (zP (by (with_reducible repeat (first | apply Kd.R_alloc | apply Kd.R_drewN | apply Kd.R_drew)); exact ((zI (zJ (p := ⟨gb264, 3, none⟩) (zJ (p := ⟨gb264, 2, none⟩) (zJ (p := ⟨gb264, 1, none⟩) (zJ (p := ⟨gb264, 0, none⟩) (zL HO_3.out BK264.out (by decide)) (fun _ hk => hk.2) (.int .i64 ((rd_T57 l0 x12_1).f0))) (fun _ hk => hk.2) (.int .i64 ((rd_T57 l0 x12_1).f1))) (fun _ hk => hk.2) (.slice A263_2 ((rd_T57 l0 x12_1).f2).length c263_2)) (fun _ hk => hk.2) (.int .i64 ((rd_T57 l0 x12_1).f3))) (fun _ h_ => h_.1)))) hb); have n1_ := zA (zN (g := gb264) (o := .cells #[.int .i64 ((rd_T57 l0 x12_1).f0), .int .i64 ((rd_T57 l0 x12_1).f1), .slice A263_2 ((rd_T57 l0 x12_1).f2).length c263_2, .int .i64 ((rd_T57 l0 x12_1).f3)] 57 (0, 0)) (by (with_reducible repeat (first | refine blk_drewN ?_ _ | refine blk_drew ?_ | refine blk_alloc ?_ _)); refine blk_put (cs := #[.int .i64 ((rd_T57 l0 x12_1).f0), .int .i64 ((rd_T57 l0 x12_1).f1), .slice A263_2 ((rd_T57 l0 x12_1).f2).length c263_2, .int .i64 0]) ?_ 3 _ rfl; (with_reducible repeat (first | refine blk_drewN ?_ _ | refine blk_drew ?_ | refine blk_alloc ?_ _)); refine blk_put (cs := #[.int .i64 ((rd_T57 l0 x12_1).f0), .int .i64 ((rd_T57 l0 x12_1).f1), .slice none 0 0, .int .i64 0]) ?_ 2 _ rfl; (with_reducible repeat (first | refine blk_drewN ?_ _ | refine blk_drew ?_ | refine blk_alloc ?_ _)); refine blk_put (cs := #[.int .i64 ((rd_T57 l0 x12_1).f0), .int .i64 0, .slice none 0 0, .int .i64 0]) ?_ 1 _ rfl; (with_reducible repeat (first | refine blk_drewN ?_ _ | refine blk_drew ?_ | refine blk_alloc ?_ _)); refine blk_put (cs := #[.int .i64 0, .int .i64 0, .slice none 0 0, .int .i64 0]) ?_ 0 _ rfl; exact kUp BK264.out) hb); have n2_ := zA (zX (by repeat (first | (with_reducible first | exact HB.out | apply zE | apply zC | apply zD | refine zB ?_ GE264.out) | exact HB.out)) hb); clear HO_3 BK264 HB; have HO_3 := n0_; have BK264 := n1_; have HB := n2_; clear n0_ n1_ n2_; (try clear hb); (try clear hb2); (try clear hk); (try clear hi)))
        go_ret
        exact ⟨by first | rfl | (simp [errW_none, errW_some] <;> rfl) | (simp [*, errW_none, errW_some] <;> rfl), by repeat (first | (with_reducible first | exact HB.out | apply zE | apply zC | apply zD | refine zB ?_ GE264.out) | exact HB.out)⟩
      ·rw [if_neg c7] at H
       exact absurd H (by simp)
     ·rw [if_neg c6] at H
      exact absurd H (by simp)
    ·rw [if_neg c5] at H
     have c5b0 : decide (x12_1 < (l0.length : Int)) = false := zH c5
     clear c5
     obtain rfl := zl H
     obtain ⟨Ao52, co52, eo52⟩ := Kd.R_slice HO_3.out
     subst eo52
     go_wp2
     go_ret
     exact ⟨by first | rfl | (simp [errW_none, errW_some] <;> rfl) | (simp [*, errW_none, errW_some] <;> rfl), by repeat (first | (with_reducible first | exact HB.out | apply zE | apply zC | apply zD) | exact HB.out)⟩
mutual
def impl_oneDatum.j0 : Nat → List (S57) → Bool → Option (Bool)
 | 0, _, _ => none
 | k + 1, x0, x13 => if x13 = true then (some false) else (impl_oneDatum.l0 k x0 1 x0 (x0.length : Int) 0)
def impl_oneDatum.l0 : Nat → List (S57) → Int → List (S57) → Int → Int → Option (Bool)
 | 0, _, _, _, _, _ => none
 | k + 1, x0, x3, x14, x15, x16 => if x16 < x15 then (if 0 ≤ x16 then (if x16 < (x14.length : Int) then (if x3 = 0 then (some (x16 == (x0.length : Int))) else (impl_oneDatum.l0 k x0 (wrap64 (x3 + (wrap64 (((rd_T57 x14 x16).f3) - 1)))) x14 x15 (wrap64 (x16 + 1)))) else (none)) else (none)) else (some (x3 == 0))
end
def impl_oneDatum.f (k : Nat) (l0 : List (S57)) : Option (Bool) := if (l0.length : Int) = 0 then (impl_oneDatum.j0 k l0 true) else ((impl_ValidData.f k l0).bind fun t278 => (impl_oneDatum.j0 k l0 (!t278)))
theorem impl_oneDatum.mono_l : ∀ k, (∀ y0 y1, LeO (impl_oneDatum.j0 k y0 y1) (impl_oneDatum.j0 (k + 1) y0 y1)) ∧ (∀ y0 y1 y2 y3 y4, LeO (impl_oneDatum.l0 k y0 y1 y2 y3 y4) (impl_oneDatum.l0 (k + 1) y0 y1 y2 y3 y4))
 | 0 => ⟨fun _ _ r h => by simp [impl_oneDatum.j0] at h, fun _ _ _ _ _ r h => by simp [impl_oneDatum.l0] at h⟩
 | k + 1 => by
  obtain ⟨ih0, ih1⟩ := impl_oneDatum.mono_l k
  refine ⟨?_, ?_⟩
  ·intro y0 y1
   unfold impl_oneDatum.j0
   repeat' first
   | (with_reducible exact ih0 _ _)
   | (with_reducible exact ih1 _ _ _ _ _)
   | (with_reducible exact impl_ValidData.mono _ _)
   | (with_reducible exact LeO.refl _)
   | (with_reducible exact LeO.none _)
   | (with_reducible refine LeO.ite ?_ ?_)
   | (with_reducible refine LeO.bind ?_ (fun _ => ?_))
   | exact ih0 _ _
   | exact ih1 _ _ _ _ _
   | exact impl_ValidData.mono _ _
   | exact LeO.none _
   | refine LeO.ite ?_ ?_
   | refine LeO.bind ?_ (fun _ => ?_)
  ·intro y0 y1 y2 y3 y4
   unfold impl_oneDatum.l0
   repeat' first
   | (with_reducible exact ih0 _ _)
   | (with_reducible exact ih1 _ _ _ _ _)
   | (with_reducible exact impl_ValidData.mono _ _)
   | (with_reducible exact LeO.refl _)
   | (with_reducible exact LeO.none _)
   | (with_reducible refine LeO.ite ?_ ?_)
   | (with_reducible refine LeO.bind ?_ (fun _ => ?_))
   | exact ih0 _ _
   | exact ih1 _ _ _ _ _
   | exact impl_ValidData.mono _ _
   | exact LeO.none _
   | refine LeO.ite ?_ ?_
   | refine LeO.bind ?_ (fun _ => ?_)
theorem impl_oneDatum.mono : ∀ a0 k, LeO (impl_oneDatum.f k a0) (impl_oneDatum.f (k + 1) a0) := by
 intro a0 k
 obtain ⟨ih0, ih1⟩ := impl_oneDatum.mono_l k
 unfold impl_oneDatum.f
 repeat' first
   | (with_reducible exact ih0 _ _)
   | (with_reducible exact ih1 _ _ _ _ _)
   | (with_reducible exact impl_ValidData.mono _ _)
   | (with_reducible exact LeO.refl _)
   | (with_reducible exact LeO.none _)
   | (with_reducible refine LeO.ite ?_ ?_)
   | (with_reducible refine LeO.bind ?_ (fun _ => ?_))
   | exact ih0 _ _
   | exact ih1 _ _ _ _ _
   | exact impl_ValidData.mono _ _
   | exact LeO.none _
   | refine LeO.ite ?_ ?_
   | refine LeO.bind ?_ (fun _ => ?_)
theorem impl_oneDatum.calls (k : Nat) (A0 : Option Addr) (c0 : Nat) (l0 : List (S57)) (r : Bool) (w : World) (hr0 : Kd.C k57 w A0 l0.length l0) (hc0 : l0.length ≤ c0) (h : impl_oneDatum.f k l0 = some r) :
  Calls Tryd.prog 43 #[.slice A0 l0.length c0] w fun e w' => e = .returned (.bool r) ∧ Below w.heap.size w w' := by
 have hu57 := Tryd.underlying57
 have HR0 := zA hr0
 have HC0 := zA hc0
 clear hr0 hc0
 have HB := zA (Below.refl w.heap.size w)
 have H : (if (l0.length : Int) = 0 then (impl_oneDatum.j0 k l0 true) else ((impl_ValidData.f k l0).bind fun t278 => (impl_oneDatum.j0 k l0 (!t278)))) = some r := h
 clear h
 have HC2 := zA H
 clear H
 go_enter Tryd.func43, Tryd.ntmps43
 go_upto_region 1 with (fail)
 go_cut [13] (fun v13 wc => ∃ (kq : Nat) (x13_1 : Bool), v13 = .bool x13_1 ∧ Aside0 (impl_oneDatum.j0 kq l0 x13_1 = some r) ∧ Aside0 (kq ≤ k) ∧ Aside0 (Below w.heap.size w wc))
 case first =>
  have H := HC2.out
  clear HC2
  by_cases c3 : (l0.length : Int) = 0
  ·rw [if_pos c3] at H
   have c3b0 : ((l0.length : Int) == 0) = true := beq_iff_eq.mpr c3
   have c3b1 : ((l0.length : Int) != 0) = false := zn.mpr c3
   clear c3
   (first | rw [c3b0] | (simp only [i64_w, i32_w]; rw [c3b0]) | skip)
   have H' := zA H
   clear H
   go_wp2
   go_meet
   case rel => exact ⟨_, (true), (by first | rfl | (simp; done) | (simp [*]; done)), H', ⟨by first | omega | exact Nat.le_refl _⟩, ⟨by repeat (first | (with_reducible first | exact HB.out | apply zE | apply zC | apply zD) | exact HB.out)⟩⟩
  ·rw [if_neg c3] at H
   have c3b0 : ((l0.length : Int) == 0) = false := zm.mpr c3
   have c3b1 : ((l0.length : Int) != 0) = true := bne_iff_ne.mpr c3
   have c3b2 : ¬ (l0 = []) := fun h_ => c3 (by rw [h_]; rfl)
   (first | rw [c3b0] | (simp only [i64_w, i32_w]; rw [c3b0]) | skip)
   replace H := zo.mp H
   obtain ⟨t278, A40, H⟩ := H
   replace H : (impl_oneDatum.j0 k l0 (!t278)) = some r := H
   have A4 := zA A40
   clear A40
   have H' := zA H
   clear H
   go_wp2_with (first | (go_at_call 11; (with_reducible refine (impl_ValidData.calls k _ _ l0 t278 _ ?side1 ?side2 A4.out).mono ?_); (case side1 => repeat (first | exact (Kd.C_below HR0.out HB.out) | (with_reducible refine zc ?_ _) | (with_reducible refine zd ?_ _) | (with_reducible refine ze ?_))); (case side2 => exact HC0.out); rintro e w5 ⟨rfl, hb⟩; have n0_ := zA (zX (by repeat (first | (with_reducible first | exact HB.out | apply zE | apply zC | apply zD) | exact HB.out)) hb); clear HB; have HB := n0_; clear n0_; (try clear hb); (try clear hb2); (try clear hk); (try clear hi)))
   go_meet
   case rel => exact ⟨_, (!t278), (by first | rfl | (simp; done) | (simp [*]; done)), H', ⟨by first | omega | exact Nat.le_refl _⟩, ⟨by repeat (first | (with_reducible first | exact HB.out | apply zE | apply zC | apply zD) | exact HB.out)⟩⟩
 case rest =>
  clear HC2
  try clear p2
  try clear c3
  try clear c3b0
  try clear c3b1
  try clear c3b2
  try clear c4
  obtain ⟨kq, x13_1, rfl, HA, HJ1, HB⟩ := hcut
  cases kq with
  | zero => exact absurd HA.out (by simp [impl_oneDatum.j0])
  | succ kj1 =>
   have H := HA.out
   clear HA
   simp only [impl_oneDatum.j0] at H
   by_cases c6 : x13_1 = true
   ·subst c6
    have H1 : (some false) = some r := by rw [if_pos rfl] at H; exact H
    clear H
    have H := H1
    clear H1
    obtain rfl := zl H
    go_wp2
    go_ret
    exact ⟨by first | rfl | (simp [errW_none, errW_some] <;> rfl) | (simp [*, errW_none, errW_some] <;> rfl), by repeat (first | (with_reducible first | exact HB.out | apply zE | apply zC | apply zD) | exact HB.out)⟩
   ·replace c6 := zp.mpr c6
    subst c6
    have H1 : (impl_oneDatum.l0 kj1 l0 1 l0 (l0.length : Int) 0) = some r := by rw [if_neg (show ¬ (false = true) by decide)] at H; exact H
    clear H
    have H := H1
    clear H1
    have H' := zA H
    clear H
    go_wp2
    go_loopg [3, 16] kj1 (fun kq v3 v16 w' => ∃ (x3_2 : Int) (x16_2 : Int), v3 = .int .i64 x3_2 ∧ v16 = .int .i64 x16_2 ∧ Aside0 (impl_oneDatum.l0 kq l0 x3_2 l0 (l0.length : Int) x16_2 = some r) ∧ Aside0 (kq ≤ kj1) ∧ Aside0 (Below w.heap.size w w'))
    case atStart => exact ⟨(1), (0), (by first | rfl | (simp; done) | (simp [*]; done)), (by first | rfl | (simp; done) | (simp [*]; done)), H', ⟨Nat.le_refl _⟩, ⟨by repeat (first | (with_reducible first | exact HB.out | apply zE | apply zC | apply zD) | exact HB.out)⟩⟩
    case round =>
     clear H'
     try clear p2
     try clear c3
     try clear c3b0
     try clear c3b1
     try clear c3b2
     try clear c4
     try clear c6
     try clear p2
     obtain ⟨x3_2, x16_2, rfl, rfl, HA, HK2, HB⟩ := hrel
     cases gk with
     | zero => exact absurd HA.out (by simp [impl_oneDatum.l0])
     | succ k2 =>
      have H := HA.out
      clear HA
      simp only [impl_oneDatum.l0] at H
      by_cases c7 : x16_2 < (l0.length : Int)
      ·rw [if_pos c7] at H
       have c7b0 : decide (x16_2 < (l0.length : Int)) = true := zG c7
       clear c7
       by_cases c8 : 0 ≤ x16_2
       ·rw [if_pos c8] at H
        have c8b0 : decide (0 ≤ x16_2) = true := zG c8
        clear c8
        by_cases c9 : x16_2 < (l0.length : Int)
        ·rw [if_pos c9] at H
         have c9b0 : decide (x16_2 < (l0.length : Int)) = true := zG c9
         clear c9
         by_cases c10 : x3_2 = 0
         ·rw [if_pos c10] at H
          have c10b0 : (x3_2 == 0) = true := beq_iff_eq.mpr c10
          have c10b1 : (x3_2 != 0) = false := zn.mpr c10
          clear c10
          obtain rfl := zl H
          have p279 : 0 ≤ (x16_2 : Int) := zF (by first | (with_reducible assumption) | assumption)
          have q279 : x16_2 < (l0.length : Int) := zF (by first | (with_reducible assumption) | assumption)
          obtain ⟨ad279, A279_2, c279_2, e279, hx279_0, hx279_1, hx279_2, hx279_3, hl279_2, hi279_2⟩ := at_T57 HR0.out x16_2 p279 q279
          cases e279
          replace hx279_0 := (HB.out.cell (zk? w _ hx279_0)).trans hx279_0
          replace hx279_1 := (HB.out.cell (zk? w _ hx279_1)).trans hx279_1
          replace hx279_2 := (HB.out.cell (zk? w _ hx279_2)).trans hx279_2
          replace hx279_3 := (HB.out.cell (zk? w _ hx279_3)).trans hx279_3
          have HR279_2 := zA hi279_2
          have HC279_2 := zA hl279_2
          clear hi279_2 hl279_2
          replace p279 := eq_true p279
          replace q279 := eq_true q279
          go_wp2_with (first | ((with_reducible refine gate_dst (N := 5) rfl ?_); refine box_event ?hg (N := 5) ?hd (cs := #[.int .i64 0, .int .i64 0, .slice none 0 0, .int .i64 0]) (t := 57) ?hr ?_; (case hd => rfl); (case hg => rfl); (case hr => first | (go_simp; done) | (go_simp; rfl)); intro gb280 hg w11 hbox hb; have n0_ := zA (zX (by repeat (first | (with_reducible first | exact HB.out | apply zE | apply zC | apply zD) | exact HB.out)) hb); have n1_ := zA (hbox); have n2_ := zA ((by rw [hg]; exact (below_size (by repeat (first | (with_reducible first | exact HB.out | apply zE | apply zC | apply zD) | exact HB.out))) : w.heap.size ≤ gb280)); have n3_ := zA ((by rw [hg]; exact (below_size (by repeat (first | (with_reducible first | exact HB.out | apply zE | apply zC | apply zD) | exact HB.out))) : w.heap.size ≤ gb280)); clear HB; have HB := n0_; have BK280 := n1_; have GW280 := n2_; have GE280 := n3_; clear n0_ n1_ n2_ n3_; clear hb hbox hg; have hcz12_0 : w11.cell? ⟨gb280, 0, none⟩ = some (.int .i64 0) := (zZ BK280.out 0).trans rfl; have hcz12_1 : w11.cell? ⟨gb280, 1, none⟩ = some (.int .i64 0) := (zZ BK280.out 1).trans rfl; have hcz12_2 : w11.cell? ⟨gb280, 2, none⟩ = some (.slice none 0 0) := (zZ BK280.out 2).trans rfl; have hcz12_3 : w11.cell? ⟨gb280, 3, none⟩ = some (.int .i64 0) := (zZ BK280.out 3).trans rfl; have hfz12_0 := zY BK280.out 0; have hfz12_1 := zY BK280.out 1; have hfz12_2 := zY BK280.out 2; have hfz12_3 := zY BK280.out 3))
          go_ret
          exact ⟨by first | rfl | (simp [errW_none, errW_some] <;> rfl) | (simp [*, errW_none, errW_some] <;> rfl), by repeat (first | (with_reducible first | exact HB.out | apply zE | apply zC | apply zD | refine zB ?_ GE280.out) | exact HB.out)⟩
         ·rw [if_neg c10] at H
          have c10b0 : (x3_2 == 0) = false := zm.mpr c10
          have c10b1 : (x3_2 != 0) = true := bne_iff_ne.mpr c10
          have H' := zA H
          clear H
          have p279 : 0 ≤ (x16_2 : Int) := zF (by first | (with_reducible assumption) | assumption)
          have q279 : x16_2 < (l0.length : Int) := zF (by first | (with_reducible assumption) | assumption)
          obtain ⟨ad279, A279_2, c279_2, e279, hx279_0, hx279_1, hx279_2, hx279_3, hl279_2, hi279_2⟩ := at_T57 HR0.out x16_2 p279 q279
          cases e279
          replace hx279_0 := (HB.out.cell (zk? w _ hx279_0)).trans hx279_0
          replace hx279_1 := (HB.out.cell (zk? w _ hx279_1)).trans hx279_1
          replace hx279_2 := (HB.out.cell (zk? w _ hx279_2)).trans hx279_2
          replace hx279_3 := (HB.out.cell (zk? w _ hx279_3)).trans hx279_3
          have HR279_2 := zA hi279_2
          have HC279_2 := zA hl279_2
          clear hi279_2 hl279_2
          replace p279 := eq_true p279
          replace q279 := eq_true q279
          go_wp2_with (first | ((with_reducible refine gate_dst (N := 5) rfl ?_); refine box_event ?hg (N := 5) ?hd (cs := #[.int .i64 0, .int .i64 0, .slice none 0 0, .int .i64 0]) (t := 57) ?hr ?_; (case hd => rfl); (case hg => rfl); (case hr => first | (go_simp; done) | (go_simp; rfl)); intro gb280 hg w13 hbox hb; have n0_ := zA (zX (by repeat (first | (with_reducible first | exact HB.out | apply zE | apply zC | apply zD) | exact HB.out)) hb); have n1_ := zA (hbox); have n2_ := zA ((by rw [hg]; exact (below_size (by repeat (first | (with_reducible first | exact HB.out | apply zE | apply zC | apply zD) | exact HB.out))) : w.heap.size ≤ gb280)); have n3_ := zA ((by rw [hg]; exact (below_size (by repeat (first | (with_reducible first | exact HB.out | apply zE | apply zC | apply zD) | exact HB.out))) : w.heap.size ≤ gb280)); clear HB; have HB := n0_; have BK280 := n1_; have GW280 := n2_; have GE280 := n3_; clear n0_ n1_ n2_ n3_; clear hb hbox hg; have hcz14_0 : w13.cell? ⟨gb280, 0, none⟩ = some (.int .i64 0) := (zZ BK280.out 0).trans rfl; have hcz14_1 : w13.cell? ⟨gb280, 1, none⟩ = some (.int .i64 0) := (zZ BK280.out 1).trans rfl; have hcz14_2 : w13.cell? ⟨gb280, 2, none⟩ = some (.slice none 0 0) := (zZ BK280.out 2).trans rfl; have hcz14_3 : w13.cell? ⟨gb280, 3, none⟩ = some (.int .i64 0) := (zZ BK280.out 3).trans rfl; have hfz14_0 := zY BK280.out 0; have hfz14_1 := zY BK280.out 1; have hfz14_2 := zY BK280.out 2; have hfz14_3 := zY BK280.out 3))
          go_roundg k2
          case measure => have := HJ1.out; have := HK2.out; omega
          case rel => exact ⟨(wrap64 (x3_2 + (wrap64 (((rd_T57 l0 x16_2).f3) - 1)))), (wrap64 (x16_2 + 1)), (by first | rfl | (simp; done) | (simp [*]; done)), (by first | rfl | (simp; done) | (simp [*]; done)), H', ⟨by have := HJ1.out; have := HK2.out; omega⟩, ⟨by repeat (first | (with_reducible first | exact HB.out | apply zE | apply zC | apply zD | refine zB ?_ GE280.out) | exact HB.out)⟩⟩
        ·rw [if_neg c9] at H
         exact absurd H (by simp)
       ·rw [if_neg c8] at H
        exact absurd H (by simp)
      ·rw [if_neg c7] at H
       have c7b0 : decide (x16_2 < (l0.length : Int)) = false := zH c7
       clear c7
       obtain rfl := zl H
       go_wp2
       go_ret
       exact ⟨by first | rfl | (simp [errW_none, errW_some] <;> rfl) | (simp [*, errW_none, errW_some] <;> rfl), by repeat (first | (with_reducible first | exact HB.out | apply zE | apply zC | apply zD) | exact HB.out)⟩
end Go.Proofs.YtogmphjhdkgdjaaDoor.QFnExactValidModule
