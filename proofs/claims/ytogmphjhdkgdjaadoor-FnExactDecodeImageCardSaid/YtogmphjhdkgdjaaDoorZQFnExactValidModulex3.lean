import Derived.Test.YtogmphjhdkgdjaaDoorZQFnExactValidModulex0
import Derived.Test.YtogmphjhdkgdjaaDoorZQFnExactValidModulex2
namespace Go.Proofs.YtogmphjhdkgdjaaDoor.QFnExactValidModule
set_option maxHeartbeats 8000000
set_option maxRecDepth 100000
open Go.RowKit Go.Proofs.YtogmphjhdkgdjaaDoorW.PrintWords Go.Proofs.YtogmphjhdkgdjaaDoorW.PrintLast Go.Proofs.YtogmphjhdkgdjaaDoorW.PrintMore
attribute [local go_sem] max2_int min2_int max_two min_two max_three min_three max_four min_four
set_option linter.unusedVariables false
set_option linter.unusedSimpArgs false
def spec_l1good.j0 : Nat → Bool → Int → Int → List Int → Int → Option (Bool)
 | 0, _, _, _, _, _ => none
 | k + 1, x10, x131000, x131001, x131002, x131003 => if x10 = true then (some false) else (if x131000 = 2 then (if x131001 = 0 then ((spec_l1symbol.f k x131002).bind fun t131 => (some t131)) else (some false)) else (if (x131002.length : Int) = 0 then (if x131000 = 0 then ((spec_l1small.f x131001).bind fun t132 => (some t132)) else (if x131000 = 1 then (if x131001 = 0 then (some true) else (some (x131001 == 1))) else (if x131000 = 3 then (if x131001 = 0 then (some (decide (x131003 ≥ 0))) else (some false)) else (some false)))) else (some false)))
def spec_l1good.f (k : Nat) (a0_0 : Int) (a0_1 : Int) (l0_2 : List Int) (a0_3 : Int) : Option (Bool) := if a0_0 = 3 then (spec_l1good.j0 k false a0_0 a0_1 l0_2 a0_3) else (spec_l1good.j0 k (a0_3 != 0) a0_0 a0_1 l0_2 a0_3)
theorem spec_l1good.mono_l : ∀ k, (∀ y0 y1 y2 y3 y4, LeO (spec_l1good.j0 k y0 y1 y2 y3 y4) (spec_l1good.j0 (k + 1) y0 y1 y2 y3 y4))
 | 0 => fun _ _ _ _ _ r h => by simp [spec_l1good.j0] at h
 | k + 1 => by
  have ih0 := spec_l1good.mono_l k
  ·intro y0 y1 y2 y3 y4
   unfold spec_l1good.j0
   repeat' first
   | (with_reducible exact ih0 _ _ _ _ _)
   | (with_reducible exact spec_l1symbol.mono _ _)
   | (with_reducible exact LeO.refl _)
   | (with_reducible exact LeO.none _)
   | (with_reducible refine LeO.ite ?_ ?_)
   | (with_reducible refine LeO.bind ?_ (fun _ => ?_))
   | exact ih0 _ _ _ _ _
   | exact spec_l1symbol.mono _ _
   | exact LeO.none _
   | refine LeO.ite ?_ ?_
   | refine LeO.bind ?_ (fun _ => ?_)
theorem spec_l1good.mono : ∀ a0 a1 a2 a3 k, LeO (spec_l1good.f k a0 a1 a2 a3) (spec_l1good.f (k + 1) a0 a1 a2 a3) := by
 intro a0 a1 a2 a3 k
 have ih0 := spec_l1good.mono_l k
 unfold spec_l1good.f
 repeat' first
   | (with_reducible exact ih0 _ _ _ _ _)
   | (with_reducible exact spec_l1symbol.mono _ _)
   | (with_reducible exact LeO.refl _)
   | (with_reducible exact LeO.none _)
   | (with_reducible refine LeO.ite ?_ ?_)
   | (with_reducible refine LeO.bind ?_ (fun _ => ?_))
   | exact ih0 _ _ _ _ _
   | exact spec_l1symbol.mono _ _
   | exact LeO.none _
   | refine LeO.ite ?_ ?_
   | refine LeO.bind ?_ (fun _ => ?_)
theorem spec_l1good.calls (k : Nat) (a0_0 : Int) (a0_1 : Int) (A0_2 : Option Addr) (c0_2 : Nat) (l0_2 : List Int) (a0_3 : Int) (r : Bool) (w : World) (hr0_2 : Kd.C (Kd.int .u8) w A0_2 l0_2.length l0_2) (hc0_2 : l0_2.length ≤ c0_2) (h : spec_l1good.f k a0_0 a0_1 l0_2 a0_3 = some r) :
  Calls Tryd.prog 64 #[.agg #[.int .i64 a0_0, .int .i64 a0_1, .slice A0_2 l0_2.length c0_2, .int .i64 a0_3]] w fun e w' => e = .returned (.bool r) ∧ Below w.heap.size w w' := by
 have hu57 := Tryd.underlying57
 have HR0_2 := zA hr0_2
 have HC0_2 := zA hc0_2
 clear hr0_2 hc0_2
 have HB := zA (Below.refl w.heap.size w)
 have H : (if a0_0 = 3 then (spec_l1good.j0 k false a0_0 a0_1 l0_2 a0_3) else (spec_l1good.j0 k (a0_3 != 0) a0_0 a0_1 l0_2 a0_3)) = some r := h
 clear h
 have HC2 := zA H
 clear H
 go_enter Tryd.func64, Tryd.ntmps64
 go_upto_region 1 with (first | ((with_reducible refine gate_dst (N := 1) rfl ?_); refine box_event ?hg (N := 1) ?hd (cs := #[.int .i64 a0_0, .int .i64 a0_1, .slice A0_2 l0_2.length c0_2, .int .i64 a0_3]) (t := 57) ?hr ?_; (case hd => rfl); (case hg => rfl); (case hr => first | (go_simp; done) | (go_simp; rfl)); intro gb130 hg w3 hbox hb; have n0_ := zA (zX (by repeat (first | (with_reducible first | exact HB.out | apply zE | apply zC | apply zD) | exact HB.out)) hb); have n1_ := zA (hbox); have n2_ := zA ((by rw [hg]; exact (below_size (by repeat (first | (with_reducible first | exact HB.out | apply zE | apply zC | apply zD) | exact HB.out))) : w.heap.size ≤ gb130)); have n3_ := zA ((by rw [hg]; exact (below_size (by repeat (first | (with_reducible first | exact HB.out | apply zE | apply zC | apply zD) | exact HB.out))) : w.heap.size ≤ gb130)); clear HB; have HB := n0_; have BK130 := n1_; have GW130 := n2_; have GE130 := n3_; clear n0_ n1_ n2_ n3_; clear hb hbox hg))
 (try simp only [Act.put, List.setIfInBounds_toArray, List.set_cons_zero, List.set_cons_succ])
 go_cut [10] (fun v10 wc => ∃ (kq : Nat) (x10_1 : Bool), v10 = .bool x10_1 ∧ Aside0 (spec_l1good.j0 kq x10_1 a0_0 a0_1 l0_2 a0_3 = some r) ∧ Aside0 (kq ≤ k) ∧ Aside0 (wc.heap[gb130]? = some (.cells #[.int .i64 a0_0, .int .i64 a0_1, (.slice A0_2 l0_2.length c0_2), .int .i64 a0_3] 57 (0, 0))) ∧ Aside0 (Below w.heap.size w wc))
 case first =>
  have H := HC2.out
  clear HC2
  by_cases c4 : a0_0 = 3
  ·rw [if_pos c4] at H
   have c4b0 : (a0_0 == 3) = true := beq_iff_eq.mpr c4
   have c4b1 : (a0_0 != 3) = false := zn.mpr c4
   clear c4
   (first | rw [c4b0] | (simp only [i64_w, i32_w]; rw [c4b0]) | skip)
   have H' := zA H
   clear H
   have hcz5_0 : w3.cell? ⟨gb130, 0, none⟩ = some (.int .i64 a0_0) := (zZ BK130.out 0).trans rfl
   have hcz5_1 : w3.cell? ⟨gb130, 1, none⟩ = some (.int .i64 a0_1) := (zZ BK130.out 1).trans rfl
   have hcz5_2 : w3.cell? ⟨gb130, 2, none⟩ = some (.slice A0_2 l0_2.length c0_2) := (zZ BK130.out 2).trans rfl
   have hcz5_3 : w3.cell? ⟨gb130, 3, none⟩ = some (.int .i64 a0_3) := (zZ BK130.out 3).trans rfl
   have hfz5_0 := zY BK130.out 0
   have hfz5_1 := zY BK130.out 1
   have hfz5_2 := zY BK130.out 2
   have hfz5_3 := zY BK130.out 3
   go_wp2
   go_meet
   case rel => exact ⟨_, (false), (by first | rfl | (simp; done) | (simp [*]; done)), H', ⟨by first | omega | exact Nat.le_refl _⟩, ⟨by exact kUp BK130.out⟩, ⟨by repeat (first | (with_reducible first | exact HB.out | apply zE | apply zC | apply zD | refine zB ?_ GE130.out) | exact HB.out)⟩⟩
  ·rw [if_neg c4] at H
   have c4b0 : (a0_0 == 3) = false := zm.mpr c4
   have c4b1 : (a0_0 != 3) = true := bne_iff_ne.mpr c4
   (first | rw [c4b0] | (simp only [i64_w, i32_w]; rw [c4b0]) | skip)
   have H' := zA H
   clear H
   have hcz6_0 : w3.cell? ⟨gb130, 0, none⟩ = some (.int .i64 a0_0) := (zZ BK130.out 0).trans rfl
   have hcz6_1 : w3.cell? ⟨gb130, 1, none⟩ = some (.int .i64 a0_1) := (zZ BK130.out 1).trans rfl
   have hcz6_2 : w3.cell? ⟨gb130, 2, none⟩ = some (.slice A0_2 l0_2.length c0_2) := (zZ BK130.out 2).trans rfl
   have hcz6_3 : w3.cell? ⟨gb130, 3, none⟩ = some (.int .i64 a0_3) := (zZ BK130.out 3).trans rfl
   have hfz6_0 := zY BK130.out 0
   have hfz6_1 := zY BK130.out 1
   have hfz6_2 := zY BK130.out 2
   have hfz6_3 := zY BK130.out 3
   go_wp2
   go_meet
   case rel => exact ⟨_, ((a0_3 != 0)), (by first | rfl | (simp; done) | (simp [*]; done)), H', ⟨by first | omega | exact Nat.le_refl _⟩, ⟨by exact kUp BK130.out⟩, ⟨by repeat (first | (with_reducible first | exact HB.out | apply zE | apply zC | apply zD | refine zB ?_ GE130.out) | exact HB.out)⟩⟩
 case rest =>
  clear HC2
  try clear p2
  try clear c4
  try clear c4b0
  try clear c4b1
  try clear c6
  try clear hcz5_0
  try clear hcz5_1
  try clear hcz5_2
  try clear hcz5_3
  try clear hcz6_0
  try clear hcz6_1
  try clear hcz6_2
  try clear hcz6_3
  try clear hfz5_0
  try clear hfz5_1
  try clear hfz5_2
  try clear hfz5_3
  try clear hfz6_0
  try clear hfz6_1
  try clear hfz6_2
  try clear hfz6_3
  obtain ⟨kq, x10_1, rfl, HA, HJ1, BK130, HB⟩ := hcut
  cases kq with
  | zero => exact absurd HA.out (by simp [spec_l1good.j0])
  | succ kj1 =>
   have H := HA.out
   clear HA
   simp only [spec_l1good.j0] at H
   by_cases c7 : x10_1 = true
   ·subst c7
    have H1 : (some false) = some r := by rw [if_pos rfl] at H; exact H
    clear H
    have H := H1
    clear H1
    obtain rfl := zl H
    go_wp2
    go_ret
    exact ⟨by first | rfl | (simp [errW_none, errW_some] <;> rfl) | (simp [*, errW_none, errW_some] <;> rfl), by repeat (first | (with_reducible first | exact HB.out | apply zE | apply zC | apply zD | refine zB ?_ GE130.out) | exact HB.out)⟩
   ·replace c7 := zp.mpr c7
    subst c7
    have H1 : (if a0_0 = 2 then (if a0_1 = 0 then ((spec_l1symbol.f kj1 l0_2).bind fun t131 => (some t131)) else (some false)) else (if (l0_2.length : Int) = 0 then (if a0_0 = 0 then ((spec_l1small.f a0_1).bind fun t132 => (some t132)) else (if a0_0 = 1 then (if a0_1 = 0 then (some true) else (some (a0_1 == 1))) else (if a0_0 = 3 then (if a0_1 = 0 then (some (decide (a0_3 ≥ 0))) else (some false)) else (some false)))) else (some false))) = some r := by rw [if_neg (show ¬ (false = true) by decide)] at H; exact H
    clear H
    have H := H1
    clear H1
    by_cases c8 : a0_0 = 2
    ·rw [if_pos c8] at H
     have c8b0 : (a0_0 == 2) = true := beq_iff_eq.mpr c8
     have c8b1 : (a0_0 != 2) = false := zn.mpr c8
     clear c8
     by_cases c9 : a0_1 = 0
     ·rw [if_pos c9] at H
      have c9b0 : (a0_1 == 0) = true := beq_iff_eq.mpr c9
      have c9b1 : (a0_1 != 0) = false := zn.mpr c9
      clear c9
      replace H := zo.mp H
      obtain ⟨t131, A100, H⟩ := H
      replace H : (some t131) = some r := H
      have A10 := zA A100
      clear A100
      obtain rfl := zl H
      have hcz11_0 : wc.cell? ⟨gb130, 0, none⟩ = some (.int .i64 a0_0) := (zZ BK130.out 0).trans rfl
      have hcz11_1 : wc.cell? ⟨gb130, 1, none⟩ = some (.int .i64 a0_1) := (zZ BK130.out 1).trans rfl
      have hcz11_2 : wc.cell? ⟨gb130, 2, none⟩ = some (.slice A0_2 l0_2.length c0_2) := (zZ BK130.out 2).trans rfl
      have hcz11_3 : wc.cell? ⟨gb130, 3, none⟩ = some (.int .i64 a0_3) := (zZ BK130.out 3).trans rfl
      have hfz11_0 := zY BK130.out 0
      have hfz11_1 := zY BK130.out 1
      have hfz11_2 := zY BK130.out 2
      have hfz11_3 := zY BK130.out 3
      go_wp2_with (first | (go_at_call 93; (with_reducible refine (spec_l1symbol.calls kj1 _ _ l0_2 t131 _ ?side1 ?side2 A10.out).mono ?_); (case side1 => repeat (first | exact (Kd.C_below HR0_2.out HB.out) | (with_reducible refine zc ?_ _) | (with_reducible refine zd ?_ _) | (with_reducible refine ze ?_))); (case side2 => exact HC0_2.out); rintro e w12 ⟨rfl, hb⟩; have n0_ := zA (zN (g := gb130) (o := .cells #[.int .i64 a0_0, .int .i64 a0_1, .slice A0_2 l0_2.length c0_2, .int .i64 a0_3] 57 (0, 0)) (kUp BK130.out) hb); have n1_ := zA (zX (by repeat (first | (with_reducible first | exact HB.out | apply zE | apply zC | apply zD | refine zB ?_ GE130.out) | exact HB.out)) hb); clear BK130 HB; have BK130 := n0_; have HB := n1_; clear n0_ n1_; (try clear hb); (try clear hb2); (try clear hk); (try clear hi)))
      go_ret
      exact ⟨by first | rfl | (simp [errW_none, errW_some] <;> rfl) | (simp [*, errW_none, errW_some] <;> rfl), by repeat (first | (with_reducible first | exact HB.out | apply zE | apply zC | apply zD | refine zB ?_ GE130.out) | exact HB.out)⟩
     ·rw [if_neg c9] at H
      have c9b0 : (a0_1 == 0) = false := zm.mpr c9
      have c9b1 : (a0_1 != 0) = true := bne_iff_ne.mpr c9
      obtain rfl := zl H
      have hcz13_0 : wc.cell? ⟨gb130, 0, none⟩ = some (.int .i64 a0_0) := (zZ BK130.out 0).trans rfl
      have hcz13_1 : wc.cell? ⟨gb130, 1, none⟩ = some (.int .i64 a0_1) := (zZ BK130.out 1).trans rfl
      have hcz13_2 : wc.cell? ⟨gb130, 2, none⟩ = some (.slice A0_2 l0_2.length c0_2) := (zZ BK130.out 2).trans rfl
      have hcz13_3 : wc.cell? ⟨gb130, 3, none⟩ = some (.int .i64 a0_3) := (zZ BK130.out 3).trans rfl
      have hfz13_0 := zY BK130.out 0
      have hfz13_1 := zY BK130.out 1
      have hfz13_2 := zY BK130.out 2
      have hfz13_3 := zY BK130.out 3
      go_wp2
      go_ret
      exact ⟨by first | rfl | (simp [errW_none, errW_some] <;> rfl) | (simp [*, errW_none, errW_some] <;> rfl), by repeat (first | (with_reducible first | exact HB.out | apply zE | apply zC | apply zD | refine zB ?_ GE130.out) | exact HB.out)⟩
    ·rw [if_neg c8] at H
     have c8b0 : (a0_0 == 2) = false := zm.mpr c8
     have c8b1 : (a0_0 != 2) = true := bne_iff_ne.mpr c8
     by_cases c14 : (l0_2.length : Int) = 0
     ·rw [if_pos c14] at H
      have c14b0 : ((l0_2.length : Int) == 0) = true := beq_iff_eq.mpr c14
      have c14b1 : ((l0_2.length : Int) != 0) = false := zn.mpr c14
      clear c14
      by_cases c15 : a0_0 = 0
      ·rw [if_pos c15] at H
       have c15b0 : (a0_0 == 0) = true := beq_iff_eq.mpr c15
       have c15b1 : (a0_0 != 0) = false := zn.mpr c15
       clear c15
       replace H := zo.mp H
       obtain ⟨t132, A160, H⟩ := H
       replace H : (some t132) = some r := H
       have A16 := zA A160
       clear A160
       obtain rfl := zl H
       have hcz17_0 : wc.cell? ⟨gb130, 0, none⟩ = some (.int .i64 a0_0) := (zZ BK130.out 0).trans rfl
       have hcz17_1 : wc.cell? ⟨gb130, 1, none⟩ = some (.int .i64 a0_1) := (zZ BK130.out 1).trans rfl
       have hcz17_2 : wc.cell? ⟨gb130, 2, none⟩ = some (.slice A0_2 l0_2.length c0_2) := (zZ BK130.out 2).trans rfl
       have hcz17_3 : wc.cell? ⟨gb130, 3, none⟩ = some (.int .i64 a0_3) := (zZ BK130.out 3).trans rfl
       have hfz17_0 := zY BK130.out 0
       have hfz17_1 := zY BK130.out 1
       have hfz17_2 := zY BK130.out 2
       have hfz17_3 := zY BK130.out 3
       go_wp2_with (first | ((with_reducible refine gate_callee (f := 94) rfl ?_); refine goesL_ (some 31) rfl rfl Tryd.func94 (by kernel_rfl) rfl #[.int .i64 a0_1] rfl (by (try simp only [List.map_toArray, List.map_cons, List.map_nil]); first | done | rfl | (simp only [List.length_drop, List.length_take]; rfl)) ?_; (with_reducible refine (spec_l1small.calls a0_1 t132 _ A16.out).mono ?_); rintro e w' ⟨rfl, ⟨nd, rfl⟩⟩; refine ⟨_, rfl, ?_⟩))
       go_ret
       exact ⟨by first | rfl | (simp [errW_none, errW_some] <;> rfl) | (simp [*, errW_none, errW_some] <;> rfl), by repeat (first | (with_reducible first | exact HB.out | apply zE | apply zC | apply zD | refine zB ?_ GE130.out) | exact HB.out)⟩
      ·rw [if_neg c15] at H
       have c15b0 : (a0_0 == 0) = false := zm.mpr c15
       have c15b1 : (a0_0 != 0) = true := bne_iff_ne.mpr c15
       by_cases c18 : a0_0 = 1
       ·rw [if_pos c18] at H
        have c18b0 : (a0_0 == 1) = true := beq_iff_eq.mpr c18
        have c18b1 : (a0_0 != 1) = false := zn.mpr c18
        clear c18
        by_cases c19 : a0_1 = 0
        ·rw [if_pos c19] at H
         have c19b0 : (a0_1 == 0) = true := beq_iff_eq.mpr c19
         have c19b1 : (a0_1 != 0) = false := zn.mpr c19
         clear c19
         obtain rfl := zl H
         have hcz20_0 : wc.cell? ⟨gb130, 0, none⟩ = some (.int .i64 a0_0) := (zZ BK130.out 0).trans rfl
         have hcz20_1 : wc.cell? ⟨gb130, 1, none⟩ = some (.int .i64 a0_1) := (zZ BK130.out 1).trans rfl
         have hcz20_2 : wc.cell? ⟨gb130, 2, none⟩ = some (.slice A0_2 l0_2.length c0_2) := (zZ BK130.out 2).trans rfl
         have hcz20_3 : wc.cell? ⟨gb130, 3, none⟩ = some (.int .i64 a0_3) := (zZ BK130.out 3).trans rfl
         have hfz20_0 := zY BK130.out 0
         have hfz20_1 := zY BK130.out 1
         have hfz20_2 := zY BK130.out 2
         have hfz20_3 := zY BK130.out 3
         go_wp2
         go_ret
         exact ⟨by first | rfl | (simp [errW_none, errW_some] <;> rfl) | (simp [*, errW_none, errW_some] <;> rfl), by repeat (first | (with_reducible first | exact HB.out | apply zE | apply zC | apply zD | refine zB ?_ GE130.out) | exact HB.out)⟩
        ·rw [if_neg c19] at H
         have c19b0 : (a0_1 == 0) = false := zm.mpr c19
         have c19b1 : (a0_1 != 0) = true := bne_iff_ne.mpr c19
         obtain rfl := zl H
         have hcz21_0 : wc.cell? ⟨gb130, 0, none⟩ = some (.int .i64 a0_0) := (zZ BK130.out 0).trans rfl
         have hcz21_1 : wc.cell? ⟨gb130, 1, none⟩ = some (.int .i64 a0_1) := (zZ BK130.out 1).trans rfl
         have hcz21_2 : wc.cell? ⟨gb130, 2, none⟩ = some (.slice A0_2 l0_2.length c0_2) := (zZ BK130.out 2).trans rfl
         have hcz21_3 : wc.cell? ⟨gb130, 3, none⟩ = some (.int .i64 a0_3) := (zZ BK130.out 3).trans rfl
         have hfz21_0 := zY BK130.out 0
         have hfz21_1 := zY BK130.out 1
         have hfz21_2 := zY BK130.out 2
         have hfz21_3 := zY BK130.out 3
         go_wp2
         go_ret
         exact ⟨by first | rfl | (simp [errW_none, errW_some] <;> rfl) | (simp [*, errW_none, errW_some] <;> rfl), by repeat (first | (with_reducible first | exact HB.out | apply zE | apply zC | apply zD | refine zB ?_ GE130.out) | exact HB.out)⟩
       ·rw [if_neg c18] at H
        have c18b0 : (a0_0 == 1) = false := zm.mpr c18
        have c18b1 : (a0_0 != 1) = true := bne_iff_ne.mpr c18
        by_cases c22 : a0_0 = 3
        ·rw [if_pos c22] at H
         have c22b0 : (a0_0 == 3) = true := beq_iff_eq.mpr c22
         have c22b1 : (a0_0 != 3) = false := zn.mpr c22
         clear c22
         by_cases c23 : a0_1 = 0
         ·rw [if_pos c23] at H
          have c23b0 : (a0_1 == 0) = true := beq_iff_eq.mpr c23
          have c23b1 : (a0_1 != 0) = false := zn.mpr c23
          clear c23
          obtain rfl := zl H
          have hcz24_0 : wc.cell? ⟨gb130, 0, none⟩ = some (.int .i64 a0_0) := (zZ BK130.out 0).trans rfl
          have hcz24_1 : wc.cell? ⟨gb130, 1, none⟩ = some (.int .i64 a0_1) := (zZ BK130.out 1).trans rfl
          have hcz24_2 : wc.cell? ⟨gb130, 2, none⟩ = some (.slice A0_2 l0_2.length c0_2) := (zZ BK130.out 2).trans rfl
          have hcz24_3 : wc.cell? ⟨gb130, 3, none⟩ = some (.int .i64 a0_3) := (zZ BK130.out 3).trans rfl
          have hfz24_0 := zY BK130.out 0
          have hfz24_1 := zY BK130.out 1
          have hfz24_2 := zY BK130.out 2
          have hfz24_3 := zY BK130.out 3
          go_wp2
          go_ret
          exact ⟨by first | rfl | (simp [errW_none, errW_some] <;> rfl) | (simp [*, errW_none, errW_some] <;> rfl), by repeat (first | (with_reducible first | exact HB.out | apply zE | apply zC | apply zD | refine zB ?_ GE130.out) | exact HB.out)⟩
         ·rw [if_neg c23] at H
          have c23b0 : (a0_1 == 0) = false := zm.mpr c23
          have c23b1 : (a0_1 != 0) = true := bne_iff_ne.mpr c23
          obtain rfl := zl H
          have hcz25_0 : wc.cell? ⟨gb130, 0, none⟩ = some (.int .i64 a0_0) := (zZ BK130.out 0).trans rfl
          have hcz25_1 : wc.cell? ⟨gb130, 1, none⟩ = some (.int .i64 a0_1) := (zZ BK130.out 1).trans rfl
          have hcz25_2 : wc.cell? ⟨gb130, 2, none⟩ = some (.slice A0_2 l0_2.length c0_2) := (zZ BK130.out 2).trans rfl
          have hcz25_3 : wc.cell? ⟨gb130, 3, none⟩ = some (.int .i64 a0_3) := (zZ BK130.out 3).trans rfl
          have hfz25_0 := zY BK130.out 0
          have hfz25_1 := zY BK130.out 1
          have hfz25_2 := zY BK130.out 2
          have hfz25_3 := zY BK130.out 3
          go_wp2
          go_ret
          exact ⟨by first | rfl | (simp [errW_none, errW_some] <;> rfl) | (simp [*, errW_none, errW_some] <;> rfl), by repeat (first | (with_reducible first | exact HB.out | apply zE | apply zC | apply zD | refine zB ?_ GE130.out) | exact HB.out)⟩
        ·rw [if_neg c22] at H
         have c22b0 : (a0_0 == 3) = false := zm.mpr c22
         have c22b1 : (a0_0 != 3) = true := bne_iff_ne.mpr c22
         obtain rfl := zl H
         have hcz26_0 : wc.cell? ⟨gb130, 0, none⟩ = some (.int .i64 a0_0) := (zZ BK130.out 0).trans rfl
         have hcz26_1 : wc.cell? ⟨gb130, 1, none⟩ = some (.int .i64 a0_1) := (zZ BK130.out 1).trans rfl
         have hcz26_2 : wc.cell? ⟨gb130, 2, none⟩ = some (.slice A0_2 l0_2.length c0_2) := (zZ BK130.out 2).trans rfl
         have hcz26_3 : wc.cell? ⟨gb130, 3, none⟩ = some (.int .i64 a0_3) := (zZ BK130.out 3).trans rfl
         have hfz26_0 := zY BK130.out 0
         have hfz26_1 := zY BK130.out 1
         have hfz26_2 := zY BK130.out 2
         have hfz26_3 := zY BK130.out 3
         go_wp2
         go_ret
         exact ⟨by first | rfl | (simp [errW_none, errW_some] <;> rfl) | (simp [*, errW_none, errW_some] <;> rfl), by repeat (first | (with_reducible first | exact HB.out | apply zE | apply zC | apply zD | refine zB ?_ GE130.out) | exact HB.out)⟩
     ·rw [if_neg c14] at H
      have c14b0 : ((l0_2.length : Int) == 0) = false := zm.mpr c14
      have c14b1 : ((l0_2.length : Int) != 0) = true := bne_iff_ne.mpr c14
      have c14b2 : ¬ (l0_2 = []) := fun h_ => c14 (by rw [h_]; rfl)
      obtain rfl := zl H
      have hcz27_0 : wc.cell? ⟨gb130, 0, none⟩ = some (.int .i64 a0_0) := (zZ BK130.out 0).trans rfl
      have hcz27_1 : wc.cell? ⟨gb130, 1, none⟩ = some (.int .i64 a0_1) := (zZ BK130.out 1).trans rfl
      have hcz27_2 : wc.cell? ⟨gb130, 2, none⟩ = some (.slice A0_2 l0_2.length c0_2) := (zZ BK130.out 2).trans rfl
      have hcz27_3 : wc.cell? ⟨gb130, 3, none⟩ = some (.int .i64 a0_3) := (zZ BK130.out 3).trans rfl
      have hfz27_0 := zY BK130.out 0
      have hfz27_1 := zY BK130.out 1
      have hfz27_2 := zY BK130.out 2
      have hfz27_3 := zY BK130.out 3
      go_wp2
      go_ret
      exact ⟨by first | rfl | (simp [errW_none, errW_some] <;> rfl) | (simp [*, errW_none, errW_some] <;> rfl), by repeat (first | (with_reducible first | exact HB.out | apply zE | apply zC | apply zD | refine zB ?_ GE130.out) | exact HB.out)⟩
mutual
def spec_l1end.j0 : Nat → List (S57) → Int → Int → Bool → Option (Int)
 | 0, _, _, _, _ => none
 | k + 1, x0, x1, x2, x30 => if x30 = true then (some (-1)) else (if 0 ≤ x1 then (if x1 < (x0.length : Int) then (if ((rd_T57 x0 x1).f0) = 3 then (if x2 = 0 then (some (-1)) else (spec_l1end.l0 k x0 x1 x2 (wrap64 (x1 + 1)) 0)) else (some (wrap64 (x1 + 1)))) else (none)) else (none))
def spec_l1end.l0 : Nat → List (S57) → Int → Int → Int → Int → Option (Int)
 | 0, _, _, _, _, _ => none
 | k + 1, x0, x1, x2, x7, x8 => if 0 ≤ x1 then (if x1 < (x0.length : Int) then (if x8 < ((rd_T57 x0 x1).f3) then ((spec_l1end.f k x0 x7 (wrap64 (x2 - 1))).bind fun t138 => (if t138 < 0 then (some (-1)) else (spec_l1end.l0 k x0 x1 x2 t138 (wrap64 (x8 + 1))))) else (some x7)) else (none)) else (none)
def spec_l1end.f : Nat → List (S57) → Int → Int → Option (Int)
 | 0, _, _, _ => none
 | k + 1, l0, a1, a2 => if a1 ≥ (l0.length : Int) then (spec_l1end.j0 k l0 a1 a2 true) else (if 0 ≤ a1 then (if a1 < (l0.length : Int) then ((spec_l1good.f k ((rd_T57 l0 a1).f0) ((rd_T57 l0 a1).f1) ((rd_T57 l0 a1).f2) ((rd_T57 l0 a1).f3)).bind fun t134 => (if t134 = true then (spec_l1end.j0 k l0 a1 a2 (decide (((rd_T57 l0 a1).f3) > (l0.length : Int)))) else (spec_l1end.j0 k l0 a1 a2 true))) else (none)) else (none))
end
theorem spec_l1end.mono_l : ∀ k, (∀ y0 y1 y2, LeO (spec_l1end.f k y0 y1 y2) (spec_l1end.f (k + 1) y0 y1 y2)) ∧ (∀ y0 y1 y2 y3, LeO (spec_l1end.j0 k y0 y1 y2 y3) (spec_l1end.j0 (k + 1) y0 y1 y2 y3)) ∧ (∀ y0 y1 y2 y3 y4, LeO (spec_l1end.l0 k y0 y1 y2 y3 y4) (spec_l1end.l0 (k + 1) y0 y1 y2 y3 y4))
 | 0 => ⟨fun _ _ _ r h => by simp [spec_l1end.f] at h, fun _ _ _ _ r h => by simp [spec_l1end.j0] at h, fun _ _ _ _ _ r h => by simp [spec_l1end.l0] at h⟩
 | k + 1 => by
  obtain ⟨ih0, ih1, ih2⟩ := spec_l1end.mono_l k
  refine ⟨?_, ?_, ?_⟩
  ·intro y0 y1 y2
   unfold spec_l1end.f
   repeat' first
   | (with_reducible exact ih0 _ _ _)
   | (with_reducible exact ih1 _ _ _ _)
   | (with_reducible exact ih2 _ _ _ _ _)
   | (with_reducible exact spec_l1good.mono _ _ _ _ _)
   | (with_reducible exact LeO.refl _)
   | (with_reducible exact LeO.none _)
   | (with_reducible refine LeO.ite ?_ ?_)
   | (with_reducible refine LeO.bind ?_ (fun _ => ?_))
   | exact ih0 _ _ _
   | exact ih1 _ _ _ _
   | exact ih2 _ _ _ _ _
   | exact spec_l1good.mono _ _ _ _ _
   | exact LeO.none _
   | refine LeO.ite ?_ ?_
   | refine LeO.bind ?_ (fun _ => ?_)
  ·intro y0 y1 y2 y3
   unfold spec_l1end.j0
   repeat' first
   | (with_reducible exact ih0 _ _ _)
   | (with_reducible exact ih1 _ _ _ _)
   | (with_reducible exact ih2 _ _ _ _ _)
   | (with_reducible exact spec_l1good.mono _ _ _ _ _)
   | (with_reducible exact LeO.refl _)
   | (with_reducible exact LeO.none _)
   | (with_reducible refine LeO.ite ?_ ?_)
   | (with_reducible refine LeO.bind ?_ (fun _ => ?_))
   | exact ih0 _ _ _
   | exact ih1 _ _ _ _
   | exact ih2 _ _ _ _ _
   | exact spec_l1good.mono _ _ _ _ _
   | exact LeO.none _
   | refine LeO.ite ?_ ?_
   | refine LeO.bind ?_ (fun _ => ?_)
  ·intro y0 y1 y2 y3 y4
   unfold spec_l1end.l0
   repeat' first
   | (with_reducible exact ih0 _ _ _)
   | (with_reducible exact ih1 _ _ _ _)
   | (with_reducible exact ih2 _ _ _ _ _)
   | (with_reducible exact spec_l1good.mono _ _ _ _ _)
   | (with_reducible exact LeO.refl _)
   | (with_reducible exact LeO.none _)
   | (with_reducible refine LeO.ite ?_ ?_)
   | (with_reducible refine LeO.bind ?_ (fun _ => ?_))
   | exact ih0 _ _ _
   | exact ih1 _ _ _ _
   | exact ih2 _ _ _ _ _
   | exact spec_l1good.mono _ _ _ _ _
   | exact LeO.none _
   | refine LeO.ite ?_ ?_
   | refine LeO.bind ?_ (fun _ => ?_)
theorem spec_l1end.mono : ∀ a0 a1 a2 k, LeO (spec_l1end.f k a0 a1 a2) (spec_l1end.f (k + 1) a0 a1 a2) := by
 intro a0 a1 a2 k
 obtain ⟨ih0, ih1, ih2⟩ := spec_l1end.mono_l k
 exact ih0 a0 a1 a2
theorem spec_l1end.calls (k : Nat) : ∀ (A0 : Option Addr) (c0 : Nat) (l0 : List (S57)) (a1 : Int) (a2 : Int) (r : Int) (w : World) (hr0 : Kd.C k57 w A0 l0.length l0) (hc0 : l0.length ≤ c0) (h : spec_l1end.f k l0 a1 a2 = some r),
  Calls Tryd.prog 32 #[.slice A0 l0.length c0, .int .i64 a1, .int .i64 a2] w fun e w' => e = .returned (.int .i64 r) ∧ Below w.heap.size w w' := by
 induction k using Nat.strongRecOn with
 | _ k ih =>
 intro A0 c0 l0 a1 a2 r w hr0 hc0 h
 cases k with
 | zero => exact absurd h (by simp [spec_l1end.f])
 | succ k =>
 simp only [spec_l1end.f] at h
 have hu57 := Tryd.underlying57
 have HR0 := zA hr0
 have HC0 := zA hc0
 clear hr0 hc0
 have HB := zA (Below.refl w.heap.size w)
 have H : (if a1 ≥ (l0.length : Int) then (spec_l1end.j0 k l0 a1 a2 true) else (if 0 ≤ a1 then (if a1 < (l0.length : Int) then ((spec_l1good.f k ((rd_T57 l0 a1).f0) ((rd_T57 l0 a1).f1) ((rd_T57 l0 a1).f2) ((rd_T57 l0 a1).f3)).bind fun t134 => (if t134 = true then (spec_l1end.j0 k l0 a1 a2 (decide (((rd_T57 l0 a1).f3) > (l0.length : Int)))) else (spec_l1end.j0 k l0 a1 a2 true))) else (none)) else (none))) = some r := h
 clear h
 have HC4 := zA H
 clear H
 go_enter Tryd.func32, Tryd.ntmps32
 go_upto_region 1 with (fail)
 go_cut [30] (fun v30 wc => ∃ (kq : Nat) (x30_3 : Bool), v30 = .bool x30_3 ∧ Aside0 (spec_l1end.j0 kq l0 a1 a2 x30_3 = some r) ∧ Aside0 (kq ≤ k) ∧ Aside0 (Below w.heap.size w wc))
 case first =>
  have H := HC4.out
  clear HC4
  by_cases c5 : a1 ≥ (l0.length : Int)
  ·rw [if_pos c5] at H
   have c5b0 : decide ((l0.length : Int) ≤ a1) = true := zG c5
   clear c5
   (first | rw [c5b0] | (simp only [i64_w, i32_w]; rw [c5b0]) | skip)
   have H' := zA H
   clear H
   go_wp2
   go_meet
   case rel => exact ⟨_, (true), (by first | rfl | (simp; done) | (simp [*]; done)), H', ⟨by first | omega | exact Nat.le_refl _⟩, ⟨by repeat (first | (with_reducible first | exact HB.out | apply zE | apply zC | apply zD) | exact HB.out)⟩⟩
  ·rw [if_neg c5] at H
   have c5b0 : decide ((l0.length : Int) ≤ a1) = false := zH c5
   clear c5
   (first | rw [c5b0] | (simp only [i64_w, i32_w]; rw [c5b0]) | skip)
   by_cases c6 : 0 ≤ a1
   ·rw [if_pos c6] at H
    have c6b0 : decide (0 ≤ a1) = true := zG c6
    clear c6
    by_cases c7 : a1 < (l0.length : Int)
    ·rw [if_pos c7] at H
     have c7b0 : decide (a1 < (l0.length : Int)) = true := zG c7
     clear c7
     replace H := zo.mp H
     obtain ⟨t134, A80, H⟩ := H
     replace H : (if t134 = true then (spec_l1end.j0 k l0 a1 a2 (decide (((rd_T57 l0 a1).f3) > (l0.length : Int)))) else (spec_l1end.j0 k l0 a1 a2 true)) = some r := H
     have A8 := zA A80
     clear A80
     by_cases c9 : t134 = true
     ·subst c9
      have H1 : (spec_l1end.j0 k l0 a1 a2 (decide (((rd_T57 l0 a1).f3) > (l0.length : Int)))) = some r := by rw [if_pos rfl] at H; exact H
      clear H
      have H := H1
      clear H1
      have H' := zA H
      clear H
      have p133 : 0 ≤ (a1 : Int) := zF (by first | (with_reducible assumption) | assumption)
      have q133 : a1 < (l0.length : Int) := zF (by first | (with_reducible assumption) | assumption)
      obtain ⟨ad133, A133_2, c133_2, e133, hx133_0, hx133_1, hx133_2, hx133_3, hl133_2, hi133_2⟩ := at_T57 HR0.out a1 p133 q133
      cases e133
      replace hx133_0 := (HB.out.cell (zk? w _ hx133_0)).trans hx133_0
      replace hx133_1 := (HB.out.cell (zk? w _ hx133_1)).trans hx133_1
      replace hx133_2 := (HB.out.cell (zk? w _ hx133_2)).trans hx133_2
      replace hx133_3 := (HB.out.cell (zk? w _ hx133_3)).trans hx133_3
      have HR133_2 := zA hi133_2
      have HC133_2 := zA hl133_2
      clear hi133_2 hl133_2
      replace p133 := eq_true p133
      replace q133 := eq_true q133
      go_wp2_with (first | (go_at_call 64; (with_reducible refine (spec_l1good.calls k ((rd_T57 l0 a1).f0) ((rd_T57 l0 a1).f1) _ _ ((rd_T57 l0 a1).f2) ((rd_T57 l0 a1).f3) true _ ?side1 ?side2 A8.out).mono ?_); (case side1 => repeat (first | exact (Kd.C_below HR133_2.out HB.out) | (with_reducible refine zc ?_ _) | (with_reducible refine zd ?_ _) | (with_reducible refine ze ?_))); (case side2 => exact HC133_2.out); rintro e w10 ⟨rfl, hb⟩; have n0_ := zA (zX (by repeat (first | (with_reducible first | exact HB.out | apply zE | apply zC | apply zD) | exact HB.out)) hb); clear HB; have HB := n0_; clear n0_; (try clear hb); (try clear hb2); (try clear hk); (try clear hi); have p135 : 0 ≤ (a1 : Int) := zF (by first | (with_reducible assumption) | assumption); have q135 : a1 < (l0.length : Int) := zF (by first | (with_reducible assumption) | assumption); obtain ⟨ad135, A135_2, c135_2, e135, hx135_0, hx135_1, hx135_2, hx135_3, hl135_2, hi135_2⟩ := at_T57 HR0.out a1 p135 q135; obtain rfl : ad133 = ad135 := (by injection e135); replace hx135_0 := (HB.out.cell (zk? w _ hx135_0)).trans hx135_0; replace hx135_1 := (HB.out.cell (zk? w _ hx135_1)).trans hx135_1; replace hx135_2 := (HB.out.cell (zk? w _ hx135_2)).trans hx135_2; replace hx135_3 := (HB.out.cell (zk? w _ hx135_3)).trans hx135_3; have HR135_2 := zA hi135_2; have HC135_2 := zA hl135_2; clear hi135_2 hl135_2; replace p135 := eq_true p135; replace q135 := eq_true q135))
      go_meet
      case rel => exact ⟨_, (decide (((rd_T57 l0 a1).f3) > (l0.length : Int))), (by first | rfl | (simp; done) | (simp [*]; done)), H', ⟨by first | omega | exact Nat.le_refl _⟩, ⟨by repeat (first | (with_reducible first | exact HB.out | apply zE | apply zC | apply zD) | exact HB.out)⟩⟩
     ·replace c9 := zp.mpr c9
      subst c9
      have H1 : (spec_l1end.j0 k l0 a1 a2 true) = some r := by rw [if_neg (show ¬ (false = true) by decide)] at H; exact H
      clear H
      have H := H1
      clear H1
      have H' := zA H
      clear H
      have p133 : 0 ≤ (a1 : Int) := zF (by first | (with_reducible assumption) | assumption)
      have q133 : a1 < (l0.length : Int) := zF (by first | (with_reducible assumption) | assumption)
      obtain ⟨ad133, A133_2, c133_2, e133, hx133_0, hx133_1, hx133_2, hx133_3, hl133_2, hi133_2⟩ := at_T57 HR0.out a1 p133 q133
      cases e133
      replace hx133_0 := (HB.out.cell (zk? w _ hx133_0)).trans hx133_0
      replace hx133_1 := (HB.out.cell (zk? w _ hx133_1)).trans hx133_1
      replace hx133_2 := (HB.out.cell (zk? w _ hx133_2)).trans hx133_2
      replace hx133_3 := (HB.out.cell (zk? w _ hx133_3)).trans hx133_3
      have HR133_2 := zA hi133_2
      have HC133_2 := zA hl133_2
      clear hi133_2 hl133_2
      replace p133 := eq_true p133
      replace q133 := eq_true q133
      go_wp2_with (first | (go_at_call 64; (with_reducible refine (spec_l1good.calls k ((rd_T57 l0 a1).f0) ((rd_T57 l0 a1).f1) _ _ ((rd_T57 l0 a1).f2) ((rd_T57 l0 a1).f3) false _ ?side1 ?side2 A8.out).mono ?_); (case side1 => repeat (first | exact (Kd.C_below HR133_2.out HB.out) | (with_reducible refine zc ?_ _) | (with_reducible refine zd ?_ _) | (with_reducible refine ze ?_))); (case side2 => exact HC133_2.out); rintro e w11 ⟨rfl, hb⟩; have n0_ := zA (zX (by repeat (first | (with_reducible first | exact HB.out | apply zE | apply zC | apply zD) | exact HB.out)) hb); clear HB; have HB := n0_; clear n0_; (try clear hb); (try clear hb2); (try clear hk); (try clear hi)))
      go_meet
      case rel => exact ⟨_, (true), (by first | rfl | (simp; done) | (simp [*]; done)), H', ⟨by first | omega | exact Nat.le_refl _⟩, ⟨by repeat (first | (with_reducible first | exact HB.out | apply zE | apply zC | apply zD) | exact HB.out)⟩⟩
    ·rw [if_neg c7] at H
     exact absurd H (by simp)
   ·rw [if_neg c6] at H
    exact absurd H (by simp)
 case rest =>
  clear HC4
  try clear c1
  try clear p1
  try clear q1
  try clear hx1
  try clear p2
  try clear c3
  try clear c5
  try clear c5b0
  try clear c6
  try clear c6b0
  try clear c7
  try clear c7b0
  try clear c9
  try clear hx133_0
  try clear hx133_1
  try clear hx133_2
  try clear hx133_3
  try clear hx135_0
  try clear hx135_1
  try clear hx135_2
  try clear hx135_3
  try clear p133
  try clear p135
  try clear q133
  try clear q135
  obtain ⟨kq, x30_3, rfl, HA, HJ3, HB⟩ := hcut
  cases kq with
  | zero => exact absurd HA.out (by simp [spec_l1end.j0])
  | succ kj3 =>
   have H := HA.out
   clear HA
   simp only [spec_l1end.j0] at H
   by_cases c12 : x30_3 = true
   ·subst c12
    have H1 : (some (-1)) = some r := by rw [if_pos rfl] at H; exact H
    clear H
    have H := H1
    clear H1
    obtain rfl := zl H
    go_wp2
    go_ret
    exact ⟨by first | rfl | (simp [errW_none, errW_some] <;> rfl) | (simp [*, errW_none, errW_some] <;> rfl), by repeat (first | (with_reducible first | exact HB.out | apply zE | apply zC | apply zD) | exact HB.out)⟩
   ·replace c12 := zp.mpr c12
    subst c12
    have H1 : (if 0 ≤ a1 then (if a1 < (l0.length : Int) then (if ((rd_T57 l0 a1).f0) = 3 then (if a2 = 0 then (some (-1)) else (spec_l1end.l0 kj3 l0 a1 a2 (wrap64 (a1 + 1)) 0)) else (some (wrap64 (a1 + 1)))) else (none)) else (none)) = some r := by rw [if_neg (show ¬ (false = true) by decide)] at H; exact H
    clear H
    have H := H1
    clear H1
    by_cases c13 : 0 ≤ a1
    ·rw [if_pos c13] at H
     have c13b0 : decide (0 ≤ a1) = true := zG c13
     clear c13
     by_cases c14 : a1 < (l0.length : Int)
     ·rw [if_pos c14] at H
      have c14b0 : decide (a1 < (l0.length : Int)) = true := zG c14
      clear c14
      by_cases c15 : ((rd_T57 l0 a1).f0) = 3
      ·rw [if_pos c15] at H
       have c15b0 : (((rd_T57 l0 a1).f0) == 3) = true := beq_iff_eq.mpr c15
       have c15b1 : (((rd_T57 l0 a1).f0) != 3) = false := zn.mpr c15
       clear c15
       by_cases c16 : a2 = 0
       ·rw [if_pos c16] at H
        have c16b0 : (a2 == 0) = true := beq_iff_eq.mpr c16
        have c16b1 : (a2 != 0) = false := zn.mpr c16
        clear c16
        obtain rfl := zl H
        have p136 : 0 ≤ (a1 : Int) := zF (by first | (with_reducible assumption) | assumption)
        have q136 : a1 < (l0.length : Int) := zF (by first | (with_reducible assumption) | assumption)
        obtain ⟨ad136, A136_2, c136_2, e136, hx136_0, hx136_1, hx136_2, hx136_3, hl136_2, hi136_2⟩ := at_T57 HR0.out a1 p136 q136
        cases e136
        replace hx136_0 := (HB.out.cell (zk? w _ hx136_0)).trans hx136_0
        replace hx136_1 := (HB.out.cell (zk? w _ hx136_1)).trans hx136_1
        replace hx136_2 := (HB.out.cell (zk? w _ hx136_2)).trans hx136_2
        replace hx136_3 := (HB.out.cell (zk? w _ hx136_3)).trans hx136_3
        have HR136_2 := zA hi136_2
        have HC136_2 := zA hl136_2
        clear hi136_2 hl136_2
        replace p136 := eq_true p136
        replace q136 := eq_true q136
        go_wp2
        go_ret
        exact ⟨by first | rfl | (simp [errW_none, errW_some] <;> rfl) | (simp [*, errW_none, errW_some] <;> rfl), by repeat (first | (with_reducible first | exact HB.out | apply zE | apply zC | apply zD) | exact HB.out)⟩
       ·rw [if_neg c16] at H
        have c16b0 : (a2 == 0) = false := zm.mpr c16
        have c16b1 : (a2 != 0) = true := bne_iff_ne.mpr c16
        have H' := zA H
        clear H
        have p136 : 0 ≤ (a1 : Int) := zF (by first | (with_reducible assumption) | assumption)
        have q136 : a1 < (l0.length : Int) := zF (by first | (with_reducible assumption) | assumption)
        obtain ⟨ad136, A136_2, c136_2, e136, hx136_0, hx136_1, hx136_2, hx136_3, hl136_2, hi136_2⟩ := at_T57 HR0.out a1 p136 q136
        cases e136
        replace hx136_0 := (HB.out.cell (zk? w _ hx136_0)).trans hx136_0
        replace hx136_1 := (HB.out.cell (zk? w _ hx136_1)).trans hx136_1
        replace hx136_2 := (HB.out.cell (zk? w _ hx136_2)).trans hx136_2
        replace hx136_3 := (HB.out.cell (zk? w _ hx136_3)).trans hx136_3
        have HR136_2 := zA hi136_2
        have HC136_2 := zA hl136_2
        clear hi136_2 hl136_2
        replace p136 := eq_true p136
        replace q136 := eq_true q136
        go_wp2
        go_loopg [7, 8] kj3 (fun kq v7 v8 w' => ∃ (x7_2 : Int) (x8_2 : Int), v7 = .int .i64 x7_2 ∧ v8 = .int .i64 x8_2 ∧ Aside0 (spec_l1end.l0 kq l0 a1 a2 x7_2 x8_2 = some r) ∧ Aside0 (kq ≤ kj3) ∧ Aside0 (Below w.heap.size w w'))
        case atStart => exact ⟨(wrap64 (a1 + 1)), (0), (by first | rfl | (simp; done) | (simp [*]; done)), (by first | rfl | (simp; done) | (simp [*]; done)), H', ⟨Nat.le_refl _⟩, ⟨by repeat (first | (with_reducible first | exact HB.out | apply zE | apply zC | apply zD) | exact HB.out)⟩⟩
        case round =>
         clear H'
         try clear c1
         try clear p1
         try clear q1
         try clear hx1
         try clear p2
         try clear c3
         try clear c5
         try clear c5b0
         try clear c6
         try clear c6b0
         try clear p6
         try clear c7
         try clear c7b0
         try clear c9
         try clear c12
         try clear c13
         try clear c13b0
         try clear p13
         try clear q13
         try clear hx13
         try clear c14
         try clear c14b0
         try clear c15
         try clear c15b0
         try clear c15b1
         try clear c16
         try clear c16b0
         try clear c16b1
         try clear hx133_0
         try clear hx133_1
         try clear hx133_2
         try clear hx133_3
         try clear hx135_0
         try clear hx135_1
         try clear hx135_2
         try clear hx135_3
         try clear hx136_0
         try clear hx136_1
         try clear hx136_2
         try clear hx136_3
         try clear p1
         try clear p133
         try clear p135
         try clear p136
         try clear p2
         try clear q1
         try clear q133
         try clear q135
         try clear q136
         obtain ⟨x7_2, x8_2, rfl, rfl, HA, HK2, HB⟩ := hrel
         cases gk with
         | zero => exact absurd HA.out (by simp [spec_l1end.l0])
         | succ k2 =>
          have H := HA.out
          clear HA
          simp only [spec_l1end.l0] at H
          by_cases c17 : 0 ≤ a1
          ·rw [if_pos c17] at H
           have c17b0 : decide (0 ≤ a1) = true := zG c17
           clear c17
           by_cases c18 : a1 < (l0.length : Int)
           ·rw [if_pos c18] at H
            have c18b0 : decide (a1 < (l0.length : Int)) = true := zG c18
            clear c18
            by_cases c19 : x8_2 < ((rd_T57 l0 a1).f3)
            ·rw [if_pos c19] at H
             have c19b0 : decide (x8_2 < ((rd_T57 l0 a1).f3)) = true := zG c19
             clear c19
             replace H := zo.mp H
             obtain ⟨t138, A200, H⟩ := H
             replace H : (if t138 < 0 then (some (-1)) else (spec_l1end.l0 k2 l0 a1 a2 t138 (wrap64 (x8_2 + 1)))) = some r := H
             have A20 := zA A200
             clear A200
             by_cases c21 : t138 < 0
             ·rw [if_pos c21] at H
              have c21b0 : decide (t138 < 0) = true := zG c21
              clear c21
              obtain rfl := zl H
              have p137 : 0 ≤ (a1 : Int) := zF (by first | (with_reducible assumption) | assumption)
              have q137 : a1 < (l0.length : Int) := zF (by first | (with_reducible assumption) | assumption)
              obtain ⟨ad137, A137_2, c137_2, e137, hx137_0, hx137_1, hx137_2, hx137_3, hl137_2, hi137_2⟩ := at_T57 HR0.out a1 p137 q137
              obtain rfl : ad136 = ad137 := (by injection e137)
              replace hx137_0 := (HB.out.cell (zk? w _ hx137_0)).trans hx137_0
              replace hx137_1 := (HB.out.cell (zk? w _ hx137_1)).trans hx137_1
              replace hx137_2 := (HB.out.cell (zk? w _ hx137_2)).trans hx137_2
              replace hx137_3 := (HB.out.cell (zk? w _ hx137_3)).trans hx137_3
              have HR137_2 := zA hi137_2
              have HC137_2 := zA hl137_2
              clear hi137_2 hl137_2
              replace p137 := eq_true p137
              replace q137 := eq_true q137
              go_wp2_with (first | ((with_reducible refine gate_callee (f := 32) rfl ?_); refine goesL_ (some 56) rfl rfl Tryd.func32 (by kernel_rfl) rfl #[.slice (some ad136) l0.length c0, .int .i64 x7_2, .int .i64 (wrap64 (a2 - 1))] rfl (by (try simp only [List.map_toArray, List.map_cons, List.map_nil]); first | done | rfl | (simp only [List.length_drop, List.length_take]; rfl)) ?_; (with_reducible refine (ih k2 (by have := HJ3.out; have := HK2.out; omega) _ _ l0 x7_2 (wrap64 (a2 - 1)) t138 _ ?side1 ?side2 A20.out).mono ?_); (case side1 => repeat (first | exact (Kd.C_below HR0.out HB.out) | (with_reducible refine zc ?_ _) | (with_reducible refine zd ?_ _) | (with_reducible refine ze ?_))); (case side2 => exact HC0.out); rintro e w22 ⟨rfl, hb⟩; refine ⟨_, rfl, ?_⟩; have n0_ := zA (zX (by repeat (first | (with_reducible first | exact HB.out | apply zE | apply zC | apply zD) | exact HB.out)) hb); clear HB; have HB := n0_; clear n0_; (try clear hb); (try clear hb2); (try clear hk); (try clear hi)))
              go_ret
              exact ⟨by first | rfl | (simp [errW_none, errW_some] <;> rfl) | (simp [*, errW_none, errW_some] <;> rfl), by repeat (first | (with_reducible first | exact HB.out | apply zE | apply zC | apply zD) | exact HB.out)⟩
             ·rw [if_neg c21] at H
              have c21b0 : decide (t138 < 0) = false := zH c21
              clear c21
              have H' := zA H
              clear H
              have p137 : 0 ≤ (a1 : Int) := zF (by first | (with_reducible assumption) | assumption)
              have q137 : a1 < (l0.length : Int) := zF (by first | (with_reducible assumption) | assumption)
              obtain ⟨ad137, A137_2, c137_2, e137, hx137_0, hx137_1, hx137_2, hx137_3, hl137_2, hi137_2⟩ := at_T57 HR0.out a1 p137 q137
              obtain rfl : ad136 = ad137 := (by injection e137)
              replace hx137_0 := (HB.out.cell (zk? w _ hx137_0)).trans hx137_0
              replace hx137_1 := (HB.out.cell (zk? w _ hx137_1)).trans hx137_1
              replace hx137_2 := (HB.out.cell (zk? w _ hx137_2)).trans hx137_2
              replace hx137_3 := (HB.out.cell (zk? w _ hx137_3)).trans hx137_3
              have HR137_2 := zA hi137_2
              have HC137_2 := zA hl137_2
              clear hi137_2 hl137_2
              replace p137 := eq_true p137
              replace q137 := eq_true q137
              go_wp2_with (first | ((with_reducible refine gate_callee (f := 32) rfl ?_); refine goesL_ (some 56) rfl rfl Tryd.func32 (by kernel_rfl) rfl #[.slice (some ad136) l0.length c0, .int .i64 x7_2, .int .i64 (wrap64 (a2 - 1))] rfl (by (try simp only [List.map_toArray, List.map_cons, List.map_nil]); first | done | rfl | (simp only [List.length_drop, List.length_take]; rfl)) ?_; (with_reducible refine (ih k2 (by have := HJ3.out; have := HK2.out; omega) _ _ l0 x7_2 (wrap64 (a2 - 1)) t138 _ ?side1 ?side2 A20.out).mono ?_); (case side1 => repeat (first | exact (Kd.C_below HR0.out HB.out) | (with_reducible refine zc ?_ _) | (with_reducible refine zd ?_ _) | (with_reducible refine ze ?_))); (case side2 => exact HC0.out); rintro e w23 ⟨rfl, hb⟩; refine ⟨_, rfl, ?_⟩; have n0_ := zA (zX (by repeat (first | (with_reducible first | exact HB.out | apply zE | apply zC | apply zD) | exact HB.out)) hb); clear HB; have HB := n0_; clear n0_; (try clear hb); (try clear hb2); (try clear hk); (try clear hi)))
              go_roundg k2
              case measure => have := HJ3.out; have := HK2.out; omega
              case rel => exact ⟨(t138), (wrap64 (x8_2 + 1)), (by first | rfl | (simp; done) | (simp [*]; done)), (by first | rfl | (simp; done) | (simp [*]; done)), H', ⟨by have := HJ3.out; have := HK2.out; omega⟩, ⟨by repeat (first | (with_reducible first | exact HB.out | apply zE | apply zC | apply zD) | exact HB.out)⟩⟩
            ·rw [if_neg c19] at H
             have c19b0 : decide (x8_2 < ((rd_T57 l0 a1).f3)) = false := zH c19
             clear c19
             obtain rfl := zl H
             have p137 : 0 ≤ (a1 : Int) := zF (by first | (with_reducible assumption) | assumption)
             have q137 : a1 < (l0.length : Int) := zF (by first | (with_reducible assumption) | assumption)
             obtain ⟨ad137, A137_2, c137_2, e137, hx137_0, hx137_1, hx137_2, hx137_3, hl137_2, hi137_2⟩ := at_T57 HR0.out a1 p137 q137
             obtain rfl : ad136 = ad137 := (by injection e137)
             replace hx137_0 := (HB.out.cell (zk? w _ hx137_0)).trans hx137_0
             replace hx137_1 := (HB.out.cell (zk? w _ hx137_1)).trans hx137_1
             replace hx137_2 := (HB.out.cell (zk? w _ hx137_2)).trans hx137_2
             replace hx137_3 := (HB.out.cell (zk? w _ hx137_3)).trans hx137_3
             have HR137_2 := zA hi137_2
             have HC137_2 := zA hl137_2
             clear hi137_2 hl137_2
             replace p137 := eq_true p137
             replace q137 := eq_true q137
             go_wp2
             go_ret
             exact ⟨by first | rfl | (simp [errW_none, errW_some] <;> rfl) | (simp [*, errW_none, errW_some] <;> rfl), by repeat (first | (with_reducible first | exact HB.out | apply zE | apply zC | apply zD) | exact HB.out)⟩
           ·rw [if_neg c18] at H
            exact absurd H (by simp)
          ·rw [if_neg c17] at H
           exact absurd H (by simp)
      ·rw [if_neg c15] at H
       have c15b0 : (((rd_T57 l0 a1).f0) == 3) = false := zm.mpr c15
       have c15b1 : (((rd_T57 l0 a1).f0) != 3) = true := bne_iff_ne.mpr c15
       obtain rfl := zl H
       have p136 : 0 ≤ (a1 : Int) := zF (by first | (with_reducible assumption) | assumption)
       have q136 : a1 < (l0.length : Int) := zF (by first | (with_reducible assumption) | assumption)
       obtain ⟨ad136, A136_2, c136_2, e136, hx136_0, hx136_1, hx136_2, hx136_3, hl136_2, hi136_2⟩ := at_T57 HR0.out a1 p136 q136
       cases e136
       replace hx136_0 := (HB.out.cell (zk? w _ hx136_0)).trans hx136_0
       replace hx136_1 := (HB.out.cell (zk? w _ hx136_1)).trans hx136_1
       replace hx136_2 := (HB.out.cell (zk? w _ hx136_2)).trans hx136_2
       replace hx136_3 := (HB.out.cell (zk? w _ hx136_3)).trans hx136_3
       have HR136_2 := zA hi136_2
       have HC136_2 := zA hl136_2
       clear hi136_2 hl136_2
       replace p136 := eq_true p136
       replace q136 := eq_true q136
       go_wp2
       go_ret
       exact ⟨by first | rfl | (simp [errW_none, errW_some] <;> rfl) | (simp [*, errW_none, errW_some] <;> rfl), by repeat (first | (with_reducible first | exact HB.out | apply zE | apply zC | apply zD) | exact HB.out)⟩
     ·rw [if_neg c14] at H
      exact absurd H (by simp)
    ·rw [if_neg c13] at H
     exact absurd H (by simp)
def spec_ValidData.l0 : Nat → List (S57) → Int → Option (Bool)
 | 0, _, _ => none
 | k + 1, x0, x3 => if x3 < (x0.length : Int) then ((spec_l1end.f k x0 x3 100).bind fun t139 => (if t139 < 0 then (some false) else (spec_ValidData.l0 k x0 t139))) else (some true)
def spec_ValidData.f (k : Nat) (l0 : List (S57)) : Option (Bool) := if (l0.length : Int) > 3000 then (some false) else (spec_ValidData.l0 k l0 0)
theorem spec_ValidData.mono_l : ∀ k, (∀ y0 y1, LeO (spec_ValidData.l0 k y0 y1) (spec_ValidData.l0 (k + 1) y0 y1))
 | 0 => fun _ _ r h => by simp [spec_ValidData.l0] at h
 | k + 1 => by
  have ih0 := spec_ValidData.mono_l k
  ·intro y0 y1
   unfold spec_ValidData.l0
   repeat' first
   | (with_reducible exact ih0 _ _)
   | (with_reducible exact spec_l1end.mono _ _ _ _)
   | (with_reducible exact LeO.refl _)
   | (with_reducible exact LeO.none _)
   | (with_reducible refine LeO.ite ?_ ?_)
   | (with_reducible refine LeO.bind ?_ (fun _ => ?_))
   | exact ih0 _ _
   | exact spec_l1end.mono _ _ _ _
   | exact LeO.none _
   | refine LeO.ite ?_ ?_
   | refine LeO.bind ?_ (fun _ => ?_)
theorem spec_ValidData.mono : ∀ a0 k, LeO (spec_ValidData.f k a0) (spec_ValidData.f (k + 1) a0) := by
 intro a0 k
 have ih0 := spec_ValidData.mono_l k
 unfold spec_ValidData.f
 repeat' first
   | (with_reducible exact ih0 _ _)
   | (with_reducible exact spec_l1end.mono _ _ _ _)
   | (with_reducible exact LeO.refl _)
   | (with_reducible exact LeO.none _)
   | (with_reducible refine LeO.ite ?_ ?_)
   | (with_reducible refine LeO.bind ?_ (fun _ => ?_))
   | exact ih0 _ _
   | exact spec_l1end.mono _ _ _ _
   | exact LeO.none _
   | refine LeO.ite ?_ ?_
   | refine LeO.bind ?_ (fun _ => ?_)
theorem spec_ValidData.calls (k : Nat) (A0 : Option Addr) (c0 : Nat) (l0 : List (S57)) (r : Bool) (w : World) (hr0 : Kd.C k57 w A0 l0.length l0) (hc0 : l0.length ≤ c0) (h : spec_ValidData.f k l0 = some r) :
  Calls Tryd.prog 9 #[.slice A0 l0.length c0] w fun e w' => e = .returned (.bool r) ∧ Below w.heap.size w w' := by
 have HR0 := zA hr0
 have HC0 := zA hc0
 clear hr0 hc0
 have HB := zA (Below.refl w.heap.size w)
 have H : (if (l0.length : Int) > 3000 then (some false) else (spec_ValidData.l0 k l0 0)) = some r := h
 clear h
 by_cases c2 : (l0.length : Int) > 3000
 ·rw [if_pos c2] at H
  have c2b0 : decide (3000 < (l0.length : Int)) = true := zG c2
  have c2b1 : decide (3000 < l0.length) = true := zG (by omega)
  clear c2
  obtain rfl := zl H
  go_enter Tryd.func9, Tryd.ntmps9
  go_wp2
  go_ret
  exact ⟨by first | rfl | (simp [errW_none, errW_some] <;> rfl) | (simp [*, errW_none, errW_some] <;> rfl), by repeat (first | (with_reducible first | exact HB.out | apply zE | apply zC | apply zD) | exact HB.out)⟩
 ·rw [if_neg c2] at H
  have c2b0 : decide (3000 < (l0.length : Int)) = false := zH c2
  have c2b1 : decide (3000 < l0.length) = false := zH (by omega)
  clear c2
  have H' := zA H
  clear H
  go_enter Tryd.func9, Tryd.ntmps9
  go_wp2
  go_loopg [3] k (fun kq v3 w' => ∃ (x3_1 : Int), v3 = .int .i64 x3_1 ∧ Aside0 (spec_ValidData.l0 kq l0 x3_1 = some r) ∧ Aside0 (kq ≤ k) ∧ Aside0 (Below w.heap.size w w'))
  case atStart => exact ⟨(0), (by first | rfl | (simp; done) | (simp [*]; done)), H', ⟨Nat.le_refl _⟩, ⟨by repeat (first | (with_reducible first | exact HB.out | apply zE | apply zC | apply zD) | exact HB.out)⟩⟩
  case round =>
   clear H'
   try clear c2
   try clear c2b0
   try clear c2b1
   try clear p2
   obtain ⟨x3_1, rfl, HA, HK1, HB⟩ := hrel
   cases gk with
   | zero => exact absurd HA.out (by simp [spec_ValidData.l0])
   | succ k1 =>
    have H := HA.out
    clear HA
    simp only [spec_ValidData.l0] at H
    by_cases c3 : x3_1 < (l0.length : Int)
    ·rw [if_pos c3] at H
     have c3b0 : decide (x3_1 < (l0.length : Int)) = true := zG c3
     clear c3
     replace H := zo.mp H
     obtain ⟨t139, A40, H⟩ := H
     replace H : (if t139 < 0 then (some false) else (spec_ValidData.l0 k1 l0 t139)) = some r := H
     have A4 := zA A40
     clear A40
     by_cases c5 : t139 < 0
     ·rw [if_pos c5] at H
      have c5b0 : decide (t139 < 0) = true := zG c5
      clear c5
      obtain rfl := zl H
      go_wp2_with (first | ((with_reducible refine gate_callee (f := 32) rfl ?_); refine goesL_ (some 13) rfl rfl Tryd.func32 (by kernel_rfl) rfl #[.slice A0 l0.length c0, .int .i64 x3_1, .int .i64 100] rfl (by (try simp only [List.map_toArray, List.map_cons, List.map_nil]); first | done | rfl | (simp only [List.length_drop, List.length_take]; rfl)) ?_; (with_reducible refine (spec_l1end.calls k1 _ _ l0 x3_1 100 t139 _ ?side1 ?side2 A4.out).mono ?_); (case side1 => repeat (first | exact (Kd.C_below HR0.out HB.out) | (with_reducible refine zc ?_ _) | (with_reducible refine zd ?_ _) | (with_reducible refine ze ?_))); (case side2 => exact HC0.out); rintro e w6 ⟨rfl, hb⟩; refine ⟨_, rfl, ?_⟩; have n0_ := zA (zX (by repeat (first | (with_reducible first | exact HB.out | apply zE | apply zC | apply zD) | exact HB.out)) hb); clear HB; have HB := n0_; clear n0_; (try clear hb); (try clear hb2); (try clear hk); (try clear hi)))
      go_ret
      exact ⟨by first | rfl | (simp [errW_none, errW_some] <;> rfl) | (simp [*, errW_none, errW_some] <;> rfl), by repeat (first | (with_reducible first | exact HB.out | apply zE | apply zC | apply zD) | exact HB.out)⟩
     ·rw [if_neg c5] at H
      have c5b0 : decide (t139 < 0) = false := zH c5
      clear c5
      have H' := zA H
      clear H
      go_wp2_with (first | ((with_reducible refine gate_callee (f := 32) rfl ?_); refine goesL_ (some 13) rfl rfl Tryd.func32 (by kernel_rfl) rfl #[.slice A0 l0.length c0, .int .i64 x3_1, .int .i64 100] rfl (by (try simp only [List.map_toArray, List.map_cons, List.map_nil]); first | done | rfl | (simp only [List.length_drop, List.length_take]; rfl)) ?_; (with_reducible refine (spec_l1end.calls k1 _ _ l0 x3_1 100 t139 _ ?side1 ?side2 A4.out).mono ?_); (case side1 => repeat (first | exact (Kd.C_below HR0.out HB.out) | (with_reducible refine zc ?_ _) | (with_reducible refine zd ?_ _) | (with_reducible refine ze ?_))); (case side2 => exact HC0.out); rintro e w7 ⟨rfl, hb⟩; refine ⟨_, rfl, ?_⟩; have n0_ := zA (zX (by repeat (first | (with_reducible first | exact HB.out | apply zE | apply zC | apply zD) | exact HB.out)) hb); clear HB; have HB := n0_; clear n0_; (try clear hb); (try clear hb2); (try clear hk); (try clear hi)))
      go_roundg k1
      case measure => have := HK1.out; omega
      case rel => exact ⟨(t139), (by first | rfl | (simp; done) | (simp [*]; done)), H', ⟨by have := HK1.out; omega⟩, ⟨by repeat (first | (with_reducible first | exact HB.out | apply zE | apply zC | apply zD) | exact HB.out)⟩⟩
    ·rw [if_neg c3] at H
     have c3b0 : decide (x3_1 < (l0.length : Int)) = false := zH c3
     clear c3
     obtain rfl := zl H
     go_wp2
     go_ret
     exact ⟨by first | rfl | (simp [errW_none, errW_some] <;> rfl) | (simp [*, errW_none, errW_some] <;> rfl), by repeat (first | (with_reducible first | exact HB.out | apply zE | apply zC | apply zD) | exact HB.out)⟩
end Go.Proofs.YtogmphjhdkgdjaaDoor.QFnExactValidModule
