import Derived.Test.YtogmphjhdkgdjaaDoorZQFnExactValidModulex0
import Derived.Test.YtogmphjhdkgdjaaDoorZHandIns
namespace Go.Proofs.YtogmphjhdkgdjaaDoor.QFnExactValidModule
set_option maxHeartbeats 8000000
set_option maxRecDepth 100000
open Go.RowKit Go.Proofs.YtogmphjhdkgdjaaDoorW.PrintWords Go.Proofs.YtogmphjhdkgdjaaDoorW.PrintLast Go.Proofs.YtogmphjhdkgdjaaDoorW.PrintMore
attribute [local go_sem] max2_int min2_int max_two min_two max_three min_three max_four min_four
set_option linter.unusedVariables false
set_option linter.unusedSimpArgs false
def impl_within.f (a0 : Int) (a1 : Int) (a2 : Int) : Option (Bool) := if a0 ≥ a1 then (some (decide (a0 ≤ a2))) else (some false)
theorem impl_within.calls (a0 : Int) (a1 : Int) (a2 : Int) (r : Bool) (w : World) (h : impl_within.f a0 a1 a2 = some r) :
  Calls Tryd.prog 42 #[.int .i64 a0, .int .i64 a1, .int .i64 a2] w fun e w' => e = .returned (.bool r) ∧ Drawn0 w w' := by
 have H : (if a0 ≥ a1 then (some (decide (a0 ≤ a2))) else (some false)) = some r := h
 clear h
 by_cases c4 : a0 ≥ a1
 ·rw [if_pos c4] at H
  have c4b0 : decide (a1 ≤ a0) = true := zG c4
  clear c4
  obtain rfl := zl H
  go_enter Tryd.func42, Tryd.ntmps42
  go_wp2
  go_ret
  exact ⟨by first | rfl | (simp; done) | (simp [*]; done), by repeat (first | exact Drawn0.refl _ | apply Drawn0.step)⟩
 ·rw [if_neg c4] at H
  have c4b0 : decide (a1 ≤ a0) = false := zH c4
  clear c4
  obtain rfl := zl H
  go_enter Tryd.func42, Tryd.ntmps42
  go_wp2
  go_ret
  exact ⟨by first | rfl | (simp; done) | (simp [*]; done), by repeat (first | exact Drawn0.refl _ | apply Drawn0.step)⟩
def impl_smallInt.f (a0 : Int) : Option (Bool) := if a0 ≥ (-2305843009213693952) then (some (decide (a0 ≤ 2305843009213693951))) else (some false)
theorem impl_smallInt.calls (a0 : Int) (r : Bool) (w : World) (h : impl_smallInt.f a0 = some r) :
  Calls Tryd.prog 65 #[.int .i64 a0] w fun e w' => e = .returned (.bool r) ∧ Drawn0 w w' := by
 have H : (if a0 ≥ (-2305843009213693952) then (some (decide (a0 ≤ 2305843009213693951))) else (some false)) = some r := h
 clear h
 by_cases c2 : a0 ≥ (-2305843009213693952)
 ·rw [if_pos c2] at H
  have c2b0 : decide ((-2305843009213693952) ≤ a0) = true := zG c2
  clear c2
  obtain rfl := zl H
  go_enter Tryd.func65, Tryd.ntmps65
  go_wp2
  go_ret
  exact ⟨by first | rfl | (simp; done) | (simp [*]; done), by repeat (first | exact Drawn0.refl _ | apply Drawn0.step)⟩
 ·rw [if_neg c2] at H
  have c2b0 : decide ((-2305843009213693952) ≤ a0) = false := zH c2
  clear c2
  obtain rfl := zl H
  go_enter Tryd.func65, Tryd.ntmps65
  go_wp2
  go_ret
  exact ⟨by first | rfl | (simp; done) | (simp [*]; done), by repeat (first | exact Drawn0.refl _ | apply Drawn0.step)⟩
def impl_isDigit.f (a0 : Int) : Option (Bool) := if a0 ≥ 48 then (some (decide (a0 ≤ 57))) else (some false)
theorem impl_isDigit.calls (a0 : Int) (r : Bool) (w : World) (h : impl_isDigit.f a0 = some r) :
  Calls Tryd.prog 95 #[.int .u8 a0] w fun e w' => e = .returned (.bool r) ∧ Drawn0 w w' := by
 have H : (if a0 ≥ 48 then (some (decide (a0 ≤ 57))) else (some false)) = some r := h
 clear h
 by_cases c2 : a0 ≥ 48
 ·rw [if_pos c2] at H
  have c2b0 : decide (48 ≤ a0) = true := zG c2
  clear c2
  obtain rfl := zl H
  go_enter Tryd.func95, Tryd.ntmps95
  go_wp2
  go_ret
  exact ⟨by first | rfl | (simp; done) | (simp [*]; done), by repeat (first | exact Drawn0.refl _ | apply Drawn0.step)⟩
 ·rw [if_neg c2] at H
  have c2b0 : decide (48 ≤ a0) = false := zH c2
  clear c2
  obtain rfl := zl H
  go_enter Tryd.func95, Tryd.ntmps95
  go_wp2
  go_ret
  exact ⟨by first | rfl | (simp; done) | (simp [*]; done), by repeat (first | exact Drawn0.refl _ | apply Drawn0.step)⟩
def impl_isNumber.f (a0 : ByteArray) : Option (Bool) := (impl_digitsOnly.f a0).bind fun t250 => (if t250 = true then (some true) else (if a0.toList = ([] : List UInt8) then (some false) else (if 0 < (a0.size : Int) then (if (bt a0 0) = 45 then (if 1 ≤ (a0.size : Int) then ((impl_digitsOnly.f (a0.extract 1 a0.size)).bind fun t251 => (some t251)) else (none)) else (some false)) else (none))))
theorem impl_isNumber.calls (a0 : ByteArray) (r : Bool) (w : World) (h : impl_isNumber.f a0 = some r) :
  Calls Tryd.prog 96 #[.string a0] w fun e w' => e = .returned (.bool r) ∧ Below w.heap.size w w' := by
 have HB := zA (Below.refl w.heap.size w)
 have H : ((impl_digitsOnly.f a0).bind fun t250 => (if t250 = true then (some true) else (if a0.toList = ([] : List UInt8) then (some false) else (if 0 < (a0.size : Int) then (if (bt a0 0) = 45 then (if 1 ≤ (a0.size : Int) then ((impl_digitsOnly.f (a0.extract 1 a0.size)).bind fun t251 => (some t251)) else (none)) else (some false)) else (none))))) = some r := h
 clear h
 replace H := zo.mp H
 obtain ⟨t250, A20, H⟩ := H
 replace H : (if t250 = true then (some true) else (if a0.toList = ([] : List UInt8) then (some false) else (if 0 < (a0.size : Int) then (if (bt a0 0) = 45 then (if 1 ≤ (a0.size : Int) then ((impl_digitsOnly.f (a0.extract 1 a0.size)).bind fun t251 => (some t251)) else (none)) else (some false)) else (none)))) = some r := H
 have A2 := zA A20
 clear A20
 by_cases c3 : t250 = true
 ·subst c3
  have H1 : (some true) = some r := by rw [if_pos rfl] at H; exact H
  clear H
  have H := H1
  clear H1
  obtain rfl := zl H
  go_enter Tryd.func96, Tryd.ntmps96
  go_wp2_with (first | ((with_reducible refine gate_callee (f := 111) rfl ?_); refine goesL_ (some 4) rfl rfl Tryd.func111 (by kernel_rfl) rfl #[.string a0] rfl (by (try simp only [List.map_toArray, List.map_cons, List.map_nil]); first | done | rfl | (simp only [List.length_drop, List.length_take]; rfl)) ?_; (with_reducible refine (impl_digitsOnly.calls a0 true _ A2.out).mono ?_); rintro e w4 ⟨rfl, hb⟩; refine ⟨_, rfl, ?_⟩; have n0_ := zA (zX (by repeat (first | (with_reducible first | exact HB.out | apply zE | apply zC | apply zD) | exact HB.out)) hb); clear HB; have HB := n0_; clear n0_; (try clear hb); (try clear hb2); (try clear hk); (try clear hi)))
  go_ret
  exact ⟨by first | rfl | (simp [errW_none, errW_some] <;> rfl) | (simp [*, errW_none, errW_some] <;> rfl), by repeat (first | (with_reducible first | exact HB.out | apply zE | apply zC | apply zD) | exact HB.out)⟩
 ·replace c3 := zp.mpr c3
  subst c3
  have H1 : (if a0.toList = ([] : List UInt8) then (some false) else (if 0 < (a0.size : Int) then (if (bt a0 0) = 45 then (if 1 ≤ (a0.size : Int) then ((impl_digitsOnly.f (a0.extract 1 a0.size)).bind fun t251 => (some t251)) else (none)) else (some false)) else (none))) = some r := by rw [if_neg (show ¬ (false = true) by decide)] at H; exact H
  clear H
  have H := H1
  clear H1
  by_cases c5 : a0.toList = ([] : List UInt8)
  ·rw [if_pos c5] at H
   have c5b0 : (a0.toList == ([] : List UInt8)) = true := beq_iff_eq.mpr c5
   have c5b1 : (a0.toList != ([] : List UInt8)) = false := zn.mpr c5
   clear c5
   obtain rfl := zl H
   go_enter Tryd.func96, Tryd.ntmps96
   go_wp2_with (first | ((with_reducible refine gate_callee (f := 111) rfl ?_); refine goesL_ (some 4) rfl rfl Tryd.func111 (by kernel_rfl) rfl #[.string a0] rfl (by (try simp only [List.map_toArray, List.map_cons, List.map_nil]); first | done | rfl | (simp only [List.length_drop, List.length_take]; rfl)) ?_; (with_reducible refine (impl_digitsOnly.calls a0 false _ A2.out).mono ?_); rintro e w6 ⟨rfl, hb⟩; refine ⟨_, rfl, ?_⟩; have n0_ := zA (zX (by repeat (first | (with_reducible first | exact HB.out | apply zE | apply zC | apply zD) | exact HB.out)) hb); clear HB; have HB := n0_; clear n0_; (try clear hb); (try clear hb2); (try clear hk); (try clear hi)))
   go_ret
   exact ⟨by first | rfl | (simp [errW_none, errW_some] <;> rfl) | (simp [*, errW_none, errW_some] <;> rfl), by repeat (first | (with_reducible first | exact HB.out | apply zE | apply zC | apply zD) | exact HB.out)⟩
  ·rw [if_neg c5] at H
   have c5b0 : (a0.toList == ([] : List UInt8)) = false := zm.mpr c5
   have c5b1 : (a0.toList != ([] : List UInt8)) = true := bne_iff_ne.mpr c5
   by_cases c7 : 0 < (a0.size : Int)
   ·rw [if_pos c7] at H
    have c7b0 : decide (0 < (a0.size : Int)) = true := zG c7
    have c7b1 : decide (0 < a0.size) = true := zG (by omega)
    clear c7
    by_cases c9 : (bt a0 0) = 45
    ·rw [if_pos c9] at H
     have c9b0 : ((bt a0 0) == 45) = true := beq_iff_eq.mpr c9
     have c9b1 : ((bt a0 0) != 45) = false := zn.mpr c9
     clear c9
     by_cases c10 : 1 ≤ (a0.size : Int)
     ·rw [if_pos c10] at H
      have c10b0 := eq_true c10
      have c10b1 : decide (1 ≤ (a0.size : Int)) = true := zG c10
      clear c10
      replace H := zo.mp H
      obtain ⟨t251, A110, H⟩ := H
      replace H : (some t251) = some r := H
      have A11 := zA A110
      clear A110
      obtain rfl := zl H
      go_enter Tryd.func96, Tryd.ntmps96
      go_wp2_with (first | ((with_reducible refine gate_callee (f := 111) rfl ?_); refine goesL_ (some 4) rfl rfl Tryd.func111 (by kernel_rfl) rfl #[.string a0] rfl (by (try simp only [List.map_toArray, List.map_cons, List.map_nil]); first | done | rfl | (simp only [List.length_drop, List.length_take]; rfl)) ?_; (with_reducible refine (impl_digitsOnly.calls a0 false _ A2.out).mono ?_); rintro e w12 ⟨rfl, hb⟩; refine ⟨_, rfl, ?_⟩; have n0_ := zA (zX (by repeat (first | (with_reducible first | exact HB.out | apply zE | apply zC | apply zD) | exact HB.out)) hb); clear HB; have HB := n0_; clear n0_; (try clear hb); (try clear hb2); (try clear hk); (try clear hi); have p8 : 0 ≤ (0 : Int) := (by omega); have q8 : 0 < a0.size := (by have : (0 : Int) < (a0.size : Int) := zF (by first | (with_reducible assumption) | assumption); omega); have hx8 : ∀ h : 0 < a0.size, ((a0[0]'h).toNat : Int) = bt a0 0 := bt_at a0 0; clear p8; have qi8 : (0 < (a0.size : Int)) = True := eq_true (zF (by first | (with_reducible assumption) | assumption)); replace q8 := eq_true q8) | (go_at_call 111; (with_reducible refine (impl_digitsOnly.calls (a0.extract 1 a0.size) t251 _ A11.out).mono ?_); rintro e w13 ⟨rfl, hb⟩; have n0_ := zA (zX (by repeat (first | (with_reducible first | exact HB.out | apply zE | apply zC | apply zD) | exact HB.out)) hb); clear HB; have HB := n0_; clear n0_; (try clear hb); (try clear hb2); (try clear hk); (try clear hi)))
      go_ret
      exact ⟨by first | rfl | (simp [errW_none, errW_some] <;> rfl) | (simp [*, errW_none, errW_some] <;> rfl), by repeat (first | (with_reducible first | exact HB.out | apply zE | apply zC | apply zD) | exact HB.out)⟩
     ·rw [if_neg c10] at H
      exact absurd H (by simp)
    ·rw [if_neg c9] at H
     have c9b0 : ((bt a0 0) == 45) = false := zm.mpr c9
     have c9b1 : ((bt a0 0) != 45) = true := bne_iff_ne.mpr c9
     obtain rfl := zl H
     go_enter Tryd.func96, Tryd.ntmps96
     go_wp2_with (first | ((with_reducible refine gate_callee (f := 111) rfl ?_); refine goesL_ (some 4) rfl rfl Tryd.func111 (by kernel_rfl) rfl #[.string a0] rfl (by (try simp only [List.map_toArray, List.map_cons, List.map_nil]); first | done | rfl | (simp only [List.length_drop, List.length_take]; rfl)) ?_; (with_reducible refine (impl_digitsOnly.calls a0 false _ A2.out).mono ?_); rintro e w14 ⟨rfl, hb⟩; refine ⟨_, rfl, ?_⟩; have n0_ := zA (zX (by repeat (first | (with_reducible first | exact HB.out | apply zE | apply zC | apply zD) | exact HB.out)) hb); clear HB; have HB := n0_; clear n0_; (try clear hb); (try clear hb2); (try clear hk); (try clear hi); have p8 : 0 ≤ (0 : Int) := (by omega); have q8 : 0 < a0.size := (by have : (0 : Int) < (a0.size : Int) := zF (by first | (with_reducible assumption) | assumption); omega); have hx8 : ∀ h : 0 < a0.size, ((a0[0]'h).toNat : Int) = bt a0 0 := bt_at a0 0; clear p8; have qi8 : (0 < (a0.size : Int)) = True := eq_true (zF (by first | (with_reducible assumption) | assumption)); replace q8 := eq_true q8))
     go_ret
     exact ⟨by first | rfl | (simp [errW_none, errW_some] <;> rfl) | (simp [*, errW_none, errW_some] <;> rfl), by repeat (first | (with_reducible first | exact HB.out | apply zE | apply zC | apply zD) | exact HB.out)⟩
   ·rw [if_neg c7] at H
    exact absurd H (by simp)
mutual
def impl_symbolOk.j0 : Nat → List Int → Bool → Option (Bool)
 | 0, _, _ => none
 | k + 1, x0, x23 => if x23 = true then (some false) else (impl_symbolOk.l0 k x0 (x0.length : Int) 0)
def impl_symbolOk.l0 : Nat → List Int → Int → Int → Option (Bool)
 | 0, _, _, _ => none
 | k + 1, x24, x25, x26 => if x26 < x25 then (if 0 ≤ x26 then (if x26 < (x24.length : Int) then ((impl_isSymbolByte.f (rd x24 x26)).bind fun t256 => (if t256 = true then (impl_symbolOk.l0 k x24 x25 (wrap64 (x26 + 1))) else (some false))) else (none)) else (none)) else (some true)
end
def impl_symbolOk.f (k : Nat) (l0 : List Int) : Option (Bool) := if (l0.length : Int) < 1 then (impl_symbolOk.j0 k l0 true) else (if (l0.length : Int) > 100 then (impl_symbolOk.j0 k l0 true) else (if 0 < (l0.length : Int) then ((impl_isDigit.f (rd l0 0)).bind fun t253 => (if t253 = true then (impl_symbolOk.j0 k l0 true) else ((impl_isNumber.f (strOfNums l0)).bind fun t254 => (impl_symbolOk.j0 k l0 t254)))) else (none)))
theorem impl_symbolOk.mono_l : ∀ k, (∀ y0 y1, LeO (impl_symbolOk.j0 k y0 y1) (impl_symbolOk.j0 (k + 1) y0 y1)) ∧ (∀ y0 y1 y2, LeO (impl_symbolOk.l0 k y0 y1 y2) (impl_symbolOk.l0 (k + 1) y0 y1 y2))
 | 0 => ⟨fun _ _ r h => by simp [impl_symbolOk.j0] at h, fun _ _ _ r h => by simp [impl_symbolOk.l0] at h⟩
 | k + 1 => by
  obtain ⟨ih0, ih1⟩ := impl_symbolOk.mono_l k
  refine ⟨?_, ?_⟩
  ·intro y0 y1
   unfold impl_symbolOk.j0
   repeat' first
   | (with_reducible exact ih0 _ _)
   | (with_reducible exact ih1 _ _ _)
   | (with_reducible exact LeO.refl _)
   | (with_reducible exact LeO.none _)
   | (with_reducible refine LeO.ite ?_ ?_)
   | (with_reducible refine LeO.bind ?_ (fun _ => ?_))
   | exact ih0 _ _
   | exact ih1 _ _ _
   | exact LeO.none _
   | refine LeO.ite ?_ ?_
   | refine LeO.bind ?_ (fun _ => ?_)
  ·intro y0 y1 y2
   unfold impl_symbolOk.l0
   repeat' first
   | (with_reducible exact ih0 _ _)
   | (with_reducible exact ih1 _ _ _)
   | (with_reducible exact LeO.refl _)
   | (with_reducible exact LeO.none _)
   | (with_reducible refine LeO.ite ?_ ?_)
   | (with_reducible refine LeO.bind ?_ (fun _ => ?_))
   | exact ih0 _ _
   | exact ih1 _ _ _
   | exact LeO.none _
   | refine LeO.ite ?_ ?_
   | refine LeO.bind ?_ (fun _ => ?_)
theorem impl_symbolOk.mono : ∀ a0 k, LeO (impl_symbolOk.f k a0) (impl_symbolOk.f (k + 1) a0) := by
 intro a0 k
 obtain ⟨ih0, ih1⟩ := impl_symbolOk.mono_l k
 unfold impl_symbolOk.f
 repeat' first
   | (with_reducible exact ih0 _ _)
   | (with_reducible exact ih1 _ _ _)
   | (with_reducible exact LeO.refl _)
   | (with_reducible exact LeO.none _)
   | (with_reducible refine LeO.ite ?_ ?_)
   | (with_reducible refine LeO.bind ?_ (fun _ => ?_))
   | exact ih0 _ _
   | exact ih1 _ _ _
   | exact LeO.none _
   | refine LeO.ite ?_ ?_
   | refine LeO.bind ?_ (fun _ => ?_)
theorem impl_symbolOk.calls (k : Nat) (A0 : Option Addr) (c0 : Nat) (l0 : List Int) (r : Bool) (w : World) (hr0 : Kd.C (Kd.int .u8) w A0 l0.length l0) (hc0 : l0.length ≤ c0) (h : impl_symbolOk.f k l0 = some r) :
  Calls Tryd.prog 66 #[.slice A0 l0.length c0] w fun e w' => e = .returned (.bool r) ∧ Below w.heap.size w w' := by
 have HR0 := zA hr0
 have HC0 := zA hc0
 clear hr0 hc0
 have HB := zA (Below.refl w.heap.size w)
 have H : (if (l0.length : Int) < 1 then (impl_symbolOk.j0 k l0 true) else (if (l0.length : Int) > 100 then (impl_symbolOk.j0 k l0 true) else (if 0 < (l0.length : Int) then ((impl_isDigit.f (rd l0 0)).bind fun t253 => (if t253 = true then (impl_symbolOk.j0 k l0 true) else ((impl_isNumber.f (strOfNums l0)).bind fun t254 => (impl_symbolOk.j0 k l0 t254)))) else (none)))) = some r := h
 clear h
 have HC2 := zA H
 clear H
 go_enter Tryd.func66, Tryd.ntmps66
 go_upto_region 1 with (fail)
 go_cut [23] (fun v23 wc => ∃ (kq : Nat) (x23_1 : Bool), v23 = .bool x23_1 ∧ Aside0 (impl_symbolOk.j0 kq l0 x23_1 = some r) ∧ Aside0 (kq ≤ k) ∧ Aside0 (Below w.heap.size w wc))
 case first =>
  have H := HC2.out
  clear HC2
  by_cases c3 : (l0.length : Int) < 1
  ·rw [if_pos c3] at H
   have c3b0 : decide ((l0.length : Int) < 1) = true := zG c3
   have c3b1 : decide (l0.length < 1) = true := zG (by omega)
   clear c3
   (first | rw [c3b0] | (simp only [i64_w, i32_w]; rw [c3b0]) | skip)
   have H' := zA H
   clear H
   go_wp2
   go_meet
   case rel => exact ⟨_, (true), (by first | rfl | (simp; done) | (simp [*]; done)), H', ⟨by first | omega | exact Nat.le_refl _⟩, ⟨by repeat (first | (with_reducible first | exact HB.out | apply zE | apply zC | apply zD) | exact HB.out)⟩⟩
  ·rw [if_neg c3] at H
   have c3b0 : decide ((l0.length : Int) < 1) = false := zH c3
   have c3b1 : decide (l0.length < 1) = false := zH (by omega)
   clear c3
   (first | rw [c3b0] | (simp only [i64_w, i32_w]; rw [c3b0]) | skip)
   by_cases c4 : (l0.length : Int) > 100
   ·rw [if_pos c4] at H
    have c4b0 : decide (100 < (l0.length : Int)) = true := zG c4
    have c4b1 : decide (100 < l0.length) = true := zG (by omega)
    clear c4
    have H' := zA H
    clear H
    go_wp2
    go_meet
    case rel => exact ⟨_, (true), (by first | rfl | (simp; done) | (simp [*]; done)), H', ⟨by first | omega | exact Nat.le_refl _⟩, ⟨by repeat (first | (with_reducible first | exact HB.out | apply zE | apply zC | apply zD) | exact HB.out)⟩⟩
   ·rw [if_neg c4] at H
    have c4b0 : decide (100 < (l0.length : Int)) = false := zH c4
    have c4b1 : decide (100 < l0.length) = false := zH (by omega)
    clear c4
    by_cases c5 : 0 < (l0.length : Int)
    ·rw [if_pos c5] at H
     have c5b0 : decide (0 < (l0.length : Int)) = true := zG c5
     have c5b1 : decide (0 < l0.length) = true := zG (by omega)
     clear c5
     replace H := zo.mp H
     obtain ⟨t253, A60, H⟩ := H
     replace H : (if t253 = true then (impl_symbolOk.j0 k l0 true) else ((impl_isNumber.f (strOfNums l0)).bind fun t254 => (impl_symbolOk.j0 k l0 t254))) = some r := H
     have A6 := zA A60
     clear A60
     by_cases c7 : t253 = true
     ·subst c7
      have H1 : (impl_symbolOk.j0 k l0 true) = some r := by rw [if_pos rfl] at H; exact H
      clear H
      have H := H1
      clear H1
      have H' := zA H
      clear H
      have p252 : 0 ≤ (0 : Int) := (by omega)
      have q252 : 0 < (l0.length : Int) := zF (by first | (with_reducible assumption) | assumption)
      obtain ⟨ad252, e252, hx252_0⟩ := Kd.at_int HR0.out 0 p252 q252
      cases e252
      have qi252 : (0 < l0.length) = True := eq_true (by omega)
      (try rw [show ((0 : Int)).toNat = 0 from rfl] at hx252_0)
      (try rw [Addr.add_zero'] at hx252_0)
      replace hx252_0 := (HB.out.cell (zk? w _ hx252_0)).trans hx252_0
      replace p252 := eq_true p252
      replace q252 := eq_true q252
      go_wp2_with (first | (go_at_call 95; (with_reducible refine (impl_isDigit.calls (rd l0 0) true _ A6.out).mono ?_); rintro e w' ⟨rfl, ⟨nd, rfl⟩⟩))
      go_meet
      case rel => exact ⟨_, (true), (by first | rfl | (simp; done) | (simp [*]; done)), H', ⟨by first | omega | exact Nat.le_refl _⟩, ⟨by repeat (first | (with_reducible first | exact HB.out | apply zE | apply zC | apply zD) | exact HB.out)⟩⟩
     ·replace c7 := zp.mpr c7
      subst c7
      have H1 : ((impl_isNumber.f (strOfNums l0)).bind fun t254 => (impl_symbolOk.j0 k l0 t254)) = some r := by rw [if_neg (show ¬ (false = true) by decide)] at H; exact H
      clear H
      have H := H1
      clear H1
      replace H := zo.mp H
      obtain ⟨t254, A80, H⟩ := H
      replace H : (impl_symbolOk.j0 k l0 t254) = some r := H
      have A8 := zA A80
      clear A80
      have H' := zA H
      clear H
      have p252 : 0 ≤ (0 : Int) := (by omega)
      have q252 : 0 < (l0.length : Int) := zF (by first | (with_reducible assumption) | assumption)
      obtain ⟨ad252, e252, hx252_0⟩ := Kd.at_int HR0.out 0 p252 q252
      cases e252
      have qi252 : (0 < l0.length) = True := eq_true (by omega)
      (try rw [show ((0 : Int)).toNat = 0 from rfl] at hx252_0)
      (try rw [Addr.add_zero'] at hx252_0)
      replace hx252_0 := (HB.out.cell (zk? w _ hx252_0)).trans hx252_0
      replace p252 := eq_true p252
      replace q252 := eq_true q252
      go_wp2_with (first | (go_at_call 95; (with_reducible refine (impl_isDigit.calls (rd l0 0) false _ A6.out).mono ?_); rintro e w' ⟨rfl, ⟨nd, rfl⟩⟩; have hcv9 := Kd.C_string (P := Tryd.prog) (A := (some ad252)) (c := c0) Tryd.underlying42 Tryd.underlying5 Tryd.underlying9 (zd (Kd.C_below HR0.out HB.out) nd)) | (go_at_call 96; (with_reducible refine (impl_isNumber.calls (strOfNums l0) t254 _ A8.out).mono ?_); rintro e w10 ⟨rfl, hb⟩; have n0_ := zA (zX (by repeat (first | (with_reducible first | exact HB.out | apply zE | apply zC | apply zD) | exact HB.out)) hb); clear HB; have HB := n0_; clear n0_; (try clear hb); (try clear hb2); (try clear hk); (try clear hi)))
      go_meet
      case rel => exact ⟨_, (t254), (by first | rfl | (simp; done) | (simp [*]; done)), H', ⟨by first | omega | exact Nat.le_refl _⟩, ⟨by repeat (first | (with_reducible first | exact HB.out | apply zE | apply zC | apply zD) | exact HB.out)⟩⟩
    ·rw [if_neg c5] at H
     exact absurd H (by simp)
 case rest =>
  clear HC2
  try clear p2
  try clear q2
  try clear hx2
  try clear qi2
  try clear c3
  try clear c3b0
  try clear c3b1
  try clear c4
  try clear c4b0
  try clear c4b1
  try clear c5
  try clear c5b0
  try clear c5b1
  try clear c6
  try clear c7
  try clear hcv9
  try clear hx252_0
  try clear p252
  try clear q252
  obtain ⟨kq, x23_1, rfl, HA, HJ1, HB⟩ := hcut
  cases kq with
  | zero => exact absurd HA.out (by simp [impl_symbolOk.j0])
  | succ kj1 =>
   have H := HA.out
   clear HA
   simp only [impl_symbolOk.j0] at H
   by_cases c11 : x23_1 = true
   ·subst c11
    have H1 : (some false) = some r := by rw [if_pos rfl] at H; exact H
    clear H
    have H := H1
    clear H1
    obtain rfl := zl H
    go_wp2
    go_ret
    exact ⟨by first | rfl | (simp [errW_none, errW_some] <;> rfl) | (simp [*, errW_none, errW_some] <;> rfl), by repeat (first | (with_reducible first | exact HB.out | apply zE | apply zC | apply zD) | exact HB.out)⟩
   ·replace c11 := zp.mpr c11
    subst c11
    have H1 : (impl_symbolOk.l0 kj1 l0 (l0.length : Int) 0) = some r := by rw [if_neg (show ¬ (false = true) by decide)] at H; exact H
    clear H
    have H := H1
    clear H1
    have H' := zA H
    clear H
    go_wp2
    go_loopg [26] kj1 (fun kq v26 w' => ∃ (x26_2 : Int), v26 = .int .i64 x26_2 ∧ Aside0 (impl_symbolOk.l0 kq l0 (l0.length : Int) x26_2 = some r) ∧ Aside0 (kq ≤ kj1) ∧ Aside0 (Below w.heap.size w w'))
    case atStart => exact ⟨(0), (by first | rfl | (simp; done) | (simp [*]; done)), H', ⟨Nat.le_refl _⟩, ⟨by repeat (first | (with_reducible first | exact HB.out | apply zE | apply zC | apply zD) | exact HB.out)⟩⟩
    case round =>
     clear H'
     try clear c1
     try clear p2
     try clear q2
     try clear hx2
     try clear qi2
     try clear c3
     try clear c3b0
     try clear c3b1
     try clear c4
     try clear c4b0
     try clear c4b1
     try clear c5
     try clear c5b0
     try clear c5b1
     try clear c6
     try clear c7
     try clear hcv9
     try clear c11
     try clear hx252_0
     try clear p2
     try clear p252
     try clear q2
     try clear q252
     obtain ⟨x26_2, rfl, HA, HK2, HB⟩ := hrel
     cases gk with
     | zero => exact absurd HA.out (by simp [impl_symbolOk.l0])
     | succ k2 =>
      have H := HA.out
      clear HA
      simp only [impl_symbolOk.l0] at H
      by_cases c12 : x26_2 < (l0.length : Int)
      ·rw [if_pos c12] at H
       have c12b0 : decide (x26_2 < (l0.length : Int)) = true := zG c12
       clear c12
       by_cases c13 : 0 ≤ x26_2
       ·rw [if_pos c13] at H
        have c13b0 : decide (0 ≤ x26_2) = true := zG c13
        clear c13
        by_cases c14 : x26_2 < (l0.length : Int)
        ·rw [if_pos c14] at H
         have c14b0 : decide (x26_2 < (l0.length : Int)) = true := zG c14
         clear c14
         replace H := zo.mp H
         obtain ⟨t256, A150, H⟩ := H
         replace H : (if t256 = true then (impl_symbolOk.l0 k2 l0 (l0.length : Int) (wrap64 (x26_2 + 1))) else (some false)) = some r := H
         have A15 := zA A150
         clear A150
         by_cases c16 : t256 = true
         ·subst c16
          have H1 : (impl_symbolOk.l0 k2 l0 (l0.length : Int) (wrap64 (x26_2 + 1))) = some r := by rw [if_pos rfl] at H; exact H
          clear H
          have H := H1
          clear H1
          have H' := zA H
          clear H
          have p255 : 0 ≤ (x26_2 : Int) := zF (by first | (with_reducible assumption) | assumption)
          have q255 : x26_2 < (l0.length : Int) := zF (by first | (with_reducible assumption) | assumption)
          obtain ⟨ad255, e255, hx255_0⟩ := Kd.at_int HR0.out x26_2 p255 q255
          cases e255
          replace hx255_0 := (HB.out.cell (zk? w _ hx255_0)).trans hx255_0
          replace p255 := eq_true p255
          replace q255 := eq_true q255
          go_wp2_with (first | ((with_reducible refine gate_callee (f := 97) rfl ?_); refine goesL_ (some 31) rfl rfl Tryd.func97 (by kernel_rfl) rfl #[.int .u8 (rd l0 x26_2)] rfl (by (try simp only [List.map_toArray, List.map_cons, List.map_nil]); first | done | rfl | (simp only [List.length_drop, List.length_take]; rfl)) ?_; (with_reducible refine (impl_isSymbolByte.calls (rd l0 x26_2) true _ A15.out).mono ?_); rintro e w' ⟨rfl, ⟨nd, rfl⟩⟩; refine ⟨_, rfl, ?_⟩))
          go_roundg k2
          case measure => have := HJ1.out; have := HK2.out; omega
          case rel => exact ⟨(wrap64 (x26_2 + 1)), (by first | rfl | (simp; done) | (simp [*]; done)), H', ⟨by have := HJ1.out; have := HK2.out; omega⟩, ⟨by repeat (first | (with_reducible first | exact HB.out | apply zE | apply zC | apply zD) | exact HB.out)⟩⟩
         ·replace c16 := zp.mpr c16
          subst c16
          have H1 : (some false) = some r := by rw [if_neg (show ¬ (false = true) by decide)] at H; exact H
          clear H
          have H := H1
          clear H1
          obtain rfl := zl H
          have p255 : 0 ≤ (x26_2 : Int) := zF (by first | (with_reducible assumption) | assumption)
          have q255 : x26_2 < (l0.length : Int) := zF (by first | (with_reducible assumption) | assumption)
          obtain ⟨ad255, e255, hx255_0⟩ := Kd.at_int HR0.out x26_2 p255 q255
          cases e255
          replace hx255_0 := (HB.out.cell (zk? w _ hx255_0)).trans hx255_0
          replace p255 := eq_true p255
          replace q255 := eq_true q255
          go_wp2_with (first | ((with_reducible refine gate_callee (f := 97) rfl ?_); refine goesL_ (some 31) rfl rfl Tryd.func97 (by kernel_rfl) rfl #[.int .u8 (rd l0 x26_2)] rfl (by (try simp only [List.map_toArray, List.map_cons, List.map_nil]); first | done | rfl | (simp only [List.length_drop, List.length_take]; rfl)) ?_; (with_reducible refine (impl_isSymbolByte.calls (rd l0 x26_2) false _ A15.out).mono ?_); rintro e w' ⟨rfl, ⟨nd, rfl⟩⟩; refine ⟨_, rfl, ?_⟩))
          go_ret
          exact ⟨by first | rfl | (simp [errW_none, errW_some] <;> rfl) | (simp [*, errW_none, errW_some] <;> rfl), by repeat (first | (with_reducible first | exact HB.out | apply zE | apply zC | apply zD) | exact HB.out)⟩
        ·rw [if_neg c14] at H
         exact absurd H (by simp)
       ·rw [if_neg c13] at H
        exact absurd H (by simp)
      ·rw [if_neg c12] at H
       have c12b0 : decide (x26_2 < (l0.length : Int)) = false := zH c12
       clear c12
       obtain rfl := zl H
       go_wp2
       go_ret
       exact ⟨by first | rfl | (simp [errW_none, errW_some] <;> rfl) | (simp [*, errW_none, errW_some] <;> rfl), by repeat (first | (with_reducible first | exact HB.out | apply zE | apply zC | apply zD) | exact HB.out)⟩
def impl_datumOk.f (k : Nat) (a0_0 : Int) (a0_1 : Int) (l0_2 : List Int) (a0_3 : Int) : Option (Bool) := if a0_0 = 0 then ((impl_smallInt.f a0_1).bind fun t258 => (if t258 = true then (if (l0_2.length : Int) = 0 then (some (a0_3 == 0)) else (some false)) else (some false))) else (if a0_0 = 1 then (if a0_1 = 0 then (if (l0_2.length : Int) = 0 then (some (a0_3 == 0)) else (some false)) else (if a0_1 = 1 then (if (l0_2.length : Int) = 0 then (some (a0_3 == 0)) else (some false)) else (some false))) else (if a0_0 = 2 then (if a0_1 = 0 then ((impl_symbolOk.f k l0_2).bind fun t259 => (if t259 = true then (some (a0_3 == 0)) else (some false))) else (some false)) else (if a0_0 = 3 then (if a0_1 = 0 then (if (l0_2.length : Int) = 0 then (some (decide (a0_3 ≥ 0))) else (some false)) else (some false)) else (some false))))
theorem impl_datumOk.mono : ∀ a0 a1 a2 a3 k, LeO (impl_datumOk.f k a0 a1 a2 a3) (impl_datumOk.f (k + 1) a0 a1 a2 a3) := by
 intro a0 a1 a2 a3 k
 unfold impl_datumOk.f
 repeat' first
   | (with_reducible exact impl_symbolOk.mono _ _)
   | (with_reducible exact LeO.refl _)
   | (with_reducible exact LeO.none _)
   | (with_reducible refine LeO.ite ?_ ?_)
   | (with_reducible refine LeO.bind ?_ (fun _ => ?_))
   | exact impl_symbolOk.mono _ _
   | exact LeO.none _
   | refine LeO.ite ?_ ?_
   | refine LeO.bind ?_ (fun _ => ?_)
theorem impl_datumOk.calls (k : Nat) (a0_0 : Int) (a0_1 : Int) (A0_2 : Option Addr) (c0_2 : Nat) (l0_2 : List Int) (a0_3 : Int) (r : Bool) (w : World) (hr0_2 : Kd.C (Kd.int .u8) w A0_2 l0_2.length l0_2) (hc0_2 : l0_2.length ≤ c0_2) (h : impl_datumOk.f k a0_0 a0_1 l0_2 a0_3 = some r) :
  Calls Tryd.prog 34 #[.agg #[.int .i64 a0_0, .int .i64 a0_1, .slice A0_2 l0_2.length c0_2, .int .i64 a0_3]] w fun e w' => e = .returned (.bool r) ∧ Below w.heap.size w w' := by
 have hu57 := Tryd.underlying57
 have HR0_2 := zA hr0_2
 have HC0_2 := zA hc0_2
 clear hr0_2 hc0_2
 have HB := zA (Below.refl w.heap.size w)
 have H : (if a0_0 = 0 then ((impl_smallInt.f a0_1).bind fun t258 => (if t258 = true then (if (l0_2.length : Int) = 0 then (some (a0_3 == 0)) else (some false)) else (some false))) else (if a0_0 = 1 then (if a0_1 = 0 then (if (l0_2.length : Int) = 0 then (some (a0_3 == 0)) else (some false)) else (if a0_1 = 1 then (if (l0_2.length : Int) = 0 then (some (a0_3 == 0)) else (some false)) else (some false))) else (if a0_0 = 2 then (if a0_1 = 0 then ((impl_symbolOk.f k l0_2).bind fun t259 => (if t259 = true then (some (a0_3 == 0)) else (some false))) else (some false)) else (if a0_0 = 3 then (if a0_1 = 0 then (if (l0_2.length : Int) = 0 then (some (decide (a0_3 ≥ 0))) else (some false)) else (some false)) else (some false))))) = some r := h
 clear h
 by_cases c2 : a0_0 = 0
 ·rw [if_pos c2] at H
  have c2b0 : (a0_0 == 0) = true := beq_iff_eq.mpr c2
  have c2b1 : (a0_0 != 0) = false := zn.mpr c2
  clear c2
  replace H := zo.mp H
  obtain ⟨t258, A30, H⟩ := H
  replace H : (if t258 = true then (if (l0_2.length : Int) = 0 then (some (a0_3 == 0)) else (some false)) else (some false)) = some r := H
  have A3 := zA A30
  clear A30
  by_cases c4 : t258 = true
  ·subst c4
   have H1 : (if (l0_2.length : Int) = 0 then (some (a0_3 == 0)) else (some false)) = some r := by rw [if_pos rfl] at H; exact H
   clear H
   have H := H1
   clear H1
   by_cases c5 : (l0_2.length : Int) = 0
   ·rw [if_pos c5] at H
    have c5b0 : ((l0_2.length : Int) == 0) = true := beq_iff_eq.mpr c5
    have c5b1 : ((l0_2.length : Int) != 0) = false := zn.mpr c5
    clear c5
    obtain rfl := zl H
    go_enter Tryd.func34, Tryd.ntmps34
    go_wp2_with (first | ((with_reducible refine gate_dst (N := 1) rfl ?_); (try (refine gate_guard (by rfl) ?_; dsimp only)); refine box_event ?hg (N := 1) ?hd (cs := #[.int .i64 a0_0, .int .i64 a0_1, .slice A0_2 l0_2.length c0_2, .int .i64 a0_3]) (t := 57) ?hr ?_; (case hd => rfl); (case hg => rfl); (case hr => first | (go_simp; done) | (go_simp; rfl)); intro gb257 hg w6 hbox hb; have n0_ := zA (zX (by repeat (first | (with_reducible first | exact HB.out | apply zE | apply zC | apply zD) | exact HB.out)) hb); have n1_ := zA (hbox); have n2_ := zA ((by rw [hg]; exact (below_size (by repeat (first | (with_reducible first | exact HB.out | apply zE | apply zC | apply zD) | exact HB.out))) : w.heap.size ≤ gb257)); have n3_ := zA ((by rw [hg]; exact (below_size (by repeat (first | (with_reducible first | exact HB.out | apply zE | apply zC | apply zD) | exact HB.out))) : w.heap.size ≤ gb257)); clear HB; have HB := n0_; have BK257 := n1_; have GW257 := n2_; have GE257 := n3_; clear n0_ n1_ n2_ n3_; clear hb hbox hg; have hcz7_0 : w6.cell? ⟨gb257, 0, none⟩ = some (.int .i64 a0_0) := (zZ BK257.out 0).trans rfl; have hcz7_1 : w6.cell? ⟨gb257, 1, none⟩ = some (.int .i64 a0_1) := (zZ BK257.out 1).trans rfl; have hcz7_2 : w6.cell? ⟨gb257, 2, none⟩ = some (.slice A0_2 l0_2.length c0_2) := (zZ BK257.out 2).trans rfl; have hcz7_3 : w6.cell? ⟨gb257, 3, none⟩ = some (.int .i64 a0_3) := (zZ BK257.out 3).trans rfl; have hfz7_0 := zY BK257.out 0; have hfz7_1 := zY BK257.out 1; have hfz7_2 := zY BK257.out 2; have hfz7_3 := zY BK257.out 3) | ((with_reducible refine gate_callee (f := 65) rfl ?_); refine goesL_ (some 9) rfl rfl Tryd.func65 (by kernel_rfl) rfl #[.int .i64 a0_1] rfl (by (try simp only [List.map_toArray, List.map_cons, List.map_nil]); first | done | rfl | (simp only [List.length_drop, List.length_take]; rfl)) ?_; (with_reducible refine (impl_smallInt.calls a0_1 true _ A3.out).mono ?_); rintro e w' ⟨rfl, ⟨nd, rfl⟩⟩; refine ⟨_, rfl, ?_⟩))
    go_ret
    exact ⟨by first | rfl | (simp [errW_none, errW_some] <;> rfl) | (simp [*, errW_none, errW_some] <;> rfl), by repeat (first | (with_reducible first | exact HB.out | apply zE | apply zC | apply zD | refine zB ?_ GE257.out) | exact HB.out)⟩
   ·rw [if_neg c5] at H
    have c5b0 : ((l0_2.length : Int) == 0) = false := zm.mpr c5
    have c5b1 : ((l0_2.length : Int) != 0) = true := bne_iff_ne.mpr c5
    have c5b2 : ¬ (l0_2 = []) := fun h_ => c5 (by rw [h_]; rfl)
    obtain rfl := zl H
    go_enter Tryd.func34, Tryd.ntmps34
    go_wp2_with (first | ((with_reducible refine gate_dst (N := 1) rfl ?_); (try (refine gate_guard (by rfl) ?_; dsimp only)); refine box_event ?hg (N := 1) ?hd (cs := #[.int .i64 a0_0, .int .i64 a0_1, .slice A0_2 l0_2.length c0_2, .int .i64 a0_3]) (t := 57) ?hr ?_; (case hd => rfl); (case hg => rfl); (case hr => first | (go_simp; done) | (go_simp; rfl)); intro gb257 hg w8 hbox hb; have n0_ := zA (zX (by repeat (first | (with_reducible first | exact HB.out | apply zE | apply zC | apply zD) | exact HB.out)) hb); have n1_ := zA (hbox); have n2_ := zA ((by rw [hg]; exact (below_size (by repeat (first | (with_reducible first | exact HB.out | apply zE | apply zC | apply zD) | exact HB.out))) : w.heap.size ≤ gb257)); have n3_ := zA ((by rw [hg]; exact (below_size (by repeat (first | (with_reducible first | exact HB.out | apply zE | apply zC | apply zD) | exact HB.out))) : w.heap.size ≤ gb257)); clear HB; have HB := n0_; have BK257 := n1_; have GW257 := n2_; have GE257 := n3_; clear n0_ n1_ n2_ n3_; clear hb hbox hg; have hcz9_0 : w8.cell? ⟨gb257, 0, none⟩ = some (.int .i64 a0_0) := (zZ BK257.out 0).trans rfl; have hcz9_1 : w8.cell? ⟨gb257, 1, none⟩ = some (.int .i64 a0_1) := (zZ BK257.out 1).trans rfl; have hcz9_2 : w8.cell? ⟨gb257, 2, none⟩ = some (.slice A0_2 l0_2.length c0_2) := (zZ BK257.out 2).trans rfl; have hcz9_3 : w8.cell? ⟨gb257, 3, none⟩ = some (.int .i64 a0_3) := (zZ BK257.out 3).trans rfl; have hfz9_0 := zY BK257.out 0; have hfz9_1 := zY BK257.out 1; have hfz9_2 := zY BK257.out 2; have hfz9_3 := zY BK257.out 3) | ((with_reducible refine gate_callee (f := 65) rfl ?_); refine goesL_ (some 9) rfl rfl Tryd.func65 (by kernel_rfl) rfl #[.int .i64 a0_1] rfl (by (try simp only [List.map_toArray, List.map_cons, List.map_nil]); first | done | rfl | (simp only [List.length_drop, List.length_take]; rfl)) ?_; (with_reducible refine (impl_smallInt.calls a0_1 true _ A3.out).mono ?_); rintro e w' ⟨rfl, ⟨nd, rfl⟩⟩; refine ⟨_, rfl, ?_⟩))
    go_ret
    exact ⟨by first | rfl | (simp [errW_none, errW_some] <;> rfl) | (simp [*, errW_none, errW_some] <;> rfl), by repeat (first | (with_reducible first | exact HB.out | apply zE | apply zC | apply zD | refine zB ?_ GE257.out) | exact HB.out)⟩
  ·replace c4 := zp.mpr c4
   subst c4
   have H1 : (some false) = some r := by rw [if_neg (show ¬ (false = true) by decide)] at H; exact H
   clear H
   have H := H1
   clear H1
   obtain rfl := zl H
   go_enter Tryd.func34, Tryd.ntmps34
   go_wp2_with (first | ((with_reducible refine gate_dst (N := 1) rfl ?_); (try (refine gate_guard (by rfl) ?_; dsimp only)); refine box_event ?hg (N := 1) ?hd (cs := #[.int .i64 a0_0, .int .i64 a0_1, .slice A0_2 l0_2.length c0_2, .int .i64 a0_3]) (t := 57) ?hr ?_; (case hd => rfl); (case hg => rfl); (case hr => first | (go_simp; done) | (go_simp; rfl)); intro gb257 hg w10 hbox hb; have n0_ := zA (zX (by repeat (first | (with_reducible first | exact HB.out | apply zE | apply zC | apply zD) | exact HB.out)) hb); have n1_ := zA (hbox); have n2_ := zA ((by rw [hg]; exact (below_size (by repeat (first | (with_reducible first | exact HB.out | apply zE | apply zC | apply zD) | exact HB.out))) : w.heap.size ≤ gb257)); have n3_ := zA ((by rw [hg]; exact (below_size (by repeat (first | (with_reducible first | exact HB.out | apply zE | apply zC | apply zD) | exact HB.out))) : w.heap.size ≤ gb257)); clear HB; have HB := n0_; have BK257 := n1_; have GW257 := n2_; have GE257 := n3_; clear n0_ n1_ n2_ n3_; clear hb hbox hg; have hcz11_0 : w10.cell? ⟨gb257, 0, none⟩ = some (.int .i64 a0_0) := (zZ BK257.out 0).trans rfl; have hcz11_1 : w10.cell? ⟨gb257, 1, none⟩ = some (.int .i64 a0_1) := (zZ BK257.out 1).trans rfl; have hcz11_2 : w10.cell? ⟨gb257, 2, none⟩ = some (.slice A0_2 l0_2.length c0_2) := (zZ BK257.out 2).trans rfl; have hcz11_3 : w10.cell? ⟨gb257, 3, none⟩ = some (.int .i64 a0_3) := (zZ BK257.out 3).trans rfl; have hfz11_0 := zY BK257.out 0; have hfz11_1 := zY BK257.out 1; have hfz11_2 := zY BK257.out 2; have hfz11_3 := zY BK257.out 3) | ((with_reducible refine gate_callee (f := 65) rfl ?_); refine goesL_ (some 9) rfl rfl Tryd.func65 (by kernel_rfl) rfl #[.int .i64 a0_1] rfl (by (try simp only [List.map_toArray, List.map_cons, List.map_nil]); first | done | rfl | (simp only [List.length_drop, List.length_take]; rfl)) ?_; (with_reducible refine (impl_smallInt.calls a0_1 false _ A3.out).mono ?_); rintro e w' ⟨rfl, ⟨nd, rfl⟩⟩; refine ⟨_, rfl, ?_⟩))
   go_ret
   exact ⟨by first | rfl | (simp [errW_none, errW_some] <;> rfl) | (simp [*, errW_none, errW_some] <;> rfl), by repeat (first | (with_reducible first | exact HB.out | apply zE | apply zC | apply zD | refine zB ?_ GE257.out) | exact HB.out)⟩
 ·rw [if_neg c2] at H
  have c2b0 : (a0_0 == 0) = false := zm.mpr c2
  have c2b1 : (a0_0 != 0) = true := bne_iff_ne.mpr c2
  by_cases c12 : a0_0 = 1
  ·rw [if_pos c12] at H
   have c12b0 : (a0_0 == 1) = true := beq_iff_eq.mpr c12
   have c12b1 : (a0_0 != 1) = false := zn.mpr c12
   clear c12
   by_cases c13 : a0_1 = 0
   ·rw [if_pos c13] at H
    have c13b0 : (a0_1 == 0) = true := beq_iff_eq.mpr c13
    have c13b1 : (a0_1 != 0) = false := zn.mpr c13
    clear c13
    by_cases c14 : (l0_2.length : Int) = 0
    ·rw [if_pos c14] at H
     have c14b0 : ((l0_2.length : Int) == 0) = true := beq_iff_eq.mpr c14
     have c14b1 : ((l0_2.length : Int) != 0) = false := zn.mpr c14
     clear c14
     obtain rfl := zl H
     go_enter Tryd.func34, Tryd.ntmps34
     go_wp2_with (first | ((with_reducible refine gate_dst (N := 1) rfl ?_); (try (refine gate_guard (by rfl) ?_; dsimp only)); refine box_event ?hg (N := 1) ?hd (cs := #[.int .i64 a0_0, .int .i64 a0_1, .slice A0_2 l0_2.length c0_2, .int .i64 a0_3]) (t := 57) ?hr ?_; (case hd => rfl); (case hg => rfl); (case hr => first | (go_simp; done) | (go_simp; rfl)); intro gb257 hg w15 hbox hb; have n0_ := zA (zX (by repeat (first | (with_reducible first | exact HB.out | apply zE | apply zC | apply zD) | exact HB.out)) hb); have n1_ := zA (hbox); have n2_ := zA ((by rw [hg]; exact (below_size (by repeat (first | (with_reducible first | exact HB.out | apply zE | apply zC | apply zD) | exact HB.out))) : w.heap.size ≤ gb257)); have n3_ := zA ((by rw [hg]; exact (below_size (by repeat (first | (with_reducible first | exact HB.out | apply zE | apply zC | apply zD) | exact HB.out))) : w.heap.size ≤ gb257)); clear HB; have HB := n0_; have BK257 := n1_; have GW257 := n2_; have GE257 := n3_; clear n0_ n1_ n2_ n3_; clear hb hbox hg; have hcz16_0 : w15.cell? ⟨gb257, 0, none⟩ = some (.int .i64 a0_0) := (zZ BK257.out 0).trans rfl; have hcz16_1 : w15.cell? ⟨gb257, 1, none⟩ = some (.int .i64 a0_1) := (zZ BK257.out 1).trans rfl; have hcz16_2 : w15.cell? ⟨gb257, 2, none⟩ = some (.slice A0_2 l0_2.length c0_2) := (zZ BK257.out 2).trans rfl; have hcz16_3 : w15.cell? ⟨gb257, 3, none⟩ = some (.int .i64 a0_3) := (zZ BK257.out 3).trans rfl; have hfz16_0 := zY BK257.out 0; have hfz16_1 := zY BK257.out 1; have hfz16_2 := zY BK257.out 2; have hfz16_3 := zY BK257.out 3))
     go_ret
     exact ⟨by first | rfl | (simp [errW_none, errW_some] <;> rfl) | (simp [*, errW_none, errW_some] <;> rfl), by repeat (first | (with_reducible first | exact HB.out | apply zE | apply zC | apply zD | refine zB ?_ GE257.out) | exact HB.out)⟩
    ·rw [if_neg c14] at H
     have c14b0 : ((l0_2.length : Int) == 0) = false := zm.mpr c14
     have c14b1 : ((l0_2.length : Int) != 0) = true := bne_iff_ne.mpr c14
     have c14b2 : ¬ (l0_2 = []) := fun h_ => c14 (by rw [h_]; rfl)
     obtain rfl := zl H
     go_enter Tryd.func34, Tryd.ntmps34
     go_wp2_with (first | ((with_reducible refine gate_dst (N := 1) rfl ?_); (try (refine gate_guard (by rfl) ?_; dsimp only)); refine box_event ?hg (N := 1) ?hd (cs := #[.int .i64 a0_0, .int .i64 a0_1, .slice A0_2 l0_2.length c0_2, .int .i64 a0_3]) (t := 57) ?hr ?_; (case hd => rfl); (case hg => rfl); (case hr => first | (go_simp; done) | (go_simp; rfl)); intro gb257 hg w17 hbox hb; have n0_ := zA (zX (by repeat (first | (with_reducible first | exact HB.out | apply zE | apply zC | apply zD) | exact HB.out)) hb); have n1_ := zA (hbox); have n2_ := zA ((by rw [hg]; exact (below_size (by repeat (first | (with_reducible first | exact HB.out | apply zE | apply zC | apply zD) | exact HB.out))) : w.heap.size ≤ gb257)); have n3_ := zA ((by rw [hg]; exact (below_size (by repeat (first | (with_reducible first | exact HB.out | apply zE | apply zC | apply zD) | exact HB.out))) : w.heap.size ≤ gb257)); clear HB; have HB := n0_; have BK257 := n1_; have GW257 := n2_; have GE257 := n3_; clear n0_ n1_ n2_ n3_; clear hb hbox hg; have hcz18_0 : w17.cell? ⟨gb257, 0, none⟩ = some (.int .i64 a0_0) := (zZ BK257.out 0).trans rfl; have hcz18_1 : w17.cell? ⟨gb257, 1, none⟩ = some (.int .i64 a0_1) := (zZ BK257.out 1).trans rfl; have hcz18_2 : w17.cell? ⟨gb257, 2, none⟩ = some (.slice A0_2 l0_2.length c0_2) := (zZ BK257.out 2).trans rfl; have hcz18_3 : w17.cell? ⟨gb257, 3, none⟩ = some (.int .i64 a0_3) := (zZ BK257.out 3).trans rfl; have hfz18_0 := zY BK257.out 0; have hfz18_1 := zY BK257.out 1; have hfz18_2 := zY BK257.out 2; have hfz18_3 := zY BK257.out 3))
     go_ret
     exact ⟨by first | rfl | (simp [errW_none, errW_some] <;> rfl) | (simp [*, errW_none, errW_some] <;> rfl), by repeat (first | (with_reducible first | exact HB.out | apply zE | apply zC | apply zD | refine zB ?_ GE257.out) | exact HB.out)⟩
   ·rw [if_neg c13] at H
    have c13b0 : (a0_1 == 0) = false := zm.mpr c13
    have c13b1 : (a0_1 != 0) = true := bne_iff_ne.mpr c13
    by_cases c19 : a0_1 = 1
    ·rw [if_pos c19] at H
     have c19b0 : (a0_1 == 1) = true := beq_iff_eq.mpr c19
     have c19b1 : (a0_1 != 1) = false := zn.mpr c19
     clear c19
     by_cases c20 : (l0_2.length : Int) = 0
     ·rw [if_pos c20] at H
      have c20b0 : ((l0_2.length : Int) == 0) = true := beq_iff_eq.mpr c20
      have c20b1 : ((l0_2.length : Int) != 0) = false := zn.mpr c20
      clear c20
      obtain rfl := zl H
      go_enter Tryd.func34, Tryd.ntmps34
      go_wp2_with (first | ((with_reducible refine gate_dst (N := 1) rfl ?_); (try (refine gate_guard (by rfl) ?_; dsimp only)); refine box_event ?hg (N := 1) ?hd (cs := #[.int .i64 a0_0, .int .i64 a0_1, .slice A0_2 l0_2.length c0_2, .int .i64 a0_3]) (t := 57) ?hr ?_; (case hd => rfl); (case hg => rfl); (case hr => first | (go_simp; done) | (go_simp; rfl)); intro gb257 hg w21 hbox hb; have n0_ := zA (zX (by repeat (first | (with_reducible first | exact HB.out | apply zE | apply zC | apply zD) | exact HB.out)) hb); have n1_ := zA (hbox); have n2_ := zA ((by rw [hg]; exact (below_size (by repeat (first | (with_reducible first | exact HB.out | apply zE | apply zC | apply zD) | exact HB.out))) : w.heap.size ≤ gb257)); have n3_ := zA ((by rw [hg]; exact (below_size (by repeat (first | (with_reducible first | exact HB.out | apply zE | apply zC | apply zD) | exact HB.out))) : w.heap.size ≤ gb257)); clear HB; have HB := n0_; have BK257 := n1_; have GW257 := n2_; have GE257 := n3_; clear n0_ n1_ n2_ n3_; clear hb hbox hg; have hcz22_0 : w21.cell? ⟨gb257, 0, none⟩ = some (.int .i64 a0_0) := (zZ BK257.out 0).trans rfl; have hcz22_1 : w21.cell? ⟨gb257, 1, none⟩ = some (.int .i64 a0_1) := (zZ BK257.out 1).trans rfl; have hcz22_2 : w21.cell? ⟨gb257, 2, none⟩ = some (.slice A0_2 l0_2.length c0_2) := (zZ BK257.out 2).trans rfl; have hcz22_3 : w21.cell? ⟨gb257, 3, none⟩ = some (.int .i64 a0_3) := (zZ BK257.out 3).trans rfl; have hfz22_0 := zY BK257.out 0; have hfz22_1 := zY BK257.out 1; have hfz22_2 := zY BK257.out 2; have hfz22_3 := zY BK257.out 3))
      go_ret
      exact ⟨by first | rfl | (simp [errW_none, errW_some] <;> rfl) | (simp [*, errW_none, errW_some] <;> rfl), by repeat (first | (with_reducible first | exact HB.out | apply zE | apply zC | apply zD | refine zB ?_ GE257.out) | exact HB.out)⟩
     ·rw [if_neg c20] at H
      have c20b0 : ((l0_2.length : Int) == 0) = false := zm.mpr c20
      have c20b1 : ((l0_2.length : Int) != 0) = true := bne_iff_ne.mpr c20
      have c20b2 : ¬ (l0_2 = []) := fun h_ => c20 (by rw [h_]; rfl)
      obtain rfl := zl H
      go_enter Tryd.func34, Tryd.ntmps34
      go_wp2_with (first | ((with_reducible refine gate_dst (N := 1) rfl ?_); (try (refine gate_guard (by rfl) ?_; dsimp only)); refine box_event ?hg (N := 1) ?hd (cs := #[.int .i64 a0_0, .int .i64 a0_1, .slice A0_2 l0_2.length c0_2, .int .i64 a0_3]) (t := 57) ?hr ?_; (case hd => rfl); (case hg => rfl); (case hr => first | (go_simp; done) | (go_simp; rfl)); intro gb257 hg w23 hbox hb; have n0_ := zA (zX (by repeat (first | (with_reducible first | exact HB.out | apply zE | apply zC | apply zD) | exact HB.out)) hb); have n1_ := zA (hbox); have n2_ := zA ((by rw [hg]; exact (below_size (by repeat (first | (with_reducible first | exact HB.out | apply zE | apply zC | apply zD) | exact HB.out))) : w.heap.size ≤ gb257)); have n3_ := zA ((by rw [hg]; exact (below_size (by repeat (first | (with_reducible first | exact HB.out | apply zE | apply zC | apply zD) | exact HB.out))) : w.heap.size ≤ gb257)); clear HB; have HB := n0_; have BK257 := n1_; have GW257 := n2_; have GE257 := n3_; clear n0_ n1_ n2_ n3_; clear hb hbox hg; have hcz24_0 : w23.cell? ⟨gb257, 0, none⟩ = some (.int .i64 a0_0) := (zZ BK257.out 0).trans rfl; have hcz24_1 : w23.cell? ⟨gb257, 1, none⟩ = some (.int .i64 a0_1) := (zZ BK257.out 1).trans rfl; have hcz24_2 : w23.cell? ⟨gb257, 2, none⟩ = some (.slice A0_2 l0_2.length c0_2) := (zZ BK257.out 2).trans rfl; have hcz24_3 : w23.cell? ⟨gb257, 3, none⟩ = some (.int .i64 a0_3) := (zZ BK257.out 3).trans rfl; have hfz24_0 := zY BK257.out 0; have hfz24_1 := zY BK257.out 1; have hfz24_2 := zY BK257.out 2; have hfz24_3 := zY BK257.out 3))
      go_ret
      exact ⟨by first | rfl | (simp [errW_none, errW_some] <;> rfl) | (simp [*, errW_none, errW_some] <;> rfl), by repeat (first | (with_reducible first | exact HB.out | apply zE | apply zC | apply zD | refine zB ?_ GE257.out) | exact HB.out)⟩
    ·rw [if_neg c19] at H
     have c19b0 : (a0_1 == 1) = false := zm.mpr c19
     have c19b1 : (a0_1 != 1) = true := bne_iff_ne.mpr c19
     obtain rfl := zl H
     go_enter Tryd.func34, Tryd.ntmps34
     go_wp2_with (first | ((with_reducible refine gate_dst (N := 1) rfl ?_); (try (refine gate_guard (by rfl) ?_; dsimp only)); refine box_event ?hg (N := 1) ?hd (cs := #[.int .i64 a0_0, .int .i64 a0_1, .slice A0_2 l0_2.length c0_2, .int .i64 a0_3]) (t := 57) ?hr ?_; (case hd => rfl); (case hg => rfl); (case hr => first | (go_simp; done) | (go_simp; rfl)); intro gb257 hg w25 hbox hb; have n0_ := zA (zX (by repeat (first | (with_reducible first | exact HB.out | apply zE | apply zC | apply zD) | exact HB.out)) hb); have n1_ := zA (hbox); have n2_ := zA ((by rw [hg]; exact (below_size (by repeat (first | (with_reducible first | exact HB.out | apply zE | apply zC | apply zD) | exact HB.out))) : w.heap.size ≤ gb257)); have n3_ := zA ((by rw [hg]; exact (below_size (by repeat (first | (with_reducible first | exact HB.out | apply zE | apply zC | apply zD) | exact HB.out))) : w.heap.size ≤ gb257)); clear HB; have HB := n0_; have BK257 := n1_; have GW257 := n2_; have GE257 := n3_; clear n0_ n1_ n2_ n3_; clear hb hbox hg; have hcz26_0 : w25.cell? ⟨gb257, 0, none⟩ = some (.int .i64 a0_0) := (zZ BK257.out 0).trans rfl; have hcz26_1 : w25.cell? ⟨gb257, 1, none⟩ = some (.int .i64 a0_1) := (zZ BK257.out 1).trans rfl; have hcz26_2 : w25.cell? ⟨gb257, 2, none⟩ = some (.slice A0_2 l0_2.length c0_2) := (zZ BK257.out 2).trans rfl; have hcz26_3 : w25.cell? ⟨gb257, 3, none⟩ = some (.int .i64 a0_3) := (zZ BK257.out 3).trans rfl; have hfz26_0 := zY BK257.out 0; have hfz26_1 := zY BK257.out 1; have hfz26_2 := zY BK257.out 2; have hfz26_3 := zY BK257.out 3))
     go_ret
     exact ⟨by first | rfl | (simp [errW_none, errW_some] <;> rfl) | (simp [*, errW_none, errW_some] <;> rfl), by repeat (first | (with_reducible first | exact HB.out | apply zE | apply zC | apply zD | refine zB ?_ GE257.out) | exact HB.out)⟩
  ·rw [if_neg c12] at H
   have c12b0 : (a0_0 == 1) = false := zm.mpr c12
   have c12b1 : (a0_0 != 1) = true := bne_iff_ne.mpr c12
   by_cases c27 : a0_0 = 2
   ·rw [if_pos c27] at H
    have c27b0 : (a0_0 == 2) = true := beq_iff_eq.mpr c27
    have c27b1 : (a0_0 != 2) = false := zn.mpr c27
    clear c27
    by_cases c28 : a0_1 = 0
    ·rw [if_pos c28] at H
     have c28b0 : (a0_1 == 0) = true := beq_iff_eq.mpr c28
     have c28b1 : (a0_1 != 0) = false := zn.mpr c28
     clear c28
     replace H := zo.mp H
     obtain ⟨t259, A290, H⟩ := H
     replace H : (if t259 = true then (some (a0_3 == 0)) else (some false)) = some r := H
     have A29 := zA A290
     clear A290
     by_cases c30 : t259 = true
     ·subst c30
      have H1 : (some (a0_3 == 0)) = some r := by rw [if_pos rfl] at H; exact H
      clear H
      have H := H1
      clear H1
      obtain rfl := zl H
      go_enter Tryd.func34, Tryd.ntmps34
      go_wp2_with (first | ((with_reducible refine gate_dst (N := 1) rfl ?_); (try (refine gate_guard (by rfl) ?_; dsimp only)); refine box_event ?hg (N := 1) ?hd (cs := #[.int .i64 a0_0, .int .i64 a0_1, .slice A0_2 l0_2.length c0_2, .int .i64 a0_3]) (t := 57) ?hr ?_; (case hd => rfl); (case hg => rfl); (case hr => first | (go_simp; done) | (go_simp; rfl)); intro gb257 hg w31 hbox hb; have n0_ := zA (zX (by repeat (first | (with_reducible first | exact HB.out | apply zE | apply zC | apply zD) | exact HB.out)) hb); have n1_ := zA (hbox); have n2_ := zA ((by rw [hg]; exact (below_size (by repeat (first | (with_reducible first | exact HB.out | apply zE | apply zC | apply zD) | exact HB.out))) : w.heap.size ≤ gb257)); have n3_ := zA ((by rw [hg]; exact (below_size (by repeat (first | (with_reducible first | exact HB.out | apply zE | apply zC | apply zD) | exact HB.out))) : w.heap.size ≤ gb257)); clear HB; have HB := n0_; have BK257 := n1_; have GW257 := n2_; have GE257 := n3_; clear n0_ n1_ n2_ n3_; clear hb hbox hg; have hcz32_0 : w31.cell? ⟨gb257, 0, none⟩ = some (.int .i64 a0_0) := (zZ BK257.out 0).trans rfl; have hcz32_1 : w31.cell? ⟨gb257, 1, none⟩ = some (.int .i64 a0_1) := (zZ BK257.out 1).trans rfl; have hcz32_2 : w31.cell? ⟨gb257, 2, none⟩ = some (.slice A0_2 l0_2.length c0_2) := (zZ BK257.out 2).trans rfl; have hcz32_3 : w31.cell? ⟨gb257, 3, none⟩ = some (.int .i64 a0_3) := (zZ BK257.out 3).trans rfl; have hfz32_0 := zY BK257.out 0; have hfz32_1 := zY BK257.out 1; have hfz32_2 := zY BK257.out 2; have hfz32_3 := zY BK257.out 3) | (go_at_call 66; (with_reducible refine (impl_symbolOk.calls k _ _ l0_2 true _ ?side1 ?side2 A29.out).mono ?_); (case side1 => repeat (first | exact (Kd.C_below HR0_2.out HB.out) | (with_reducible refine zc ?_ _) | (with_reducible refine zd ?_ _) | (with_reducible refine ze ?_))); (case side2 => exact HC0_2.out); rintro e w33 ⟨rfl, hb⟩; have n0_ := zA (zN (g := gb257) (o := .cells #[.int .i64 a0_0, .int .i64 a0_1, .slice A0_2 l0_2.length c0_2, .int .i64 a0_3] 57 (0, 0)) (by (with_reducible repeat (first | refine blk_drewN ?_ _ | refine blk_drew ?_ | refine blk_alloc ?_ _)); exact BK257.out) hb); have n1_ := zA (zX (by repeat (first | (with_reducible first | exact HB.out | apply zE | apply zC | apply zD | refine zB ?_ GE257.out) | exact HB.out)) hb); clear BK257 HB; have BK257 := n0_; have HB := n1_; clear n0_ n1_; (try clear hb); (try clear hb2); (try clear hk); (try clear hi); have hcz34_0 : w33.cell? ⟨gb257, 0, none⟩ = some (.int .i64 a0_0) := (zZ BK257.out 0).trans rfl; have hcz34_1 : w33.cell? ⟨gb257, 1, none⟩ = some (.int .i64 a0_1) := (zZ BK257.out 1).trans rfl; have hcz34_2 : w33.cell? ⟨gb257, 2, none⟩ = some (.slice A0_2 l0_2.length c0_2) := (zZ BK257.out 2).trans rfl; have hcz34_3 : w33.cell? ⟨gb257, 3, none⟩ = some (.int .i64 a0_3) := (zZ BK257.out 3).trans rfl; have hfz34_0 := zY BK257.out 0; have hfz34_1 := zY BK257.out 1; have hfz34_2 := zY BK257.out 2; have hfz34_3 := zY BK257.out 3))
      go_ret
      exact ⟨by first | rfl | (simp [errW_none, errW_some] <;> rfl) | (simp [*, errW_none, errW_some] <;> rfl), by repeat (first | (with_reducible first | exact HB.out | apply zE | apply zC | apply zD | refine zB ?_ GE257.out) | exact HB.out)⟩
     ·replace c30 := zp.mpr c30
      subst c30
      have H1 : (some false) = some r := by rw [if_neg (show ¬ (false = true) by decide)] at H; exact H
      clear H
      have H := H1
      clear H1
      obtain rfl := zl H
      go_enter Tryd.func34, Tryd.ntmps34
      go_wp2_with (first | ((with_reducible refine gate_dst (N := 1) rfl ?_); (try (refine gate_guard (by rfl) ?_; dsimp only)); refine box_event ?hg (N := 1) ?hd (cs := #[.int .i64 a0_0, .int .i64 a0_1, .slice A0_2 l0_2.length c0_2, .int .i64 a0_3]) (t := 57) ?hr ?_; (case hd => rfl); (case hg => rfl); (case hr => first | (go_simp; done) | (go_simp; rfl)); intro gb257 hg w35 hbox hb; have n0_ := zA (zX (by repeat (first | (with_reducible first | exact HB.out | apply zE | apply zC | apply zD) | exact HB.out)) hb); have n1_ := zA (hbox); have n2_ := zA ((by rw [hg]; exact (below_size (by repeat (first | (with_reducible first | exact HB.out | apply zE | apply zC | apply zD) | exact HB.out))) : w.heap.size ≤ gb257)); have n3_ := zA ((by rw [hg]; exact (below_size (by repeat (first | (with_reducible first | exact HB.out | apply zE | apply zC | apply zD) | exact HB.out))) : w.heap.size ≤ gb257)); clear HB; have HB := n0_; have BK257 := n1_; have GW257 := n2_; have GE257 := n3_; clear n0_ n1_ n2_ n3_; clear hb hbox hg; have hcz36_0 : w35.cell? ⟨gb257, 0, none⟩ = some (.int .i64 a0_0) := (zZ BK257.out 0).trans rfl; have hcz36_1 : w35.cell? ⟨gb257, 1, none⟩ = some (.int .i64 a0_1) := (zZ BK257.out 1).trans rfl; have hcz36_2 : w35.cell? ⟨gb257, 2, none⟩ = some (.slice A0_2 l0_2.length c0_2) := (zZ BK257.out 2).trans rfl; have hcz36_3 : w35.cell? ⟨gb257, 3, none⟩ = some (.int .i64 a0_3) := (zZ BK257.out 3).trans rfl; have hfz36_0 := zY BK257.out 0; have hfz36_1 := zY BK257.out 1; have hfz36_2 := zY BK257.out 2; have hfz36_3 := zY BK257.out 3) | (go_at_call 66; (with_reducible refine (impl_symbolOk.calls k _ _ l0_2 false _ ?side1 ?side2 A29.out).mono ?_); (case side1 => repeat (first | exact (Kd.C_below HR0_2.out HB.out) | (with_reducible refine zc ?_ _) | (with_reducible refine zd ?_ _) | (with_reducible refine ze ?_))); (case side2 => exact HC0_2.out); rintro e w37 ⟨rfl, hb⟩; have n0_ := zA (zN (g := gb257) (o := .cells #[.int .i64 a0_0, .int .i64 a0_1, .slice A0_2 l0_2.length c0_2, .int .i64 a0_3] 57 (0, 0)) (by (with_reducible repeat (first | refine blk_drewN ?_ _ | refine blk_drew ?_ | refine blk_alloc ?_ _)); exact BK257.out) hb); have n1_ := zA (zX (by repeat (first | (with_reducible first | exact HB.out | apply zE | apply zC | apply zD | refine zB ?_ GE257.out) | exact HB.out)) hb); clear BK257 HB; have BK257 := n0_; have HB := n1_; clear n0_ n1_; (try clear hb); (try clear hb2); (try clear hk); (try clear hi)))
      go_ret
      exact ⟨by first | rfl | (simp [errW_none, errW_some] <;> rfl) | (simp [*, errW_none, errW_some] <;> rfl), by repeat (first | (with_reducible first | exact HB.out | apply zE | apply zC | apply zD | refine zB ?_ GE257.out) | exact HB.out)⟩
    ·rw [if_neg c28] at H
     have c28b0 : (a0_1 == 0) = false := zm.mpr c28
     have c28b1 : (a0_1 != 0) = true := bne_iff_ne.mpr c28
     obtain rfl := zl H
     go_enter Tryd.func34, Tryd.ntmps34
     go_wp2_with (first | ((with_reducible refine gate_dst (N := 1) rfl ?_); (try (refine gate_guard (by rfl) ?_; dsimp only)); refine box_event ?hg (N := 1) ?hd (cs := #[.int .i64 a0_0, .int .i64 a0_1, .slice A0_2 l0_2.length c0_2, .int .i64 a0_3]) (t := 57) ?hr ?_; (case hd => rfl); (case hg => rfl); (case hr => first | (go_simp; done) | (go_simp; rfl)); intro gb257 hg w38 hbox hb; have n0_ := zA (zX (by repeat (first | (with_reducible first | exact HB.out | apply zE | apply zC | apply zD) | exact HB.out)) hb); have n1_ := zA (hbox); have n2_ := zA ((by rw [hg]; exact (below_size (by repeat (first | (with_reducible first | exact HB.out | apply zE | apply zC | apply zD) | exact HB.out))) : w.heap.size ≤ gb257)); have n3_ := zA ((by rw [hg]; exact (below_size (by repeat (first | (with_reducible first | exact HB.out | apply zE | apply zC | apply zD) | exact HB.out))) : w.heap.size ≤ gb257)); clear HB; have HB := n0_; have BK257 := n1_; have GW257 := n2_; have GE257 := n3_; clear n0_ n1_ n2_ n3_; clear hb hbox hg; have hcz39_0 : w38.cell? ⟨gb257, 0, none⟩ = some (.int .i64 a0_0) := (zZ BK257.out 0).trans rfl; have hcz39_1 : w38.cell? ⟨gb257, 1, none⟩ = some (.int .i64 a0_1) := (zZ BK257.out 1).trans rfl; have hcz39_2 : w38.cell? ⟨gb257, 2, none⟩ = some (.slice A0_2 l0_2.length c0_2) := (zZ BK257.out 2).trans rfl; have hcz39_3 : w38.cell? ⟨gb257, 3, none⟩ = some (.int .i64 a0_3) := (zZ BK257.out 3).trans rfl; have hfz39_0 := zY BK257.out 0; have hfz39_1 := zY BK257.out 1; have hfz39_2 := zY BK257.out 2; have hfz39_3 := zY BK257.out 3))
     go_ret
     exact ⟨by first | rfl | (simp [errW_none, errW_some] <;> rfl) | (simp [*, errW_none, errW_some] <;> rfl), by repeat (first | (with_reducible first | exact HB.out | apply zE | apply zC | apply zD | refine zB ?_ GE257.out) | exact HB.out)⟩
   ·rw [if_neg c27] at H
    have c27b0 : (a0_0 == 2) = false := zm.mpr c27
    have c27b1 : (a0_0 != 2) = true := bne_iff_ne.mpr c27
    by_cases c40 : a0_0 = 3
    ·rw [if_pos c40] at H
     have c40b0 : (a0_0 == 3) = true := beq_iff_eq.mpr c40
     have c40b1 : (a0_0 != 3) = false := zn.mpr c40
     clear c40
     by_cases c41 : a0_1 = 0
     ·rw [if_pos c41] at H
      have c41b0 : (a0_1 == 0) = true := beq_iff_eq.mpr c41
      have c41b1 : (a0_1 != 0) = false := zn.mpr c41
      clear c41
      by_cases c42 : (l0_2.length : Int) = 0
      ·rw [if_pos c42] at H
       have c42b0 : ((l0_2.length : Int) == 0) = true := beq_iff_eq.mpr c42
       have c42b1 : ((l0_2.length : Int) != 0) = false := zn.mpr c42
       clear c42
       obtain rfl := zl H
       go_enter Tryd.func34, Tryd.ntmps34
       go_wp2_with (first | ((with_reducible refine gate_dst (N := 1) rfl ?_); (try (refine gate_guard (by rfl) ?_; dsimp only)); refine box_event ?hg (N := 1) ?hd (cs := #[.int .i64 a0_0, .int .i64 a0_1, .slice A0_2 l0_2.length c0_2, .int .i64 a0_3]) (t := 57) ?hr ?_; (case hd => rfl); (case hg => rfl); (case hr => first | (go_simp; done) | (go_simp; rfl)); intro gb257 hg w43 hbox hb; have n0_ := zA (zX (by repeat (first | (with_reducible first | exact HB.out | apply zE | apply zC | apply zD) | exact HB.out)) hb); have n1_ := zA (hbox); have n2_ := zA ((by rw [hg]; exact (below_size (by repeat (first | (with_reducible first | exact HB.out | apply zE | apply zC | apply zD) | exact HB.out))) : w.heap.size ≤ gb257)); have n3_ := zA ((by rw [hg]; exact (below_size (by repeat (first | (with_reducible first | exact HB.out | apply zE | apply zC | apply zD) | exact HB.out))) : w.heap.size ≤ gb257)); clear HB; have HB := n0_; have BK257 := n1_; have GW257 := n2_; have GE257 := n3_; clear n0_ n1_ n2_ n3_; clear hb hbox hg; have hcz44_0 : w43.cell? ⟨gb257, 0, none⟩ = some (.int .i64 a0_0) := (zZ BK257.out 0).trans rfl; have hcz44_1 : w43.cell? ⟨gb257, 1, none⟩ = some (.int .i64 a0_1) := (zZ BK257.out 1).trans rfl; have hcz44_2 : w43.cell? ⟨gb257, 2, none⟩ = some (.slice A0_2 l0_2.length c0_2) := (zZ BK257.out 2).trans rfl; have hcz44_3 : w43.cell? ⟨gb257, 3, none⟩ = some (.int .i64 a0_3) := (zZ BK257.out 3).trans rfl; have hfz44_0 := zY BK257.out 0; have hfz44_1 := zY BK257.out 1; have hfz44_2 := zY BK257.out 2; have hfz44_3 := zY BK257.out 3))
       go_ret
       exact ⟨by first | rfl | (simp [errW_none, errW_some] <;> rfl) | (simp [*, errW_none, errW_some] <;> rfl), by repeat (first | (with_reducible first | exact HB.out | apply zE | apply zC | apply zD | refine zB ?_ GE257.out) | exact HB.out)⟩
      ·rw [if_neg c42] at H
       have c42b0 : ((l0_2.length : Int) == 0) = false := zm.mpr c42
       have c42b1 : ((l0_2.length : Int) != 0) = true := bne_iff_ne.mpr c42
       have c42b2 : ¬ (l0_2 = []) := fun h_ => c42 (by rw [h_]; rfl)
       obtain rfl := zl H
       go_enter Tryd.func34, Tryd.ntmps34
       go_wp2_with (first | ((with_reducible refine gate_dst (N := 1) rfl ?_); (try (refine gate_guard (by rfl) ?_; dsimp only)); refine box_event ?hg (N := 1) ?hd (cs := #[.int .i64 a0_0, .int .i64 a0_1, .slice A0_2 l0_2.length c0_2, .int .i64 a0_3]) (t := 57) ?hr ?_; (case hd => rfl); (case hg => rfl); (case hr => first | (go_simp; done) | (go_simp; rfl)); intro gb257 hg w45 hbox hb; have n0_ := zA (zX (by repeat (first | (with_reducible first | exact HB.out | apply zE | apply zC | apply zD) | exact HB.out)) hb); have n1_ := zA (hbox); have n2_ := zA ((by rw [hg]; exact (below_size (by repeat (first | (with_reducible first | exact HB.out | apply zE | apply zC | apply zD) | exact HB.out))) : w.heap.size ≤ gb257)); have n3_ := zA ((by rw [hg]; exact (below_size (by repeat (first | (with_reducible first | exact HB.out | apply zE | apply zC | apply zD) | exact HB.out))) : w.heap.size ≤ gb257)); clear HB; have HB := n0_; have BK257 := n1_; have GW257 := n2_; have GE257 := n3_; clear n0_ n1_ n2_ n3_; clear hb hbox hg; have hcz46_0 : w45.cell? ⟨gb257, 0, none⟩ = some (.int .i64 a0_0) := (zZ BK257.out 0).trans rfl; have hcz46_1 : w45.cell? ⟨gb257, 1, none⟩ = some (.int .i64 a0_1) := (zZ BK257.out 1).trans rfl; have hcz46_2 : w45.cell? ⟨gb257, 2, none⟩ = some (.slice A0_2 l0_2.length c0_2) := (zZ BK257.out 2).trans rfl; have hcz46_3 : w45.cell? ⟨gb257, 3, none⟩ = some (.int .i64 a0_3) := (zZ BK257.out 3).trans rfl; have hfz46_0 := zY BK257.out 0; have hfz46_1 := zY BK257.out 1; have hfz46_2 := zY BK257.out 2; have hfz46_3 := zY BK257.out 3))
       go_ret
       exact ⟨by first | rfl | (simp [errW_none, errW_some] <;> rfl) | (simp [*, errW_none, errW_some] <;> rfl), by repeat (first | (with_reducible first | exact HB.out | apply zE | apply zC | apply zD | refine zB ?_ GE257.out) | exact HB.out)⟩
     ·rw [if_neg c41] at H
      have c41b0 : (a0_1 == 0) = false := zm.mpr c41
      have c41b1 : (a0_1 != 0) = true := bne_iff_ne.mpr c41
      obtain rfl := zl H
      go_enter Tryd.func34, Tryd.ntmps34
      go_wp2_with (first | ((with_reducible refine gate_dst (N := 1) rfl ?_); (try (refine gate_guard (by rfl) ?_; dsimp only)); refine box_event ?hg (N := 1) ?hd (cs := #[.int .i64 a0_0, .int .i64 a0_1, .slice A0_2 l0_2.length c0_2, .int .i64 a0_3]) (t := 57) ?hr ?_; (case hd => rfl); (case hg => rfl); (case hr => first | (go_simp; done) | (go_simp; rfl)); intro gb257 hg w47 hbox hb; have n0_ := zA (zX (by repeat (first | (with_reducible first | exact HB.out | apply zE | apply zC | apply zD) | exact HB.out)) hb); have n1_ := zA (hbox); have n2_ := zA ((by rw [hg]; exact (below_size (by repeat (first | (with_reducible first | exact HB.out | apply zE | apply zC | apply zD) | exact HB.out))) : w.heap.size ≤ gb257)); have n3_ := zA ((by rw [hg]; exact (below_size (by repeat (first | (with_reducible first | exact HB.out | apply zE | apply zC | apply zD) | exact HB.out))) : w.heap.size ≤ gb257)); clear HB; have HB := n0_; have BK257 := n1_; have GW257 := n2_; have GE257 := n3_; clear n0_ n1_ n2_ n3_; clear hb hbox hg; have hcz48_0 : w47.cell? ⟨gb257, 0, none⟩ = some (.int .i64 a0_0) := (zZ BK257.out 0).trans rfl; have hcz48_1 : w47.cell? ⟨gb257, 1, none⟩ = some (.int .i64 a0_1) := (zZ BK257.out 1).trans rfl; have hcz48_2 : w47.cell? ⟨gb257, 2, none⟩ = some (.slice A0_2 l0_2.length c0_2) := (zZ BK257.out 2).trans rfl; have hcz48_3 : w47.cell? ⟨gb257, 3, none⟩ = some (.int .i64 a0_3) := (zZ BK257.out 3).trans rfl; have hfz48_0 := zY BK257.out 0; have hfz48_1 := zY BK257.out 1; have hfz48_2 := zY BK257.out 2; have hfz48_3 := zY BK257.out 3))
      go_ret
      exact ⟨by first | rfl | (simp [errW_none, errW_some] <;> rfl) | (simp [*, errW_none, errW_some] <;> rfl), by repeat (first | (with_reducible first | exact HB.out | apply zE | apply zC | apply zD | refine zB ?_ GE257.out) | exact HB.out)⟩
    ·rw [if_neg c40] at H
     have c40b0 : (a0_0 == 3) = false := zm.mpr c40
     have c40b1 : (a0_0 != 3) = true := bne_iff_ne.mpr c40
     obtain rfl := zl H
     go_enter Tryd.func34, Tryd.ntmps34
     go_wp2_with (first | ((with_reducible refine gate_dst (N := 1) rfl ?_); (try (refine gate_guard (by rfl) ?_; dsimp only)); refine box_event ?hg (N := 1) ?hd (cs := #[.int .i64 a0_0, .int .i64 a0_1, .slice A0_2 l0_2.length c0_2, .int .i64 a0_3]) (t := 57) ?hr ?_; (case hd => rfl); (case hg => rfl); (case hr => first | (go_simp; done) | (go_simp; rfl)); intro gb257 hg w49 hbox hb; have n0_ := zA (zX (by repeat (first | (with_reducible first | exact HB.out | apply zE | apply zC | apply zD) | exact HB.out)) hb); have n1_ := zA (hbox); have n2_ := zA ((by rw [hg]; exact (below_size (by repeat (first | (with_reducible first | exact HB.out | apply zE | apply zC | apply zD) | exact HB.out))) : w.heap.size ≤ gb257)); have n3_ := zA ((by rw [hg]; exact (below_size (by repeat (first | (with_reducible first | exact HB.out | apply zE | apply zC | apply zD) | exact HB.out))) : w.heap.size ≤ gb257)); clear HB; have HB := n0_; have BK257 := n1_; have GW257 := n2_; have GE257 := n3_; clear n0_ n1_ n2_ n3_; clear hb hbox hg; have hcz50_0 : w49.cell? ⟨gb257, 0, none⟩ = some (.int .i64 a0_0) := (zZ BK257.out 0).trans rfl; have hcz50_1 : w49.cell? ⟨gb257, 1, none⟩ = some (.int .i64 a0_1) := (zZ BK257.out 1).trans rfl; have hcz50_2 : w49.cell? ⟨gb257, 2, none⟩ = some (.slice A0_2 l0_2.length c0_2) := (zZ BK257.out 2).trans rfl; have hcz50_3 : w49.cell? ⟨gb257, 3, none⟩ = some (.int .i64 a0_3) := (zZ BK257.out 3).trans rfl; have hfz50_0 := zY BK257.out 0; have hfz50_1 := zY BK257.out 1; have hfz50_2 := zY BK257.out 2; have hfz50_3 := zY BK257.out 3))
     go_ret
     exact ⟨by first | rfl | (simp [errW_none, errW_some] <;> rfl) | (simp [*, errW_none, errW_some] <;> rfl), by repeat (first | (with_reducible first | exact HB.out | apply zE | apply zC | apply zD | refine zB ?_ GE257.out) | exact HB.out)⟩
end Go.Proofs.YtogmphjhdkgdjaaDoor.QFnExactValidModule
