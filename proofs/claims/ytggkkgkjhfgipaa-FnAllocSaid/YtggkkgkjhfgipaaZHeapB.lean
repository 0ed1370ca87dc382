/- Contracts of the program's functions on heaps: headOk, objectOk. -/
import Derived.Test.YtggkkgkjhfgipaaZHeapA
namespace Go.Proofs.Ytggkkgkjhfgipaa
open Go.RowKit Go.Proofs.YtggkkgkjhfgipaaW.PrintWords Go.Proofs.YtggkkgkjhfgipaaW.PrintLast Go.Proofs.YtggkkgkjhfgipaaW.PrintMore
set_option linter.unusedVariables false
set_option linter.unusedSimpArgs false

theorem ObjMap.below {w w' : World} {b : Nat} {es : List MapEntry} (h : ObjMap w b es) (hb : Below w.heap.size w w') : ObjMap w' b es := by
 obtain ⟨⟨clock, h1⟩, h2, h3⟩ := h
 have hlt : b < w.heap.size := (Array.getElem?_eq_some_iff.1 h1).1
 exact ⟨⟨clock, (hb.block b hlt).trans h1⟩, h2, h3⟩

theorem ObjMap.alloc {w : World} {b : Nat} {es : List MapEntry} (h : ObjMap w b es) (o : Obj) : ObjMap (w.alloc o) b es := h.below ((Below.refl _ _).alloc (Nat.le_refl _) _)
/-- An object is valid over the places of objects. -/
def objF (isP : Int → Bool) (k : Int) (xs : List Int) : Bool := xs.all (wordF isP) && (k != 2 || (xs.getD 0 0 % 4 == 0 && decide (xs.getD 0 0 ≥ 0)))
theorem all_take_succ (f : Int → Bool) (xs : List Int) (i : Nat) (h : i < xs.length) : (xs.take (i + 1)).all f = ((xs.take i).all f && f (xs.getD i 0)) := by
 rw [List.take_succ_eq_append_getElem h, List.all_append]
 simp [List.getD_eq_getElem?_getD, List.getElem?_eq_getElem h]
theorem all_false_of (f : Int → Bool) (xs : List Int) (i : Nat) (h : i < xs.length) (hf : f (xs.getD i 0) = false) : xs.all f = false := by
 rw [Bool.eq_false_iff]
 intro ha
 have := List.all_eq_true.1 ha (xs.getD i 0) (by rw [List.getD_eq_getElem?_getD, List.getElem?_eq_getElem h]; exact List.getElem_mem _)
 rw [hf] at this
 cases this

/-- The first j words are valid. -/
def AllTo (f : Int → Bool) (xs : List Int) (j : Nat) : Prop := (xs.take j).all f = true
theorem AllTo.zero (f : Int → Bool) (xs : List Int) : AllTo f xs 0 := by simp [AllTo]
theorem AllTo.succ {f : Int → Bool} {xs : List Int} {j : Nat} (h : AllTo f xs j) (hj : j < xs.length) (hf : f (xs.getD j 0) = true) : AllTo f xs (j + 1) := by
 unfold AllTo at *
 rw [all_take_succ f xs j hj, h, hf]
 rfl
theorem AllTo.whole {f : Int → Bool} {xs : List Int} (h : AllTo f xs xs.length) : xs.all f = true := by
 unfold AllTo at h
 rwa [List.take_length] at h
theorem objF_false {isP : Int → Bool} {k : Int} {xs : List Int} {j : Nat} (hj : j < xs.length) (hf : wordF isP (xs.getD j 0) = false) : objF isP k xs = false := by
 unfold objF
 rw [all_false_of _ xs j hj hf]
 rfl
theorem objF_other {isP : Int → Bool} {k : Int} {xs : List Int} (h : AllTo (wordF isP) xs xs.length) (hk : k ≠ 2) : objF isP k xs = true := by
 unfold objF
 rw [h.whole]
 simp [hk]
theorem objF_proc {isP : Int → Bool} {xs : List Int} (h : AllTo (wordF isP) xs xs.length) : objF isP 2 xs = (xs.getD 0 0 % 4 == 0 && decide (xs.getD 0 0 ≥ 0)) := by
 unfold objF
 rw [h.whole]
 simp

set_option maxHeartbeats 1000000 in
theorem objectOk_calls (k : Int) (a : Option Addr) (c : Nat) (xs : List Int) (b : Nat) (es : List MapEntry) (w : World) (hr : Kd.C (Kd.int .i64) w a xs.length xs) (hlen : xs.length ≤ 4611686018427387904)
  (hx : ∀ x ∈ xs, x ≤ 9223372036854775807) (hm : ObjMap w b es) (hk : k = 2 → 0 < xs.length) :
  Calls Try.prog 42 #[.agg #[.int .i64 k, .slice a xs.length c], .map (some b)] w fun e w' => e = .returned (.bool (objF (fun p => (lookAt es p).isSome) k xs)) ∧ Below w.heap.size w w' := by
 have HM := Lib.hid hm
 have HX := Lib.hid hx
 have HR := Lib.hid hr
 have HK := Lib.hid hk
 clear hm hx hr hk
 have hu := Try.underlying66
 obtain ⟨isP, hP⟩ : ∃ isP : Int → Bool, isP = fun p => (lookAt es p).isSome := ⟨_, rfl⟩
 have hw := fun x b w h1 hm => wordOk_calls x b es w h1 hm
 rw [← hP] at hw ⊢
 have HW := Lib.hid hw
 clear hw hP
 go_enter Try.func42, Try.ntmps42
 go_wp2_with fail
 go_loopw [10] (fun i wr => ∃ j : Nat, j ≤ xs.length ∧ i = .int .i64 j ∧ Hid (Below w.heap.size w wr) ∧ Hid (wr.heap[w.heap.size]? = some (.cells #[.int .i64 k, .slice a xs.length c] 66 (0, 0))) ∧ AllTo (wordF isP) xs j) (fun i _ => xs.length - (intOf i).toNat)
 case atStart => exact ⟨0, Nat.zero_le _, rfl, (Below.refl _ _).alloc (Nat.le_refl _) _, heap_alloc_new w _, AllTo.zero _ _⟩
 case round =>
  obtain ⟨j, hj, rfl, HB, HBX, HA⟩ := hrel
  by_cases hlt : j < xs.length
  ·obtain ⟨ad, ha, hcell⟩ := Kd.at_int HR.out (j : Int) (by omega) (by omega)
   have hcell' := (HB.out.cell (World.block_lt_of_cell? w _ hcell)).trans hcell
   rw [Int.toNat_natCast] at hcell'
   obtain ⟨x, hxd⟩ : ∃ x, x = xs.getD j 0 := ⟨_, rfl⟩
   rw [show rd xs (j : Int) = x from hxd.symm] at hcell'
   have hx1 : x ≤ 9223372036854775807 := HX.out x (by rw [hxd, List.getD_eq_getElem?_getD, List.getElem?_eq_getElem hlt]; exact List.getElem_mem _)
   have HXD := Lib.hid hxd
   have HMr := Lib.hid (HM.out.below HB.out)
   clear hcell hxd HM
   cases ha
   cases hv : wordF isP x with
   | true =>
    have HV := Lib.hid hv
    clear hv
    go_wp2_with (go_at_call 59; refine (HW.out x b _ hx1 HMr.out).mono ?_; rintro e w1 ⟨rfl, hb1⟩; rw [HV.out])
    have HB1 := Lib.hid hb1
    clear hb1
    go_roundw
    case rel => exact ⟨j + 1, by omega, by go_num, HB.out.trans (HB1.out.mono HB.out.size), (HB1.out.block _ (Array.getElem?_eq_some_iff.1 HBX.out).1).trans HBX.out, HA.succ hlt (by rw [← HXD.out]; exact HV.out)⟩
    case measure => simp [intOf]; omega
   | false =>
    have HV := Lib.hid hv
    clear hv
    go_wp2_with (go_at_call 59; refine (HW.out x b _ hx1 HMr.out).mono ?_; rintro e w1 ⟨rfl, hb1⟩; rw [HV.out])
    go_ret
    rename_i hb1
    exact ⟨ret_bool (objF_false hlt (by rw [← HXD.out]; exact HV.out)).symm, HB.out.trans (hb1.mono HB.out.size)⟩
  ·have hc0 : wr.cell? ⟨w.heap.size, 0, none⟩ = some (.int .i64 k) := (blk_cell HBX.out 0).trans rfl
   have hc1 : wr.cell? ⟨w.heap.size, 1, none⟩ = some (.slice a xs.length c) := (blk_cell HBX.out 1).trans rfl
   obtain rfl : j = xs.length := by omega
   by_cases hk2 : k = 2
   ·subst hk2
    have hpos := HK.out rfl
    obtain ⟨ad, ha, hcell⟩ := Kd.at_int HR.out (0 : Int) (by omega) (by omega)
    have hcell' := (HB.out.cell (World.block_lt_of_cell? w _ hcell)).trans hcell
    obtain ⟨x, hxd⟩ : ∃ x, x = xs.getD 0 0 := ⟨_, rfl⟩
    rw [show rd xs (0 : Int) = x from hxd.symm, show ad.add (Int.toNat 0) = ad by simp [Addr.add]] at hcell'
    have hp : 0 < xs.length := hpos
    have HG : Hid (objF isP 2 xs = (x % 4 == 0 && decide (x ≥ 0))) := by rw [hxd]; exact objF_proc HA
    cases ha
    clear hcell hxd HM HA HK hpos
    by_cases h4 : x % 4 = 0
    ·have H4 := Lib.hid h4
     clear h4
     by_cases h0 : 0 ≤ x
     ·have h0b : decide (0 ≤ x) = true := decide_eq_true h0
      clear h0
      go_wp2_with (go_at_call 46; refine (tagOf_calls x 0 H4.out _).mono ?_; rintro e w' ⟨rfl, rfl⟩)
      go_ret
      exact ⟨ret_bool (by rw [HG.out, H4.out]; simp [h0b]), HB.out⟩
     ·have h0b : decide (0 ≤ x) = false := decide_eq_false h0
      clear h0
      go_wp2_with (go_at_call 46; refine (tagOf_calls x 0 H4.out _).mono ?_; rintro e w' ⟨rfl, rfl⟩)
      go_ret
      exact ⟨ret_bool (by rw [HG.out, H4.out]; simp [h0b]), HB.out⟩
    ·obtain ⟨t, ht⟩ : ∃ t, x % 4 = t := ⟨_, rfl⟩
     have HT := Lib.hid ht
     have htb : (t == 0) = false := by rw [ht] at h4; simpa using h4
     clear ht h4
     go_wp2_with (go_at_call 46; refine (tagOf_calls x t HT.out _).mono ?_; rintro e w' ⟨rfl, rfl⟩)
     go_ret
     exact ⟨ret_bool (by rw [HG.out, HT.out, htb]; rfl), HB.out⟩
   ·have hkb : (k != 2) = true := by simpa using hk2
    have HG : Hid (objF isP k xs = true) := objF_other HA hk2
    clear hk2 HM HA HK
    go_wp2
    go_ret
    exact ⟨ret_bool HG.out.symm, HB.out⟩
end Go.Proofs.Ytggkkgkjhfgipaa
