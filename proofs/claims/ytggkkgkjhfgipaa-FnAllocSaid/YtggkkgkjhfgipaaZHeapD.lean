/- Contract of the program's function objects, within its guards. -/
import Derived.Test.YtggkkgkjhfgipaaZHeapC
namespace Go.Proofs.Ytggkkgkjhfgipaa
open Go.RowKit Go.Proofs.YtggkkgkjhfgipaaW.PrintWords Go.Proofs.YtggkkgkjhfgipaaW.PrintLast Go.Proofs.YtggkkgkjhfgipaaW.PrintMore
open Go.ChangeMaps (setBlock)
set_option linter.unusedVariables false
set_option linter.unusedSimpArgs false

def InI64 (x : Int) : Prop := -9223372036854775808 ≤ x ∧ x ≤ 9223372036854775807
theorem getD_mem {ws : List Int} {p : Nat} (h : p < ws.length) : ws.getD p 0 ∈ ws := by
 rw [List.getD_eq_getElem?_getD, List.getElem?_eq_getElem h]
 exact List.getElem_mem _

theorem objsF_scan {ws : List Int} {t : Nat} (hl : ws.length ≤ 20000) (ht : t ≤ ws.length) : objsF ws (t : Int) = match scanF ws t (t + 1) 0 [] with
  | none => none
  | some L => if (ws.drop t).all (· == 0) then some L else none := by
 unfold objsF
 rw [if_neg (by omega), if_neg (by omega), if_neg (by omega)]
 rfl
theorem objsF_falls {ws : List Int} {t : Nat} (hl : ws.length ≤ 20000) (ht : t ≤ ws.length) (h : scanF ws t (t + 1) 0 [] = none) : objsF ws (t : Int) = none := by
 rw [objsF_scan hl ht, h]
theorem below_setBlock {B b : Nat} {w wr : World} (h : Below B w wr) (hb : B ≤ b) (o : Obj) : Below B w (setBlock wr b o) := by
 refine ⟨h.os, h.tape, h.output, by simpa [setBlock] using h.size, fun i hi => ?_⟩
 have : (setBlock wr b o).heap[i]? = wr.heap[i]? := by
  simp [setBlock, Array.getElem?_setIfInBounds]
  intro e
  omega
 exact this.trans (h.block i hi)
theorem cut_fields (w : World) (A : Option Addr) (c : Nat) (ws : List Int) (p n : Nat) (q : Int) (hr : Kd.C (Kd.int .i64) w A ws.length ws) (hc : ws.length ≤ c) (hpn : p + 1 + n ≤ ws.length) (hq : q = n) :
  ∃ (A' : Option Addr) (c' : Nat), (∀ W : World, (Instr.slice 29 (.slice A ws.length c) (some (.int .i64 ((p : Int) + 1))) (some (.int .i64 ((p : Int) + 1 + q))) none).run Try.prog W = .ok (.slice A' n c') W) ∧
   n ≤ c' ∧ (fieldsAt ws p n).length = n ∧ Kd.C (Kd.int .i64) w A' n (fieldsAt ws p n) := by
 obtain ⟨i, hi, hz0, hz1, hz2⟩ := info_parts (show (Try.prog.info? 3).map (fun i => (i.zero, i.size, i.bytes)) = some (some (.int .i64 0), 1, 8) by kernel_rfl)
 have hlen : (fieldsAt ws p n).length = n := by unfold fieldsAt; rw [List.length_drop, List.length_take]; omega
 have h1 := cut_mid (P := Try.prog) 29 3 .i64 .i64 Try.underlying29 hi 1 hz1 A ws.length c ((p : Int) + 1) ((p : Int) + 1 + q) (by omega) (by omega) (by omega) hc
 have h2 := Kd.C_mid (c := c) (lo := p + 1) (hi := p + 1 + n) hr (by omega) hpn hc
 have e1 : ((p : Int) + 1).toNat = p + 1 := by omega
 have e2 : ((p : Int) + 1 + q).toNat = p + 1 + n := by omega
 rw [e1, e2, show p + 1 + n - (p + 1) = n by omega] at h1
 refine ⟨_, _, h1, by omega, hlen, ?_⟩
 have h3 : ((ws.take (p + 1 + n)).drop (p + 1)).length = n := hlen
 rw [h3] at h2
 exact h2
theorem cut_rest (w : World) (A : Option Addr) (c : Nat) (ws : List Int) (p : Nat) (hr : Kd.C (Kd.int .i64) w A ws.length ws) (hc : ws.length ≤ c) (hp : p ≤ ws.length) :
  ∃ (A' : Option Addr) (c' : Nat), (∀ W : World, (Instr.slice 29 (.slice A ws.length c) (some (.int .i64 (p : Int))) none none).run Try.prog W = .ok (.slice A' (ws.drop p).length c') W) ∧
   Kd.C (Kd.int .i64) w A' (ws.drop p).length (ws.drop p) ∧ (ws.drop p).length ≤ 9223372036854775807 := by
 obtain ⟨i, hi, hz0, hz1, hz2⟩ := info_parts (show (Try.prog.info? 3).map (fun i => (i.zero, i.size, i.bytes)) = some (some (.int .i64 0), 1, 8) by kernel_rfl)
 have hlen : (ws.drop p).length = ws.length - p := List.length_drop
 have h1 := cut_from (P := Try.prog) 29 3 .i64 Try.underlying29 hi 1 hz1 A ws.length c (p : Int) (by omega) (by omega)
 have h2 := Kd.C_drop (c := c) (m := p) hr hp hc
 rw [Int.toNat_natCast, ← hlen] at h1
 exact ⟨_, _, h1, h2, by have := hr.2.1; omega⟩
/-- The first j words are nought. -/
def ZerosTo (zs : List Int) (j : Nat) : Prop := (zs.take j).all (· == 0) = true
theorem ZerosTo.zero (zs : List Int) : ZerosTo zs 0 := by simp [ZerosTo]
theorem ZerosTo.succ {zs : List Int} {j : Nat} (h : ZerosTo zs j) (hj : j < zs.length) (hf : zs.getD j 0 = 0) : ZerosTo zs (j + 1) := by
 unfold ZerosTo at *
 rw [all_take_succ _ zs j hj, h, hf]
 rfl
theorem ZerosTo.whole {zs : List Int} (h : ZerosTo zs zs.length) : zs.all (· == 0) = true := by
 unfold ZerosTo at h
 rwa [List.take_length] at h
theorem ZerosTo.falls {zs : List Int} {j : Nat} (hj : j < zs.length) (hf : zs.getD j 0 ≠ 0) : ¬ zs.all (· == 0) = true := by
 rw [all_false_of _ zs j hj (by simpa using hf)]
 decide
theorem headAt_neg {ws : List Int} {t p : Nat} (h : ws.getD p 0 < 0) : headAt ws t p = false := by
 unfold headAt
 rw [decide_eq_false (by omega)]
 rfl
theorem headAt_bad {ws : List Int} {t p : Nat} (h : headF (ws.getD p 0 % 4) (ws.getD p 0 / 4) = false) : headAt ws t p = false := by
 unfold headAt
 rw [h]
 simp
theorem headAt_big {ws : List Int} {t p : Nat} (h : ¬ p + 1 + (ws.getD p 0 / 4).toNat ≤ t) : headAt ws t p = false := by
 unfold headAt
 rw [decide_eq_false h]
 simp
theorem headAt_ok {ws : List Int} {t p : Nat} (h0 : 0 ≤ ws.getD p 0) (h1 : headF (ws.getD p 0 % 4) (ws.getD p 0 / 4) = true) (h : p + 1 + (ws.getD p 0 / 4).toNat ≤ t) : headAt ws t p = true := by
 unfold headAt
 rw [decide_eq_true h0, h1, decide_eq_true h]
 rfl

set_option maxHeartbeats 2000000 in
set_option maxRecDepth 100000 in
theorem objects_in (A : Option Addr) (c : Nat) (ws : List Int) (t : Nat) (w : World) (hr : Kd.C (Kd.int .i64) w A ws.length ws) (hc : ws.length ≤ c) (hx : ∀ x ∈ ws, InI64 x) (hl : ws.length ≤ 20000) (ht : t ≤ ws.length) :
  Calls Try.prog 58 #[.agg #[.slice A ws.length c, .int .i64 (t : Int)]] w (ObjsPost w ws (t : Int)) := by
 have HR := Lib.hid hr
 have HX := Lib.hid hx
 clear hr hx
 have hu := Try.underlying31
 have b1 : decide ((20000 : Int) < (ws.length : Int)) = false := decide_eq_false (by omega)
 have b2 : decide ((t : Int) < 0) = false := decide_eq_false (by omega)
 have b3 : decide ((ws.length : Int) < (t : Int)) = false := decide_eq_false (by omega)
 have b4 : decide (ws.length < t) = false := decide_eq_false (by omega)
 have hmm := @run_makeMap Try.prog
 go_enter Try.func58, Try.ntmps58
 go_wp2_with fail
 clear b1 b2 b3 b4 hmm
 go_loopw [5] (fun v wr => ∃ (p : Nat) (L : List (Nat × Nat)) (es : List MapEntry), v = .int .i64 p ∧ Came ws t p L ∧ EntsOf w ws L es ∧ Hid (wr.heap[w.heap.size + 1]? = some (.map es.toArray L.length)) ∧ Hid (Below w.heap.size w wr) ∧
   Hid (wr.heap[w.heap.size]? = some (.cells #[.slice A ws.length c, .int .i64 (t : Int)] 31 (0, 0)))) (fun v _ => t - (intOf v).toNat)
 case atStart =>
  refine ⟨0, [], [], rfl, Came.start _ _, EntsOf.nil _ _, ?_, Lib.hid (((Below.refl _ _).alloc (Nat.le_refl _) _).alloc (by simp) _), ?_⟩
  ·have h0 : (w.alloc (.cells #[.slice A ws.length c, .int .i64 (t : Int)] 31)).heap.size = w.heap.size + 1 := by simp
   exact Lib.hid (by rw [← h0]; exact heap_alloc_new _ _)
  ·exact Lib.hid ((heap_alloc_old _ _ (by simp)).trans (heap_alloc_new w _))
 case round =>
  obtain ⟨p, L, es, rfl, HC, HE, HM, HB, HBX⟩ := hrel
  have hc0 : wr.cell? ⟨w.heap.size, 0, none⟩ = some (.slice A ws.length c) := (blk_cell HBX.out 0).trans rfl
  have hc1 : wr.cell? ⟨w.heap.size, 1, none⟩ = some (.int .i64 (t : Int)) := (blk_cell HBX.out 1).trans rfl
  have hpt : p ≤ t := HC.1
  by_cases hlt : p < t
  ·obtain ⟨ad, ha, hcell⟩ := Kd.at_int HR.out (p : Int) (by omega) (by omega)
   have hcell' := (HB.out.cell (World.block_lt_of_cell? w _ hcell)).trans hcell
   rw [Int.toNat_natCast] at hcell'
   obtain ⟨x, hxd⟩ : ∃ x, x = ws.getD p 0 := ⟨_, rfl⟩
   rw [show rd ws (p : Int) = x from hxd.symm] at hcell'
   have hx0 := HX.out x (by rw [hxd]; exact getD_mem (by omega))
   obtain ⟨hxl, hxu⟩ := hx0
   have HXD := Lib.hid hxd
   clear hcell hxd
   cases ha
   by_cases hneg : x < 0
   ·have HF : Hid (objsF ws (t : Int) = none) := objsF_falls hl ht (HC.falls hlt (headAt_neg (by rw [← HXD.out]; exact hneg)))
    go_wp2
    go_ret2
    exact ObjsPost.no HF.out HB.out
   ·have hnn : 0 ≤ x := by omega
    have bn : decide (x < 0) = false := decide_eq_false hneg
    clear hneg
    have hq0 : 0 ≤ x / 4 := by omega
    cases hv : headF (x % 4) (x / 4) with
    | false =>
     have HV := Lib.hid hv
     have HF : Hid (objsF ws (t : Int) = none) := objsF_falls hl ht (HC.falls hlt (headAt_bad (by rw [← HXD.out]; exact hv)))
     clear hv
     go_wp2_with (go_at_call 41; refine (headOk_calls _ _ _).mono ?_; rintro e w' ⟨rfl, rfl⟩; rw [and_three, HV.out])
     go_ret2
     exact ObjsPost.no HF.out HB.out
    | true =>
     have HV := Lib.hid hv
     have hq1 : x / 4 ≤ 1000 := headF_le hv hq0
     clear hv
     by_cases hfit : p + 1 + (x / 4).toNat ≤ t
     ·obtain ⟨A', c', hsl, hc', hfl, hfr⟩ := cut_fields w (some ad) c ws p (x / 4).toNat (x / 4) HR.out hc (by omega) (by omega)
      have hst := fun v => run_store_new Try.underlying59 Try.underlying3 HM.out HE.intKeys (p : Int) v (HE.look_none (p : Int) (fun q hq => by have := HC.2.1 q hq; omega))
      have HT : Hid (headAt ws t p = true) := headAt_ok (by rw [← HXD.out]; exact hnn) (by rw [← HXD.out]; exact HV.out) (by rw [← HXD.out]; exact hfit)
      have HS : Hid (sizeAt ws p = (x / 4).toNat) := by rw [HXD.out]; rfl
      have HFL := Lib.hid hfl
      have HFR := Lib.hid hfr
      have bf : decide ((t : Int) < (p : Int) + 1 + x / 4) = false := decide_eq_false (by omega)
      clear hfl hfr
      go_wp2_with (go_at_call 41; refine (headOk_calls _ _ _).mono ?_; rintro e w' ⟨rfl, rfl⟩; rw [and_three, HV.out])
      clear hst hsl bf bn
      go_roundw
      case rel =>
       refine ⟨p + 1 + sizeAt ws p, L ++ [(p, sizeAt ws p)], _, by rw [HS.out]; congr 1; omega, HC.next hlt HT.out, HE.snoc p (sizeAt ws p) (a := A') (c := c') (by rw [HS.out]; exact hc') (by rw [HS.out]; exact HFL.out) (by rw [HS.out]; exact HFR.out), ?_, Lib.hid (below_setBlock HB.out (by omega) _), Lib.hid ?_⟩
       ·refine Lib.hid ((Go.ChangeMaps.heap_setBlock_same HM.out _).trans ?_)
        rw [HS.out, ← HXD.out, and_three]
        simp
       ·exact (Go.ChangeMaps.heap_setBlock_other HM.out _ (by omega)).trans HBX.out
      case measure => simp [intOf]; omega
     ·have HF : Hid (objsF ws (t : Int) = none) := objsF_falls hl ht (HC.falls hlt (headAt_big (by rw [← HXD.out]; exact hfit)))
      have bf : decide ((t : Int) < (p : Int) + 1 + x / 4) = true := decide_eq_true (by omega)
      go_wp2_with (go_at_call 41; refine (headOk_calls _ _ _).mono ?_; rintro e w' ⟨rfl, rfl⟩; rw [and_three, HV.out])
      go_ret2
      exact ObjsPost.no HF.out HB.out
  ·obtain ⟨rfl, hscan⟩ := HC.done hlt
   have HSC := Lib.hid hscan
   obtain ⟨A2, c2, hsl, hz, hzl⟩ := cut_rest w A c ws p HR.out hc ht
   obtain ⟨zs, hzs⟩ : ∃ zs, zs = ws.drop p := ⟨_, rfl⟩
   rw [← hzs] at hsl hz hzl
   have HZS := Lib.hid hzs
   have HZ := Lib.hid hz
   have hobj : objsF ws (p : Int) = if (ws.drop p).all (· == 0) then some L else none := by
    rw [objsF_scan hl ht, hscan]
   rw [← hzs] at hobj
   have HO := Lib.hid hobj
   clear hscan hzs hz hobj hlt hpt
   go_wp2_with fail
   clear hsl
   go_loop [81] (fun v => ∃ j : Nat, j ≤ zs.length ∧ v = .int .i64 j ∧ ZerosTo zs j) (fun v => zs.length - (intOf v).toNat)
   case atStart => exact ⟨0, Nat.zero_le _, rfl, ZerosTo.zero _⟩
   case round =>
    obtain ⟨j, hj, rfl, HJ⟩ := hrel
    by_cases hlt2 : j < zs.length
    ·obtain ⟨ad, ha, hcell⟩ := Kd.at_int HZ.out (j : Int) (by omega) (by omega)
     have hcell' := (HB.out.cell (World.block_lt_of_cell? w _ hcell)).trans hcell
     rw [Int.toNat_natCast] at hcell'
     obtain ⟨x, hxd⟩ : ∃ x, x = zs.getD j 0 := ⟨_, rfl⟩
     rw [show rd zs (j : Int) = x from hxd.symm] at hcell'
     have HXD := Lib.hid hxd
     clear hcell hxd
     cases ha
     by_cases hx0 : x = 0
     ·subst hx0
      go_wp2
      go_round
      case rel => exact ⟨j + 1, by omega, by go_num, HJ.succ hlt2 HXD.out.symm⟩
      case measure => simp [intOf]; omega
     ·have bx : (x != 0) = true := by simpa using hx0
      have HF : Hid (objsF ws (p : Int) = none) := by
       show objsF ws (p : Int) = none
       rw [HO.out, if_neg]
       exact ZerosTo.falls hlt2 (by rw [← HXD.out]; exact hx0)
      clear hx0
      go_wp2
      go_ret2
      exact ObjsPost.no HF.out HB.out
    ·obtain rfl : j = zs.length := by omega
     have HF : Hid (objsF ws (p : Int) = some L) := by
      show objsF ws (p : Int) = some L
      rw [HO.out, if_pos HJ.whole]
     go_wp2
     go_ret2
     exact ObjsPost.yes HF.out HB.out HE HM.out

theorem objects_calls (A : Option Addr) (c : Nat) (ws : List Int) (top : Int) (w : World) (hr : Kd.C (Kd.int .i64) w A ws.length ws) (hc : ws.length ≤ c) (hx : ∀ x ∈ ws, InI64 x) :
  Calls Try.prog 58 #[.agg #[.slice A ws.length c, .int .i64 top]] w (ObjsPost w ws top) := by
 by_cases h : ws.length > 20000 ∨ top < 0 ∨ top > ws.length
 ·exact objects_guard A c ws top w hr hc h
 ·obtain ⟨t, rfl⟩ := Int.eq_ofNat_of_zero_le (show 0 ≤ top by omega)
  exact objects_in A c ws t w hr hc hx (by omega) (by omega)
end Go.Proofs.Ytggkkgkjhfgipaa
