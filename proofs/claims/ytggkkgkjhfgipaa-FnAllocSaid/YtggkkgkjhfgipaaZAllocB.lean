/- The program's Alloc: what it computes, and its walk. -/
import Derived.Test.YtggkkgkjhfgipaaZAllocA
namespace Go.Proofs.Ytggkkgkjhfgipaa
open Go.RowKit Go.Proofs.YtggkkgkjhfgipaaW.PrintWords Go.Proofs.YtggkkgkjhfgipaaW.PrintLast Go.Proofs.YtggkkgkjhfgipaaW.PrintMore
set_option linter.unusedVariables false
set_option linter.unusedSimpArgs false
/-- Can an object of this kind and of these fields be made? -/
def newOk (ws : List Int) (top k : Int) (fs : List Int) : Bool := match objsF ws top with
 | none => false
 | some L => validF ws top [] && (decide (0 ≤ k) && (decide (k ≤ 3) && (headF k fs.length && objF (isPlace L) k fs)))
def allocF (ws : List Int) (top k : Int) (fs : List Int) : List Int × Int × Int × Int :=
 if newOk ws top k fs = true then
  (if (ws.length : Int) < top + 1 + fs.length then ([], 0, 0, 13)
     else (ws.take top.toNat ++ (4 * fs.length + k) :: fs ++ ws.drop (top.toNat + 1 + fs.length), top + 1 + fs.length, 4 * top + 1, 0))
 else ([], 0, 0, 1)
def AllocPost (w : World) (r : List Int × Int × Int × Int) (e : Ending) (w' : World) : Prop :=
 ∃ v0_ : Value, e = .returned (.tuple #[.agg #[v0_, .int .i64 r.2.1], .int .i64 r.2.2.1, .int .i64 r.2.2.2]) ∧ Kd.R (Kd.int .i64) 3 w' w.heap.size (fun _ => True) v0_ r.1 ∧ Below w.heap.size w w'
theorem headF_two {n : Int} (h : headF 2 n = true) : 0 < n := by
 simp [headF] at h
 omega
theorem AllocPost.none {w w' : World} {r : List Int × Int × Int × Int} (c : Int) (hr : r = ([], 0, 0, c)) (hb : Below w.heap.size w w') : AllocPost w r (.returned (.tuple #[.agg #[.slice none 0 0, .int .i64 0], .int .i64 0, .int .i64 c])) w' := by
 subst hr
 exact ⟨_, rfl, Kd.R_nil _ _ _ _ _, hb⟩

theorem held_below {W w5 : World} {p0 p1 : Addr} {v0 v1 : Value} {ad : Option Addr} {n : Nat} {ws : List Int} (hb : Below W.heap.size W w5) (h : W.cell? p0 = some v0 ∧ W.cell? p1 = some v1 ∧ Hid (Kd.C (Kd.int .i64) W ad n ws)) :
  w5.cell? p0 = some v0 ∧ w5.cell? p1 = some v1 ∧ Hid (Kd.C (Kd.int .i64) w5 ad n ws) :=
 ⟨(hb.cell (World.block_lt_of_cell? W _ h.1)).trans h.1, (hb.cell (World.block_lt_of_cell? W _ h.2.1)).trans h.2.1, Lib.hid (Kd.C_below h.2.2.out hb)⟩
theorem held_alloc {W : World} (o : Obj) {p0 p1 : Addr} {v0 v1 : Value} {ad : Option Addr} {n : Nat} {ws : List Int} (h : W.cell? p0 = some v0 ∧ W.cell? p1 = some v1 ∧ Hid (Kd.C (Kd.int .i64) W ad n ws)) :
  (W.alloc o).cell? p0 = some v0 ∧ (W.alloc o).cell? p1 = some v1 ∧ Hid (Kd.C (Kd.int .i64) (W.alloc o) ad n ws) :=
 held_below ((Below.refl _ _).alloc (Nat.le_refl _) _) h
theorem new_row {ws fs : List Int} {tail : List Value} {t : Nat} {v : Int} (h : t + 1 + fs.length ≤ ws.length) :
  splice ((ints ws ++ tail).set t (.int .i64 v)) (t + 1) (ints fs) = ints (ws.take t ++ v :: fs ++ ws.drop (t + 1 + fs.length)) ++ tail := by
 have hl : t < (ints ws ++ tail).length := by simp [ints]; omega
 have e1 : (ints ws ++ tail).set t (.int .i64 v) = ints (ws.take t) ++ (.int .i64 v :: (ints (ws.drop (t + 1)) ++ tail)) := by
  rw [List.set_eq_take_append_cons_drop, if_pos hl]
  rw [List.take_append_of_le_length (by simp [ints]; omega), List.drop_append_of_le_length (by simp [ints]; omega)]
  simp [ints]
 have hlt : (ints (ws.take t)).length = t := by simp [ints]; omega
 have e2 : (ints (ws.take t) ++ (Value.int .i64 v :: (ints (ws.drop (t + 1)) ++ tail))).take (t + 1) = ints (ws.take t) ++ [.int .i64 v] := by
  rw [List.take_append, hlt]
  simp [hlt, Nat.add_sub_cancel_left]
  rw [List.take_of_length_le (by omega)]
 have e3 : (ints (ws.take t) ++ (Value.int .i64 v :: (ints (ws.drop (t + 1)) ++ tail))).drop (t + 1 + fs.length) = ints (ws.drop (t + 1 + fs.length)) ++ tail := by
  rw [List.drop_append, hlt, List.drop_eq_nil_of_le (by omega), show t + 1 + fs.length - t = fs.length + 1 by omega, List.nil_append, List.drop_succ_cons,
   List.drop_append_of_le_length (by simp [ints]; omega)]
  simp [ints]
 rw [e1]
 unfold splice
 rw [ints_length, e2, e3]
 simp [ints]
theorem alloc_done {w wx : World} {ws fs : List Int} {top k : Int} {g cap : Nat} {tail : List Value} {CUR : List Value} (hN : newOk ws top k fs = true) (h0 : 0 ≤ top) (hfit : top + 1 + (fs.length : Int) ≤ (ws.length : Int))
  (hC : CUR = (ints ws ++ tail).set top.toNat (.int .i64 (4 * (fs.length : Int) + k))) (hcap : cap = ws.length + tail.length) (hmax : cap ≤ maxLen) (hg : w.heap.size ≤ g)
  (hh : wx.heap[g]? = some (.cells (splice CUR (top + 1).toNat (ints fs)).toArray 3 (0, 0))) (hb : Below w.heap.size w wx) :
  AllocPost w (allocF ws top k fs) (.returned (.tuple #[.agg #[.slice (some ⟨g, 0, none⟩) ws.length cap, .int .i64 (top + 1 + (fs.length : Int))], .int .i64 (4 * top + 1), .int .i64 0])) wx := by
 have hA : allocF ws top k fs = (ws.take top.toNat ++ (4 * (fs.length : Int) + k) :: fs ++ ws.drop (top.toNat + 1 + fs.length), top + 1 + fs.length, 4 * top + 1, 0) := by
  unfold allocF
  rw [if_pos hN, if_neg (by omega)]
 have ht : (top + 1).toNat = top.toNat + 1 := by omega
 rw [hC, ht, new_row (by omega)] at hh
 rw [hA]
 have hlen : (ws.take top.toNat ++ (4 * (fs.length : Int) + k) :: fs ++ ws.drop (top.toNat + 1 + fs.length)).length = ws.length := by
  simp
  omega
 generalize (ws.take top.toNat ++ (4 * (fs.length : Int) + k) :: fs ++ ws.drop (top.toNat + 1 + fs.length)) = zs at hh hlen ⊢
 refine ⟨_, rfl, ?_, hb⟩
 show Kd.R (Kd.int .i64) 3 wx w.heap.size (fun _ => True) _ zs
 refine Kd.R_of_own (xs := zs) ?_ (fun _ _ => trivial)
 refine ⟨by simp [encs], .inr ⟨g, cap, _, by rw [hlen], hg, hh, by omega, hmax, ?_, ?_⟩⟩
 ·simp [ints]
  omega
 ·simp [ints, encs]
theorem min_fits {n m : Nat} (h : n ≤ m) : n = Nat.min n m := (Nat.min_eq_left h).symm
theorem alloc_le (w : World) (o : Obj) : w.heap.size ≤ (w.alloc o).heap.size := by simp
set_option maxHeartbeats 4000000 in
set_option maxRecDepth 100000 in
theorem Alloc_calls (A : Option Addr) (c : Nat) (ws : List Int) (top k : Int) (F : Option Addr) (cf : Nat) (fs : List Int) (w : World) (hr : Kd.C (Kd.int .i64) w A ws.length ws) (hc : ws.length ≤ c) (hx : ∀ x ∈ ws, InI64 x)
  (hr2 : Kd.C (Kd.int .i64) w F fs.length fs) (hc2 : fs.length ≤ cf) (hx2 : ∀ x ∈ fs, InI64 x) :
  Calls Try.prog 27 #[.agg #[.slice A ws.length c, .int .i64 top], .int .i64 k, .slice F fs.length cf] w (AllocPost w (allocF ws top k fs)) := by
 have HR := Lib.hid hr
 have HX := Lib.hid hx
 have HR2 := Lib.hid hr2
 have HX2 := Lib.hid hx2
 have hlf : fs.length ≤ 9223372036854775807 := hr2.2.1
 clear hr hx hr2 hx2
 have hu := Try.underlying31
 go_enter Try.func27, Try.ntmps27
 go_wp2_with fail
 refine (validHeap_calls A c ws top none 0 [] _ (Kd.C_alloc (Kd.C_alloc HR.out _) _) hc HX.out (by exact ⟨rfl, by simp, fun h => absurd h (by simp)⟩) (by simp) (by simp)).mono ?_
 intro e w1 hpost
 have HB : Hid (Below w.heap.size w w1) := Lib.hid (((Below.refl _ _).alloc (Nat.le_refl _) _).trans (((Below.refl _ _).alloc (Nat.le_refl _) _).trans (hpost.1.mono (by simp))|>.mono (by simp)))
 have hbox : w1.heap[w.heap.size]? = some (.cells #[.slice A ws.length c, .int .i64 top] 31 (0, 0)) := blk_below (blk_alloc (blk_new w _) _) hpost.1
 have hres : w1.heap[w.heap.size + 1]? = some (.cells #[.slice none 0 0, .int .i64 0] 31 (0, 0)) := blk_below (by have := blk_new (w.alloc (.cells #[.slice A ws.length c, .int .i64 top] 31 (0, 0))) (.cells #[.slice none 0 0, .int .i64 0] 31 (0, 0)); simpa using this) hpost.1
 have HBOX := Lib.hid hbox
 have HRES := Lib.hid hres
 have cb0 : w1.cell? ⟨w.heap.size, 0, none⟩ = some (.slice A ws.length c) := blk_cell hbox 0
 have cb1 : w1.cell? ⟨w.heap.size, 1, none⟩ = some (.int .i64 top) := blk_cell hbox 1
 have cr0 : w1.cell? ⟨w.heap.size + 1, 0, none⟩ = some (.slice none 0 0) := blk_cell hres 0
 have cr1 : w1.cell? ⟨w.heap.size + 1, 1, none⟩ = some (.int .i64 0) := blk_cell hres 1
 have fr0 := blk_frozen hres 0
 have fr1 := blk_frozen hres 1
 have GE : w.heap.size ≤ w.heap.size + 1 := Nat.le_succ _
 clear hbox hres
 rcases hpost with ⟨hb, ⟨hv, rfl⟩ | ⟨hv, b, es, L, rfl, hL, hes, hblk⟩⟩
 ·have HV : Hid (allocF ws top k fs = ([], 0, 0, 1)) := by
   refine Lib.hid ?_
   unfold allocF newOk
   cases objsF ws top <;> simp [hv]
  clear hv hb
  go_wp2_with fail
  refine bodyPost_ret (results_ctt rfl _ _ (w.heap.size + 1) 31 #[.slice none 0 0, .int .i64 0] (0, 0) _ rfl (blk_put (cs := #[.slice none 0 0, .int .i64 0]) (blk_put (cs := #[.slice none 0 0, .int .i64 0]) HRES.out 0 _ rfl) 1 _ rfl) Try.underlying31 rfl (by kernel_rfl)) rfl ?_
  exact AllocPost.none 1 HV.out (below_set (below_set HB.out GE) GE)
 ·have HNO : Hid (newOk ws top k fs = (decide (0 ≤ k) && (decide (k ≤ 3) && (headF k fs.length && objF (isPlace L) k fs)))) := by
   refine Lib.hid ?_
   unfold newOk
   rw [hL, hv]
   simp
  have HM : Hid (ObjMap w1 b es) := Lib.hid (hes.objMap hblk)
  have HW : Hid (∀ W : World, ObjMap W b es → Kd.C (Kd.int .i64) W F fs.length fs → fs.length ≤ 1000 → (k = 2 → 0 < fs.length) →
    Calls Try.prog 42 #[.agg #[.int .i64 k, .slice F fs.length cf], .map (some b)] W fun e w' => e = .returned (.bool (objF (isPlace L) k fs)) ∧ Below W.heap.size W w') := by
   refine Lib.hid (fun W hm hr hl hk => ?_)
   have := objectOk_calls k F cf fs b es W hr (by omega) (fun x hx => (HX2.out x hx).2) hm hk
   rwa [hes.isP] at this
  have HR2W : Hid (Kd.C (Kd.int .i64) w1 F fs.length fs) := Lib.hid (Kd.C_below HR2.out HB.out)
  obtain ⟨hlw, ht0, htl, _⟩ := objsF_mem hL
  have HLW := Lib.hid hlw
  have HT0 := Lib.hid ht0
  have HTL := Lib.hid htl
  clear hv hb hL hes hblk hlw ht0 htl
  by_cases k0 : k < 0
  ·have bk0 : decide (k < 0) = true := decide_eq_true k0
   have HV : Hid (allocF ws top k fs = ([], 0, 0, 1)) := by
    refine Lib.hid ?_
    unfold allocF
    rw [HNO.out, if_neg]
    simp; omega
   clear k0
   go_wp2_with fail
   refine bodyPost_ret (results_ctt rfl _ _ (w.heap.size + 1) 31 #[.slice none 0 0, .int .i64 0] (0, 0) _ rfl (blk_put (cs := #[.slice none 0 0, .int .i64 0]) (blk_put (cs := #[.slice none 0 0, .int .i64 0]) HRES.out 0 _ rfl) 1 _ rfl) Try.underlying31 rfl (by kernel_rfl)) rfl ?_
   exact AllocPost.none 1 HV.out (below_set (below_set HB.out GE) GE)
  have bk0 : decide (k < 0) = false := decide_eq_false k0
  by_cases k3 : 3 < k
  ·have bk3 : decide (3 < k) = true := decide_eq_true k3
   have HV : Hid (allocF ws top k fs = ([], 0, 0, 1)) := by
    refine Lib.hid ?_
    unfold allocF
    rw [HNO.out, if_neg]
    simp; omega
   clear k0 k3
   go_wp2_with fail
   refine bodyPost_ret (results_ctt rfl _ _ (w.heap.size + 1) 31 #[.slice none 0 0, .int .i64 0] (0, 0) _ rfl (blk_put (cs := #[.slice none 0 0, .int .i64 0]) (blk_put (cs := #[.slice none 0 0, .int .i64 0]) HRES.out 0 _ rfl) 1 _ rfl) Try.underlying31 rfl (by kernel_rfl)) rfl ?_
   exact AllocPost.none 1 HV.out (below_set (below_set HB.out GE) GE)
  have bk3 : decide (3 < k) = false := decide_eq_false k3
  cases hh : headF k fs.length with
  | false =>
   have HH := Lib.hid hh
   have HV : Hid (allocF ws top k fs = ([], 0, 0, 1)) := by
    refine Lib.hid ?_
    unfold allocF
    rw [HNO.out, if_neg]
    simp [hh]
   clear k0 k3 hh
   go_wp2_with (go_at_call 41; refine (headOk_calls k fs.length _).mono ?_; rintro e w4 ⟨rfl, rfl⟩; rw [HH.out])
   refine bodyPost_ret (results_ctt rfl _ _ (w.heap.size + 1) 31 #[.slice none 0 0, .int .i64 0] (0, 0) _ rfl (blk_put (cs := #[.slice none 0 0, .int .i64 0]) (blk_put (cs := #[.slice none 0 0, .int .i64 0]) HRES.out 0 _ rfl) 1 _ rfl) Try.underlying31 rfl (by kernel_rfl)) rfl ?_
   exact AllocPost.none 1 HV.out (below_set (below_set HB.out GE) GE)
  | true =>
   have HH := Lib.hid hh
   have hl1 : fs.length ≤ 1000 := by have := headF_le hh (by omega); omega
   have HK2 : Hid (k = 2 → 0 < fs.length) := Lib.hid (fun e => by rw [e] at hh; have := headF_two hh; omega)
   cases ho : objF (isPlace L) k fs with
   | false =>
    have HO := Lib.hid ho
    have HV : Hid (allocF ws top k fs = ([], 0, 0, 1)) := by
     refine Lib.hid ?_
     unfold allocF
     rw [HNO.out, if_neg]
     simp [ho]
    clear k0 k3 hh ho
    go_wp2_with (first | (go_at_call 41; refine (headOk_calls k fs.length _).mono ?_; rintro e w4 ⟨rfl, rfl⟩; rw [HH.out]) | (go_at_call 42; refine (HW.out _ HM.out HR2W.out hl1 (fun e => HK2.out e)).mono ?_; rintro e w4 ⟨rfl, hb4⟩; rw [HO.out]; have HB4 := Lib.hid hb4; have HRES4 := Lib.hid (blk_below HRES.out hb4); have HBOX4 := Lib.hid (blk_below HBOX.out hb4); have ce0 := blk_cell HBOX4.out 0; have ce1 := blk_cell HBOX4.out 1; have cs0 := blk_cell HRES4.out 0; have cs1 := blk_cell HRES4.out 1; have fs0 := blk_frozen HRES4.out 0; have fs1 := blk_frozen HRES4.out 1; simp at ce0 ce1 cs0 cs1; clear hb4))
    refine bodyPost_ret (results_ctt rfl _ _ (w.heap.size + 1) 31 #[.slice none 0 0, .int .i64 0] (0, 0) _ rfl (blk_put (cs := #[.slice none 0 0, .int .i64 0]) (blk_put (cs := #[.slice none 0 0, .int .i64 0]) HRES4.out 0 _ rfl) 1 _ rfl) Try.underlying31 rfl (by kernel_rfl)) rfl ?_
    exact AllocPost.none 1 HV.out (below_set (below_set (HB.out.trans (HB4.out.mono HB.out.size)) GE) GE)
   | true =>
    have HO := Lib.hid ho
    have HN : Hid (newOk ws top k fs = true) := by
     refine Lib.hid ?_
     rw [HNO.out, hh, ho]
     simp
     omega
    clear k0 k3 hh ho
    have bl1 : (ws.length : Int) ≤ 20000 := by have := HLW.out; omega
    have bt0 : 0 ≤ top := HT0.out
    have bt1 : top ≤ 20000 := by have := HTL.out; have := HLW.out; omega
    have bf1 : (fs.length : Int) ≤ 1000 := by omega
    by_cases hfit : (ws.length : Int) < top + 1 + fs.length
    ·have HV : Hid (allocF ws top k fs = ([], 0, 0, 13)) := by
      refine Lib.hid ?_
      unfold allocF
      rw [if_pos HN.out, if_pos hfit]
     have bfit : decide ((ws.length : Int) < top + 1 + (fs.length : Int)) = true := decide_eq_true hfit
     go_wp2_with (first | (go_at_call 41; refine (headOk_calls k fs.length _).mono ?_; rintro e w4 ⟨rfl, rfl⟩; rw [HH.out]) | (go_at_call 42; refine (HW.out _ HM.out HR2W.out hl1 (fun e => HK2.out e)).mono ?_; rintro e w4 ⟨rfl, hb4⟩; rw [HO.out]; have HB4 := Lib.hid hb4; have HRES4 := Lib.hid (blk_below HRES.out hb4); have HBOX4 := Lib.hid (blk_below HBOX.out hb4); have ce0 := blk_cell HBOX4.out 0; have ce1 := blk_cell HBOX4.out 1; have cs0 := blk_cell HRES4.out 0; have cs1 := blk_cell HRES4.out 1; have fs0 := blk_frozen HRES4.out 0; have fs1 := blk_frozen HRES4.out 1; simp at ce0 ce1 cs0 cs1; clear hb4))
     refine bodyPost_ret (results_ctt rfl _ _ (w.heap.size + 1) 31 #[.slice none 0 0, .int .i64 0] (0, 0) _ rfl (blk_put (cs := #[.slice none 0 0, .int .i64 0]) (blk_put (cs := #[.slice none 0 0, .int .i64 0]) HRES4.out 0 _ rfl) 1 _ rfl) Try.underlying31 rfl (by kernel_rfl)) rfl ?_
     exact AllocPost.none 13 HV.out (below_set (below_set (HB.out.trans (HB4.out.mono HB.out.size)) GE) GE)
    ·have bfit : decide ((ws.length : Int) < top + 1 + (fs.length : Int)) = false := decide_eq_false hfit
     go_wp2_with (first | (go_at_call 41; refine (headOk_calls k fs.length _).mono ?_; rintro e w4 ⟨rfl, rfl⟩; rw [HH.out]) | (go_at_call 42; refine (HW.out _ HM.out HR2W.out hl1 (fun e => HK2.out e)).mono ?_; rintro e w4 ⟨rfl, hb4⟩; rw [HO.out]; have HB4 := Lib.hid hb4; have HRES4 := Lib.hid (blk_below HRES.out hb4); have HBOX4 := Lib.hid (blk_below HBOX.out hb4); have ce0 := blk_cell HBOX4.out 0; have ce1 := blk_cell HBOX4.out 1; have cs0 := blk_cell HRES4.out 0; have cs1 := blk_cell HRES4.out 1; have fs0 := blk_frozen HRES4.out 0; have fs1 := blk_frozen HRES4.out 1; simp at ce0 ce1 cs0 cs1; clear hb4))
     have HFIT := Lib.hid hfit
     have HCW : Hid (Kd.C (Kd.int .i64) w4 A ws.length ws) := Lib.hid (Kd.C_below (Kd.C_below HR.out HB.out) HB4.out)
     have HPOS : Hid (0 < ws.length) := Lib.hid (by omega)
     obtain ⟨ad, hA, _⟩ := HR.out.2.2 (by omega)
     subst hA
     clear hfit bfit cb0 cb1 cr0 cr1 fr0 fr1
     have wr1 : IntKind.i64.wrap (top + 1) = top + 1 := IntWalk.i64_in _ (by omega)
     have wr2 : IntKind.i64.wrap (top + 1 + (fs.length : Int)) = top + 1 + (fs.length : Int) := IntWalk.i64_in _ (by omega)
     have hk0 : w4.drew.cell? ⟨w.heap.size, 0, none⟩ = some (.slice (some ad) ws.length c) ∧ w4.drew.cell? ⟨w.heap.size, 1, none⟩ = some (.int .i64 top) ∧ Hid (Kd.C (Kd.int .i64) w4.drew (some ad) ws.length ws) := ⟨ce0, ce1, Lib.hid (Kd.C_drew HCW.out)⟩
     go_region_held3 (fun w' => w'.cell? ⟨w.heap.size, 0, none⟩ = some (.slice (some ad) ws.length c) ∧ w'.cell? ⟨w.heap.size, 1, none⟩ = some (.int .i64 top) ∧ Hid (Kd.C (Kd.int .i64) w' (some ad) ws.length ws))
      (first | exact hk0 | exact held_below hb5 hk0 | exact held_alloc _ (held_below hb5 hk0) | (refine held_below hb5 ?_; go_split_ands; refine ⟨?_, ?_, ?_⟩ <;> assumption) | (refine held_alloc _ ?_; go_split_ands; refine ⟨?_, ?_, ?_⟩ <;> assumption) | exact held_below (below_set (below_set BB5 (Nat.le_refl _)) (Nat.le_refl _)) hk0)
      ((go_at_call 43; refine (Clone_block ad c ws _ ?hc HLW.out HPOS.out).mono ?_; (case hc => go_split_ands; exact Hid.out (by assumption)); rintro e w5 ⟨g, cap, tail, rfl, hg5, hh5, hcap, hmax, hb5⟩; have HG5 := Lib.hid hg5; have HH5 := Lib.hid hh5; have HCAP := Lib.hid hcap; have HMAX := Lib.hid hmax; clear hg5 hh5 hcap hmax; try (have hn5 : w5.heap[w4.heap.size]? = some (.cells #[.slice none 0 0, .int .i64 0] 31 (0, 0)) := blk_below (blk_new w4.drew (.cells #[.slice none 0 0, .int .i64 0] 31 (0, 0))) hb5; have hn50 := blk_cell hn5 0; have hn51 := blk_cell hn5 1; have hf50 := blk_frozen hn5 0; have hf51 := blk_frozen hn5 1; simp at hn50 hn51; have HN5 := Lib.hid hn5; have BB5 : Below w4.drew.heap.size w4.drew w5 := ((Below.refl _ _).alloc (Nat.le_refl _) _).trans (hb5.mono (alloc_le _ _)); clear hn5)))
     ·have T : Tail w (w5.alloc (.cells #[.slice (some ⟨g, 0, none⟩) ws.length cap, .int .i64 (top + 1 + (fs.length : Int))] 31 (0, 0))) w5.heap.size g ws.length c cap tail ws top (top + 1 + (fs.length : Int)) (some ad) :=
       tail_a (below_drew1 (HB.out.trans (HB4.out.mono HB.out.size))) HBOX4.out HRES4.out hb5 HG5.out HH5.out
      generalize w5.alloc _ = wx at T ⊢
      generalize w5.heap.size = gh at T ⊢
      clear hk0 ce0 ce1 cs0 cs1 fs0 fs1 hb5 HG5 HH5
      try clear hHeld
      have ch0 := blk_cell T.new 0
      have ch1 := blk_cell T.new 1
      have cx0 := blk_cell T.box 0
      have cx1 := blk_cell T.box 1
      simp at ch0 ch1 cx0 cx1
      obtain ⟨u, hu⟩ : ∃ u, wx.cell? ⟨g, top.toNat, none⟩ = some u := by
       have := blk_cell T.row top.toNat
       have hlt : top.toNat < ((ints ws ++ tail).toArray).size := by
        have := HFIT.out
        simp [ints]
        omega
       rw [Array.getElem?_eq_getElem hlt] at this
       exact ⟨_, this⟩
      have fr7 := blk_frozen T.row top.toNat
      have wr3 : IntKind.i64.wrap (4 * (fs.length : Int)) = 4 * (fs.length : Int) := IntWalk.i64_in _ (by omega)
      have bk1 : k ≤ 3 := by have := of_decide_eq_false bk3; omega
      have bkn : 0 ≤ k := by have := of_decide_eq_false bk0; omega
      have wr4 : IntKind.i64.wrap (4 * (fs.length : Int) + k) = 4 * (fs.length : Int) + k := IntWalk.i64_in _ (by omega)
      have btl : top < (ws.length : Int) := by have := HFIT.out; omega
      have bt2 : top + 1 ≤ (ws.length : Int) := by omega
      have bt3 : 0 ≤ top + 1 := by omega
      have cy0 : ∀ v, (wx.setCell ⟨g, top.toNat, none⟩ v).cell? ⟨gh, 0, none⟩ = some (.slice (some ⟨g, 0, none⟩) ws.length cap) := fun v => (cell_far T.ne v).trans ch0
      have cy1 : ∀ v, (wx.setCell ⟨g, top.toNat, none⟩ v).cell? ⟨w.heap.size, 1, none⟩ = some (.int .i64 top) := fun v => (cell_far (by have := T.lt2; show w.heap.size ≠ g; omega) v).trans cx1
      obtain ⟨CUR, hCUR⟩ : ∃ CUR, CUR = (ints ws ++ tail).set top.toNat (.int .i64 (4 * (fs.length : Int) + k)) := ⟨_, rfl⟩
      have HCUR := Lib.hid hCUR
      have HCP : Hid ((wx.setCell ⟨g, top.toNat, none⟩ (.int .i64 (4 * (fs.length : Int) + k))).heap[g]? = some (.cells CUR.toArray 3 (0, 0))) :=
       Lib.hid (blk_put T.row top.toNat _ (by rw [hCUR]; simp))
      clear hCUR
      have HCF : Hid (Kd.C (Kd.int .i64) (wx.setCell ⟨g, top.toNat, none⟩ (.int .i64 (4 * (fs.length : Int) + k))) F fs.length fs) := Lib.hid (Kd.C_below HR2.out (below_set T.below (by have := T.lt2; omega)))
      have SZ : (Try.prog.info? 3).map (·.size) = some 1 := by kernel_rfl
      have HLC : Hid (CUR.length = cap) := Lib.hid (by rw [HCUR.out, HCAP.out]; simp [ints])
      have HN1 : Hid ((ints fs).length = fs.length.min (ws.length - (top + 1).toNat)) := Lib.hid (by have q1 := HFIT.out; rw [ints_length]; exact min_fits (by omega))
      have HN2 : Hid ((top + 1).toNat + (ints fs).length ≤ CUR.length) := Lib.hid (by have q1 := HFIT.out; have q2 := HCAP.out; rw [ints_length, HLC.out]; omega)
      have HN3 : Hid (∀ v ∈ ints fs, v.oneCell' = true) := Lib.hid (by intro v hv; obtain ⟨x, _, rfl⟩ := List.mem_map.1 hv; rfl)
      have HN4 : Hid (0 < (ints fs).length → ¬ cap = (top + 1).toNat) := Lib.hid (by intro hp; rw [ints_length] at hp; have q1 := HFIT.out; have q2 := HCAP.out; omega)
      have HN5 : Hid (0 < (ints fs).length → ∃ af, F = some af ∧ ∀ j v, (ints fs)[j]? = some v → (wx.setCell ⟨g, top.toNat, none⟩ (.int .i64 (4 * (fs.length : Int) + k))).cell? (af.add j) = some v) :=
       Lib.hid (by intro hp; rw [ints_length] at hp; obtain ⟨af, haf, _⟩ := HCF.out.2.2 hp; exact ⟨af, haf, reads_ints (haf ▸ HCF.out)⟩)
      go_wp2_with ((with_reducible refine gate_builtin (b := .copy) (xs := #[.tmp 79, .tmp 80]) rfl ?_); refine wpList_copy_here rfl (.tmp 79) (.tmp 80) 29 29 rfl 3 Try.underlying29 SZ _ _ _ _ _ _ rfl rfl g (top + 1).toNat CUR 3 HCP.out (ints fs) HN1.out ?hpos HN2.out HN3.out ?_; (case hpos => (intro hp; refine ⟨?_, HN5.out hp⟩; have q3 := HN4.out hp; first | rfl | (simp [q3]; done) | go_loud (trace_state; fail))); intro w2 HG2 HK2 HB2)
      all_goals
       have hn2 : w2.drew.heap[gh]? = some (.cells #[.slice (some ⟨g, 0, none⟩) ws.length cap, .int .i64 (top + 1 + (fs.length : Int))] 31 (0, 0)) := (HK2.out gh T.ne).trans (blk_far T.new T.ne _)
       have hb2 : w2.drew.heap[w.heap.size]? = some (.cells #[.slice (some ad) ws.length c, .int .i64 top] 31 (0, 0)) :=
        (HK2.out w.heap.size (by have := T.lt2; omega)).trans (blk_far T.box (by have := T.lt2; show w.heap.size ≠ g; omega) _)
       have hr2 : w2.drew.heap[w.heap.size + 1]? = some (.cells #[.slice none 0 0, .int .i64 0] 31 (0, 0)) :=
        (HK2.out (w.heap.size + 1) (by have := T.lt2; omega)).trans (blk_far T.res (by have := T.lt2; show w.heap.size + 1 ≠ g; omega) _)
       have hw2 : Below w.heap.size w w2.drew := below_drew1 (HB2.out _ _ (below_set T.below (by have := T.lt2; omega)) (by have := T.lt2; omega))
       have HW2 := Lib.hid hw2
       have HR2 := Lib.hid hr2
       have dn0 := blk_cell hn2 0
       have dn1 := blk_cell hn2 1
       have db1 := blk_cell hb2 1
       have dr0 := blk_cell hr2 0
       have dr1 := blk_cell hr2 1
       have df0 := blk_frozen hr2 0
       have df1 := blk_frozen hr2 1
       have hG2 : w2.drew.heap[g]? = some (.cells (splice CUR (top + 1).toNat (ints fs)).toArray 3 (0, 0)) := HG2.out
       have HGD := Lib.hid hG2
       have dp0 : w2.cell? ⟨w.heap.size + 1, 0, none⟩ = some (.slice none 0 0) := dr0
       have dp1 : w2.cell? ⟨w.heap.size + 1, 1, none⟩ = some (.int .i64 0) := dr1
       have dq0 : w2.drew.cell? ⟨w.heap.size + 1, 0, none⟩ = some (.slice none 0 0) := dr0
       have dq1 : w2.drew.cell? ⟨w.heap.size + 1, 1, none⟩ = some (.int .i64 0) := dr1
       have dg0 : w2.frozen? ⟨w.heap.size + 1, 0, none⟩ = false := df0
       have dg1 : w2.frozen? ⟨w.heap.size + 1, 1, none⟩ = false := df1
       simp at dn0 dn1 db1 dr0 dr1
       clear hn2 hb2 hr2 hw2 ch0 ch1 cx0 cx1 cy0 cy1 hu fr7 wr1 wr2 wr3 wr4 HK2 HB2 HG2 hG2 HCP HCF HN1 HN2 HN3 HN4 HN5
       have h9 : w2.drew.cell? ⟨gh, 0, none⟩ = some (.slice (some ⟨g, 0, none⟩) ws.length cap) ∧ w2.drew.cell? ⟨gh, 1, none⟩ = some (.int .i64 (top + 1 + (fs.length : Int))) ∧ w2.drew.cell? ⟨w.heap.size, 1, none⟩ = some (.int .i64 top) := ⟨dn0, dn1, db1⟩
       have hfar : ∀ (wz : World) (v u : Value), (wz.cell? ⟨gh, 0, none⟩ = some (.slice (some ⟨g, 0, none⟩) ws.length cap) ∧ wz.cell? ⟨gh, 1, none⟩ = some (.int .i64 (top + 1 + (fs.length : Int))) ∧ wz.cell? ⟨w.heap.size, 1, none⟩ = some (.int .i64 top)) →
         (((wz.setCell ⟨w.heap.size + 1, 0, none⟩ v).setCell ⟨w.heap.size + 1, 1, none⟩ u).cell? ⟨gh, 0, none⟩ = some (.slice (some ⟨g, 0, none⟩) ws.length cap) ∧ ((wz.setCell ⟨w.heap.size + 1, 0, none⟩ v).setCell ⟨w.heap.size + 1, 1, none⟩ u).cell? ⟨gh, 1, none⟩ = some (.int .i64 (top + 1 + (fs.length : Int))) ∧ ((wz.setCell ⟨w.heap.size + 1, 0, none⟩ v).setCell ⟨w.heap.size + 1, 1, none⟩ u).cell? ⟨w.heap.size, 1, none⟩ = some (.int .i64 top)) := by
        intro wz v u hz
        have l1 := T.lt1
        exact ⟨((cell_far (by show gh ≠ w.heap.size + 1; omega) u).trans (cell_far (by show gh ≠ w.heap.size + 1; omega) v)).trans hz.1, ((cell_far (by show gh ≠ w.heap.size + 1; omega) u).trans (cell_far (by show gh ≠ w.heap.size + 1; omega) v)).trans hz.2.1, ((cell_far (by show w.heap.size ≠ w.heap.size + 1; omega) u).trans (cell_far (by show w.heap.size ≠ w.heap.size + 1; omega) v)).trans hz.2.2⟩
       have HFAR := Lib.hid hfar
       clear hfar
       go_region_held3 (fun w' => w'.cell? ⟨gh, 0, none⟩ = some (.slice (some ⟨g, 0, none⟩) ws.length cap) ∧ w'.cell? ⟨gh, 1, none⟩ = some (.int .i64 (top + 1 + (fs.length : Int))) ∧ w'.cell? ⟨w.heap.size, 1, none⟩ = some (.int .i64 top))
        (first | exact h9 | exact HFAR.out _ _ _ h9)
        ((go_at_call 44; refine (pointer_calls top bt0 bt1 _).mono ?_; rintro e w5 ⟨rfl, rfl⟩))
       go_wp2
       have HR2w : Hid (w2.heap[w.heap.size + 1]? = some (.cells #[.slice none 0 0, .int .i64 0] 31 (0, 0))) := HR2
       have HGDw : Hid (w2.heap[g]? = some (.cells (splice CUR (top + 1).toNat (ints fs)).toArray 3 (0, 0))) := HGD
       have HW2w : Hid (Below w.heap.size w w2) := Lib.hid ⟨HW2.out.os, HW2.out.tape, HW2.out.output, HW2.out.size, HW2.out.block⟩
       refine bodyPost_ret (results_ctt rfl _ _ (w.heap.size + 1) 31 #[.slice (some ⟨g, 0, none⟩) ws.length _, .int .i64 (top + 1 + (fs.length : Int))] (0, 0) _ rfl (blk_drew (blk_put (cs := #[.slice (some ⟨g, 0, none⟩) ws.length _, .int .i64 0]) (blk_put (cs := #[.slice none 0 0, .int .i64 0]) HR2w.out 0 _ rfl) 1 _ rfl)) Try.underlying31 rfl (by kernel_rfl)) rfl ?_
       exact alloc_done HN.out bt0 (by have := HFIT.out; omega) HCUR.out (by have := HCAP.out; omega) (by have := HMAX.out; omega) (by have := T.lt2; omega) (blk_drew (blk_far (blk_far HGDw.out (by have := T.lt2; show g ≠ w.heap.size + 1; omega) _) (by have := T.lt2; show g ≠ w.heap.size + 1; omega) _)) (below_drew1 (below_set (below_set HW2w.out GE) GE))
     ·have T : Tail w ((w5.setCell ⟨w4.heap.size, 0, none⟩ (.slice (some ⟨g, 0, none⟩) ws.length cap)).setCell ⟨w4.heap.size, 1, none⟩ (.int .i64 (top + 1 + (fs.length : Int)))) w4.heap.size g ws.length c cap tail ws top (top + 1 + (fs.length : Int)) (some ad) :=
       tail_b (W := w4.drew) (below_drew1 (HB.out.trans (HB4.out.mono HB.out.size))) HBOX4.out HRES4.out BB5 HN5.out (by have := HG5.out; simpa using this) HH5.out
      generalize World.setCell (World.setCell w5 _ _) _ _ = wx at T ⊢
      clear hk0 ce0 ce1 cs0 cs1 fs0 fs1 hn50 hn51 hf50 hf51 BB5 hb5 HN5 HG5 HH5
      try clear hHeld
      generalize w4.heap.size = gh at T ⊢
      have ch0 := blk_cell T.new 0
      have ch1 := blk_cell T.new 1
      have cx0 := blk_cell T.box 0
      have cx1 := blk_cell T.box 1
      simp at ch0 ch1 cx0 cx1
      obtain ⟨u, hu⟩ : ∃ u, wx.cell? ⟨g, top.toNat, none⟩ = some u := by
       have := blk_cell T.row top.toNat
       have hlt : top.toNat < ((ints ws ++ tail).toArray).size := by
        have := HFIT.out
        simp [ints]
        omega
       rw [Array.getElem?_eq_getElem hlt] at this
       exact ⟨_, this⟩
      have fr7 := blk_frozen T.row top.toNat
      have wr3 : IntKind.i64.wrap (4 * (fs.length : Int)) = 4 * (fs.length : Int) := IntWalk.i64_in _ (by omega)
      have bk1 : k ≤ 3 := by have := of_decide_eq_false bk3; omega
      have bkn : 0 ≤ k := by have := of_decide_eq_false bk0; omega
      have wr4 : IntKind.i64.wrap (4 * (fs.length : Int) + k) = 4 * (fs.length : Int) + k := IntWalk.i64_in _ (by omega)
      have btl : top < (ws.length : Int) := by have := HFIT.out; omega
      have bt2 : top + 1 ≤ (ws.length : Int) := by omega
      have bt3 : 0 ≤ top + 1 := by omega
      have cy0 : ∀ v, (wx.setCell ⟨g, top.toNat, none⟩ v).cell? ⟨gh, 0, none⟩ = some (.slice (some ⟨g, 0, none⟩) ws.length cap) := fun v => (cell_far T.ne v).trans ch0
      have cy1 : ∀ v, (wx.setCell ⟨g, top.toNat, none⟩ v).cell? ⟨w.heap.size, 1, none⟩ = some (.int .i64 top) := fun v => (cell_far (by have := T.lt2; show w.heap.size ≠ g; omega) v).trans cx1
      obtain ⟨CUR, hCUR⟩ : ∃ CUR, CUR = (ints ws ++ tail).set top.toNat (.int .i64 (4 * (fs.length : Int) + k)) := ⟨_, rfl⟩
      have HCUR := Lib.hid hCUR
      have HCP : Hid ((wx.setCell ⟨g, top.toNat, none⟩ (.int .i64 (4 * (fs.length : Int) + k))).heap[g]? = some (.cells CUR.toArray 3 (0, 0))) :=
       Lib.hid (blk_put T.row top.toNat _ (by rw [hCUR]; simp))
      clear hCUR
      have HCF : Hid (Kd.C (Kd.int .i64) (wx.setCell ⟨g, top.toNat, none⟩ (.int .i64 (4 * (fs.length : Int) + k))) F fs.length fs) := Lib.hid (Kd.C_below HR2.out (below_set T.below (by have := T.lt2; omega)))
      have SZ : (Try.prog.info? 3).map (·.size) = some 1 := by kernel_rfl
      have HLC : Hid (CUR.length = cap) := Lib.hid (by rw [HCUR.out, HCAP.out]; simp [ints])
      have HN1 : Hid ((ints fs).length = fs.length.min (ws.length - (top + 1).toNat)) := Lib.hid (by have q1 := HFIT.out; rw [ints_length]; exact min_fits (by omega))
      have HN2 : Hid ((top + 1).toNat + (ints fs).length ≤ CUR.length) := Lib.hid (by have q1 := HFIT.out; have q2 := HCAP.out; rw [ints_length, HLC.out]; omega)
      have HN3 : Hid (∀ v ∈ ints fs, v.oneCell' = true) := Lib.hid (by intro v hv; obtain ⟨x, _, rfl⟩ := List.mem_map.1 hv; rfl)
      have HN4 : Hid (0 < (ints fs).length → ¬ cap = (top + 1).toNat) := Lib.hid (by intro hp; rw [ints_length] at hp; have q1 := HFIT.out; have q2 := HCAP.out; omega)
      have HN5 : Hid (0 < (ints fs).length → ∃ af, F = some af ∧ ∀ j v, (ints fs)[j]? = some v → (wx.setCell ⟨g, top.toNat, none⟩ (.int .i64 (4 * (fs.length : Int) + k))).cell? (af.add j) = some v) :=
       Lib.hid (by intro hp; rw [ints_length] at hp; obtain ⟨af, haf, _⟩ := HCF.out.2.2 hp; exact ⟨af, haf, reads_ints (haf ▸ HCF.out)⟩)
      go_wp2_with ((with_reducible refine gate_builtin (b := .copy) (xs := #[.tmp 79, .tmp 80]) rfl ?_); refine wpList_copy_here rfl (.tmp 79) (.tmp 80) 29 29 rfl 3 Try.underlying29 SZ _ _ _ _ _ _ rfl rfl g (top + 1).toNat CUR 3 HCP.out (ints fs) HN1.out ?hpos HN2.out HN3.out ?_; (case hpos => (intro hp; refine ⟨?_, HN5.out hp⟩; have q3 := HN4.out hp; first | rfl | (simp [q3]; done) | go_loud (trace_state; fail))); intro w2 HG2 HK2 HB2)
      all_goals
       have hn2 : w2.drew.heap[gh]? = some (.cells #[.slice (some ⟨g, 0, none⟩) ws.length cap, .int .i64 (top + 1 + (fs.length : Int))] 31 (0, 0)) := (HK2.out gh T.ne).trans (blk_far T.new T.ne _)
       have hb2 : w2.drew.heap[w.heap.size]? = some (.cells #[.slice (some ad) ws.length c, .int .i64 top] 31 (0, 0)) :=
        (HK2.out w.heap.size (by have := T.lt2; omega)).trans (blk_far T.box (by have := T.lt2; show w.heap.size ≠ g; omega) _)
       have hr2 : w2.drew.heap[w.heap.size + 1]? = some (.cells #[.slice none 0 0, .int .i64 0] 31 (0, 0)) :=
        (HK2.out (w.heap.size + 1) (by have := T.lt2; omega)).trans (blk_far T.res (by have := T.lt2; show w.heap.size + 1 ≠ g; omega) _)
       have hw2 : Below w.heap.size w w2.drew := below_drew1 (HB2.out _ _ (below_set T.below (by have := T.lt2; omega)) (by have := T.lt2; omega))
       have HW2 := Lib.hid hw2
       have HR2 := Lib.hid hr2
       have dn0 := blk_cell hn2 0
       have dn1 := blk_cell hn2 1
       have db1 := blk_cell hb2 1
       have dr0 := blk_cell hr2 0
       have dr1 := blk_cell hr2 1
       have df0 := blk_frozen hr2 0
       have df1 := blk_frozen hr2 1
       have hG2 : w2.drew.heap[g]? = some (.cells (splice CUR (top + 1).toNat (ints fs)).toArray 3 (0, 0)) := HG2.out
       have HGD := Lib.hid hG2
       have dp0 : w2.cell? ⟨w.heap.size + 1, 0, none⟩ = some (.slice none 0 0) := dr0
       have dp1 : w2.cell? ⟨w.heap.size + 1, 1, none⟩ = some (.int .i64 0) := dr1
       have dq0 : w2.drew.cell? ⟨w.heap.size + 1, 0, none⟩ = some (.slice none 0 0) := dr0
       have dq1 : w2.drew.cell? ⟨w.heap.size + 1, 1, none⟩ = some (.int .i64 0) := dr1
       have dg0 : w2.frozen? ⟨w.heap.size + 1, 0, none⟩ = false := df0
       have dg1 : w2.frozen? ⟨w.heap.size + 1, 1, none⟩ = false := df1
       simp at dn0 dn1 db1 dr0 dr1
       clear hn2 hb2 hr2 hw2 ch0 ch1 cx0 cx1 cy0 cy1 hu fr7 wr1 wr2 wr3 wr4 HK2 HB2 HG2 hG2 HCP HCF HN1 HN2 HN3 HN4 HN5
       have h9 : w2.drew.cell? ⟨gh, 0, none⟩ = some (.slice (some ⟨g, 0, none⟩) ws.length cap) ∧ w2.drew.cell? ⟨gh, 1, none⟩ = some (.int .i64 (top + 1 + (fs.length : Int))) ∧ w2.drew.cell? ⟨w.heap.size, 1, none⟩ = some (.int .i64 top) := ⟨dn0, dn1, db1⟩
       have hfar : ∀ (wz : World) (v u : Value), (wz.cell? ⟨gh, 0, none⟩ = some (.slice (some ⟨g, 0, none⟩) ws.length cap) ∧ wz.cell? ⟨gh, 1, none⟩ = some (.int .i64 (top + 1 + (fs.length : Int))) ∧ wz.cell? ⟨w.heap.size, 1, none⟩ = some (.int .i64 top)) →
         (((wz.setCell ⟨w.heap.size + 1, 0, none⟩ v).setCell ⟨w.heap.size + 1, 1, none⟩ u).cell? ⟨gh, 0, none⟩ = some (.slice (some ⟨g, 0, none⟩) ws.length cap) ∧ ((wz.setCell ⟨w.heap.size + 1, 0, none⟩ v).setCell ⟨w.heap.size + 1, 1, none⟩ u).cell? ⟨gh, 1, none⟩ = some (.int .i64 (top + 1 + (fs.length : Int))) ∧ ((wz.setCell ⟨w.heap.size + 1, 0, none⟩ v).setCell ⟨w.heap.size + 1, 1, none⟩ u).cell? ⟨w.heap.size, 1, none⟩ = some (.int .i64 top)) := by
        intro wz v u hz
        have l1 := T.lt1
        exact ⟨((cell_far (by show gh ≠ w.heap.size + 1; omega) u).trans (cell_far (by show gh ≠ w.heap.size + 1; omega) v)).trans hz.1, ((cell_far (by show gh ≠ w.heap.size + 1; omega) u).trans (cell_far (by show gh ≠ w.heap.size + 1; omega) v)).trans hz.2.1, ((cell_far (by show w.heap.size ≠ w.heap.size + 1; omega) u).trans (cell_far (by show w.heap.size ≠ w.heap.size + 1; omega) v)).trans hz.2.2⟩
       have HFAR := Lib.hid hfar
       clear hfar
       go_region_held3 (fun w' => w'.cell? ⟨gh, 0, none⟩ = some (.slice (some ⟨g, 0, none⟩) ws.length cap) ∧ w'.cell? ⟨gh, 1, none⟩ = some (.int .i64 (top + 1 + (fs.length : Int))) ∧ w'.cell? ⟨w.heap.size, 1, none⟩ = some (.int .i64 top))
        (first | exact h9 | exact HFAR.out _ _ _ h9)
        ((go_at_call 44; refine (pointer_calls top bt0 bt1 _).mono ?_; rintro e w5 ⟨rfl, rfl⟩))
       go_wp2
       have HR2w : Hid (w2.heap[w.heap.size + 1]? = some (.cells #[.slice none 0 0, .int .i64 0] 31 (0, 0))) := HR2
       have HGDw : Hid (w2.heap[g]? = some (.cells (splice CUR (top + 1).toNat (ints fs)).toArray 3 (0, 0))) := HGD
       have HW2w : Hid (Below w.heap.size w w2) := Lib.hid ⟨HW2.out.os, HW2.out.tape, HW2.out.output, HW2.out.size, HW2.out.block⟩
       refine bodyPost_ret (results_ctt rfl _ _ (w.heap.size + 1) 31 #[.slice (some ⟨g, 0, none⟩) ws.length _, .int .i64 (top + 1 + (fs.length : Int))] (0, 0) _ rfl (blk_drew (blk_put (cs := #[.slice (some ⟨g, 0, none⟩) ws.length _, .int .i64 0]) (blk_put (cs := #[.slice none 0 0, .int .i64 0]) HR2w.out 0 _ rfl) 1 _ rfl)) Try.underlying31 rfl (by kernel_rfl)) rfl ?_
       exact alloc_done HN.out bt0 (by have := HFIT.out; omega) HCUR.out (by have := HCAP.out; omega) (by have := HMAX.out; omega) (by have := T.lt2; omega) (blk_drew (blk_far (blk_far HGDw.out (by have := T.lt2; show g ≠ w.heap.size + 1; omega) _) (by have := T.lt2; show g ≠ w.heap.size + 1; omega) _)) (below_drew1 (below_set (below_set HW2w.out GE) GE))
end Go.Proofs.Ytggkkgkjhfgipaa
