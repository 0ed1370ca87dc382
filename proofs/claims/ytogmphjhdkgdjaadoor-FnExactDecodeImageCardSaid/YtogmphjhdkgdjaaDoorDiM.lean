/- The law's marks on a module that it has made: which blocks are touched, and what stays; bytes compared, held. -/
import Derived.Test.YtogmphjhdkgdjaaDoorDiB
import Derived.Lib.SmallJoins
import Derived.BigQuiet
import Derived.Deep.RegionHeld3
namespace Go.Proofs.YtogmphjhdkgdjaaDoor
open Go.RowKit Go.Proofs.YtogmphjhdkgdjaaDoorW.PrintWords Go.Proofs.YtogmphjhdkgdjaaDoor.QFnExactValidModule
set_option linter.unusedVariables false
set_option linter.unusedSimpArgs false
theorem drewN_below {B : Nat} {w w' : World} (h : Below B w w') (n : Nat) : Below B w (w'.drewN n) := ⟨h.os, h.tape, h.output, h.size, h.block⟩
theorem eqB_calls (A A' : Option Addr) (c c' : Nat) (t : List Int) (w : World) (h : Kd.C (Kd.int .u8) w A t.length t) (h' : Kd.C (Kd.int .u8) w A' t.length t) :
    Calls Tryd.prog 20 #[.slice A t.length c, .slice A' t.length c'] w fun e w' => e = .returned (.bool true) ∧ Below w.heap.size w w' := by
  have H := Lib.hid h
  have H' := Lib.hid h'
  have hl := h.2.1
  clear h h'
  go_enter Tryd.func20, Tryd.ntmps20
  go_wp2
  go_loopw [5] (fun v wr => ∃ i : Nat, i ≤ t.length ∧ v = .int .i64 i ∧ Hid (Below w.heap.size w wr)) (fun v _ => t.length - (RowKit.intOf v).toNat)
  case atStart => exact ⟨0, Nat.zero_le _, rfl, Lib.hid (Below.refl _ _)⟩
  case round =>
    obtain ⟨i, hi, rfl, HB⟩ := hrel
    by_cases hlt : i < t.length
    · obtain ⟨ad, e1, c1⟩ := at_byte (Kd.C_below H.out HB.out) i hlt
      obtain ⟨ad', e2, c2⟩ := at_byte (Kd.C_below H'.out HB.out) i hlt
      subst e1 e2
      go_wp2
      go_quiet (fail)
      go_wp2
      go_roundw
      case rel => exact ⟨i + 1, by omega, by go_num, Lib.hid (drewN_below HB.out _)⟩
      case measure => simp [RowKit.intOf]; omega
    · obtain rfl : i = t.length := by omega
      go_wp2
      go_ret
      exact ⟨rfl, HB.out⟩
end Go.Proofs.YtogmphjhdkgdjaaDoor
/- The law's comparisons of a module with its like: true. -/
namespace Go.Proofs.YtogmphjhdkgdjaaDoor
open Go.RowKit Go.Proofs.YtogmphjhdkgdjaaDoorW.PrintWords Go.Proofs.YtogmphjhdkgdjaaDoor.QFnExactValidModule
set_option linter.unusedVariables false
set_option linter.unusedSimpArgs false
def EqPost (w : World) (e : Ending) (w' : World) : Prop := e = .returned (.bool true) ∧ Below w.heap.size w w'
set_option maxHeartbeats 4000000 in
theorem eqT_calls (A A' : Option Addr) (c c' : Nat) (t : List Bool) (w : World) (h : Kd.C Kd.bool w A t.length t) (h' : Kd.C Kd.bool w A' t.length t) :
    Calls Tryd.prog 102 #[.slice A t.length c, .slice A' t.length c'] w (EqPost w) := by
  have H := Lib.hid h
  have H' := Lib.hid h'
  have hl := h.2.1
  clear h h'
  go_enter Tryd.func102, Tryd.ntmps102
  go_wp2
  go_loopw [5] (fun v wr => ∃ i : Nat, i ≤ t.length ∧ v = .int .i64 i ∧ Hid (Below w.heap.size w wr)) (fun v _ => t.length - (RowKit.intOf v).toNat)
  case atStart => exact ⟨0, Nat.zero_le _, rfl, Lib.hid (Below.refl _ _)⟩
  case round =>
    obtain ⟨i, hi, rfl, HB⟩ := hrel
    by_cases hlt : i < t.length
    · obtain ⟨ad, e1, c1⟩ := Kd.at_bool (Kd.C_below H.out HB.out) (i : Int) (by omega) (by omega)
      obtain ⟨ad', e2, c2⟩ := Kd.at_bool (Kd.C_below H'.out HB.out) (i : Int) (by omega) (by omega)
      subst e1 e2
      rw [Int.toNat_natCast] at c1 c2
      go_wp2
      go_quiet (fail)
      go_wp2
      go_roundw
      case rel => exact ⟨i + 1, by omega, by go_num, Lib.hid (drewN_below HB.out _)⟩
      case measure => simp [RowKit.intOf]; omega
    · obtain rfl : i = t.length := by omega
      go_wp2
      go_ret
      exact ⟨rfl, HB.out⟩
set_option maxHeartbeats 4000000 in
theorem eqD_calls (x : S57) (A A' : Option Addr) (c c' : Nat) (w : World) (h : Kd.C (Kd.int .u8) w A x.f2.length x.f2) (h' : Kd.C (Kd.int .u8) w A' x.f2.length x.f2) :
    Calls Tryd.prog 35 #[.agg #[.int .i64 x.f0, .int .i64 x.f1, .slice A x.f2.length c, .int .i64 x.f3], .agg #[.int .i64 x.f0, .int .i64 x.f1, .slice A' x.f2.length c', .int .i64 x.f3]] w (EqPost w) := by
  obtain ⟨W, hW⟩ : ∃ W, W = (w.alloc (.cells #[.int .i64 x.f0, .int .i64 x.f1, .slice A x.f2.length c, .int .i64 x.f3] 57)).alloc (.cells #[.int .i64 x.f0, .int .i64 x.f1, .slice A' x.f2.length c', .int .i64 x.f3] 57) := ⟨_, rfl⟩
  have hb : Below w.heap.size w W := by rw [hW]; exact ((Below.refl _ _).alloc (Nat.le_refl _) _).alloc (by simp) _
  have g0 := blk_old2 (blk_new2 w (.cells #[.int .i64 x.f0, .int .i64 x.f1, .slice A x.f2.length c, .int .i64 x.f3] 57)) (.cells #[.int .i64 x.f0, .int .i64 x.f1, .slice A' x.f2.length c', .int .i64 x.f3] 57)
  have g1 := blk_new2 (w.alloc (.cells #[.int .i64 x.f0, .int .i64 x.f1, .slice A x.f2.length c, .int .i64 x.f3] 57)) (.cells #[.int .i64 x.f0, .int .i64 x.f1, .slice A' x.f2.length c', .int .i64 x.f3] 57)
  rw [show (w.alloc (.cells #[.int .i64 x.f0, .int .i64 x.f1, .slice A x.f2.length c, .int .i64 x.f3] 57)).heap.size = w.heap.size + 1 by simp] at g1
  rw [← hW] at g0 g1
  have H := Lib.hid (Kd.C_below h hb)
  have H' := Lib.hid (Kd.C_below h' hb)
  have HB := Lib.hid hb
  have G0 := Lib.hid g0
  have G1 := Lib.hid g1
  have hu := Tryd.underlying57
  clear h h' hb g0 g1
  go_enter Tryd.func35, Tryd.ntmps35
  go_wp2_with fail
  rw [← hW]
  clear hW
  refine (eqB_calls A A' c c' x.f2 W H.out H'.out).mono ?_
  rintro e w1 ⟨rfl, hb1⟩
  have g0 := (hb1.block _ (blk_lt2 G0.out)).trans G0.out
  have g1 := (hb1.block _ (blk_lt2 G1.out)).trans G1.out
  have c3 : w1.cell? ⟨w.heap.size, 3, none⟩ = some (.int .i64 x.f3) := by simp [World.cell?, g0]
  have d3 : w1.cell? ⟨w.heap.size + 1, 3, none⟩ = some (.int .i64 x.f3) := by simp [World.cell?, g1]
  have hl0 : w.heap.size < w1.heap.size := blk_lt2 g0
  have hl1 : w.heap.size + 1 < w1.heap.size := blk_lt2 g1
  have HB1 : Hid (Below w.heap.size w w1) := Lib.hid (HB.out.trans (hb1.mono HB.out.size))
  clear hb1 g0 g1
  go_wp2_with fail
  go_ret
  exact ⟨rfl, HB1.out⟩
set_option maxHeartbeats 4000000 in
theorem eqI_calls (x : S71) (w : World) :
    Calls Tryd.prog 114 #[.agg #[.int .i64 x.f0, .int .i64 x.f1, .int .i64 x.f2], .agg #[.int .i64 x.f0, .int .i64 x.f1, .int .i64 x.f2]] w (EqPost w) := by
  have hb : Below w.heap.size w ((w.alloc (.cells #[.int .i64 x.f0, .int .i64 x.f1, .int .i64 x.f2] 71)).alloc (.cells #[.int .i64 x.f0, .int .i64 x.f1, .int .i64 x.f2] 71)) := ((Below.refl _ _).alloc (Nat.le_refl _) _).alloc (by simp) _
  have HB := Lib.hid hb
  have hu := Tryd.underlying71
  clear hb
  go_enter Tryd.func114, Tryd.ntmps114
  go_wp2_with fail
  go_ret
  exact ⟨rfl, HB.out⟩
set_option maxHeartbeats 8000000 in
set_option maxRecDepth 100000 in
theorem eqDS_calls (A A' : Option Addr) (c c' : Nat) (xs : List S57) (w : World) (h : Kd.C k57 w A xs.length xs) (h' : Kd.C k57 w A' xs.length xs) :
    Calls Tryd.prog 12 #[.slice A xs.length c, .slice A' xs.length c'] w (EqPost w) := by
  have H := Lib.hid h
  have H' := Lib.hid h'
  have hl := h.2.1
  clear h h'
  go_enter Tryd.func12, Tryd.ntmps12
  go_wp2
  go_loopw [5] (fun v wr => ∃ i : Nat, i ≤ xs.length ∧ v = .int .i64 i ∧ Hid (Below w.heap.size w wr)) (fun v _ => xs.length - (RowKit.intOf v).toNat)
  case atStart => exact ⟨0, Nat.zero_le _, rfl, Lib.hid (Below.refl _ _)⟩
  case round =>
    obtain ⟨i, hi, rfl, HB⟩ := hrel
    by_cases hlt : i < xs.length
    · obtain ⟨ad, A2, n2, e1, c0, c1, c2, c3, k0, k⟩ := at_T57 (Kd.C_below H.out HB.out) (i : Int) (by omega) (by omega)
      obtain ⟨bd, B2, m2, e2, d0, d1, d2, d3, m0, m⟩ := at_T57 (Kd.C_below H'.out HB.out) (i : Int) (by omega) (by omega)
      subst e1 e2
      obtain ⟨x, hx⟩ : ∃ x, x = rd_T57 xs (i : Int) := ⟨_, rfl⟩
      rw [Int.toNat_natCast] at c0 d0 c1 d1 c2 d2 c3 d3
      simp only [← hx] at c0 d0 c1 d1 c2 d2 c3 d3 k m
      clear hx
      have K := Lib.hid k
      have M := Lib.hid m
      clear k m
      go_wp2
      go_region_held3 (fun W => W.cell? (ad.add (i * 4)) = some (.int .i64 x.f0) ∧ W.cell? ⟨(ad.add (i * 4)).block, (ad.add (i * 4)).off + 1, none⟩ = some (.int .i64 x.f1) ∧ W.cell? ⟨(ad.add (i * 4)).block, (ad.add (i * 4)).off + 2, none⟩ = some (.slice A2 x.f2.length n2) ∧ W.cell? ⟨(ad.add (i * 4)).block, (ad.add (i * 4)).off + 3, none⟩ = some (.int .i64 x.f3) ∧ W.cell? (bd.add (i * 4)) = some (.int .i64 x.f0) ∧ W.cell? ⟨(bd.add (i * 4)).block, (bd.add (i * 4)).off + 1, none⟩ = some (.int .i64 x.f1) ∧ W.cell? ⟨(bd.add (i * 4)).block, (bd.add (i * 4)).off + 2, none⟩ = some (.slice B2 x.f2.length m2) ∧ W.cell? ⟨(bd.add (i * 4)).block, (bd.add (i * 4)).off + 3, none⟩ = some (.int .i64 x.f3)) (exact ⟨c0, c1, c2, c3, d0, d1, d2, d3⟩)
        (first | (go_at_call 35; refine (eqD_calls x A2 B2 n2 m2 wr.drew (Kd.C_below K.out (Below.refl _ wr).drew) (Kd.C_below M.out (Below.refl _ wr).drew)).mono ?_; rintro e w2 ⟨rfl, hb2⟩; have HC : Hid (Below wr.drew.heap.size wr.drew w2) := Lib.hid hb2; clear hb2; have c0z : wr.drew.cell? _ = _ := c0; have c1z : wr.drew.cell? _ = _ := c1; have c2z : wr.drew.cell? _ = _ := c2; have c3z : wr.drew.cell? _ = _ := c3; have d0z : wr.drew.cell? _ = _ := d0; have d1z : wr.drew.cell? _ = _ := d1; have d2z : wr.drew.cell? _ = _ := d2; have d3z : wr.drew.cell? _ = _ := d3; clear c0 c1 c2 c3 d0 d1 d2 d3; have c0 := (HC.out.cell (World.block_lt_of_cell? wr.drew _ c0z)).trans c0z; have c1 := (HC.out.cell (World.block_lt_of_cell? wr.drew _ c1z)).trans c1z; have c2 := (HC.out.cell (World.block_lt_of_cell? wr.drew _ c2z)).trans c2z; have c3 := (HC.out.cell (World.block_lt_of_cell? wr.drew _ c3z)).trans c3z; have d0 := (HC.out.cell (World.block_lt_of_cell? wr.drew _ d0z)).trans d0z; have d1 := (HC.out.cell (World.block_lt_of_cell? wr.drew _ d1z)).trans d1z; have d2 := (HC.out.cell (World.block_lt_of_cell? wr.drew _ d2z)).trans d2z; have d3 := (HC.out.cell (World.block_lt_of_cell? wr.drew _ d3z)).trans d3z; clear c0z c1z c2z c3z d0z d1z d2z d3z))
      have HN : Hid (Below w.heap.size w w2) := Lib.hid (HB.out.drew.trans (HC.out.mono HB.out.size))
      clear c0 c1 c2 c3 d0 d1 d2 d3
      go_wp2
      go_roundw
      case rel => exact ⟨i + 1, by omega, by go_num, HN⟩
      case measure => simp [RowKit.intOf]; omega
    · obtain rfl : i = xs.length := by omega
      go_wp2
      go_ret
      exact ⟨rfl, HB.out⟩
set_option maxHeartbeats 8000000 in
set_option maxRecDepth 100000 in
theorem eqIS_calls (A A' : Option Addr) (c c' : Nat) (xs : List S71) (w : World) (h : Kd.C k71 w A xs.length xs) (h' : Kd.C k71 w A' xs.length xs) :
    Calls Tryd.prog 103 #[.slice A xs.length c, .slice A' xs.length c'] w (EqPost w) := by
  have H := Lib.hid h
  have H' := Lib.hid h'
  have hl := h.2.1
  clear h h'
  go_enter Tryd.func103, Tryd.ntmps103
  go_wp2
  go_loopw [5] (fun v wr => ∃ i : Nat, i ≤ xs.length ∧ v = .int .i64 i ∧ Hid (Below w.heap.size w wr)) (fun v _ => xs.length - (RowKit.intOf v).toNat)
  case atStart => exact ⟨0, Nat.zero_le _, rfl, Lib.hid (Below.refl _ _)⟩
  case round =>
    obtain ⟨i, hi, rfl, HB⟩ := hrel
    by_cases hlt : i < xs.length
    · obtain ⟨ad, e1, c0, c1, c2⟩ := at_T71 (Kd.C_below H.out HB.out) (i : Int) (by omega) (by omega)
      obtain ⟨bd, e2, d0, d1, d2⟩ := at_T71 (Kd.C_below H'.out HB.out) (i : Int) (by omega) (by omega)
      subst e1 e2
      obtain ⟨x, hx⟩ : ∃ x, x = rd_T71 xs (i : Int) := ⟨_, rfl⟩
      rw [Int.toNat_natCast] at c0 d0 c1 d1 c2 d2
      simp only [← hx] at c0 d0 c1 d1 c2 d2 
      clear hx
      go_wp2
      go_region_held3 (fun W => W.cell? (ad.add (i * 3)) = some (.int .i64 x.f0) ∧ W.cell? ⟨(ad.add (i * 3)).block, (ad.add (i * 3)).off + 1, none⟩ = some (.int .i64 x.f1) ∧ W.cell? ⟨(ad.add (i * 3)).block, (ad.add (i * 3)).off + 2, none⟩ = some (.int .i64 x.f2) ∧ W.cell? (bd.add (i * 3)) = some (.int .i64 x.f0) ∧ W.cell? ⟨(bd.add (i * 3)).block, (bd.add (i * 3)).off + 1, none⟩ = some (.int .i64 x.f1) ∧ W.cell? ⟨(bd.add (i * 3)).block, (bd.add (i * 3)).off + 2, none⟩ = some (.int .i64 x.f2)) (exact ⟨c0, c1, c2, d0, d1, d2⟩)
        (first | (go_at_call 114; refine (eqI_calls x wr.drew).mono ?_; rintro e w2 ⟨rfl, hb2⟩; have HC : Hid (Below wr.drew.heap.size wr.drew w2) := Lib.hid hb2; clear hb2; have c0z : wr.drew.cell? _ = _ := c0; have c1z : wr.drew.cell? _ = _ := c1; have c2z : wr.drew.cell? _ = _ := c2; have d0z : wr.drew.cell? _ = _ := d0; have d1z : wr.drew.cell? _ = _ := d1; have d2z : wr.drew.cell? _ = _ := d2; clear c0 c1 c2 d0 d1 d2; have c0 := (HC.out.cell (World.block_lt_of_cell? wr.drew _ c0z)).trans c0z; have c1 := (HC.out.cell (World.block_lt_of_cell? wr.drew _ c1z)).trans c1z; have c2 := (HC.out.cell (World.block_lt_of_cell? wr.drew _ c2z)).trans c2z; have d0 := (HC.out.cell (World.block_lt_of_cell? wr.drew _ d0z)).trans d0z; have d1 := (HC.out.cell (World.block_lt_of_cell? wr.drew _ d1z)).trans d1z; have d2 := (HC.out.cell (World.block_lt_of_cell? wr.drew _ d2z)).trans d2z; clear c0z c1z c2z d0z d1z d2z))
      have HN : Hid (Below w.heap.size w w2) := Lib.hid (HB.out.drew.trans (HC.out.mono HB.out.size))
      clear c0 c1 c2 d0 d1 d2
      go_wp2
      go_roundw
      case rel => exact ⟨i + 1, by omega, by go_num, HN⟩
      case measure => simp [RowKit.intOf]; omega
    · obtain rfl : i = xs.length := by omega
      go_wp2
      go_ret
      exact ⟨rfl, HB.out⟩
set_option maxHeartbeats 4000000 in
theorem eqF_calls (x : S68) (A A' B B' : Option Addr) (c c' d d' : Nat) (w : World) (h : Kd.C Kd.bool w A x.f1.length x.f1) (h' : Kd.C Kd.bool w A' x.f1.length x.f1) (k : Kd.C k71 w B x.f2.length x.f2) (k' : Kd.C k71 w B' x.f2.length x.f2) :
    Calls Tryd.prog 72 #[.agg #[.int .i64 x.f0, .slice A x.f1.length c, .slice B x.f2.length d], .agg #[.int .i64 x.f0, .slice A' x.f1.length c', .slice B' x.f2.length d']] w (EqPost w) := by
  obtain ⟨W, hW⟩ : ∃ W, W = (w.alloc (.cells #[.int .i64 x.f0, .slice A x.f1.length c, .slice B x.f2.length d] 68)).alloc (.cells #[.int .i64 x.f0, .slice A' x.f1.length c', .slice B' x.f2.length d'] 68) := ⟨_, rfl⟩
  have hb : Below w.heap.size w W := by rw [hW]; exact ((Below.refl _ _).alloc (Nat.le_refl _) _).alloc (by simp) _
  have g0 := blk_old2 (blk_new2 w (.cells #[.int .i64 x.f0, .slice A x.f1.length c, .slice B x.f2.length d] 68)) (.cells #[.int .i64 x.f0, .slice A' x.f1.length c', .slice B' x.f2.length d'] 68)
  have g1 := blk_new2 (w.alloc (.cells #[.int .i64 x.f0, .slice A x.f1.length c, .slice B x.f2.length d] 68)) (.cells #[.int .i64 x.f0, .slice A' x.f1.length c', .slice B' x.f2.length d'] 68)
  rw [show (w.alloc (.cells #[.int .i64 x.f0, .slice A x.f1.length c, .slice B x.f2.length d] 68)).heap.size = w.heap.size + 1 by simp] at g1
  rw [← hW] at g0 g1
  have H := Lib.hid (Kd.C_below h hb)
  have H' := Lib.hid (Kd.C_below h' hb)
  have K := Lib.hid (Kd.C_below k hb)
  have K' := Lib.hid (Kd.C_below k' hb)
  have HB := Lib.hid hb
  have G0 := Lib.hid g0
  have G1 := Lib.hid g1
  have hu := Tryd.underlying68
  clear h h' k k' hb g0 g1
  go_enter Tryd.func72, Tryd.ntmps72
  go_wp2_with fail
  rw [← hW]
  clear hW
  refine (eqT_calls A A' c c' x.f1 W H.out H'.out).mono ?_
  rintro e w1 ⟨rfl, hb1⟩
  have g0 := (hb1.block _ (blk_lt2 G0.out)).trans G0.out
  have g1 := (hb1.block _ (blk_lt2 G1.out)).trans G1.out
  have c2 : w1.cell? ⟨w.heap.size, 2, none⟩ = some (.slice B x.f2.length d) := by simp [World.cell?, g0]
  have d2 : w1.cell? ⟨w.heap.size + 1, 2, none⟩ = some (.slice B' x.f2.length d') := by simp [World.cell?, g1]
  have hl0 : w.heap.size < w1.heap.size := blk_lt2 g0
  have hl1 : w.heap.size + 1 < w1.heap.size := blk_lt2 g1
  have HB1 : Hid (Below w.heap.size w w1) := Lib.hid (HB.out.trans (hb1.mono HB.out.size))
  have K1 := Lib.hid (Kd.C_below K.out hb1)
  have K1' := Lib.hid (Kd.C_below K'.out hb1)
  clear hb1 g0 g1
  go_wp2_with fail
  refine (eqIS_calls B B' d d' x.f2 w1 K1.out K1'.out).mono ?_
  rintro e w2 ⟨rfl, hb2⟩
  have HB2 : Hid (Below w.heap.size w w2) := Lib.hid (HB1.out.trans (hb2.mono HB1.out.size))
  clear hb2 c2 d2
  go_wp2_with fail
  go_ret
  exact ⟨rfl, HB2.out⟩
set_option maxHeartbeats 8000000 in
set_option maxRecDepth 100000 in
theorem eqFS_calls (A A' : Option Addr) (c c' : Nat) (xs : List S68) (w : World) (h : Kd.C k68 w A xs.length xs) (h' : Kd.C k68 w A' xs.length xs) :
    Calls Tryd.prog 46 #[.slice A xs.length c, .slice A' xs.length c'] w (EqPost w) := by
  have H := Lib.hid h
  have H' := Lib.hid h'
  have hl := h.2.1
  clear h h'
  go_enter Tryd.func46, Tryd.ntmps46
  go_wp2
  go_loopw [5] (fun v wr => ∃ i : Nat, i ≤ xs.length ∧ v = .int .i64 i ∧ Hid (Below w.heap.size w wr)) (fun v _ => xs.length - (RowKit.intOf v).toNat)
  case atStart => exact ⟨0, Nat.zero_le _, rfl, Lib.hid (Below.refl _ _)⟩
  case round =>
    obtain ⟨i, hi, rfl, HB⟩ := hrel
    by_cases hlt : i < xs.length
    · obtain ⟨ad, A1, n1, A2, n2, e1, c0, c1, c2, k3, k1, k4, k2⟩ := at_T68 (Kd.C_below H.out HB.out) (i : Int) (by omega) (by omega)
      obtain ⟨bd, B1, m3, B2, m4, e2, d0, d1, d2, q3, m1, q4, m2⟩ := at_T68 (Kd.C_below H'.out HB.out) (i : Int) (by omega) (by omega)
      subst e1 e2
      obtain ⟨x, hx⟩ : ∃ x, x = rd_T68 xs (i : Int) := ⟨_, rfl⟩
      rw [Int.toNat_natCast] at c0 d0 c1 d1 c2 d2
      simp only [← hx] at c0 d0 c1 d1 c2 d2 k1 k2 m1 m2
      clear hx
      have K1 := Lib.hid k1
      have K2 := Lib.hid k2
      have M1 := Lib.hid m1
      have M2 := Lib.hid m2
      clear k1 k2 m1 m2
      go_wp2
      go_region_held3 (fun W => W.cell? (ad.add (i * 3)) = some (.int .i64 x.f0) ∧ W.cell? ⟨(ad.add (i * 3)).block, (ad.add (i * 3)).off + 1, none⟩ = some (.slice A1 x.f1.length n1) ∧ W.cell? ⟨(ad.add (i * 3)).block, (ad.add (i * 3)).off + 2, none⟩ = some (.slice A2 x.f2.length n2) ∧ W.cell? (bd.add (i * 3)) = some (.int .i64 x.f0) ∧ W.cell? ⟨(bd.add (i * 3)).block, (bd.add (i * 3)).off + 1, none⟩ = some (.slice B1 x.f1.length m3) ∧ W.cell? ⟨(bd.add (i * 3)).block, (bd.add (i * 3)).off + 2, none⟩ = some (.slice B2 x.f2.length m4)) (exact ⟨c0, c1, c2, d0, d1, d2⟩)
        (first | (go_at_call 72; refine (eqF_calls x A1 B1 A2 B2 n1 m3 n2 m4 wr.drew (Kd.C_below K1.out (Below.refl _ wr).drew) (Kd.C_below M1.out (Below.refl _ wr).drew) (Kd.C_below K2.out (Below.refl _ wr).drew) (Kd.C_below M2.out (Below.refl _ wr).drew)).mono ?_; rintro e w2 ⟨rfl, hb2⟩; have HC : Hid (Below wr.drew.heap.size wr.drew w2) := Lib.hid hb2; clear hb2; have c0z : wr.drew.cell? _ = _ := c0; have c1z : wr.drew.cell? _ = _ := c1; have c2z : wr.drew.cell? _ = _ := c2; have d0z : wr.drew.cell? _ = _ := d0; have d1z : wr.drew.cell? _ = _ := d1; have d2z : wr.drew.cell? _ = _ := d2; clear c0 c1 c2 d0 d1 d2; have c0 := (HC.out.cell (World.block_lt_of_cell? wr.drew _ c0z)).trans c0z; have c1 := (HC.out.cell (World.block_lt_of_cell? wr.drew _ c1z)).trans c1z; have c2 := (HC.out.cell (World.block_lt_of_cell? wr.drew _ c2z)).trans c2z; have d0 := (HC.out.cell (World.block_lt_of_cell? wr.drew _ d0z)).trans d0z; have d1 := (HC.out.cell (World.block_lt_of_cell? wr.drew _ d1z)).trans d1z; have d2 := (HC.out.cell (World.block_lt_of_cell? wr.drew _ d2z)).trans d2z; clear c0z c1z c2z d0z d1z d2z))
      have HN : Hid (Below w.heap.size w w2) := Lib.hid (HB.out.drew.trans (HC.out.mono HB.out.size))
      clear c0 c1 c2 d0 d1 d2
      go_wp2
      go_roundw
      case rel => exact ⟨i + 1, by omega, by go_num, HN⟩
      case measure => simp [RowKit.intOf]; omega
    · obtain rfl : i = xs.length := by omega
      go_wp2
      go_ret
      exact ⟨rfl, HB.out⟩
set_option maxHeartbeats 8000000 in
set_option maxRecDepth 100000 in
theorem eqDSS_calls (A A' : Option Addr) (c c' : Nat) (xs : List (List S57)) (w : World) (h : Kd.C (Kd.slice 57 k57) w A xs.length xs) (h' : Kd.C (Kd.slice 57 k57) w A' xs.length xs) :
    Calls Tryd.prog 45 #[.slice A xs.length c, .slice A' xs.length c'] w (EqPost w) := by
  have H := Lib.hid h
  have H' := Lib.hid h'
  have hl := h.2.1
  clear h h'
  go_enter Tryd.func45, Tryd.ntmps45
  go_wp2
  go_loopw [5] (fun v wr => ∃ i : Nat, i ≤ xs.length ∧ v = .int .i64 i ∧ Hid (Below w.heap.size w wr)) (fun v _ => xs.length - (RowKit.intOf v).toNat)
  case atStart => exact ⟨0, Nat.zero_le _, rfl, Lib.hid (Below.refl _ _)⟩
  case round =>
    obtain ⟨i, hi, rfl, HB⟩ := hrel
    by_cases hlt : i < xs.length
    · obtain ⟨ad, A2, n2, e1, c0, k0, k⟩ := at_L14 (Kd.C_below H.out HB.out) (i : Int) (by omega) (by omega)
      obtain ⟨bd, B2, m2, e2, d0, m0, m⟩ := at_L14 (Kd.C_below H'.out HB.out) (i : Int) (by omega) (by omega)
      subst e1 e2
      obtain ⟨x, hx⟩ : ∃ x, x = rd_L14 xs (i : Int) := ⟨_, rfl⟩
      rw [Int.toNat_natCast] at c0 d0
      simp only [← hx] at c0 d0 k m
      clear hx
      have K := Lib.hid k
      have M := Lib.hid m
      clear k m
      go_wp2
      go_region_held3 (fun W => W.cell? (ad.add i) = some (.slice A2 x.length n2) ∧ W.cell? (bd.add i) = some (.slice B2 x.length m2)) (exact ⟨c0, d0⟩)
        (first | (go_at_call 12; refine (eqDS_calls A2 B2 n2 m2 x wr.drew (Kd.C_below K.out (Below.refl _ wr).drew) (Kd.C_below M.out (Below.refl _ wr).drew)).mono ?_; rintro e w2 ⟨rfl, hb2⟩; have HC : Hid (Below wr.drew.heap.size wr.drew w2) := Lib.hid hb2; clear hb2; have c0z : wr.drew.cell? _ = _ := c0; have d0z : wr.drew.cell? _ = _ := d0; clear c0 d0; have c0 := (HC.out.cell (World.block_lt_of_cell? wr.drew _ c0z)).trans c0z; have d0 := (HC.out.cell (World.block_lt_of_cell? wr.drew _ d0z)).trans d0z; clear c0z d0z))
      have HN : Hid (Below w.heap.size w w2) := Lib.hid (HB.out.drew.trans (HC.out.mono HB.out.size))
      clear c0 d0
      go_wp2
      go_roundw
      case rel => exact ⟨i + 1, by omega, by go_num, HN⟩
      case measure => simp [RowKit.intOf]; omega
    · obtain rfl : i = xs.length := by omega
      go_wp2
      go_ret
      exact ⟨rfl, HB.out⟩
set_option maxHeartbeats 4000000 in
/-- Two modules of the same parts are equal. -/
theorem eqM_calls (cs : List (List S57)) (g : Int) (fs : List S68) (A A' B B' : Option Addr) (c c' d d' : Nat) (w : World) (h : Kd.C (Kd.slice 57 k57) w A cs.length cs) (h' : Kd.C (Kd.slice 57 k57) w A' cs.length cs) (k : Kd.C k68 w B fs.length fs) (k' : Kd.C k68 w B' fs.length fs) :
    Calls Tryd.prog 17 #[.agg #[.slice A cs.length c, .int .i64 g, .slice B fs.length d], .agg #[.slice A' cs.length c', .int .i64 g, .slice B' fs.length d']] w (EqPost w) := by
  obtain ⟨W, hW⟩ : ∃ W, W = (w.alloc (.cells #[.slice A cs.length c, .int .i64 g, .slice B fs.length d] 38)).alloc (.cells #[.slice A' cs.length c', .int .i64 g, .slice B' fs.length d'] 38) := ⟨_, rfl⟩
  have hb : Below w.heap.size w W := by rw [hW]; exact ((Below.refl _ _).alloc (Nat.le_refl _) _).alloc (by simp) _
  have g0 := blk_old2 (blk_new2 w (.cells #[.slice A cs.length c, .int .i64 g, .slice B fs.length d] 38)) (.cells #[.slice A' cs.length c', .int .i64 g, .slice B' fs.length d'] 38)
  have g1 := blk_new2 (w.alloc (.cells #[.slice A cs.length c, .int .i64 g, .slice B fs.length d] 38)) (.cells #[.slice A' cs.length c', .int .i64 g, .slice B' fs.length d'] 38)
  rw [show (w.alloc (.cells #[.slice A cs.length c, .int .i64 g, .slice B fs.length d] 38)).heap.size = w.heap.size + 1 by simp] at g1
  rw [← hW] at g0 g1
  have H := Lib.hid (Kd.C_below h hb)
  have H' := Lib.hid (Kd.C_below h' hb)
  have K := Lib.hid (Kd.C_below k hb)
  have K' := Lib.hid (Kd.C_below k' hb)
  have HB := Lib.hid hb
  have G0 := Lib.hid g0
  have G1 := Lib.hid g1
  have hu := Tryd.underlying38
  clear h h' k k' hb g0 g1
  go_enter Tryd.func17, Tryd.ntmps17
  go_wp2_with fail
  rw [← hW]
  clear hW
  refine (eqDSS_calls A A' c c' cs W H.out H'.out).mono ?_
  rintro e w1 ⟨rfl, hb1⟩
  have g0 := (hb1.block _ (blk_lt2 G0.out)).trans G0.out
  have g1 := (hb1.block _ (blk_lt2 G1.out)).trans G1.out
  have c1 : w1.cell? ⟨w.heap.size, 1, none⟩ = some (.int .i64 g) := by simp [World.cell?, g0]
  have d1 : w1.cell? ⟨w.heap.size + 1, 1, none⟩ = some (.int .i64 g) := by simp [World.cell?, g1]
  have c2 : w1.cell? ⟨w.heap.size, 2, none⟩ = some (.slice B fs.length d) := by simp [World.cell?, g0]
  have d2 : w1.cell? ⟨w.heap.size + 1, 2, none⟩ = some (.slice B' fs.length d') := by simp [World.cell?, g1]
  have hl0 : w.heap.size < w1.heap.size := blk_lt2 g0
  have hl1 : w.heap.size + 1 < w1.heap.size := blk_lt2 g1
  have HB1 : Hid (Below w.heap.size w w1) := Lib.hid (HB.out.trans (hb1.mono HB.out.size))
  have K1 := Lib.hid (Kd.C_below K.out hb1)
  have K1' := Lib.hid (Kd.C_below K'.out hb1)
  clear hb1 g0 g1
  go_wp2_with fail
  refine (eqFS_calls B B' d d' fs w1 K1.out K1'.out).mono ?_
  rintro e w2 ⟨rfl, hb2⟩
  have HB2 : Hid (Below w.heap.size w w2) := Lib.hid (HB1.out.trans (hb2.mono HB1.out.size))
  clear hb2 c1 d1 c2 d2
  go_wp2_with fail
  go_ret
  exact ⟨rfl, HB2.out⟩
end Go.Proofs.YtogmphjhdkgdjaaDoor
