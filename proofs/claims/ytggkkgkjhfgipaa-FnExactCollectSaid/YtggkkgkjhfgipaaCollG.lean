/- The program's Collect: its walk. -/
import Derived.Test.YtggkkgkjhfgipaaCollF
namespace Go.Proofs.Ytggkkgkjhfgipaa
open Go.RowKit Go.Proofs.YtggkkgkjhfgipaaW.PrintWords Go.Proofs.YtggkkgkjhfgipaaW.PrintLast Go.Proofs.YtggkkgkjhfgipaaW.PrintMore
open Go.ChangeMaps (setBlock)
set_option linter.unusedVariables false
set_option linter.unusedSimpArgs false
def CollectPost (w : World) (r : List Int × Int × List Int × Int) (e : Ending) (w' : World) : Prop :=
  ∃ v0_ v2_ : Value, e = .returned (.tuple #[.agg #[v0_, .int .i64 r.2.1], v2_, .int .i64 r.2.2.2]) ∧ Kd.R (Kd.int .i64) 3 w' w.heap.size (fun k_ => some k_ ≠ (v2_ : Value).ownBlock) v0_ r.1 ∧
    Kd.R (Kd.int .i64) 3 w' w.heap.size (fun k_ => some k_ ≠ (v0_ : Value).ownBlock) v2_ r.2.2.1 ∧ Below w.heap.size w w'
theorem CollectPost.none {w w' : World} {r : List Int × Int × List Int × Int} (hr : r = ([], 0, [], 1)) (hb : Below w.heap.size w w') : CollectPost w r (.returned (.tuple #[.agg #[.slice none 0 0, .int .i64 0], .slice none 0 0, .int .i64 1])) w' := by
  subst hr
  exact ⟨_, _, rfl, Kd.R_nil _ _ _ _ _, Kd.R_nil _ _ _ _ _, hb⟩
theorem own_but {S : Nat → Prop} {w w' : World} {base e size n : Nat} {v : Value} {xs : List Value} (h : w.ownsRow base e size v n xs) (hb : But S w w') (hS : ∀ k, S k → k < base) : w'.ownsRow base e size v n xs :=
  own_move h (fun k hk => hb.block k (own_lt h k hk) (fun hs => by have := hS k hs; have := own_base h k hk; omega))
/-- The number in a cell. -/
def cellI (w : World) (a : Addr) : Int := match w.cell? a with
  | some (.int _ v) => v
  | _ => 0
theorem cellI_of {w : World} {a : Addr} {v : Int} (h : w.cell? a = some (.int .i64 v)) : cellI w a = v := by
  unfold cellI
  rw [h]
theorem rowStep_get {ws : List Int} {ord : List Nat} {row : List Int} {x : Int} {k : Nat} (hk : k < offO ws ord) (hl : offO ws ord ≤ row.length) : (rowStep ws ord row x).getD k 0 = row.getD k 0 ∧ k < (rowStep ws ord row x).length := by
  unfold rowStep
  split
  · unfold putObj
    constructor
    · rw [List.getD_eq_getElem?_getD, List.getD_eq_getElem?_getD, List.append_assoc, List.getElem?_append_left (by simp; omega), List.getElem?_take_of_lt hk]
    · simp
      omega
  · exact ⟨rfl, by omega⟩
theorem row_cell {w : World} {g : Nat} {row : List Int} (h : w.heap[g]? = some (.cells (ints row).toArray 3 (0, 0))) {k : Nat} (hk : k < row.length) : w.cell? ⟨g, k, none⟩ = some (.int .i64 (row.getD k 0)) := by
  refine (blk_cell h k).trans ?_
  simp [ints, List.getD_eq_getElem?_getD, List.getElem?_eq_getElem hk]
theorem make_ints (w : World) (n : Nat) (hn : n ≤ 20000) : ∀ row : List Value, row = ints (List.replicate n 0) →
    (Instr.makeSlice 29 (.int .i64 (n : Int)) (.int .i64 (n : Int))).run Try.prog w = .ok (.slice (some ⟨w.heap.size, 0, none⟩) n n) (w.alloc (.cells row.toArray 3 (0, 0))) := by
  intro row hrow
  obtain ⟨i0, hi, hz0, hz1, hz2⟩ := info_parts (show (Try.prog.info? 3).map (fun i => (i.zero, i.size, i.bytes)) = some (some (.int .i64 0), 1, 8) by kernel_rfl)
  have h := run_make (P := Try.prog) w 29 3 i0 (.int .i64 0) Try.underlying29 hi hz0 .i64 .i64 (n : Int) (n : Int) (by omega) (by omega) (by rw [hz2]; omega) (by omega)
  have e : (madeCells (Value.int .i64 0).cells (((n : Int)).toNat * i0.size)) = row.toArray := by
    apply Array.toList_inj.1
    rw [hz1, Nat.mul_one, Int.toNat_natCast, hrow]
    show (madeCells #[Value.int .i64 0] n).toList = _
    rw [toList_madeCells_one]
    simp [ints]
  rw [e, Int.toNat_natCast] at h
  exact h
theorem Collect_done {w wx : World} {ws roots row outl : List Int} {t g B : Nat} {v : Value} {ord : List Nat} {q1 : Nat} (hv : validF ws (t : Int) roots = true) (hL : ws.length ≤ 20000) (h1 : ord = orderO ws roots) (h2 : row = ord.flatMap (mapObj ws ord) ++ List.replicate (ws.length - offO ws ord) 0)
    (h3 : outl = roots.map (movedO ws ord)) (hq : q1 = offO ws ord) (hlen : row.length = ws.length) (hg : w.heap.size ≤ g) (hrow : wx.heap[g]? = some (.cells (ints row).toArray 3 (0, 0))) (hown : wx.ownsRow B 3 1 v outl.length (ints outl)) (hB : g < B) (hb : Below w.heap.size w wx) :
    CollectPost w (collectF ws (t : Int) roots) (.returned (.tuple #[.agg #[.slice (some ⟨g, 0, none⟩) ws.length ws.length, .int .i64 (q1 : Int)], v, .int .i64 0])) wx := by
  have hC : collectF ws (t : Int) roots = (row, (q1 : Int), outl, 0) := by
    unfold collectF
    rw [if_pos hv, ← h1, ← h2, ← h3, ← hq]
  rw [hC]
  have hown0 : wx.ownsRow w.heap.size 3 1 (.slice (some ⟨g, 0, none⟩) ws.length ws.length) row.length (ints row) := by
    rw [hlen]
    refine ⟨by simp [ints, hlen], .inr ⟨g, ws.length, (ints row).toArray, rfl, hg, hrow, Nat.le_refl _, by unfold maxLen; omega, by simp [ints, hlen], ?_⟩⟩
    rw [Nat.mul_one, List.take_of_length_le (by simp [ints, hlen])]
  refine ⟨_, _, rfl, Kd.R_of_own (xs := row) hown0 (fun k hk => ?_), Kd.R_of_own (xs := outl) (own_weaken hown (by omega)) (fun k hk => ?_), hb⟩
  · intro e
    have := own_base hown k e.symm
    simp [Value.ownBlock] at hk
    omega
  · intro e
    have := own_base hown k hk
    simp [Value.ownBlock] at e
    omega
set_option maxHeartbeats 4000000 in
set_option maxRecDepth 100000 in
theorem Collect_calls (A : Option Addr) (c : Nat) (ws : List Int) (top : Int) (R : Option Addr) (cr : Nat) (roots : List Int) (w : World) (hr : Kd.C (Kd.int .i64) w A ws.length ws) (hc : ws.length ≤ c) (hx : ∀ x ∈ ws, InI64 x)
    (hr2 : Kd.C (Kd.int .i64) w R roots.length roots) (hc2 : roots.length ≤ cr) (hx2 : ∀ x ∈ roots, InI64 x) :
    Calls Try.prog 32 #[.agg #[.slice A ws.length c, .int .i64 top], .slice R roots.length cr] w (CollectPost w (collectF ws top roots)) := by
  have HR := Lib.hid hr
  have HX := Lib.hid hx
  have HR2 := Lib.hid hr2
  have HX2 := Lib.hid hx2
  clear hr hx hr2 hx2
  have hu := Try.underlying31
  go_enter Try.func32, Try.ntmps32
  go_wp2_with fail
  refine (validHeap_calls A c ws top R cr roots _ (Kd.C_alloc (Kd.C_alloc HR.out _) _) hc HX.out (Kd.C_alloc (Kd.C_alloc HR2.out _) _) hc2 HX2.out).mono ?_
  intro e w1 hpost
  have HB : Hid (Below w.heap.size w w1) := Lib.hid (((Below.refl _ _).alloc (Nat.le_refl _) _).trans (((Below.refl _ _).alloc (Nat.le_refl _) _).trans (hpost.1.mono (by simp))|>.mono (by simp)))
  have hbox : w1.heap[w.heap.size]? = some (.cells #[.slice A ws.length c, .int .i64 top] 31 (0, 0)) := blk_below (blk_alloc (blk_new w _) _) hpost.1
  have hres : w1.heap[w.heap.size + 1]? = some (.cells #[.slice none 0 0, .int .i64 0] 31 (0, 0)) := blk_below (by have := blk_new (w.alloc (.cells #[.slice A ws.length c, .int .i64 top] 31 (0, 0))) (.cells #[.slice none 0 0, .int .i64 0] 31 (0, 0)); simpa using this) hpost.1
  have HBOX := Lib.hid hbox
  have HRES := Lib.hid hres
  have cb0 : w1.cell? ⟨w.heap.size, 0, none⟩ = some (.slice A ws.length c) := blk_cell hbox 0
  have cr0 : w1.cell? ⟨w.heap.size + 1, 0, none⟩ = some (.slice none 0 0) := blk_cell hres 0
  have cr1 : w1.cell? ⟨w.heap.size + 1, 1, none⟩ = some (.int .i64 0) := blk_cell hres 1
  have fr0 := blk_frozen hres 0
  have fr1 := blk_frozen hres 1
  have GE : w.heap.size ≤ w.heap.size + 1 := Nat.le_succ _
  clear hbox hres
  rcases hpost with ⟨hb, ⟨hv, rfl⟩ | ⟨hv, b, es, L, rfl, hL, hes, hblk⟩⟩
  · have HV : Hid (collectF ws top roots = ([], 0, [], 1)) := by
      refine Lib.hid ?_
      unfold collectF
      rw [hv]
      simp
    clear hv hb
    go_wp2_with fail
    refine bodyPost_ret (results_ctt rfl _ _ (w.heap.size + 1) 31 #[.slice none 0 0, .int .i64 0] (0, 0) _ rfl (blk_put (cs := #[.slice none 0 0, .int .i64 0]) (blk_put (cs := #[.slice none 0 0, .int .i64 0]) HRES.out 0 _ rfl) 1 _ rfl) Try.underlying31 rfl (by kernel_rfl)) rfl ?_
    exact CollectPost.none HV.out (below_set (below_set HB.out GE) GE)
  · obtain ⟨hlw, ht0, htl, _⟩ := objsF_mem hL
    obtain ⟨t, rfl⟩ := Int.eq_ofNat_of_zero_le ht0
    have HV := Lib.hid hv
    have HL := Lib.hid hL
    have HES := Lib.hid hes
    have HBLK := Lib.hid hblk
    have HLW := Lib.hid hlw
    have HT0 := Lib.hid ht0
    have HTL := Lib.hid htl
    clear hv hb hL hes hblk hlw ht0 htl
    obtain ⟨Z, hZ⟩ : ∃ Z, Z = ints (List.replicate ws.length 0) := ⟨_, rfl⟩
    have hmk := make_ints w1 ws.length HLW.out Z hZ
    have HZ := Lib.hid hZ
    clear hZ
    have hmm := @run_makeMap Try.prog
    go_wp2_with fail
    clear hmk hmm
    obtain ⟨W4, hW4⟩ : ∃ W4, W4 = (((w1.alloc (Obj.cells Z.toArray 3)).alloc (Obj.map #[] 0)).alloc (Obj.cells #[Value.map (some b), Value.slice (some { block := w1.heap.size, off := 0 }) ws.length ws.length, Value.int IntKind.i64 0, Value.map (some (w1.heap.size + 1))] 75)).alloc (Obj.cells #[] 3) := ⟨_, rfl⟩
    rw [← hW4]
    obtain ⟨g, hg⟩ : ∃ g, g = w1.heap.size := ⟨_, rfl⟩
    obtain ⟨C, hC⟩ : ∃ C, C = g + 1 + 1 := ⟨_, rfl⟩
    have hgw : w.heap.size + 1 < g := by rw [hg]; exact blk_lt HRES.out
    have HCOP : Hid (Cop w1 C b (g + 1) g ws [] (List.replicate ws.length 0) W4) := by
      subst hg hC
      refine Lib.hid ⟨?_, ⟨[], 0, ?_, by intro e he; simp at he, fun p => by simp [lookAt]⟩, ?_, by simp, ?_, by omega, by omega, by omega, by omega, by omega, by omega⟩
      · rw [hW4]
        have := blk_new ((w1.alloc (Obj.cells Z.toArray 3)).alloc (Obj.map #[] 0)) (Obj.cells #[Value.map (some b), Value.slice (some { block := w1.heap.size, off := 0 }) ws.length ws.length, Value.int IntKind.i64 0, Value.map (some (w1.heap.size + 1))] 75)
        refine blk_alloc ?_ _
        simpa [offO] using this
      · rw [hW4]
        have := blk_new (w1.alloc (Obj.cells Z.toArray 3)) (Obj.map #[] 0)
        refine blk_alloc (blk_alloc ?_ _) _
        simpa using this
      · rw [hW4]
        refine blk_alloc (blk_alloc (blk_alloc ?_ _) _) _
        rw [← HZ.out]
        exact blk_new w1 _
      · rw [hW4]
        exact ((((Below.refl _ _).alloc (Nat.le_refl _) _).alloc (by simp) _).alloc (by simp; omega) _).alloc (by simp; omega) _
    have HOWN : Hid (W4.ownsRow (g + 1 + 1 + 1) 3 1 (.slice (some ⟨g + 1 + 1 + 1, 0, none⟩) 0 0) 0 (ints [])) := by
      refine Lib.hid ?_
      have := World.ownsRow_made (((w1.alloc (Obj.cells Z.toArray 3)).alloc (Obj.map #[] 0)).alloc (Obj.cells #[Value.map (some b), Value.slice (some { block := w1.heap.size, off := 0 }) ws.length ws.length, Value.int IntKind.i64 0, Value.map (some (w1.heap.size + 1))] 75)) (base := g + 1 + 1 + 1) (e := 3) (size := 1) #[] 0 (by rw [hg]; simp) (Nat.zero_le _) rfl
      rw [← hW4] at this
      simpa [hg, ints] using this
    have HRES4 : Hid (W4.heap[w.heap.size + 1]? = some (.cells #[.slice none 0 0, .int .i64 0] 31 (0, 0))) := by
      refine Lib.hid ?_
      rw [hW4]
      exact blk_alloc (blk_alloc (blk_alloc (blk_alloc HRES.out _) _) _) _
    rw [← hg]
    have hC' : g + 1 + 1 = C := hC.symm
    rw [hC'] at HOWN ⊢
    have HG := Lib.hid hg
    have HC := Lib.hid hC
    clear hW4 hg hC hC' HZ cb0 cr0 cr1 fr0 fr1
    go_loopw [10, 37] (fun v i wr => ∃ (ov : Value) (j : Nat) (ord : List Nat) (row outl : List Int), ov = v ∧ j ≤ roots.length ∧ i = .int .i64 j ∧ Hid (RootSt ws L roots ord j row outl) ∧ Hid (Cop w1 C b (g + 1) g ws ord row wr) ∧ Hid (wr.ownsRow (C + 1) 3 1 v outl.length (ints outl)) ∧ Hid (outl.length = j) ∧
      Hid (wr.heap[w.heap.size + 1]? = some (.cells #[.slice none 0 0, .int .i64 0] 31 (0, 0)))) (fun _ i _ => roots.length - (intOf i).toNat)
    case atStart => exact ⟨_, 0, [], _, [], rfl, Nat.zero_le _, rfl, Lib.hid (RootSt.start _ _ _), HCOP, HOWN, rfl, HRES4⟩
    case round =>
      obtain ⟨v, j, ord, row, outl, rfl, hj, rfl, HRS, HCP, HOW, HOL, HRW⟩ := hrel
      have HBW : Hid (Below w.heap.size w wr) := Lib.hid (HB.out.trans (HCP.out.below.mono (by have := HG.out; omega)))
      obtain ⟨i0, hi, hz0, hz1, hz2⟩ := info_parts (show (Try.prog.info? 3).map (fun i => (i.zero, i.size, i.bytes)) = some (some (.int .i64 0), 1, 8) by kernel_rfl)
      have lC := blk_lt HCP.out.box
      have hlr : roots.length ≤ 20000 := by obtain ⟨L', h1, h2, _⟩ := validF_parts HV.out; exact h2
      have HWR : Hid (∀ x ∈ roots, wordF (isPlace L) x = true) := by
        refine Lib.hid ?_
        obtain ⟨L', h1, h2, h3, h4⟩ := validF_parts HV.out
        rw [HL.out] at h1
        cases h1
        exact h4
      by_cases hlt : j < roots.length
      · obtain ⟨ad, ha, hcell⟩ := Kd.at_int HR2.out (j : Int) (by omega) (by omega)
        have hcell' := (HBW.out.cell (World.block_lt_of_cell? w _ hcell)).trans hcell
        rw [Int.toNat_natCast] at hcell'
        obtain ⟨x, hxd⟩ : ∃ x, x = roots.getD j 0 := ⟨_, rfl⟩
        rw [show rd roots (j : Int) = x from hxd.symm] at hcell'
        have HXD := Lib.hid hxd
        have HWF : Hid (wordF (isPlace L) x = true) := Lib.hid (by rw [hxd]; exact HWR.out _ (getD_mem hlt))
        clear hcell hxd
        cases ha
        obtain ⟨y, hy⟩ : ∃ y, y = movedO ws (stepO ord x) x := ⟨_, rfl⟩
        have HY := Lib.hid hy
        clear hy
        go_wp2_with (first
          | (go_at_call 50; go_loud (refine (word_calls w1 C b (g + 1) g ws (t : Int) L es ord row x _ HL.out HES.out HBLK.out HRS.out.good HWF.out HCP.out).mono ?_; rintro e w4 ⟨rfl, hc4, hb4⟩; rw [← HY.out]; have HC4 := Lib.hid hc4; have HB4 := Lib.hid hb4; have HOW4 : Hid (w4.ownsRow (C + 1) 3 1 v outl.length (ints outl)) := Lib.hid (own_but HOW.out hb4 (fun k hk => by have := HC.out; rcases hk with rfl | rfl | rfl <;> omega)); clear hc4 hb4))
          | (at_builtin; refine wpList_append_own _ rfl _ _ 29 rfl (C + 1) 3 i0 (.int .i64 0) 1 8 Try.underlying29 hi hz0 hz1 hz2 rfl (by decide) _ _ _ rfl (HOW4.out.alloc _) ⟨w4.heap.size, 0, none⟩ 1 1 [.int .i64 y] rfl rfl ?c1 ?c2 ?c3 ?c4 ?c5 ?_))
        case c1 => exact cell_one_new _ _ _
        case c2 => intro u hu; rw [List.mem_singleton] at hu; subst hu; rfl
        case c3 => have := HOL.out; unfold maxLen; omega
        case c4 => have := HOL.out; omega
        case c5 => have := HC4.out.box; have := blk_lt this; simp; omega
        intro v' w5 hown5 hgr5 _
        have HG5 := Lib.hid hgr5
        have HO5 : Hid (w5.ownsRow (C + 1) 3 1 v' (outl ++ [y]).length (ints (outl ++ [y]))) := Lib.hid (by simpa [ints] using hown5)
        have HROW : Hid (∀ k, k < C + 1 → w5.heap[k]? = w4.heap[k]?) := Lib.hid (fun k hk => by
          have l4 := blk_lt HC4.out.box
          refine (hgr5.block k (by simp; omega) (fun e => ?_)).trans (Below.heap_alloc _ _ _ (by omega))
          have := own_base HOW4.out k e.symm
          omega)
        have HBL5 : Hid (Below w1.heap.size w1 w5) := Lib.hid ((HC4.out.below.alloc HC4.out.below.size _).grown hgr5 (by have := HC4.out.below.size; simp; omega) (fun k hk => by have := own_base HOW4.out k hk; have := HC4.out.b1; omega))
        clear hown5 hgr5
        go_wp2
        go_roundw
        case rel =>
          refine ⟨_, j + 1, stepO ord x, rowStep ws ord row x, outl ++ [y], rfl, by omega, by go_num, ?_, ?_, HO5, ?_, ?_⟩
          · have hn := HRS.out.next HL.out HWR.out hlt
            rw [← HXD.out, ← HY.out] at hn
            exact Lib.hid hn
          · refine Lib.hid (HC4.out.keep (fun k hk => HROW.out k (by have := HC.out; rcases hk with rfl | rfl | rfl <;> omega)) HBL5.out)
          · exact Lib.hid (by simp [HOL.out])
          · exact Lib.hid ((HROW.out _ (by have := HC.out; omega)).trans (HB4.out.blk HRW.out (by unfold SC; have := HC.out; omega)))
        case measure => simp [intOf]; omega
      · obtain rfl : j = roots.length := by omega
        have HSS : Hid (ScanSt ws t L roots ord 0 row) := Lib.hid (ScanSt.start HRS.out (Nat.le_refl _) (by have := HTL.out; have := HLW.out; omega))
        have HMV : Hid (outl = roots.map (movedO ws ord)) := Lib.hid (HRS.out.fin (Nat.le_refl _)).2.2
        have HOALL : Hid (∀ q ∈ L, objectAt ws L q = true) := by
          refine Lib.hid ?_
          obtain ⟨L', h1, h2, h3, h4⟩ := validF_parts HV.out
          rw [HL.out] at h1
          cases h1
          exact h3
        clear HRS HWR hlt
        go_wp2_with fail
        obtain ⟨wo, rfl⟩ : ∃ wo : World, wo = wr := ⟨_, rfl⟩
        have hlw : ws.length ≤ 20000 := HLW.out
        go_loopw [13] (fun u w2 => ∃ (i : Nat) (ord2 : List Nat) (row2 : List Int), u = .int .i64 (offO ws (ord2.take i) : Int) ∧ Hid (ScanSt ws t L roots ord2 i row2) ∧ Hid (Cop w1 C b (g + 1) g ws ord2 row2 w2) ∧ Hid (But (SC C (g + 1) g) wo w2) ∧ Hid (outl = roots.map (movedO ws ord2))) (fun u _ => ws.length - (intOf u).toNat)
        case atStart => exact ⟨0, ord, row, by simp [offO], HSS, HCP, Lib.hid (But.refl _ _), HMV⟩
        case round =>
          clear HSS HCP HMV HBW lC
          clear row ord
          obtain ⟨i, ord, row, rfl, HSS, HCP, HBU, HMV⟩ := hrel
          have c1 : wr.cell? ⟨C, 1, none⟩ = some (.slice (some ⟨g, 0, none⟩) ws.length ws.length) := blk_cell HCP.out.box 1
          have c2 : wr.cell? ⟨C, 2, none⟩ = some (.int .i64 (offO ws ord : Int)) := blk_cell HCP.out.box 2
          obtain ⟨q1, hq1⟩ : ∃ q1, q1 = offO ws ord := ⟨_, rfl⟩
          obtain ⟨q0, hq0⟩ : ∃ q0, q0 = offO ws (ord.take i) := ⟨_, rfl⟩
          have HQ1 := Lib.hid hq1
          have HQ0 := Lib.hid hq0
          have hq1l : q1 ≤ ws.length := by
            have := HSS.out.good.off_le HL.out
            have := HTL.out
            omega
          have hq01 : q0 ≤ q1 := by rw [hq0, hq1]; exact offO_take_le ws ord i
          rw [← hq1] at c2
          rw [← hq0]
          clear hq1 hq0
          by_cases hlt : q0 < q1
          · obtain ⟨p, hp⟩ : ∃ p, ord[i]? = some p := by
              by_cases hil : i < ord.length
              · exact ⟨_, List.getElem?_eq_getElem hil⟩
              · exfalso
                have e := HQ0.out
                rw [List.take_of_length_le (by omega), ← HQ1.out] at e
                omega
            have hin := HSS.out.into HL.out hp
            obtain ⟨hh1, hh2⟩ := hin.head HL.out
            rw [← HQ0.out] at hh1 hh2
            have hpi := hin.good.inn p (List.mem_of_getElem? hp)
            obtain ⟨hf1, hf2, hf3, hf4, hf5⟩ := obj_fits HL.out hpi
            obtain ⟨n, hn⟩ : ∃ n, n = sizeAt ws p := ⟨_, rfl⟩
            obtain ⟨hd, hhd⟩ : ∃ hd, hd = ws.getD p 0 := ⟨_, rfl⟩
            rw [← hn] at hf2 hf4 hf5
            rw [← hhd] at hf1 hf2 hh1
            have cg : wr.cell? ⟨g, q0, none⟩ = some (.int .i64 hd) := by
              refine (blk_cell HCP.out.cells q0).trans ?_
              rw [← hh1]
              simp [ints, List.getD_eq_getElem?_getD, List.getElem?_eq_getElem hh2]
            have HIN := Lib.hid hin
            have HPI := Lib.hid hpi
            have HN := Lib.hid hn
            have HF5 := Lib.hid hf5
            clear hin hh1 hh2 hpi hf3 hf5 hn hhd hp
            go_wp2_with fail
            clear c1 c2 cg
            obtain ⟨wp, rfl⟩ : ∃ wp : World, wp = wr := ⟨_, rfl⟩
            go_loopw [15] (fun u w3 => ∃ (k j : Nat) (ord2 : List Nat) (row2 : List Int), u = .int .i64 (k : Int) ∧ q0 + 1 ≤ k ∧ k ≤ q0 + 1 + n ∧ Hid (k = q0 + 1 + j) ∧ Hid (InSt ws t L roots ord2 i p j row2) ∧ Hid (offO ws (ord2.take i) = q0) ∧ Hid (Cop w1 C b (g + 1) g ws ord2 row2 w3) ∧ Hid (But (SC C (g + 1) g) wo w3) ∧ Hid (outl = roots.map (movedO ws ord2))) (fun u _ => q0 + 1 + n - (intOf u).toNat)
            case atStart => exact ⟨q0 + 1, 0, ord, row, by go_num, Nat.le_refl _, by omega, rfl, HIN, Lib.hid HQ0.out.symm, HCP, HBU, HMV⟩
            case round =>
              clear HIN HCP HBU HMV HSS
              obtain ⟨k, j, ord2, row2, rfl, hk0, hk1, HK, HIN, HQ2, HCP, HBU, HMV⟩ := hrel
              have c1 : wr.cell? ⟨C, 1, none⟩ = some (.slice (some ⟨g, 0, none⟩) ws.length ws.length) := blk_cell HCP.out.box 1
              by_cases hjn : k < q0 + 1 + n
              · obtain ⟨hc1, hc2⟩ := HIN.out.cell HL.out (by rw [← HN.out]; have := HK.out; omega)
                rw [HQ2.out, ← HK.out] at hc1 hc2
                obtain ⟨x, hx⟩ : ∃ x, x = (objFields ws p).getD j 0 := ⟨_, rfl⟩
                rw [← hx] at hc1
                have cx : wr.cell? ⟨g, k, none⟩ = some (.int .i64 x) := by rw [← hc1]; exact row_cell HCP.out.cells hc2
                have HXD := Lib.hid hx
                have HIDX := Lib.hid hc2
                have hidx : (k : Int) < (ws.length : Int) := by have := HCP.out.len; omega
                have hi0 : (0 : Int) ≤ (k : Int) := by omega
                have hnat : k < ws.length := by omega
                have HJN : Hid (j < n) := Lib.hid (by have := HK.out; omega)
                clear hx hc1 hc2
                go_wp2_with fail
                have HWF : Hid (wordF (isPlace L) x = true) := Lib.hid (by rw [HXD.out]; exact fields_ok HOALL.out HPI.out _ (getD_mem (by rw [HF5.out]; exact HJN.out)))
                have HCD : Hid (Cop w1 C b (g + 1) g ws ord2 row2 wr.drew) := Lib.hid HCP.out.drew
                obtain ⟨y, hy⟩ : ∃ y, y = movedO ws (stepO ord2 x) x := ⟨_, rfl⟩
                have HY := Lib.hid hy
                clear hy
                go_region_with
                  ((go_at_call 50; refine (word_calls w1 C b (g + 1) g ws (t : Int) L es ord2 row2 x _ HL.out HES.out HBLK.out HIN.out.good HWF.out HCD.out).mono ?_; rintro e w4 ⟨rfl, hc4, hb4⟩; rw [← HY.out]; have HC4 := Lib.hid hc4; have HB4 := Lib.hid hb4; have fz4 : w4.frozen? ⟨g, k, none⟩ = false := blk_frozen hc4.cells _; have c41 : w4.cell? ⟨C, 1, none⟩ = some (.slice (some ⟨g, 0, none⟩) ws.length ws.length) := blk_cell hc4.box 1; have c42 := row_cell hc4.cells (k := k) (by have := hc4.len; omega); clear hc4 hb4))
                all_goals
                  clear c41 c42 fz4 c1 cx
                  have HCN : Hid (Cop w1 C b (g + 1) g ws (stepO ord2 x) ((rowStep ws ord2 row2 x).set k y) (w4.setCell ⟨g, k, none⟩ (.int .i64 y))) := Lib.hid (HC4.out.set k y)
                  have HBN : Hid (But (SC C (g + 1) g) wo (w4.setCell ⟨g, k, none⟩ (.int .i64 y))) := Lib.hid ((HBU.out.trans ((But.drew (But.refl _ wr)).trans HB4.out)).setCell (.inr (.inr rfl)) _)
                  have HPRE : Hid ((stepO ord2 x).take i = ord2.take i) := by
                    refine Lib.hid ?_
                    obtain ⟨r, hr⟩ := stepO_pre ord2 x
                    have := (List.getElem?_eq_some_iff.1 HIN.out.at_).1
                    rw [hr, List.take_append_of_le_length (by omega)]
                  have HIK : Hid (offO ws (ord2.take i) + 1 + j = k) := Lib.hid (by rw [HQ2.out]; exact HK.out.symm)
                  go_wp2
                  go_roundw
                  case rel =>
                    refine ⟨k + 1, j + 1, stepO ord2 x, (rowStep ws ord2 row2 x).set k y, by go_num, by omega, by omega, ?_, ?_, ?_, ?_, ?_, ?_⟩
                    · exact Lib.hid (by have := HK.out; omega)
                    · have hn := HIN.out.next HL.out HOALL.out (by rw [← HN.out]; exact HJN.out) HXD.out
                      rw [HIK.out, ← HY.out] at hn
                      exact Lib.hid hn
                    · exact Lib.hid (by rw [HPRE.out]; exact HQ2.out)
                    · exact HCN
                    · exact HBN
                    · refine Lib.hid ?_
                      rw [map_moved_step HIN.out.roots]
                      exact HMV.out
                  case measure => simp [intOf]; omega
              · have HJ2 : Hid (j = sizeAt ws p) := Lib.hid (by have := HK.out; rw [← HN.out]; omega)
                have HSC : Hid (ScanSt ws t L roots ord2 (i + 1) row2) := Lib.hid (HIN.out.out HL.out HJ2.out)
                have HOF : Hid (offO ws (ord2.take (i + 1)) = q0 + 1 + n) := by
                  refine Lib.hid ?_
                  rw [offO_take_succ ws ord2 i p HIN.out.at_, HQ2.out]
                  unfold sz
                  rw [← HN.out]
                  omega
                clear c1
                go_wp2
                go_roundw
                case rel =>
                  refine ⟨i + 1, ord2, row2, ?_, HSC, HCP, HBU, HMV⟩
                  rw [HOF.out]
                  go_num
                case measure => simp [intOf]; omega
          · have hfin := HSS.out.fin (by rw [← HQ1.out, ← HQ0.out]; omega)
            have HFIN := Lib.hid hfin
            clear hfin
            have HRX : Hid (wr.heap[w.heap.size + 1]? = some (.cells #[.slice none 0 0, .int .i64 0] 31 (0, 0))) := Lib.hid (HBU.out.blk HRW.out (by unfold SC; have := HC.out; omega))
            have cr0 : wr.cell? ⟨w.heap.size + 1, 0, none⟩ = some (.slice none 0 0) := blk_cell HRX.out 0
            have cr1 : wr.cell? ⟨w.heap.size + 1, 1, none⟩ = some (.int .i64 0) := blk_cell HRX.out 1
            have fr0 : wr.frozen? ⟨w.heap.size + 1, 0, none⟩ = false := blk_frozen HRX.out 0
            have fr1 : wr.frozen? ⟨w.heap.size + 1, 1, none⟩ = false := blk_frozen HRX.out 1
            have HBX : Hid (Below w.heap.size w wr) := Lib.hid (HB.out.trans (HCP.out.below.mono (by have := HG.out; omega)))
            have HOX : Hid (wr.ownsRow (C + 1) 3 1 v outl.length (ints outl)) := Lib.hid (own_but HOW.out HBU.out (fun k hk => by have := HC.out; rcases hk with rfl | rfl | rfl <;> omega))
            have HCB : Hid (C + 1 ≤ wr.heap.size) := Lib.hid (blk_lt HCP.out.box)
            go_wp2_with fail
            refine bodyPost_ret (results_ctt rfl _ _ (w.heap.size + 1) 31 #[.slice (some ⟨g, 0, none⟩) ws.length ws.length, .int .i64 (q1 : Int)] (0, 0) _ rfl (blk_put (cs := #[.slice (some ⟨g, 0, none⟩) ws.length ws.length, .int .i64 0]) (blk_put (cs := #[.slice none 0 0, .int .i64 0]) HRX.out 0 _ rfl) 1 _ rfl) Try.underlying31 rfl (by kernel_rfl)) rfl ?_
            refine Collect_done HV.out hlw HFIN.out.1 HFIN.out.2 HMV.out HQ1.out HCP.out.len (by omega) (blk_far (blk_far HCP.out.cells (by show g ≠ w.heap.size + 1; omega) _) (by show g ≠ w.heap.size + 1; omega) _) (B := C + 1) ?_ (by have := HC.out; omega) (below_set (below_set HBX.out GE) GE)
            exact own_move HOX.out (fun k hk => by
              have := own_base HOX.out k hk
              have := HC.out
              exact (Below.heap_setCell _ _ _ k (by show k ≠ w.heap.size + 1; omega)).trans (Below.heap_setCell _ _ _ k (by show k ≠ w.heap.size + 1; omega)))
end Go.Proofs.Ytggkkgkjhfgipaa
