/- What the law's marks (markByteS, markDatumS) do to rows that the law has made. -/
import Derived.Test.YtogmphjhdkgdjaaDoorOwnA
import Derived.Deep.LoopGhost
import Derived.Lib.SmallJoins
namespace Go.Proofs.YtogmphjhdkgdjaaDoor
open Go.RowKit Go.Lib Go.Proofs.YtogmphjhdkgdjaaDoor.QFnExactWriteData Go.Proofs.YtogmphjhdkgdjaaDoorW.PrintWords Go.Proofs.YtogmphjhdkgdjaaDoorW.PrintLast Go.Proofs.YtogmphjhdkgdjaaDoorW.PrintMore
set_option linter.unusedVariables false
set_option linter.unusedSimpArgs false
/-- So many bytes of the row g are marked. -/
structure MkB (g : Nat) (cells : Array Value) (fz : Nat × Nat) (k : Int) (i : Nat) (w w' : World) : Prop where
  row : ∃ cells' : Array Value, w'.heap[g]? = some (.cells cells' 5 fz) ∧ cells'.size = cells.size ∧ (∀ j, j < i → cells'[j]? = some (Value.int .u8 ((k + (j : Int)) % 256))) ∧ ∀ j, i ≤ j → cells'[j]? = cells[j]?
  size : w'.heap.size = w.heap.size
  others : ∀ q, q ≠ g → w'.heap[q]? = w.heap[q]?
  below : ∀ B, B ≤ g → Below B w w'
theorem MkB.step {g : Nat} {cells : Array Value} {fz : Nat × Nat} {k : Int} {i : Nat} {w w' : World} (h : MkB g cells fz k i w w') (hi : i < cells.size) : MkB g cells fz k (i + 1) w (w'.setCell ⟨g, i, none⟩ (.int .u8 ((k + (i : Int)) % 256))) := by
  obtain ⟨cells', h1, h2, h3, h4⟩ := h.row
  refine ⟨⟨cells'.setIfInBounds i (.int .u8 ((k + (i : Int)) % 256)), Go.Joins.block_setCell h1 _, by simp [h2], fun j hj => ?_, fun j hj => ?_⟩, ?_, fun q hq => ?_, fun B hB => (h.below B hB).setCell (p := ⟨g, i, none⟩) hB _⟩
  · rw [Array.getElem?_setIfInBounds]
    by_cases e : i = j
    · subst e; simp [h2, hi]
    · rw [if_neg e]; exact h3 j (by omega)
  · rw [Array.getElem?_setIfInBounds, if_neg (by omega)]; exact h4 j (by omega)
  · rw [← h.size]; simp [World.setCell]
  · rw [← h.others q hq]; exact Below.heap_setCell _ _ _ _ hq
set_option maxHeartbeats 4000000 in
theorem markByteS_own (g cap n : Nat) (cells : Array Value) (fz : Nat × Nat) (k : Int) (w : World) (hg : w.heap[g]? = some (.cells cells 5 fz)) (hn : n ≤ cells.size) (hf : ∀ i, i < n → ¬ (fz.1 ≤ i ∧ i < fz.2)) (hk0 : 0 ≤ k) (hk1 : k ≤ 1000000000000000) (hn2 : n ≤ 1000000000000000) :
    Calls Tryd.prog 22 #[.slice (some ⟨g, 0, none⟩) n cap, .int .i64 k] w fun e w' => e = .returned (.int .i64 (k + n)) ∧ MkB g cells fz k n w w' := by
  have H0 : Hid (MkB g cells fz k 0 w w) := Lib.hid ⟨⟨cells, hg, rfl, fun j hj => by omega, fun _ _ => rfl⟩, rfl, fun _ _ => rfl, fun _ _ => Below.refl _ _⟩
  have HF := Lib.hid hf
  clear hg hf
  go_enter Tryd.func22, Tryd.ntmps22
  go_wp2
  go_loopw [1, 5] (fun v1 v5 wr => ∃ i : Nat, i ≤ n ∧ v5 = .int .i64 i ∧ v1 = .int .i64 (k + (i : Int)) ∧ Hid (MkB g cells fz k i w wr)) (fun _ v5 _ => n - (RowKit.intOf v5).toNat)
  case atStart => exact ⟨0, Nat.zero_le _, rfl, by simp, H0⟩
  case round =>
    obtain ⟨i, hi, rfl, rfl, HM⟩ := hrel
    by_cases hlt : i < n
    · obtain ⟨cells', h1, h2, h3, h4⟩ := HM.out.row
      have hc0 : ∃ v, wr.cell? ⟨g, i, none⟩ = some v := by
        refine ⟨cells'[i]'(by omega), ?_⟩
        simp [World.cell?, h1]
      obtain ⟨v, hc⟩ := hc0
      have hfz : wr.frozen? ⟨g, i, none⟩ = false := by
        have := HF.out i hlt
        simp [World.frozen?, h1]
        omega
      clear h1 h2 h3 h4
      go_wp2
      go_roundw
      case rel => exact ⟨i + 1, by omega, by go_num, by congr 1; simp; omega, Lib.hid (HM.out.step (by omega))⟩
      case measure => simp [RowKit.intOf]; omega
    · obtain rfl : i = n := by omega
      go_wp2
      go_ret
      exact ⟨rfl, HM.out⟩
set_option maxHeartbeats 4000000 in
theorem markByteS_zero (A : Option Addr) (cap : Nat) (k : Int) (w : World) :
    Calls Tryd.prog 22 #[.slice A 0 cap, .int .i64 k] w fun e w' => e = .returned (.int .i64 k) ∧ w' = w := by
  go_enter Tryd.func22, Tryd.ntmps22
  go_wp2
  go_loopw [1, 5] (fun v1 v5 wr => v5 = .int .i64 0 ∧ v1 = .int .i64 k ∧ wr = w) (fun _ _ _ => 0)
  case atStart => exact ⟨rfl, rfl, rfl⟩
  case round =>
    obtain ⟨rfl, rfl, rfl⟩ := hrel
    go_wp2
    go_ret
    exact ⟨rfl, rfl⟩
/-- A datum's text: none, or a row of its own. -/
def TxtB (G : Nat) (P : Nat → Prop) (w : World) (tv : Value) (len : Nat) : Prop :=
  (len = 0 ∧ ∃ A c, tv = .slice A 0 c) ∨ ∃ g c cells, tv = .slice (some ⟨g, 0, none⟩) len c ∧ g ≠ G ∧ P g ∧ w.heap[g]? = some (.cells cells 5 (0, 0)) ∧ len ≤ cells.size
/-- A row of data of the call's own, its texts within P. -/
structure RowM (G : Nat) (P : Nat → Prop) (cur : Array Value) (xs : List S57) (w : World) : Prop where
  own : P G
  row : w.heap[G]? = some (.cells cur 57 (0, 0))
  size : xs.length * 4 ≤ cur.size
  txt : ∀ (i : Nat) x, xs[i]? = some x → ∃ tv, cur[i * 4 + 2]? = some tv ∧ TxtB G P w tv x.f2.length
/-- Some data are marked. -/
structure MkD (G : Nat) (P : Nat → Prop) (B : Nat) (cur : Array Value) (xs : List S57) (w w' : World) : Prop where
  row : ∃ cur' : Array Value, w'.heap[G]? = some (.cells cur' 57 (0, 0)) ∧ cur'.size = cur.size ∧ ∀ i, cur'[i * 4 + 2]? = cur[i * 4 + 2]?
  texts : ∀ g (cells : Array Value), g ≠ G → w.heap[g]? = some (.cells cells 5 (0, 0)) → ∃ cells' : Array Value, w'.heap[g]? = some (.cells cells' 5 (0, 0)) ∧ cells'.size = cells.size
  size : w'.heap.size = w.heap.size
  others : ∀ q, ¬ P q → w'.heap[q]? = w.heap[q]?
  below : Below B w w'
theorem MkD.refl {G : Nat} {P : Nat → Prop} {B : Nat} {cur : Array Value} {xs : List S57} {w : World} (h : RowM G P cur xs w) : MkD G P B cur xs w w :=
  ⟨⟨cur, h.row, rfl, fun _ => rfl⟩, fun g cells _ h => ⟨cells, h, rfl⟩, rfl, fun _ _ => rfl, Below.refl _ _⟩
theorem MkD.set {G : Nat} {P : Nat → Prop} {B : Nat} {cur : Array Value} {xs : List S57} {w w' : World} (h : MkD G P B cur xs w w') (hP : P G) (hB : B ≤ G) (j : Nat) (v : Value) (hj : ∀ i, j ≠ i * 4 + 2) : MkD G P B cur xs w (w'.setCell ⟨G, j, none⟩ v) := by
  obtain ⟨cur', h1, h2, h3⟩ := h.row
  refine ⟨⟨cur'.setIfInBounds j v, Go.Joins.block_setCell h1 _, by simp [h2], fun i => ?_⟩, fun g cells hg hc => ?_, ?_, fun q hq => ?_, h.below.setCell (p := ⟨G, j, none⟩) hB _⟩
  · rw [Array.getElem?_setIfInBounds, if_neg (hj i)]; exact h3 i
  · obtain ⟨cells', h4, h5⟩ := h.texts g cells hg hc
    exact ⟨cells', (Below.heap_setCell _ _ _ _ hg).trans h4, h5⟩
  · rw [← h.size]; simp [World.setCell]
  · rw [← h.others q hq]; exact Below.heap_setCell _ _ _ _ (fun e => hq (by rw [e]; exact hP))
theorem MkD.text {G : Nat} {P : Nat → Prop} {B : Nat} {cur : Array Value} {xs : List S57} {w w' w2 : World} {g : Nat} {cells : Array Value} {k : Int} {n : Nat} (h : MkD G P B cur xs w w') (hm : MkB g cells (0, 0) k n w' w2) (hg : g ≠ G) (hP : P g) (hB : B ≤ g) (hc : w'.heap[g]? = some (.cells cells 5 (0, 0))) : MkD G P B cur xs w w2 := by
  obtain ⟨cur', h1, h2, h3⟩ := h.row
  obtain ⟨cells', r1, r2, _, _⟩ := hm.row
  refine ⟨⟨cur', (hm.others G hg.symm).trans h1, h2, h3⟩, fun g2 c2 hg2 hc2 => ?_, hm.size.trans h.size, fun q hq => ?_, h.below.trans (hm.below B hB)⟩
  · obtain ⟨c3, h4, h5⟩ := h.texts g2 c2 hg2 hc2
    by_cases e : g2 = g
    · subst e
      rw [hc] at h4
      cases h4
      exact ⟨cells', r1, r2.trans h5⟩
    · exact ⟨c3, (hm.others g2 e).trans h4, h5⟩
  · rw [hm.others q (fun e => hq (by rw [e]; exact hP))]; exact h.others q hq
theorem MkD.cell {G : Nat} {P : Nat → Prop} {B : Nat} {cur : Array Value} {xs : List S57} {w w' : World} (h : MkD G P B cur xs w w') (j : Nat) (hj : j < cur.size) : (∃ v, w'.cell? ⟨G, j, none⟩ = some v) ∧ w'.frozen? ⟨G, j, none⟩ = false := by
  obtain ⟨cur', h1, h2, h3⟩ := h.row
  refine ⟨⟨cur'[j]'(by omega), by simp [World.cell?, h1]⟩, by simp [World.frozen?, h1]⟩
theorem MkD.cell2 {G : Nat} {P : Nat → Prop} {B : Nat} {cur : Array Value} {xs : List S57} {w w' : World} (h : MkD G P B cur xs w w') (i : Nat) (tv : Value) (hc : cur[i * 4 + 2]? = some tv) : w'.cell? ⟨G, i * 4 + 2, none⟩ = some tv := by
  obtain ⟨cur', h1, h2, h3⟩ := h.row
  simp [World.cell?, h1, h3 i, hc]
def MkPost (G : Nat) (P : Nat → Prop) (B : Nat) (cur : Array Value) (xs : List S57) (k : Int) (w : World) (e : Ending) (w' : World) : Prop := ∃ r : Int, e = .returned (.int .i64 r) ∧ k ≤ r ∧ r ≤ k + xs.length * 1048580 ∧ MkD G P B cur xs w w'
set_option maxHeartbeats 8000000 in
theorem markDatumS_own (G cap : Nat) (P : Nat → Prop) (B : Nat) (cur : Array Value) (xs : List S57) (k : Int) (w : World) (hR : RowM G P cur xs w) (hPB : ∀ q, P q → B ≤ q) (hlen : ∀ x ∈ xs, x.f2.length ≤ 1048576) (hxl : xs.length ≤ 1048576) (hk0 : 0 ≤ k) (hk1 : k ≤ 1000000000) :
    Calls Tryd.prog 21 #[.slice (some ⟨G, 0, none⟩) xs.length cap, .int .i64 k] w (MkPost G P B cur xs k w) := by
  have hBG : B ≤ G := hPB G hR.own
  have hsz := hR.size
  have HR := Lib.hid hR
  have HL := Lib.hid hlen
  have HPB := Lib.hid hPB
  clear hR hlen hPB
  go_enter Tryd.func21, Tryd.ntmps21
  go_wp2
  go_loopw [1, 5] (fun v1 v5 wr => ∃ (i : Nat) (z : Int), i ≤ xs.length ∧ v5 = .int .i64 i ∧ v1 = .int .i64 z ∧ k ≤ z ∧ z ≤ k + i * 1048580 ∧ Hid (MkD G P B cur xs w wr)) (fun _ v5 _ => xs.length - (RowKit.intOf v5).toNat)
  case atStart => exact ⟨0, k, Nat.zero_le _, rfl, rfl, by omega, by omega, Lib.hid (MkD.refl HR.out)⟩
  case round =>
    obtain ⟨i, z, hi, rfl, rfl, hz0, hz1, HM⟩ := hrel
    by_cases hlt : i < xs.length
    · obtain ⟨x, hx⟩ : ∃ x, xs[i]? = some x := ⟨xs[i], List.getElem?_eq_getElem hlt⟩
      obtain ⟨tv, htv, htx⟩ := HR.out.txt i x hx
      have hxl2 : x.f2.length ≤ 1048576 := HL.out x (List.mem_of_getElem? hx)
      obtain ⟨⟨v0, c0⟩, f0⟩ := HM.out.cell (i * 4) (by omega)
      obtain ⟨⟨v1, c1⟩, f1⟩ := HM.out.cell (i * 4 + 1) (by omega)
      obtain ⟨⟨v3, c3⟩, f3⟩ := HM.out.cell (i * 4 + 3) (by omega)
      have c2 := HM.out.cell2 i tv htv
      have HM2 : Hid (MkD G P B cur xs w ((wr.setCell ⟨G, i * 4, none⟩ (.int .i64 z)).setCell ⟨G, i * 4 + 1, none⟩ (.int .i64 (z + 1)))) :=
        Lib.hid ((HM.out.set HR.out.own hBG (i * 4) _ (fun q => by omega)).set HR.out.own hBG (i * 4 + 1) _ (fun q => by omega))
      have HTV := Lib.hid htv
      have hi2 : i * 4 + 3 < cur.size := by omega
      clear hx htv HM
      rcases htx with ⟨hl0, A, c, rfl⟩ | ⟨g, c, cells, rfl, hgG, hPg, hgc, hlc⟩
      · go_wp2_with (go_at_call 22; refine (markByteS_zero _ _ _ _).mono ?_; rintro e w' ⟨rfl, rfl⟩)
        go_roundw
        case rel => exact ⟨i + 1, z + 3, by omega, by go_num, by congr 1; omega, by omega, by omega, Lib.hid (HM2.out.set HR.out.own hBG (i * 4 + 3) _ (fun q => by omega))⟩
        case measure => simp [RowKit.intOf]; omega
      · obtain ⟨cells', hc1, hc2⟩ := HM2.out.texts g cells hgG hgc
        have HC1 := Lib.hid hc1
        clear hc1 hgc
        have hBg := HPB.out g hPg
        go_wp2_with (go_at_call 22; refine (markByteS_own g c x.f2.length cells' (0, 0) _ _ HC1.out (by omega) (fun j _ => by simp) (by omega) (by omega) (by omega)).mono ?_; rintro e w3 ⟨rfl, hm3⟩; have HM3 : Hid (MkD G P B cur xs w w3) := Lib.hid (HM2.out.text hm3 hgG hPg hBg HC1.out); clear hm3; obtain ⟨⟨v3', c3'⟩, f3'⟩ := HM3.out.cell (i * 4 + 3) hi2)
        go_roundw
        case rel => exact ⟨i + 1, z + 3 + x.f2.length, by omega, by go_num, by congr 1; omega, by omega, by omega, Lib.hid (HM3.out.set HR.out.own hBG (i * 4 + 3) _ (fun q => by omega))⟩
        case measure => simp [RowKit.intOf]; omega
    · obtain rfl : i = xs.length := by omega
      go_wp2
      go_ret
      exact ⟨z, rfl, hz0, hz1, HM.out⟩
end Go.Proofs.YtogmphjhdkgdjaaDoor
