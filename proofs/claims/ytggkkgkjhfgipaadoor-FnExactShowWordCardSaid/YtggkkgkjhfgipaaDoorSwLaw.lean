/- What the law's marks do to rows of bytes that the law has made. -/
import Derived.Test.YtggkkgkjhfgipaaDoorSwImplB
import Derived.Test.YtggkkgkjhfgipaaDoorQFnExactShowWordx5
import Derived.Deep.LoopGhost
import Derived.Lib.SmallJoins
import Derived.Test.YtggkkgkjhfgipaaDoorQFnExactShowWordx4
import Derived.StillTailTactics
import Derived.Test.YtggkkgkjhfgipaaDoorQFnExactShowWordx1
import Derived.Test.YtggkkgkjhfgipaaDoorSwHeap
import Derived.Test.YtggkkgkjhfgipaaDoorSwSpec
import Derived.Deep.RegionHeld3
namespace Go.Proofs.YtggkkgkjhfgipaaDoor
open Go.RowKit Go.Lib Go.Proofs.YtggkkgkjhfgipaaDoor.QFnExactShowWord Go.Proofs.YtggkkgkjhfgipaaDoorW.PrintWords Go.Proofs.YtggkkgkjhfgipaaDoorW.PrintLast Go.Proofs.YtggkkgkjhfgipaaDoorW.PrintMore
set_option linter.unusedVariables false
set_option linter.unusedSimpArgs false
/-- So many bytes of the row g are marked. -/
structure MkB (g : Nat) (cells : Array Value) (fz : Nat × Nat) (k : Int) (i : Nat) (w w' : World) : Prop where
  row : ∃ cells' : Array Value, w'.heap[g]? = some (.cells cells' 5 fz) ∧ cells'.size = cells.size ∧ (∀ j, j < i → cells'[j]? = some (Value.int .u8 ((k + (j : Int)) % 256))) ∧ ∀ j, i ≤ j → cells'[j]? = cells[j]?
  size : w'.heap.size = w.heap.size
  others : ∀ q, q ≠ g → w'.heap[q]? = w.heap[q]?
  below : ∀ B, B ≤ g → Below B w w'
theorem MkB.step {g : Nat} {cells : Array Value} {fz : Nat × Nat} {k : Int} {i : Nat} {w w' : World} (h : MkB g cells fz k i w w') (hi : i < cells.size) : MkB g cells fz k (i + 1) w (w'.setCell ⟨g, i, none⟩ (.int .u8 ((k + (i : Int)) % 256))) := by
  obtain ⟨cells', h1, h2, h3, h4⟩ := h.row
  refine ⟨⟨cells'.setIfInBounds i (.int .u8 ((k + (i : Int)) % 256)), Go.Joins.block_setCell h1 _, by simp [h2], fun j hj => ?_, fun j hj => ?_⟩, ?_, fun q hq => ?_, fun B hB => (h.below B hB).setCell (p := ⟨g, i, none⟩) hB _⟩
  · rw [Array.getElem?_setIfInBounds]
    by_cases e : i = j
    · subst e; simp [h2, hi]
    · rw [if_neg e]; exact h3 j (by omega)
  · rw [Array.getElem?_setIfInBounds, if_neg (by omega)]; exact h4 j (by omega)
  · rw [← h.size]; simp [World.setCell]
  · rw [← h.others q hq]; exact Below.heap_setCell _ _ _ _ hq
set_option maxHeartbeats 4000000 in
theorem markByteS_own (g cap n : Nat) (cells : Array Value) (fz : Nat × Nat) (k : Int) (w : World) (hg : w.heap[g]? = some (.cells cells 5 fz)) (hn : n ≤ cells.size) (hf : ∀ i, i < n → ¬ (fz.1 ≤ i ∧ i < fz.2)) (hk0 : 0 ≤ k) (hk1 : k ≤ 1000000000000000) (hn2 : n ≤ 1000000000000000) :
    Calls Tryd.prog 16 #[.slice (some ⟨g, 0, none⟩) n cap, .int .i64 k] w fun e w' => e = .returned (.int .i64 (k + n)) ∧ MkB g cells fz k n w w' := by
  have H0 : Hid (MkB g cells fz k 0 w w) := Lib.hid ⟨⟨cells, hg, rfl, fun j hj => by omega, fun _ _ => rfl⟩, rfl, fun _ _ => rfl, fun _ _ => Below.refl _ _⟩
  have HF := Lib.hid hf
  clear hg hf
  go_enter Tryd.func16, Tryd.ntmps16
  go_wp2
  go_loopw [1, 5] (fun v1 v5 wr => ∃ i : Nat, i ≤ n ∧ v5 = .int .i64 i ∧ v1 = .int .i64 (k + (i : Int)) ∧ Hid (MkB g cells fz k i w wr)) (fun _ v5 _ => n - (RowKit.intOf v5).toNat)
  case atStart => exact ⟨0, Nat.zero_le _, rfl, by simp, H0⟩
  case round =>
    obtain ⟨i, hi, rfl, rfl, HM⟩ := hrel
    by_cases hlt : i < n
    · obtain ⟨cells', h1, h2, h3, h4⟩ := HM.out.row
      have hc0 : ∃ v, wr.cell? ⟨g, i, none⟩ = some v := by
        refine ⟨cells'[i]'(by omega), ?_⟩
        simp [World.cell?, h1]
      obtain ⟨v, hc⟩ := hc0
      have hfz : wr.frozen? ⟨g, i, none⟩ = false := by
        have := HF.out i hlt
        simp [World.frozen?, h1]
        omega
      clear h1 h2 h3 h4
      go_wp2
      go_roundw
      case rel => exact ⟨i + 1, by omega, by go_num, by congr 1; simp; omega, Lib.hid (HM.out.step (by omega))⟩
      case measure => simp [RowKit.intOf]; omega
    · obtain rfl : i = n := by omega
      go_wp2
      go_ret
      exact ⟨rfl, HM.out⟩
set_option maxHeartbeats 4000000 in
theorem markByteS_zero (A : Option Addr) (cap : Nat) (k : Int) (w : World) :
    Calls Tryd.prog 16 #[.slice A 0 cap, .int .i64 k] w fun e w' => e = .returned (.int .i64 k) ∧ w' = w := by
  go_enter Tryd.func16, Tryd.ntmps16
  go_wp2
  go_loopw [1, 5] (fun v1 v5 wr => v5 = .int .i64 0 ∧ v1 = .int .i64 k ∧ wr = w) (fun _ _ _ => 0)
  case atStart => exact ⟨rfl, rfl, rfl⟩
  case round =>
    obtain ⟨rfl, rfl, rfl⟩ := hrel
    go_wp2
    go_ret
    exact ⟨rfl, rfl⟩
/-- The marks. -/
def marksI (k : Int) (n : Nat) : List Int := (List.range n).map fun (j : Nat) => (k + (j : Int)) % 256
theorem marksI_length (k : Int) (n : Nat) : (marksI k n).length = n := by simp [marksI]
theorem marksI_get (k : Int) (n j : Nat) (hj : j < n) : (marksI k n)[j]? = some ((k + (j : Int)) % 256) := by simp [marksI, hj]
theorem markByteS_any (base : Nat) (v : Value) (t : List Int) (w : World) (h : OwnB base w v t) (hl : t.length ≤ 1000000000000000) :
    Calls Tryd.prog 16 #[v, .int .i64 1] w fun e w' => e = .returned (.int .i64 (1 + (t.length : Int))) ∧ OwnB base w' v (marksI 1 t.length) ∧ w'.heap.size = w.heap.size ∧ (∀ q, v.ownBlock ≠ some q → w'.heap[q]? = w.heap[q]?) ∧ Below base w w' := by
  rcases h with ⟨rfl, rfl⟩ | ⟨g, cap, cells, fz, rfl, hb, hg, hf, hc, hm, hx⟩
  · refine (markByteS_zero none 0 1 w).mono ?_
    rintro e w' ⟨rfl, rfl⟩
    exact ⟨rfl, Or.inl ⟨rfl, rfl⟩, rfl, fun _ _ => rfl, Below.refl _ _⟩
  · have hn : t.length ≤ cells.size := by
      rcases Nat.eq_zero_or_pos t.length with h0 | h0
      · omega
      · have h1 := hx (t.length - 1) _ (List.getElem?_eq_getElem (by omega))
        have := (Array.getElem?_eq_some_iff.1 h1).1
        omega
    refine (markByteS_own g cap t.length cells fz 1 w hg hn hf (by omega) (by omega) hl).mono ?_
    rintro e w' ⟨rfl, hM⟩
    obtain ⟨cells', r1, r2, r3, _⟩ := hM.row
    refine ⟨rfl, Or.inr ⟨g, cap, cells', fz, by rw [marksI_length], hb, r1, by rw [marksI_length]; exact hf, by rw [marksI_length]; exact hc, by rw [marksI_length]; exact hm, fun j p hp => ?_⟩, hM.size, fun q hq => hM.others q (fun e => hq (by rw [e]; rfl)), hM.below base hb⟩
    have hj : j < t.length := by have := (List.getElem?_eq_some_iff.1 hp).1; rwa [marksI_length] at this
    rw [marksI_get 1 _ j hj] at hp
    cases hp
    exact r3 j hj
theorem held_l0 (n : Nat) (hn : n ≤ 1000000000000000) (d : Nat) : ∀ i : Nat, n - i = d → i ≤ n → Ev (fun k => laws_heldByteS.l0 k (marksI 1 n) (1 + (i : Int)) (i : Int)) (1 + (n : Int)) := by
  induction d with
  | zero =>
    intro i hd hi
    obtain rfl : i = n := by omega
    refine Ev.step (f := fun _ => some (1 + (i : Int))) (fun k => ?_) (Ev.now _)
    simp only [laws_heldByteS.l0]
    rw [if_neg (by rw [marksI_length]; omega)]
  | succ d ih =>
    intro i hd hi
    refine Ev.step (f := fun k => laws_heldByteS.l0 k (marksI 1 n) (1 + ((i + 1 : Nat) : Int)) ((i + 1 : Nat) : Int)) (fun k => ?_) (ih (i + 1) (by omega) (by omega))
    have hr : rd (marksI 1 n) (i : Int) = (1 + (i : Int)) % 256 := by
      show (marksI 1 n).getD i 0 = _
      rw [List.getD_eq_getElem?_getD, marksI_get 1 n i (by omega)]
      rfl
    have hw : wrap64 (1 + (i : Int) + 1) = 1 + ((i + 1 : Nat) : Int) := by unfold wrap64; omega
    have hw2 : wrap64 ((i : Int) + 1) = ((i + 1 : Nat) : Int) := by unfold wrap64; omega
    simp only [laws_heldByteS.l0]
    rw [if_pos (by rw [marksI_length]; omega), if_pos (by omega), hr, if_pos rfl, hw, hw2]
theorem held_ev (n : Nat) (hn : n ≤ 1000000000000000) : Ev (fun k => laws_heldByteS.f k (marksI 1 n) 1) (1 + (n : Int)) := by
  have := held_l0 n hn n 0 (by omega) (by omega)
  refine Ev.congr (fun k => ?_) this
  rfl
end Go.Proofs.YtggkkgkjhfgipaaDoor
/- The law's rows of rows of bytes: made by toByteSS, marked by markByteSS. -/
namespace Go.Proofs.YtggkkgkjhfgipaaDoor
open Go.RowKit Go.Lib Go.Proofs.YtggkkgkjhfgipaaDoor.QFnExactShowWord Go.Proofs.YtggkkgkjhfgipaaDoorW.PrintWords Go.Proofs.YtggkkgkjhfgipaaDoorW.PrintLast Go.Proofs.YtggkkgkjhfgipaaDoorW.PrintMore
set_option linter.unusedVariables false
set_option linter.unusedSimpArgs false
theorem OwnB.low {base b : Nat} {w : World} {v : Value} {xs : List Int} (h : OwnB base w v xs) (hb : b ≤ base) : OwnB b w v xs := by
  rcases h with h | ⟨g, cap, cells, fz, e, hg, r⟩
  · exact Or.inl h
  · exact Or.inr ⟨g, cap, cells, fz, e, Nat.le_trans hb hg, r⟩
/-- A row of rows of bytes of the call's own: i of them are laid. -/
structure RowN (base G : Nat) (xs : List (List Int)) (i : Nat) (w : World) : Prop where
  own : base ≤ G
  row : ∃ cur : Array Value, w.heap[G]? = some (.cells cur 28 (0, 0)) ∧ cur.size = xs.length ∧ ∀ (j : Nat) t, j < i → xs[j]? = some t → ∃ tv, cur[j]? = some tv ∧ OwnB base w tv t
theorem RowN.below {base G i : Nat} {xs : List (List Int)} {w w' : World} (h : RowN base G xs i w) (hb : Below w.heap.size w w') : RowN base G xs i w' := by
  obtain ⟨cur, h1, h2, h3⟩ := h.row
  exact ⟨h.own, cur, blk_below h1 hb, h2, fun j t hj ht => by obtain ⟨tv, a, b⟩ := h3 j t hj ht; exact ⟨tv, a, b.below hb⟩⟩
theorem RowN.cell {base G i : Nat} {xs : List (List Int)} {w : World} (h : RowN base G xs i w) (j : Nat) (hj : j < xs.length) : (∃ v, w.cell? ⟨G, j, none⟩ = some v) ∧ w.frozen? ⟨G, j, none⟩ = false := by
  obtain ⟨cur, h1, h2, h3⟩ := h.row
  exact ⟨⟨cur[j]'(by omega), by simp [World.cell?, h1]⟩, by simp [World.frozen?, h1]⟩
theorem RowN.put {base G i : Nat} {xs : List (List Int)} {w : World} {tv : Value} {t : List Int} (h : RowN base G xs i w) (hi : xs[i]? = some t) (ht : OwnB base w tv t) : RowN base G xs (i + 1) (w.setCell ⟨G, i, none⟩ tv) := by
  obtain ⟨cur, h1, h2, h3⟩ := h.row
  have hlt : i < xs.length := (List.getElem?_eq_some_iff.1 hi).1
  have hk : ∀ tv t, OwnB base w tv t → OwnB base (w.setCell ⟨G, i, none⟩ tv) tv t → True := fun _ _ _ _ => trivial
  have keep : ∀ (v tv : Value) t, OwnB base w tv t → OwnB base (w.setCell ⟨G, i, none⟩ v) tv t := fun v tv t ho => by
    rcases ho with ho | ⟨g, cap, cells, fz, e, hg, hc, r⟩
    · exact Or.inl ho
    · refine Or.inr ⟨g, cap, cells, fz, e, hg, ?_, r⟩
      rw [← hc]
      refine Below.heap_setCell _ _ _ _ ?_
      rintro rfl
      rw [h1] at hc
      cases hc
  refine ⟨h.own, cur.setIfInBounds i tv, Go.Joins.block_setCell h1 _, by simp [h2], fun j t' hj ht' => ?_⟩
  rw [Array.getElem?_setIfInBounds]
  by_cases e : i = j
  · subst e
    rw [hi] at ht'
    cases ht'
    exact ⟨tv, by simp [h2, hlt], keep _ _ _ ht⟩
  · rw [if_neg e]
    obtain ⟨tv', a, b⟩ := h3 j t' (by omega) ht'
    exact ⟨tv', a, keep _ _ _ b⟩
theorem make_rows (w : World) (n : Nat) (hn : n ≤ 1048576) :
    (Instr.makeSlice 25 (.int .i64 (n : Int)) (.int .i64 (n : Int))).run Tryd.prog w = .ok (.slice (some ⟨w.heap.size, 0, none⟩) n n) (w.alloc (.cells (madeCells (Value.slice none 0 0).cells n) 28 (0, 0))) := by
  obtain ⟨i0, hi, hz0, hz1, hz2⟩ := info_parts (show (Tryd.prog.info? 28).map (fun i => (i.zero, i.size, i.bytes)) = some (some (.slice none 0 0), 1, 24) by kernel_rfl)
  have h := run_make (P := Tryd.prog) w 25 28 i0 (.slice none 0 0) Tryd.underlying25 hi hz0 .i64 .i64 (n : Int) (n : Int) (by omega) (by omega) (by rw [hz2]; omega) (by omega)
  rw [hz1, Nat.mul_one, Int.toNat_natCast] at h
  exact h
set_option maxHeartbeats 4000000 in
set_option maxRecDepth 100000 in
theorem toByteSS_calls (A : Option Addr) (c : Nat) (xs : List (List Int)) (w : World) (hr : Kd.C (Kd.slice 5 (Kd.int .u8)) w A xs.length xs) (hc : xs.length ≤ c) (hl : xs.length ≤ 1048576) (hconv : ∀ t ∈ xs, ∃ k, laws_toByteS.f k t = some t) :
    Calls Tryd.prog 9 #[.slice A xs.length c] w fun e w' => ∃ G, e = .returned (.slice (some ⟨G, 0, none⟩) xs.length xs.length) ∧ RowN w.heap.size G xs xs.length w' ∧ Below w.heap.size w w' := by
  have HR := Lib.hid hr
  have HV := Lib.hid hconv
  have hmk := make_rows w xs.length hl
  have hb := (Below.refl w.heap.size w).alloc (Nat.le_refl _) (.cells (madeCells (Value.slice none 0 0).cells xs.length) 28 (0, 0))
  have hn := blk_new w (.cells (madeCells (Value.slice none 0 0).cells xs.length) 28 (0, 0))
  obtain ⟨W, hW⟩ : ∃ W, W = w.alloc (.cells (madeCells (Value.slice none 0 0).cells xs.length) 28 (0, 0)) := ⟨_, rfl⟩
  rw [← hW] at hmk hb hn
  have HB := Lib.hid hb
  have HN : Hid (RowN w.heap.size w.heap.size xs 0 W) := Lib.hid ⟨Nat.le_refl _, _, hn, size_madeCells _ _, fun j t hj => by omega⟩
  clear hr hconv hW hb hn
  go_enter Tryd.func9, Tryd.ntmps9
  go_wp2
  go_loopw [4] (fun v5 wr => ∃ i : Nat, i ≤ xs.length ∧ v5 = .int .i64 i ∧ Hid (RowN w.heap.size w.heap.size xs i wr) ∧ Hid (Below w.heap.size w wr)) (fun v5 _ => xs.length - (RowKit.intOf v5).toNat)
  case atStart => exact ⟨0, Nat.zero_le _, rfl, HN, HB⟩
  case round =>
    obtain ⟨i, hi, rfl, HM, HBr⟩ := hrel
    by_cases hlt : i < xs.length
    · obtain ⟨ad, A0, c0, hA, k0, k1, k2⟩ := at_L2 HR.out (i : Int) (by omega) (by omega)
      subst hA
      rw [Int.toNat_natCast] at k0
      obtain ⟨t, ht⟩ : ∃ t, t = rd_L2 xs (i : Int) := ⟨_, rfl⟩
      have hxi : xs[i]? = some t := by rw [ht]; unfold rd_L2; rw [Int.toNat_natCast, List.getD_eq_getElem?_getD, List.getElem?_eq_getElem hlt]; rfl
      rw [← ht] at k0 k1 k2
      obtain ⟨k, hk⟩ := HV.out t (List.mem_of_getElem? hxi)
      have cc : wr.cell? (ad.add i) = some (.slice A0 t.length c0) := (HBr.out.cell (World.block_lt_of_cell? w _ k0)).trans k0
      have HC := Lib.hid (laws_toByteS.calls k A0 c0 t t wr (Kd.C_below k2 HBr.out) k1 hk)
      have HXI := Lib.hid hxi
      clear k0 k1 k2 ht hxi hk
      go_wp2_with (go_at_call 31; refine HC.out.mono ?_; rintro e w3 ⟨tv, rfl, hR3, hb3⟩; have HO3 : Hid (OwnB w.heap.size w3 tv t) := Lib.hid ((OwnB.of_R hR3).low HBr.out.size); have HM3 := Lib.hid (HM.out.below hb3); have HB3 : Hid (Below w.heap.size w w3) := Lib.hid (HBr.out.trans (hb3.mono HBr.out.size)); obtain ⟨⟨v0, c3⟩, f3⟩ := HM3.out.cell i hlt; clear hR3 hb3; obtain ⟨A3, n3, rfl, _, _⟩ := HO3.out.reads)
      go_roundw
      case rel => exact ⟨i + 1, by omega, by go_num, Lib.hid (HM3.out.put HXI.out HO3.out), Lib.hid (HB3.out.setCell (p := ⟨w.heap.size, i, none⟩) (Nat.le_refl _) _)⟩
      case measure => simp [RowKit.intOf]; omega
    · obtain rfl : i = xs.length := by omega
      go_wp2
      go_ret
      exact ⟨_, rfl, HM.out, HBr.out⟩
/-- A row's bytes: none, or a row within P. -/
def TxtN (P : Nat → Prop) (w : World) (tv : Value) (len : Nat) : Prop :=
  (len = 0 ∧ ∃ A c, tv = .slice A 0 c) ∨ ∃ (g c : Nat) (cells : Array Value) (fz : Nat × Nat), tv = .slice (some ⟨g, 0, none⟩) len c ∧ P g ∧ w.heap[g]? = some (.cells cells 5 fz) ∧ len ≤ cells.size ∧ ∀ i, i < len → ¬ (fz.1 ≤ i ∧ i < fz.2)
/-- A row of rows, all within P. -/
structure RowT (G : Nat) (P : Nat → Prop) (cur : Array Value) (xs : List (List Int)) (w : World) : Prop where
  own : P G
  row : w.heap[G]? = some (.cells cur 28 (0, 0))
  txt : ∀ (i : Nat) x, xs[i]? = some x → ∃ tv, cur[i]? = some tv ∧ TxtN P w tv x.length
theorem RowN.all {base G : Nat} {xs : List (List Int)} {w : World} (h : RowN base G xs xs.length w) : ∃ cur, RowT G (fun q => base ≤ q ∧ q < w.heap.size) cur xs w := by
  obtain ⟨cur, h1, h2, h3⟩ := h.row
  refine ⟨cur, ⟨h.own, blk_lt h1⟩, h1, fun i x hx => ?_⟩
  obtain ⟨tv, a, b⟩ := h3 i x (List.getElem?_eq_some_iff.1 hx).1 hx
  refine ⟨tv, a, ?_⟩
  rcases b with ⟨rfl, rfl⟩ | ⟨g, cap, cells, fz, rfl, hg, hc, hf, hcap, hm, hx⟩
  · exact Or.inl ⟨rfl, none, 0, rfl⟩
  · refine Or.inr ⟨g, cap, cells, fz, rfl, ⟨hg, blk_lt hc⟩, hc, ?_, hf⟩
    rcases Nat.eq_zero_or_pos x.length with h0 | h0
    · omega
    · have h1 := hx (x.length - 1) _ (List.getElem?_eq_getElem (by omega))
      have := (Array.getElem?_eq_some_iff.1 h1).1
      omega
theorem RowT.below {G : Nat} {P : Nat → Prop} {cur : Array Value} {xs : List (List Int)} {w w' : World} (h : RowT G P cur xs w) (hb : Below w.heap.size w w') : RowT G P cur xs w' := by
  refine ⟨h.own, blk_below h.row hb, fun i x hx => ?_⟩
  obtain ⟨tv, a, b⟩ := h.txt i x hx
  refine ⟨tv, a, ?_⟩
  rcases b with b | ⟨g, c, cells, fz, e, hp, hc, r⟩
  · exact Or.inl b
  · exact Or.inr ⟨g, c, cells, fz, e, hp, blk_below hc hb, r⟩
theorem RowT.keep {G : Nat} {P : Nat → Prop} {cur : Array Value} {xs : List (List Int)} {w w' : World} (h : RowT G P cur xs w) (hk : ∀ q, P q → q < w.heap.size → w'.heap[q]? = w.heap[q]?) : RowT G P cur xs w' := by
  refine ⟨h.own, (hk G h.own (blk_lt h.row)).trans h.row, fun i x hx => ?_⟩
  obtain ⟨tv, a, b⟩ := h.txt i x hx
  refine ⟨tv, a, ?_⟩
  rcases b with b | ⟨g, c, cells, fz, e, hp, hc, r⟩
  · exact Or.inl b
  · exact Or.inr ⟨g, c, cells, fz, e, hp, (hk g hp (blk_lt hc)).trans hc, r⟩
/-- Some rows are marked. -/
structure MkN (P : Nat → Prop) (B : Nat) (w w' : World) : Prop where
  rows : ∀ (g : Nat) (cur : Array Value) (fz : Nat × Nat), w.heap[g]? = some (.cells cur 28 fz) → w'.heap[g]? = some (.cells cur 28 fz)
  texts : ∀ (g : Nat) (cells : Array Value) (fz : Nat × Nat), w.heap[g]? = some (.cells cells 5 fz) → ∃ cells' : Array Value, w'.heap[g]? = some (.cells cells' 5 fz) ∧ cells'.size = cells.size
  size : w'.heap.size = w.heap.size
  others : ∀ q, ¬ P q → w'.heap[q]? = w.heap[q]?
  below : Below B w w'
theorem MkN.refl {P : Nat → Prop} {B : Nat} {w : World} : MkN P B w w := ⟨fun _ _ _ h => h, fun g cells _ h => ⟨cells, h, rfl⟩, rfl, fun _ _ => rfl, Below.refl _ _⟩
theorem MkN.text {P : Nat → Prop} {B : Nat} {w w' w2 : World} {g : Nat} {cells : Array Value} {fz : Nat × Nat} {k : Int} {n : Nat} (h : MkN P B w w') (hm : MkB g cells fz k n w' w2) (hP : P g) (hB : B ≤ g) (hc : w'.heap[g]? = some (.cells cells 5 fz)) : MkN P B w w2 := by
  obtain ⟨cells', r1, r2, _, _⟩ := hm.row
  refine ⟨fun g2 cur fz2 hg2 => ?_, fun g2 c2 fz2 hc2 => ?_, hm.size.trans h.size, fun q hq => ?_, h.below.trans (hm.below B hB)⟩
  · have h4 := h.rows g2 cur fz2 hg2
    rw [← h4]
    refine hm.others g2 ?_
    rintro rfl
    rw [h4] at hc
    cases hc
  · obtain ⟨c3, h4, h5⟩ := h.texts g2 c2 fz2 hc2
    by_cases e : g2 = g
    · subst e
      rw [hc] at h4
      cases h4
      exact ⟨cells', r1, r2.trans h5⟩
    · exact ⟨c3, (hm.others g2 e).trans h4, h5⟩
  · rw [hm.others q (fun e => hq (by rw [e]; exact hP))]; exact h.others q hq
def MkNPost (P : Nat → Prop) (B : Nat) (n : Nat) (k : Int) (w : World) (e : Ending) (w' : World) : Prop := ∃ r : Int, e = .returned (.int .i64 r) ∧ k ≤ r ∧ r ≤ k + n * 1048576 ∧ MkN P B w w'
set_option maxHeartbeats 8000000 in
theorem markByteSS_own (G cap : Nat) (P : Nat → Prop) (B : Nat) (cur : Array Value) (xs : List (List Int)) (k : Int) (w : World) (hR : RowT G P cur xs w) (hPB : ∀ q, P q → B ≤ q) (hlen : ∀ x ∈ xs, x.length ≤ 1048576) (hxl : xs.length ≤ 1048576) (hk0 : 0 ≤ k) (hk1 : k ≤ 1000000000) :
    Calls Tryd.prog 15 #[.slice (some ⟨G, 0, none⟩) xs.length cap, .int .i64 k] w (MkNPost P B xs.length k w) := by
  have HR := Lib.hid hR
  have HL := Lib.hid hlen
  have HPB := Lib.hid hPB
  clear hR hlen hPB
  go_enter Tryd.func15, Tryd.ntmps15
  go_wp2
  go_loopw [1, 5] (fun v1 v5 wr => ∃ (i : Nat) (z : Int), i ≤ xs.length ∧ v5 = .int .i64 i ∧ v1 = .int .i64 z ∧ k ≤ z ∧ z ≤ k + i * 1048576 ∧ Hid (MkN P B w wr)) (fun _ v5 _ => xs.length - (RowKit.intOf v5).toNat)
  case atStart => exact ⟨0, k, Nat.zero_le _, rfl, rfl, by omega, by omega, Lib.hid MkN.refl⟩
  case round =>
    obtain ⟨i, z, hi, rfl, rfl, hz0, hz1, HM⟩ := hrel
    by_cases hlt : i < xs.length
    · obtain ⟨x, hx⟩ : ∃ x, xs[i]? = some x := ⟨xs[i], List.getElem?_eq_getElem hlt⟩
      obtain ⟨tv, htv, htx⟩ := HR.out.txt i x hx
      have hxl2 : x.length ≤ 1048576 := HL.out x (List.mem_of_getElem? hx)
      have c2 : wr.cell? ⟨G, i, none⟩ = some tv := by
        have := HM.out.rows G cur _ HR.out.row
        simp [World.cell?, this, htv]
      clear hx htv
      rcases htx with ⟨hl0, A, c, rfl⟩ | ⟨g, c, cells, fz, rfl, hPg, hgc, hlc, hf⟩
      · go_wp2_with (go_at_call 16; refine (markByteS_zero _ _ _ _).mono ?_; rintro e w' ⟨rfl, rfl⟩)
        go_roundw
        case rel => exact ⟨i + 1, z, by omega, by go_num, rfl, by omega, by omega, HM⟩
        case measure => simp [RowKit.intOf]; omega
      · obtain ⟨cells', hc1, hc2⟩ := HM.out.texts g cells fz hgc
        have HC1 := Lib.hid hc1
        have HF := Lib.hid hf
        clear hc1 hgc hf
        have hBg := HPB.out g hPg
        go_wp2_with (go_at_call 16; refine (markByteS_own g c x.length cells' fz _ _ HC1.out (by omega) HF.out (by omega) (by omega) (by omega)).mono ?_; rintro e w3 ⟨rfl, hm3⟩; have HM3 : Hid (MkN P B w w3) := Lib.hid (HM.out.text hm3 hPg hBg HC1.out); clear hm3)
        go_roundw
        case rel => exact ⟨i + 1, z + x.length, by omega, by go_num, rfl, by omega, by omega, HM3⟩
        case measure => simp [RowKit.intOf]; omega
    · obtain rfl : i = xs.length := by omega
      go_wp2
      go_ret
      exact ⟨z, rfl, hz0, hz1, HM.out⟩
theorem RowN.C {base G : Nat} {xs : List (List Int)} {w : World} (h : RowN base G xs xs.length w) (hl : xs.length ≤ 1048576) : Kd.C (Kd.slice 5 (Kd.int .u8)) w (some ⟨G, 0, none⟩) xs.length xs := by
  obtain ⟨cur, h1, h2, h3⟩ := h.row
  refine ⟨rfl, by omega, fun _ => ⟨_, rfl, fun j p hp => ?_⟩⟩
  obtain ⟨tv, a, b⟩ := h3 j p (List.getElem?_eq_some_iff.1 hp).1 hp
  obtain ⟨A, c, rfl, h4, h5⟩ := b.reads
  refine ⟨[.slice A p.length c], rfl, ⟨A, c, rfl, h4, h5⟩, fun i u hu => ?_⟩
  have hi : i = 0 := by have := (List.getElem?_eq_some_iff.1 hu).1; simp at this; omega
  subst hi
  simp at hu
  subst hu
  have e : j * (Kd.slice 5 (Kd.int .u8)).sz + 0 = j := by show j * 1 + 0 = j; omega
  rw [e, Go.Proofs.YtggkkgkjhfgipaaDoorW.PrintWords.add_plain]
  simp [World.cell?, h1, a]
end Go.Proofs.YtggkkgkjhfgipaaDoor
/- What the laws' helper functions over bytes and rows of rows of bytes (toByteS, eqByteS, eqByteSS, szByteSS) come to. -/
namespace Go.Proofs.YtggkkgkjhfgipaaDoor.ByHelpSW
open Go.RowKit Go.Proofs.YtggkkgkjhfgipaaDoor.QFnExactShowWord Go.Proofs.YtggkkgkjhfgipaaDoorW.PrintWords Go.Proofs.YtggkkgkjhfgipaaDoorW.PrintLast
set_option linter.unusedVariables false
set_option linter.unusedSimpArgs false
theorem wrap_up (i : Nat) (h : i ≤ 4611686018427387904) : wrap64 ((i : Int) + 1) = ((i + 1 : Nat) : Int) := by unfold wrap64; omega
theorem rd_nat (xs : List Int) (n : Nat) : rd xs (n : Int) = xs.getD n 0 := rfl
/-- A copy that was made as far as i. -/
theorem copied_next {α β : Type} {g : α → β} {a : List α} {b : List β} {z : α} {i : Nat} (hi : i < a.length) (hb : b.length = a.length) (he : b.take i = (a.map g).take i) : (b.set i (g (a.getD i z))).take (i + 1) = (a.map g).take (i + 1) := by
  apply List.ext_getElem?
  intro j
  have hj := congrArg (fun l => l[j]?) he
  simp only [List.getElem?_take] at hj
  simp only [List.getElem?_take, List.getElem?_set]
  by_cases h1 : j < i + 1
  · rw [if_pos h1, if_pos h1]
    by_cases h2 : i = j
    · subst h2
      have hib : i < b.length := by omega
      simp [hib, hi, List.getD_eq_getElem?_getD]
    · rw [if_neg h2]
      rw [if_pos (by omega), if_pos (by omega)] at hj
      exact hj
  · rw [if_neg h1, if_neg h1]
theorem copied_all {α : Type} {a b : List α} (hb : b.length = a.length) (he : b.take a.length = a.take a.length) : b = a := by
  rw [List.take_length, ← hb, List.take_length] at he
  exact he
/-! ### bytes -/
theorem eqByteS_l0 (a : List Int) (ha : a.length ≤ 4611686018427387904) (d : Nat) : ∀ i : Nat, a.length - i = d → i ≤ a.length → Ev (fun k => laws_eqByteS.l0 k a a (i : Int)) true := by
  induction d with
  | zero =>
    intro i hd hi
    refine Ev.step (f := fun _ => some true) (fun k => ?_) (Ev.now _)
    simp only [laws_eqByteS.l0]; rw [if_neg (by omega)]
  | succ d ih =>
    intro i hd hi
    refine Ev.step (f := fun k => laws_eqByteS.l0 k a a ((i + 1 : Nat) : Int)) (fun k => ?_) (ih (i + 1) (by omega) (by omega))
    have h1 : (i : Int) < (a.length : Int) := by omega
    simp only [laws_eqByteS.l0]
    rw [if_pos h1, if_pos (by omega : (0 : Int) ≤ i), if_pos h1, wrap_up i (by omega)]
    simp only [if_true]
theorem eqByteS_refl (a : List Int) (ha : a.length ≤ 4611686018427387904) : Ev (fun k => laws_eqByteS.f k a a) true := by
  refine Ev.congr (f := fun k => laws_eqByteS.l0 k a a ((0 : Nat) : Int)) (fun k => ?_) (eqByteS_l0 a ha a.length 0 (by omega) (by omega))
  unfold laws_eqByteS.f
  rw [if_pos rfl]
  rfl
theorem toByteS_l0 (a : List Int) (ha : a.length ≤ 4611686018427387904) (d : Nat) : ∀ (i : Nat) (b : List Int), a.length - i = d → i ≤ a.length → b.length = a.length → b.take i = a.take i →
    Ev (fun k => laws_toByteS.l0 k a b (i : Int)) a := by
  induction d with
  | zero =>
    intro i b hd hi hb he
    obtain rfl : i = a.length := by omega
    refine Ev.step (f := fun _ => some a) (fun k => ?_) (Ev.now _)
    simp only [laws_toByteS.l0]; rw [if_neg (by omega), copied_all hb he]
  | succ d ih =>
    intro i b hd hi hb he
    refine Ev.step (f := fun k => laws_toByteS.l0 k a (b.set i (a.getD i 0)) ((i + 1 : Nat) : Int)) (fun k => ?_) (ih (i + 1) _ (by omega) (by omega) (by simpa using hb) ?_)
    · simp only [laws_toByteS.l0]
      rw [if_pos (by omega : (i : Int) < (a.length : Int)), if_pos (by omega : (0 : Int) ≤ i), if_pos (by omega : (i : Int) < (b.length : Int)), wrap_up i (by omega), Int.toNat_natCast, rd_nat]
    · have := copied_next (g := id) (z := 0) (show i < a.length by omega) hb (by simpa using he)
      simpa using this
theorem toByteS_ev (a : List Int) (ha : a.length ≤ 281474976710656) : Ev (fun k => laws_toByteS.f k a) a := by
  refine Ev.congr (f := fun k => laws_toByteS.l0 k a (List.replicate a.length 0) ((0 : Nat) : Int)) (fun k => ?_) (toByteS_l0 a (by omega) a.length 0 _ (by omega) (by omega) (by simp) (by simp))
  unfold laws_toByteS.f
  rw [if_pos (by omega), if_pos (by omega)]
  rfl
/-! ### rows of rows -/
theorem rdL2_nat (l : List (List Int)) (i : Nat) : rd_L2 l (i : Int) = l.getD i [] := rfl
theorem getD_in {α : Type} {l : List α} {i : Nat} {z : α} (h : i < l.length) : l.getD i z ∈ l := by
  rw [List.getD_eq_getElem?_getD, List.getElem?_eq_getElem h]
  exact List.getElem_mem _
theorem eqByteSS_l0 (a : List (List Int)) (ha : a.length ≤ 4611686018427387904) (ht : ∀ x ∈ a, x.length ≤ 4611686018427387904) (d : Nat) : ∀ i : Nat, a.length - i = d → i ≤ a.length → Ev (fun k => laws_eqByteSS.l0 k a a (i : Int)) true := by
  induction d with
  | zero =>
    intro i hd hi
    refine Ev.step (f := fun _ => some true) (fun k => ?_) (Ev.now _)
    simp only [laws_eqByteSS.l0]; rw [if_neg (by omega)]
  | succ d ih =>
    intro i hd hi
    have hlt : i < a.length := by omega
    refine Ev.step (f := fun k => (laws_eqByteS.f k (a.getD i []) (a.getD i [])).bind fun t => if t = true then laws_eqByteSS.l0 k a a ((i + 1 : Nat) : Int) else some false) (fun k => ?_) ?_
    · have h1 : (i : Int) < (a.length : Int) := by omega
      simp only [laws_eqByteSS.l0]
      rw [if_pos h1, if_pos (by omega : (0 : Int) ≤ i), if_pos h1, wrap_up i (by omega), rdL2_nat]
    · refine Ev.bind (eqByteS_refl _ (ht _ (getD_in hlt))) ?_
      simp only [if_true]
      exact ih (i + 1) (by omega) (by omega)
theorem eqByteSS_refl (a : List (List Int)) (ha : a.length ≤ 4611686018427387904) (ht : ∀ x ∈ a, x.length ≤ 4611686018427387904) : Ev (fun k => laws_eqByteSS.f k a a) true := by
  refine Ev.congr (f := fun k => laws_eqByteSS.l0 k a a ((0 : Nat) : Int)) (fun k => ?_) (eqByteSS_l0 a ha ht a.length 0 (by omega) (by omega))
  unfold laws_eqByteSS.f
  rw [if_pos rfl]
  rfl
theorem szByteSS_l0 (a : List (List Int)) (ha : a.length ≤ 1048576) (ht : ∀ x ∈ a, x.length ≤ 9223372036854775807) (d : Nat) : ∀ (i : Nat) (left : Int), a.length - i = d → i ≤ a.length → 0 ≤ left → left ≤ 1048576 →
    ∃ r : Int, Ev (fun k => laws_szByteSS.l0 k a left (i : Int)) r ∧ (r < 0 ∨ r ≤ left ∧ ∀ j, i ≤ j → j < a.length → (a.getD j []).length ≤ 1048576) := by
  induction d with
  | zero =>
    intro i left hd hi h0 h1
    refine ⟨left, Ev.step (f := fun _ => some left) (fun k => ?_) (Ev.now _), .inr ⟨Int.le_refl _, fun j hj hl => by omega⟩⟩
    simp only [laws_szByteSS.l0]; rw [if_neg (by omega)]
  | succ d ih =>
    intro i left hd hi h0 h1
    have hlt : i < a.length := by omega
    have hx := ht _ (getD_in (z := []) hlt)
    have hw : wrap64 (left - ((a.getD i []).length : Int)) = left - ((a.getD i []).length : Int) := by unfold wrap64; omega
    have hsz : laws_szByteS.f (a.getD i []) left = some (if left - ((a.getD i []).length : Int) < 0 then -1 else left - ((a.getD i []).length : Int)) := by
      unfold laws_szByteS.f
      rw [hw]
      by_cases hn : left - ((a.getD i []).length : Int) < 0
      · rw [if_pos hn, if_pos hn]
      · rw [if_neg hn, if_neg hn]
    have hstep : ∀ k, laws_szByteSS.l0 (k + 1) a left (i : Int) = if left - ((a.getD i []).length : Int) < 0 then some (-1) else laws_szByteSS.l0 k a (left - ((a.getD i []).length : Int)) ((i + 1 : Nat) : Int) := by
      intro k
      simp only [laws_szByteSS.l0]
      rw [if_pos (by omega : (i : Int) < (a.length : Int)), if_pos (by omega : (0 : Int) ≤ i), rdL2_nat, wrap_up i (by omega), hsz]
      simp only [Option.bind_some]
      by_cases hn : left - ((a.getD i []).length : Int) < 0
      · rw [if_pos hn, if_pos hn, if_pos (by omega)]
      · rw [if_neg hn, if_neg hn]
    by_cases hn : left - ((a.getD i []).length : Int) < 0
    · exact ⟨-1, Ev.step (f := fun _ => some (-1)) (fun k => by rw [hstep, if_pos hn]) (Ev.now _), .inl (by omega)⟩
    · obtain ⟨r, hr, hr2⟩ := ih (i + 1) (left - ((a.getD i []).length : Int)) (by omega) (by omega) (by omega) (by omega)
      refine ⟨r, Ev.step (fun k => by rw [hstep, if_neg hn]) hr, ?_⟩
      rcases hr2 with hr2 | ⟨hr2, hr3⟩
      · exact .inl hr2
      · refine .inr ⟨by omega, fun j hj hl => ?_⟩
        by_cases hji : j = i
        · subst hji; omega
        · exact hr3 j (by omega) hl
theorem szByteSS_ev (a : List (List Int)) (ha : a.length ≤ 9223372036854775807) (ht : ∀ x ∈ a, x.length ≤ 9223372036854775807) (left : Int) (h0 : 0 ≤ left) (h1 : left ≤ 1048576) :
    ∃ r : Int, Ev (fun k => laws_szByteSS.f k a left) r ∧ (r < 0 ∨ r ≤ left ∧ a.length ≤ 1048576 ∧ ∀ x ∈ a, x.length ≤ 1048576) := by
  have hw : wrap64 (left - (a.length : Int)) = left - (a.length : Int) := by unfold wrap64; omega
  by_cases hn : left - (a.length : Int) < 0
  · refine ⟨-1, Ev.congr (fun k => ?_) (Ev.now _), .inl (by omega)⟩
    unfold laws_szByteSS.f
    rw [hw, if_pos hn]
  · obtain ⟨r, hr, hr2⟩ := szByteSS_l0 a (by omega) ht a.length 0 (left - a.length) (by omega) (by omega) (by omega) (by omega)
    refine ⟨r, Ev.congr (fun k => ?_) hr, ?_⟩
    · unfold laws_szByteSS.f
      rw [hw, if_neg hn]
      rfl
    · rcases hr2 with hr2 | ⟨hr2, hr3⟩
      · exact .inl hr2
      · refine .inr ⟨by omega, by omega, fun x hx => ?_⟩
        obtain ⟨j, hj, rfl⟩ := List.mem_iff_getElem.1 hx
        have := hr3 j (by omega) hj
        rwa [List.getD_eq_getElem?_getD, List.getElem?_eq_getElem hj] at this
end Go.Proofs.YtggkkgkjhfgipaaDoor.ByHelpSW
/- What the laws' helper functions over lists of ints and heaps (szIntS, szHeap, toIntS, toHeap, eqIntS, eqHeap) come to. -/
namespace Go.Proofs.YtggkkgkjhfgipaaDoor.IntHelpSW
open Go.RowKit Go.Proofs.YtggkkgkjhfgipaaDoor.QFnExactShowWord Go.Proofs.YtggkkgkjhfgipaaDoorW.PrintWords Go.Proofs.YtggkkgkjhfgipaaDoorW.PrintLast
set_option linter.unusedVariables false
set_option linter.unusedSimpArgs false
theorem wrap_upI (i : Nat) (h : i ≤ 4611686018427387904) : wrap64 ((i : Int) + 1) = ((i + 1 : Nat) : Int) := by unfold wrap64; omega
theorem rd_natI (xs : List Int) (n : Nat) : rd xs (n : Int) = xs.getD n 0 := rfl
/-! ### eqIntS of a list and itself -/
theorem eqIntS_l0 (a : List Int) (ha : a.length ≤ 4611686018427387904) (d : Nat) : ∀ i : Nat, a.length - i = d → i ≤ a.length → Ev (fun k => laws_eqIntS.l0 k a a (i : Int)) true := by
  induction d with
  | zero =>
    intro i hd hi
    refine Ev.step (f := fun _ => some true) (fun k => ?_) (Ev.now _)
    simp only [laws_eqIntS.l0]; rw [if_neg (by omega)]
  | succ d ih =>
    intro i hd hi
    refine Ev.step (f := fun k => laws_eqIntS.l0 k a a ((i + 1 : Nat) : Int)) (fun k => ?_) (ih (i + 1) (by omega) (by omega))
    have h1 : (i : Int) < (a.length : Int) := by omega
    simp only [laws_eqIntS.l0]
    rw [if_pos h1, if_pos (by omega : (0 : Int) ≤ i), if_pos h1, wrap_upI i (by omega)]
    simp only [if_true]
theorem eqIntS_refl (a : List Int) (ha : a.length ≤ 4611686018427387904) : Ev (fun k => laws_eqIntS.f k a a) true := by
  refine Ev.congr (f := fun k => laws_eqIntS.l0 k a a ((0 : Nat) : Int)) (fun k => ?_) (eqIntS_l0 a ha a.length 0 (by omega) (by omega))
  unfold laws_eqIntS.f
  rw [if_pos rfl]
  rfl
theorem eqHeap_refl (a : List Int) (t : Int) (ha : a.length ≤ 4611686018427387904) : Ev (fun k => laws_eqHeap.f k a t a t) true := by
  unfold laws_eqHeap.f
  refine Ev.bind (eqIntS_refl a ha) ?_
  simp only [if_true]
  exact Ev.now _
/-! ### toIntS: a copy -/
theorem toIntS_l0 (a : List Int) (ha : a.length ≤ 4611686018427387904) (d : Nat) : ∀ (i : Nat) (b : List Int), a.length - i = d → i ≤ a.length → b.length = a.length → b.take i = a.take i →
    Ev (fun k => laws_toIntS.l0 k a b (i : Int)) a := by
  induction d with
  | zero =>
    intro i b hd hi hb he
    have hba : b = a := by
      rw [← List.take_of_length_le (show b.length ≤ i by omega), he, List.take_of_length_le (show a.length ≤ i by omega)]
    refine Ev.step (f := fun _ => some a) (fun k => ?_) (Ev.now _)
    simp only [laws_toIntS.l0]; rw [if_neg (by omega), hba]
  | succ d ih =>
    intro i b hd hi hb he
    refine Ev.step (f := fun k => laws_toIntS.l0 k a (b.set i (a.getD i 0)) ((i + 1 : Nat) : Int)) (fun k => ?_) (ih (i + 1) _ (by omega) (by omega) (by simpa using hb) ?_)
    · simp only [laws_toIntS.l0]
      rw [if_pos (by omega : (i : Int) < (a.length : Int)), if_pos (by omega : (0 : Int) ≤ i), if_pos (by omega : (i : Int) < (b.length : Int)), wrap_upI i (by omega), Int.toNat_natCast, rd_natI]
    · apply List.ext_getElem?
      intro j
      have hj := congrArg (fun l => l[j]?) he
      simp only [List.getElem?_take] at hj
      simp only [List.getElem?_take, List.getElem?_set]
      by_cases h1 : j < i + 1
      · rw [if_pos h1, if_pos h1]
        by_cases h2 : i = j
        · subst h2
          have hib : i < b.length := by omega
          have hia : i < a.length := by omega
          simp [hib, hia, List.getD_eq_getElem?_getD]
        · rw [if_neg h2]
          rw [if_pos (by omega), if_pos (by omega)] at hj
          exact hj
      · rw [if_neg h1, if_neg h1]
theorem toIntS_ev (a : List Int) (ha : a.length ≤ 35184372088832) : Ev (fun k => laws_toIntS.f k a) a := by
  refine Ev.congr (f := fun k => laws_toIntS.l0 k a (List.replicate a.length 0) ((0 : Nat) : Int)) (fun k => ?_) (toIntS_l0 a (by omega) a.length 0 _ (by omega) (by omega) (by simp) (by simp))
  unfold laws_toIntS.f
  rw [if_pos (by omega), if_pos (by omega)]
  rfl
theorem toHeap_ev (a : List Int) (t : Int) (ha : a.length ≤ 35184372088832) : Ev (fun k => laws_toHeap.f k a t) (a, t) := by
  unfold laws_toHeap.f
  refine Ev.bind (toIntS_ev a ha) ?_
  exact Ev.now _
/-! ### szIntS, szHeap -/
theorem szHeap_eq (a : List Int) (t : Int) (left : Int) (ha : a.length ≤ 9223372036854775807) (h0 : 0 ≤ left) (h1 : left ≤ 1048576) : laws_szHeap.f a t left = some (if left - a.length < 0 then -1 else left - a.length) := by
  unfold laws_szHeap.f laws_szIntS.f
  have hw : wrap64 (left - (a.length : Int)) = left - (a.length : Int) := by unfold wrap64; omega
  rw [hw]
  by_cases h : left - (a.length : Int) < 0
  · rw [if_pos h, if_pos h]
    rfl
  · rw [if_neg h, if_neg h]
    simp only [Option.bind_some]
    rw [if_neg h]
end Go.Proofs.YtggkkgkjhfgipaaDoor.IntHelpSW
/- The marks of the laws on heaps (markIntS, markHeap), over the printed functions. -/
namespace Go.Proofs.YtggkkgkjhfgipaaDoor.MarkIntsSW
open Go.RowKit Go.Proofs.YtggkkgkjhfgipaaDoorW.PrintWords Go.Proofs.YtggkkgkjhfgipaaDoorW.PrintLast Go.Proofs.YtggkkgkjhfgipaaDoorW.PrintMore Go.Proofs.YtggkkgkjhfgipaaDoor.QFnExactShowWord
set_option linter.unusedVariables false
set_option linter.unusedSimpArgs false
def Marked (r : List Int) (m : Int) (i : Nat) : Prop := ∀ j : Nat, i ≤ j → j < r.length → r.getD j 0 = m + ((j : Int) - (i : Int))
theorem markIntS_l0 (d : Nat) : ∀ (k i : Nat) (a : List Int) (m : Int), a.length - i = d → i ≤ a.length → d < k → a.length ≤ 1000000000000 → 0 ≤ m → m + d ≤ 1000000000000000 →
    ∃ r, laws_markIntS.l0 k a m (i : Int) = some (m + (d : Int), r) ∧ r.length = a.length ∧ (∀ j : Nat, j < i → r.getD j 0 = a.getD j 0) ∧ Marked r m i := by
  induction d with
  | zero =>
    intro k i a m hd hi hk ha h0 hm
    obtain ⟨k, rfl⟩ : ∃ m, k = m + 1 := ⟨k - 1, by omega⟩
    refine ⟨a, ?_, rfl, fun _ _ => rfl, fun j h1 h2 => by omega⟩
    simp only [laws_markIntS.l0]; rw [if_neg (by omega)]; simp
  | succ d ih =>
    intro k i a m hd hi hk ha h0 hm
    obtain ⟨k, rfl⟩ : ∃ m, k = m + 1 := ⟨k - 1, by omega⟩
    have hw : wrap64 ((i : Int) + 1) = ((i + 1 : Nat) : Int) := by unfold wrap64; omega
    have hw2 : wrap64 (m + 1) = m + 1 := by unfold wrap64; omega
    obtain ⟨r, h1, h2, h3, h4⟩ := ih k (i + 1) (a.set i m) (m + 1) (by simp; omega) (by simp; omega) (by omega) (by simp; omega) (by omega) (by omega)
    refine ⟨r, ?_, by simpa using h2, fun j hj => ?_, fun j hj1 hj2 => ?_⟩
    · simp only [laws_markIntS.l0]
      rw [if_pos (by omega : (i : Int) < (a.length : Int)), if_pos (by omega : (0 : Int) ≤ i), hw, hw2, Int.toNat_natCast, h1]
      congr 2
      omega
    · rw [h3 j (by omega)]
      simp [List.getD_eq_getElem?_getD, List.getElem?_set, show ¬ i = j by omega]
    · by_cases e : j = i
      · subst e
        rw [h3 j (by omega)]
        have hjl : j < a.length := by simp at h2; omega
        simp [List.getD_eq_getElem?_getD, hjl]
      · rw [h4 j (by omega) hj2]
        omega
theorem markIntS_f (a : List Int) (m : Int) (k : Nat) (ha : a.length ≤ 1000000000000) (h0 : 0 ≤ m) (hm : m + a.length ≤ 1000000000000000) (hk : a.length < k) :
    ∃ r, laws_markIntS.f k a m = some (m + (a.length : Int), r) ∧ r.length = a.length ∧ Marked r m 0 := by
  obtain ⟨r, h1, h2, _, h4⟩ := markIntS_l0 a.length k 0 a m (by omega) (by omega) hk ha h0 hm
  exact ⟨r, h1, h2, h4⟩
theorem markIntS_ev (a : List Int) (m : Int) (ha : a.length ≤ 1000000000000) (h0 : 0 ≤ m) (hm : m + a.length ≤ 1000000000000000) :
    ∃ b : List Int, b.length = a.length ∧ Marked b m 0 ∧ Ev (fun k => laws_markIntS.f k a m) (m + a.length, b) := by
  obtain ⟨b, h1, h2, h3⟩ := markIntS_f a m (a.length + 1) ha h0 hm (by omega)
  exact ⟨b, h2, h3, Ev.of (fun k => laws_markIntS.mono _ _ k) h1⟩
theorem markHeap_ev (a : List Int) (t m : Int) (ha : a.length ≤ 1000000000000) (h0 : 0 ≤ m) (hm : m + a.length ≤ 1000000000000000) :
    ∃ b : List Int, b.length = a.length ∧ Marked b m 0 ∧ Ev (fun k => laws_markHeap.f k a t m) (m + a.length, b) := by
  obtain ⟨b, hb, hM, hl⟩ := markIntS_ev a m ha h0 hm
  exact ⟨b, hb, hM, by
    unfold laws_markHeap.f
    exact Ev.bind hl (Ev.now _)⟩
end Go.Proofs.YtggkkgkjhfgipaaDoor.MarkIntsSW
/- FnExactShowWord, walked: every call has its answer, the last one is true. -/
namespace Go.Proofs.YtggkkgkjhfgipaaDoor
open Go.RowKit Go.Lib Go.Proofs.YtggkkgkjhfgipaaDoor.QFnExactShowWord Go.Proofs.YtggkkgkjhfgipaaDoorW.PrintWords Go.Proofs.YtggkkgkjhfgipaaDoorW.PrintLast Go.Proofs.YtggkkgkjhfgipaaDoorW.PrintMore
set_option linter.unusedVariables false
set_option linter.unusedSimpArgs false
/-- The law's calls, in numbers and lists alone. -/
structure SwPure (k : Nat) (ws : List Int) (top : Int) (names : List (List Int)) (t b : List Int) : Prop where
  conv : laws_toHeap.f k ws top = some (ws, top)
  eqB : laws_eqByteS.f k t t = some true
  eqH : laws_eqHeap.f k ws top ws top = some true
  eqN : laws_eqByteSS.f k names names = some true
  mark : laws_markHeap.f k ws top 1 = some (1 + (ws.length : Int), b)
  held : laws_heldByteS.f k (marksI 1 t.length) 1 = some (1 + (t.length : Int))
theorem own_lt {base : Nat} {w : World} {v : Value} {xs : List Int} (h : OwnB base w v xs) : ∀ g, v.ownBlock = some g → base ≤ g ∧ g < w.heap.size := fun g hg => by
  rcases h with ⟨e, _⟩ | ⟨g', cap, cells, fz, e, hb, hg', _⟩
  · rw [e] at hg; cases hg
  · rw [e] at hg; simp [Value.ownBlock] at hg; subst hg; exact ⟨hb, (Array.getElem?_eq_some_iff.1 hg').1⟩
theorem own_form {base : Nat} {w : World} {v : Value} {xs : List Int} (h : OwnB base w v xs) : ∃ A c, v = .slice A xs.length c := by
  obtain ⟨A, c, e, _⟩ := h.reads
  exact ⟨A, c, e⟩
set_option maxHeartbeats 8000000 in
set_option maxRecDepth 100000 in
theorem law_sw (A : Option Addr) (c : Nat) (ws : List Int) (top x : Int) (NA : Option Addr) (nc : Nat) (names : List (List Int)) (w : World) (hr : Kd.C (Kd.int .i64) w A ws.length ws) (hc : ws.length ≤ c) (hx : ∀ x ∈ ws, InI64 x) (hxx : InI64 x)
    (hn : Kd.C (Kd.slice 5 (Kd.int .u8)) w NA names.length names) (hnc : names.length ≤ nc) (k : Nat) (r1 r2 : Int) (t b : List Int) (hsz1 : laws_szHeap.f ws top 1048576 = some r1) (hsz2 : ¬ r1 < 0 → laws_szByteSS.f k names r1 = some r2)
    (hby : ∀ t ∈ names, ∀ x ∈ t, 0 ≤ x ∧ x < 256) (hp : ¬ r1 < 0 → ¬ r2 < 0 → SwPure k ws top names t b ∧ names.length ≤ 1048576 ∧ (∀ t ∈ names, t.length ≤ 1048576) ∧ (∀ t ∈ names, ∃ k, laws_toByteS.f k t = some t) ∧ ws.length ≤ 1048576)
    (ht : t = showX ws top names x) (htl : t.length ≤ 1000) (htab : Lib.TabIs Tryd.prog w "internal/strconv.uint64pow10" .u64 Lib.pow10Tab) :
    Calls Tryd.prog 3 #[.agg #[.slice A ws.length c, .int .i64 top], .int .i64 x, .slice NA names.length nc] w fun e w' => e = .returned (.bool true) ∧ Below w.heap.size w w' := by
  have HR := Lib.hid hr
  have HX := Lib.hid hx
  have HXX := Lib.hid hxx
  have HN := Lib.hid hn
  have HT := Lib.hid htab
  have HSZ := Lib.hid hsz1
  have HBY := Lib.hid hby
  clear hr hx hxx hn htab hsz1 hby
  by_cases hn1 : r1 < 0
  · have hd1 : decide (r1 < 0) = true := decide_eq_true hn1
    clear hp hsz2 ht htl
    go_enter Tryd.func3, Tryd.ntmps3
    go_wp2_with fail
    refine (laws_szHeap.calls A c ws top 1048576 r1 _ (Kd.C_below HR.out ((Below.refl _ _).alloc (Nat.le_refl _) _)) hc HSZ.out).mono ?_
    rintro e w1 ⟨rfl, hb1⟩
    have HB1 : Hid (Below w.heap.size w w1) := Lib.hid (((Below.refl _ _).alloc (Nat.le_refl _) _).trans (hb1.mono (by simp)))
    clear hb1
    go_wp2_with fail
    go_ret
    exact ⟨rfl, HB1.out⟩
  have hd1 : decide (r1 < 0) = false := decide_eq_false hn1
  have HS2 := Lib.hid (hsz2 hn1)
  by_cases hn2 : r2 < 0
  · have hd2 : decide (r2 < 0) = true := decide_eq_true hn2
    clear hp hsz2 ht htl
    go_enter Tryd.func3, Tryd.ntmps3
    go_wp2_with fail
    refine (laws_szHeap.calls A c ws top 1048576 r1 _ (Kd.C_below HR.out ((Below.refl _ _).alloc (Nat.le_refl _) _)) hc HSZ.out).mono ?_
    rintro e w1 ⟨rfl, hb1⟩
    have HB1 : Hid (Below w.heap.size w w1) := Lib.hid (((Below.refl _ _).alloc (Nat.le_refl _) _).trans (hb1.mono (by simp)))
    clear hb1
    go_wp2_with fail
    refine (laws_szByteSS.calls k NA nc names r1 r2 w1 (Kd.C_below HN.out HB1.out) hnc HS2.out).mono ?_
    rintro e w2 ⟨rfl, hb2⟩
    have HB2 : Hid (Below w.heap.size w w2) := Lib.hid (HB1.out.trans (hb2.below.mono HB1.out.size))
    clear hb2
    go_wp2_with fail
    go_ret
    exact ⟨rfl, HB2.out⟩
  have hd2 : decide (r2 < 0) = false := decide_eq_false hn2
  obtain ⟨hpure, hnl, hnt, hcv, hwl⟩ := hp hn1 hn2
  have HP := Lib.hid hpure
  have HNT := Lib.hid hnt
  have HCV := Lib.hid hcv
  have HTE := Lib.hid ht
  have HNS : Hid (∀ t ∈ names, t.length ≤ 1099511627776 ∧ ∀ x ∈ t, 0 ≤ x ∧ x < 256) := Lib.hid (fun t ht => ⟨by have := HNT.out t ht; omega, HBY.out t ht⟩)
  have c11 : ((1 + (t.length : Int)) != 1 + (t.length : Int)) = false := by simp
  have c12 : decide ((1 + (t.length : Int)) < 0) = false := decide_eq_false (by omega)
  clear hp hsz2 hpure hnt hcv ht
  go_enter Tryd.func3, Tryd.ntmps3
  go_wp2_with fail
  have hb0 := (Below.refl w.heap.size w).alloc (Nat.le_refl _) (.cells #[.slice A ws.length c, .int .i64 top] 24)
  have e0 := blk_new w (.cells #[.slice A ws.length c, .int .i64 top] 24)
  obtain ⟨W, hW⟩ : ∃ W, W = w.alloc (.cells #[.slice A ws.length c, .int .i64 top] 24) := ⟨_, rfl⟩
  rw [← hW] at hb0 e0 ⊢
  have HB0 := Lib.hid hb0
  have E0 := Lib.hid e0
  clear hW hb0 e0
  refine (laws_szHeap.calls A c ws top 1048576 r1 W (Kd.C_below HR.out HB0.out) hc HSZ.out).mono ?_
  rintro e w1 ⟨rfl, hb1⟩
  have HB1 : Hid (Below w.heap.size w w1) := Lib.hid (HB0.out.trans (hb1.mono HB0.out.size))
  have E1 := Lib.hid (blk_below E0.out hb1)
  clear hb1
  go_wp2_with fail
  refine (laws_szByteSS.calls k NA nc names r1 r2 w1 (Kd.C_below HN.out HB1.out) hnc HS2.out).mono ?_
  rintro e w2 ⟨rfl, hb2⟩
  have HB2 : Hid (Below w.heap.size w w2) := Lib.hid (HB1.out.trans (hb2.below.mono HB1.out.size))
  have E2 := Lib.hid (blk_below E1.out hb2.below)
  clear hb2
  have g0 : w2.cell? ⟨w.heap.size, 0, none⟩ = some (.slice A ws.length c) := blk_cell E2.out 0
  have g1 : w2.cell? ⟨w.heap.size, 1, none⟩ = some (.int .i64 top) := blk_cell E2.out 1
  go_wp2_with fail
  refine (laws_toHeap.calls k A c ws top ws top w2 (Kd.C_below HR.out HB2.out) hc HP.out.conv).mono ?_
  rintro e w3 ⟨v3, rfl, hR3, hb3⟩
  obtain ⟨A3, c3, rfl, hl3, hC3⟩ := Kd.R_reads hR3
  have HC3 := Lib.hid hC3
  have HB3 : Hid (Below w.heap.size w w3) := Lib.hid (HB2.out.trans (hb3.mono HB2.out.size))
  have E3 := Lib.hid (blk_below E2.out hb3)
  clear hR3 hb3 hC3 g0 g1
  go_wp2_with fail
  refine (toByteSS_calls NA nc names w3 (Kd.C_below HN.out HB3.out) hnc hnl HCV.out).mono ?_
  rintro e w4 ⟨G4, rfl, hR4, hb4⟩
  have HN4 := Lib.hid (hR4.C hnl)
  have HC4 := Lib.hid (Kd.C_below HC3.out hb4)
  have HB4 : Hid (Below w.heap.size w w4) := Lib.hid (HB3.out.trans (hb4.mono HB3.out.size))
  have E4 := Lib.hid (blk_below E3.out hb4)
  clear hR4 hb4
  go_wp2_with fail
  refine (specShow_calls A3 c3 ws top x (some ⟨G4, 0, none⟩) names.length names w4 HC4.out hl3 HX.out HXX.out HN4.out (Nat.le_refl _) (fun t ht => (HNS.out t ht).1)).mono ?_
  rintro e w5 ⟨v5, rfl, ho5, hb5⟩
  rw [← HTE.out] at ho5
  obtain ⟨A5, c5, rfl⟩ := own_form ho5
  have HO5 := Lib.hid ho5
  have HB5 : Hid (Below w.heap.size w w5) := Lib.hid (HB4.out.trans (hb5.mono HB4.out.size))
  have E5 := Lib.hid (blk_below E4.out hb5)
  have hn45 := hb5.size
  clear ho5 hb5 HC4 HC3 HN4 hl3 E2 E3 E4
  have g0 : w5.cell? ⟨w.heap.size, 0, none⟩ = some (.slice A ws.length c) := blk_cell E5.out 0
  have g1 : w5.cell? ⟨w.heap.size, 1, none⟩ = some (.int .i64 top) := blk_cell E5.out 1
  go_wp2_with fail
  refine (laws_toHeap.calls k A c ws top ws top w5 (Kd.C_below HR.out HB5.out) hc HP.out.conv).mono ?_
  rintro e w6 ⟨v6, rfl, hR6, hb6⟩
  obtain ⟨A6, c6, rfl, hl6, hC6⟩ := Kd.R_reads hR6
  have HR6 := Lib.hid (Kd.R_bound hR6)
  have HC6 := Lib.hid hC6
  have HB6 : Hid (Below w.heap.size w w6) := Lib.hid (HB5.out.trans (hb6.mono HB5.out.size))
  have HB56 := Lib.hid hb6
  clear hR6 hb6 hC6 g0 g1
  go_wp2_with fail
  obtain ⟨W6, hW6⟩ : ∃ W6, W6 = w6.alloc (.cells #[.slice A6 ws.length c6, .int .i64 top] 30) := ⟨_, rfl⟩
  have hbw := (Below.refl w6.heap.size w6).alloc (Nat.le_refl _) (.cells #[.slice A6 ws.length c6, .int .i64 top] 30)
  have hf6 := blk_new w6 (.cells #[.slice A6 ws.length c6, .int .i64 top] 30)
  rw [← hW6] at hbw hf6 ⊢
  have hz6 : w6.heap.size < W6.heap.size := blk_lt hf6
  have F6 := Lib.hid hf6
  have HR6' := Lib.hid (Kd.R_below HR6.out hbw)
  have HC6' := Lib.hid (Kd.C_below HC6.out hbw)
  have HBW6 : Hid (Below w.heap.size w W6) := Lib.hid (HB6.out.trans (hbw.mono HB6.out.size))
  have HB56' : Hid (Below w5.heap.size w5 W6) := Lib.hid (HB56.out.trans (hbw.mono HB56.out.size))
  have hz5 : w5.heap.size ≤ w6.heap.size := HB56.out.size
  clear hW6 hbw hf6 HR6 HC6 HB6 HB56
  refine (toByteSS_calls NA nc names W6 (Kd.C_below HN.out HBW6.out) hnc hnl HCV.out).mono ?_
  rintro e w7 ⟨G7, rfl, hR7, hb7⟩
  have HN7 := Lib.hid hR7
  have F7 := Lib.hid (blk_below F6.out hb7)
  have HR7 := Lib.hid (Kd.R_below HR6'.out hb7)
  have HC7 := Lib.hid (Kd.C_below HC6'.out hb7)
  have HB7 : Hid (Below w.heap.size w w7) := Lib.hid (HBW6.out.trans (hb7.mono HBW6.out.size))
  have HB57 : Hid (Below w5.heap.size w5 w7) := Lib.hid (HB56'.out.trans (hb7.mono HB56'.out.size))
  have hz7 : W6.heap.size ≤ w7.heap.size := hb7.size
  clear hR7 hb7 HR6' HC6' HBW6 HB56' F6
  have g0 : w7.cell? ⟨w6.heap.size, 0, none⟩ = some (.slice A6 ws.length c6) := blk_cell F7.out 0
  have g1 : w7.cell? ⟨w6.heap.size, 1, none⟩ = some (.int .i64 top) := blk_cell F7.out 1
  go_wp2_with fail
  refine (ShowWord_calls A6 c6 ws top x (some ⟨G7, 0, none⟩) names.length names w7 HC7.out hl6 HX.out HXX.out (HN7.out.C hnl) (Nat.le_refl _) HNS.out (tab_below HT.out HB7.out)).mono ?_
  rintro e w8 ⟨v8, rfl, ho8, hb8⟩
  rw [← HTE.out] at ho8
  obtain ⟨A8, c8, rfl⟩ := own_form ho8
  have HG8 := Lib.hid (own_lt ho8)
  have HO8 := Lib.hid ho8
  have F8 := Lib.hid (blk_below F7.out hb8)
  have HN8 := Lib.hid (HN7.out.below hb8)
  obtain ⟨cur, hT7⟩ := HN7.out.all
  have HT8 := Lib.hid (hT7.below hb8)
  have HR8 := Lib.hid (Kd.R_below HR7.out hb8)
  have HC8 := Lib.hid (Kd.C_below HC7.out hb8)
  have HB8 : Hid (Below w.heap.size w w8) := Lib.hid (HB7.out.trans (hb8.mono HB7.out.size))
  have HB58 : Hid (Below w5.heap.size w5 w8) := Lib.hid (HB57.out.trans (hb8.mono HB57.out.size))
  have hz8 : w7.heap.size ≤ w8.heap.size := hb8.size
  clear ho8 hb8 hT7 HN7 HR7 HC7 F7 g0 g1 HB7 HB57
  go_wp2_with fail
  have HW8 := Lib.hid (HO5.out.below HB58.out)
  refine (laws_eqByteS.calls k A8 c8 t A5 c5 t true w8 (own_C HO8.out).2.2 (own_C HO8.out).2.1 (own_C HW8.out).2.2 (own_C HW8.out).2.1 HP.out.eqB).mono ?_
  rintro e w9 ⟨rfl, hd9⟩
  have hb9 := hd9.below
  have HO9 := Lib.hid (HO8.out.below hb9)
  have F9 := Lib.hid (blk_below F8.out hb9)
  have HN9 := Lib.hid (HN8.out.below hb9)
  have HT9 := Lib.hid (HT8.out.below hb9)
  have HR9 := Lib.hid (Kd.R_below HR8.out hb9)
  have HC9 := Lib.hid (Kd.C_below HC8.out hb9)
  have HB9 : Hid (Below w.heap.size w w9) := Lib.hid (HB8.out.trans (hb9.mono HB8.out.size))
  have HB59 : Hid (Below w5.heap.size w5 w9) := Lib.hid (HB58.out.trans (hb9.mono HB58.out.size))
  have hz9 : w8.heap.size ≤ w9.heap.size := hb9.size
  clear hd9 hb9 HO8 HW8 HN8 HT8 HR8 HC8 HB8 HB58 F8
  have E9 := Lib.hid (blk_below E5.out HB59.out)
  have g0 : w9.cell? ⟨w.heap.size, 0, none⟩ = some (.slice A ws.length c) := blk_cell E9.out 0
  have g1 : w9.cell? ⟨w.heap.size, 1, none⟩ = some (.int .i64 top) := blk_cell E9.out 1
  have g2 : w9.cell? ⟨w6.heap.size, 0, none⟩ = some (.slice A6 ws.length c6) := blk_cell F9.out 0
  have g3 : w9.cell? ⟨w6.heap.size, 1, none⟩ = some (.int .i64 top) := blk_cell F9.out 1
  go_wp2_with fail
  go_region_held3 (fun W => W.cell? ⟨w6.heap.size, 0, none⟩ = some (.slice A6 ws.length c6) ∧ W.cell? ⟨w6.heap.size, 1, none⟩ = some (.int .i64 top) ∧ W.cell? ⟨w.heap.size, 0, none⟩ = some (.slice A ws.length c) ∧ W.cell? ⟨w.heap.size, 1, none⟩ = some (.int .i64 top)) (exact ⟨g2, g3, g0, g1⟩)
    (first
    | (go_at_call 8; refine (laws_toHeap.calls k A c ws top ws top w9.drew (Kd.C_below HR.out HB9.out.drew) hc HP.out.conv).mono ?_; rintro e w10 ⟨v10, rfl, hR10, hb10⟩; obtain ⟨A10, c10, rfl, hl10, hC10⟩ := Kd.R_reads hR10; have HC10 := Lib.hid hC10; have HB910 : Hid (Below w9.heap.size w9 w10) := Lib.hid ((Below.refl w9.heap.size w9).drew.trans hb10); clear hR10 hb10 hC10 g0 g1 g2 g3; have g0 : w10.cell? ⟨w.heap.size, 0, none⟩ = some (.slice A ws.length c) := blk_cell (blk_below E9.out HB910.out) 0; have g1 : w10.cell? ⟨w.heap.size, 1, none⟩ = some (.int .i64 top) := blk_cell (blk_below E9.out HB910.out) 1; have g2 : w10.cell? ⟨w6.heap.size, 0, none⟩ = some (.slice A6 ws.length c6) := blk_cell (blk_below F9.out HB910.out) 0; have g3 : w10.cell? ⟨w6.heap.size, 1, none⟩ = some (.int .i64 top) := blk_cell (blk_below F9.out HB910.out) 1)
    | (go_at_call 12; refine (laws_eqHeap.calls k A6 c6 ws top A10 c10 ws top true w10 (Kd.C_below HC9.out HB910.out) hl6 HC10.out hl10 HP.out.eqH).mono ?_; rintro e w11 ⟨rfl, hb11⟩; have HB911 : Hid (Below w9.heap.size w9 w11) := Lib.hid (HB910.out.trans (hb11.mono HB910.out.size)); clear hb11 g0 g1 g2 g3; have g0 : w11.cell? ⟨w.heap.size, 0, none⟩ = some (.slice A ws.length c) := blk_cell (blk_below E9.out HB911.out) 0; have g1 : w11.cell? ⟨w.heap.size, 1, none⟩ = some (.int .i64 top) := blk_cell (blk_below E9.out HB911.out) 1; have g2 : w11.cell? ⟨w6.heap.size, 0, none⟩ = some (.slice A6 ws.length c6) := blk_cell (blk_below F9.out HB911.out) 0; have g3 : w11.cell? ⟨w6.heap.size, 1, none⟩ = some (.int .i64 top) := blk_cell (blk_below F9.out HB911.out) 1))
  have HO11 := Lib.hid (HO9.out.below HB911.out)
  have F11 := Lib.hid (blk_below F9.out HB911.out)
  have HN11 := Lib.hid (HN9.out.below HB911.out)
  have HT11 := Lib.hid (HT9.out.below HB911.out)
  have HR11 := Lib.hid (Kd.R_below HR9.out HB911.out)
  have HB11 : Hid (Below w.heap.size w w11) := Lib.hid (HB9.out.trans (HB911.out.mono HB9.out.size))
  have HB511 : Hid (Below w5.heap.size w5 w11) := Lib.hid (HB59.out.trans (HB911.out.mono HB59.out.size))
  have hz11 : w9.heap.size ≤ w11.heap.size := HB911.out.size
  clear g0 g1 g2 g3 HO9 F9 HN9 HT9 HR9 HC9 HB9 HB59 HC10 hl10 HB910 HB911 E9
  go_wp2_with fail
  refine (toByteSS_calls NA nc names w11 (Kd.C_below HN.out HB11.out) hnc hnl HCV.out).mono ?_
  rintro e w12 ⟨G12, rfl, hR12, hb12⟩
  have HN12 := Lib.hid (hR12.C hnl)
  have HX12 := Lib.hid ((HN11.out.below hb12).C hnl)
  have HO12 := Lib.hid (HO11.out.below hb12)
  have F12 := Lib.hid (blk_below F11.out hb12)
  have HT12 := Lib.hid (HT11.out.below hb12)
  have HR12 := Lib.hid (Kd.R_below HR11.out hb12)
  have HB12 : Hid (Below w.heap.size w w12) := Lib.hid (HB11.out.trans (hb12.mono HB11.out.size))
  have HB512 : Hid (Below w5.heap.size w5 w12) := Lib.hid (HB511.out.trans (hb12.mono HB511.out.size))
  have hz12 : w11.heap.size ≤ w12.heap.size := hb12.size
  clear hR12 hb12 HO11 F11 HN11 HT11 HR11 HB11 HB511
  go_wp2_with fail
  refine (laws_eqByteSS.calls k (some ⟨G7, 0, none⟩) names.length names (some ⟨G12, 0, none⟩) names.length names true w12 HX12.out (Nat.le_refl _) HN12.out (Nat.le_refl _) HP.out.eqN).mono ?_
  rintro e w13 ⟨rfl, hd13⟩
  have hb13 := hd13.below
  have HO13 := Lib.hid (HO12.out.below hb13)
  have F13 := Lib.hid (blk_below F12.out hb13)
  have HT13 := Lib.hid (HT12.out.below hb13)
  have HR13 := Lib.hid (Kd.R_below HR12.out hb13)
  have HB13 : Hid (Below w.heap.size w w13) := Lib.hid (HB12.out.trans (hb13.mono HB12.out.size))
  have HB513 : Hid (Below w5.heap.size w5 w13) := Lib.hid (HB512.out.trans (hb13.mono HB512.out.size))
  have hz13 : w12.heap.size ≤ w13.heap.size := hb13.size
  clear hd13 hb13 HN12 HX12 HO12 F12 HT12 HR12 HB12 HB512
  have g2 : w13.cell? ⟨w6.heap.size, 0, none⟩ = some (.slice A6 ws.length c6) := blk_cell F13.out 0
  have g3 : w13.cell? ⟨w6.heap.size, 1, none⟩ = some (.int .i64 top) := blk_cell F13.out 1
  go_wp2_with fail
  refine (laws_markHeap.calls k (fun q => w5.heap.size ≤ q ∧ q < w6.heap.size) (.slice A6 ws.length c6) ws top 1 (1 + (ws.length : Int)) b w5 w13 HB513.out (Kd.R_mono HR13.out (fun q hq => ⟨hq.2.1, hq.2.2.1⟩)) HP.out.mark).mono ?_
  rintro e w14 ⟨rfl, _, hb14, hk14⟩
  have HO14 := Lib.hid (HO13.out.keep (fun q _ hq hlt => hk14.2 q hlt (fun h => by have := h.2; omega)))
  have HT14 := Lib.hid (HT13.out.keep (fun q hq hlt => hk14.2 q hlt (fun h => by have := h.2; have := hq.1; omega)))
  have HB14 : Hid (Below w.heap.size w w14) := Lib.hid (HB5.out.trans (hb14.mono HB5.out.size))
  have HB514 := Lib.hid hb14
  have hz14 : w13.heap.size ≤ w14.heap.size := hk14.1
  clear hb14 hk14 HO13 HT13 HR13 HB13 HB513 F13 g2 g3
  go_wp2_with fail
  refine (markByteSS_own G7 names.length (fun q => W6.heap.size ≤ q ∧ q < w7.heap.size) w5.heap.size cur names (1 + (ws.length : Int)) w14 HT14.out (fun q hq => by have := hq.1; omega) HNT.out hnl (by omega) (by omega)).mono ?_
  rintro e w15 ⟨r15, rfl, hr0, hr1, hm15⟩
  have HO15 := Lib.hid (HO14.out.keep (fun q _ hq hlt => hm15.others q (fun h => by have := h.2; omega)))
  have HB515 : Hid (Below w5.heap.size w5 w15) := Lib.hid (HB514.out.trans hm15.below)
  have HB15 : Hid (Below w.heap.size w w15) := Lib.hid (HB5.out.trans (HB515.out.mono HB5.out.size))
  have hz15 : w15.heap.size = w14.heap.size := hm15.size
  have HW15 := Lib.hid (HO5.out.below HB515.out)
  have h15 : decide (r15 < 0) = false := decide_eq_false (by omega)
  clear hm15 HO14 HT14 HB14 HB514
  go_wp2_with fail
  refine (laws_eqByteS.calls k A8 c8 t A5 c5 t true w15 (own_C HO15.out).2.2 (own_C HO15.out).2.1 (own_C HW15.out).2.2 (own_C HW15.out).2.1 HP.out.eqB).mono ?_
  rintro e w16 ⟨rfl, hd16⟩
  have hb16 := hd16.below
  have HO16 := Lib.hid (HO15.out.below hb16)
  have HB16 : Hid (Below w.heap.size w w16) := Lib.hid (HB15.out.trans (hb16.mono HB15.out.size))
  have HB516 : Hid (Below w5.heap.size w5 w16) := Lib.hid (HB515.out.trans (hb16.mono HB515.out.size))
  clear hd16 hb16 HO15 HW15 HB15 HB515
  go_wp2_with fail
  refine (markByteS_any w7.heap.size _ t w16 HO16.out (by omega)).mono ?_
  rintro e w17 ⟨rfl, hm17, hz17, ho17, hb17⟩
  have HM17 := Lib.hid hm17
  have HB517 : Hid (Below w5.heap.size w5 w17) := Lib.hid (HB516.out.trans (hb17.mono (by omega)))
  have HB17 : Hid (Below w.heap.size w w17) := Lib.hid (HB5.out.trans (HB517.out.mono HB5.out.size))
  have HL5 : Hid (t.length = (marksI 1 t.length).length) := Lib.hid (marksI_length 1 t.length).symm
  obtain ⟨M, hM⟩ : ∃ M, M = marksI 1 t.length := ⟨_, rfl⟩
  have HH := HP.out.held
  rw [← hM] at HM17 HL5 HH
  have HHE := Lib.hid HH
  have hML : M.length = t.length := HL5.out.symm
  have HMC : Hid (∀ w', Below w17.heap.size w17 w' → M.length ≤ c8 ∧ Kd.C (Kd.int .u8) w' A8 M.length M) := Lib.hid (fun w' hb => by
    have := (HM17.out.below hb)
    rw [← hML] at this
    exact (own_C this).2)
  have HSL : Hid (Value.slice A8 t.length c8 = Value.slice A8 M.length c8) := Lib.hid (by rw [hML])
  clear hm17 ho17 hb17 HO16 HB16 HB516 hz17 hM HH HL5 hML
  go_wp2_with fail
  rw [HSL.out]
  refine (laws_heldByteS.calls k A8 c8 M 1 (1 + (t.length : Int)) w17 (HMC.out _ (Below.refl _ _)).2 (HMC.out _ (Below.refl _ _)).1 HHE.out).mono ?_
  rintro e w18 ⟨rfl, hd18⟩
  have hb18 := hd18.below
  have HB1718 := Lib.hid hb18
  have HB518 : Hid (Below w5.heap.size w5 w18) := Lib.hid (HB517.out.trans (hb18.mono HB517.out.size))
  have HB18 : Hid (Below w.heap.size w w18) := Lib.hid (HB5.out.trans (HB518.out.mono HB5.out.size))
  have E18 := Lib.hid (blk_below E5.out HB518.out)
  clear hd18 hb18 HB17 HB517
  have g0 : w18.cell? ⟨w.heap.size, 0, none⟩ = some (.slice A ws.length c) := blk_cell E18.out 0
  have g1 : w18.cell? ⟨w.heap.size, 1, none⟩ = some (.int .i64 top) := blk_cell E18.out 1
  go_wp2_with fail
  refine (laws_toHeap.calls k A c ws top ws top w18 (Kd.C_below HR.out HB18.out) hc HP.out.conv).mono ?_
  rintro e w19 ⟨v19, rfl, hR19, hb19⟩
  obtain ⟨A19, c19, rfl, hl19, hC19⟩ := Kd.R_reads hR19
  have HC19 := Lib.hid hC19
  have HB1719 : Hid (Below w17.heap.size w17 w19) := Lib.hid (HB1718.out.trans (hb19.mono HB1718.out.size))
  have HB519 : Hid (Below w5.heap.size w5 w19) := Lib.hid (HB518.out.trans (hb19.mono HB518.out.size))
  have HB19 : Hid (Below w.heap.size w w19) := Lib.hid (HB5.out.trans (HB519.out.mono HB5.out.size))
  clear hR19 hC19 hb19 g0 g1 E18 HB1718 HB18 HB518
  go_wp2_with fail
  refine (toByteSS_calls NA nc names w19 (Kd.C_below HN.out HB19.out) hnc hnl HCV.out).mono ?_
  rintro e w20 ⟨G20, rfl, hR20, hb20⟩
  have HN20 := Lib.hid (hR20.C hnl)
  have HC20 := Lib.hid (Kd.C_below HC19.out hb20)
  have HB1720 : Hid (Below w17.heap.size w17 w20) := Lib.hid (HB1719.out.trans (hb20.mono HB1719.out.size))
  have HB520 : Hid (Below w5.heap.size w5 w20) := Lib.hid (HB519.out.trans (hb20.mono HB519.out.size))
  have HB20 : Hid (Below w.heap.size w w20) := Lib.hid (HB5.out.trans (HB520.out.mono HB5.out.size))
  clear hR20 hb20 HC19 HB1719 HB19 HB519
  go_wp2_with fail
  refine (ShowWord_calls A19 c19 ws top x (some ⟨G20, 0, none⟩) names.length names w20 HC20.out hl19 HX.out HXX.out HN20.out (Nat.le_refl _) HNS.out (tab_below HT.out HB20.out)).mono ?_
  rintro e w21 ⟨v21, rfl, ho21, hb21⟩
  rw [← HTE.out] at ho21
  obtain ⟨A21, c21, rfl⟩ := own_form ho21
  have HO21 := Lib.hid ho21
  have HB1721 : Hid (Below w17.heap.size w17 w21) := Lib.hid (HB1720.out.trans (hb21.mono HB1720.out.size))
  have HB521 : Hid (Below w5.heap.size w5 w21) := Lib.hid (HB520.out.trans (hb21.mono HB520.out.size))
  have HB21 : Hid (Below w.heap.size w w21) := Lib.hid (HB5.out.trans (HB521.out.mono HB5.out.size))
  have HW21 := Lib.hid (HO5.out.below HB521.out)
  clear ho21 hb21 HC20 HN20 hl19 HB1720 HB20 HB520
  go_wp2_with fail
  refine (laws_eqByteS.calls k A21 c21 t A5 c5 t true w21 (own_C HO21.out).2.2 (own_C HO21.out).2.1 (own_C HW21.out).2.2 (own_C HW21.out).2.1 HP.out.eqB).mono ?_
  rintro e w22 ⟨rfl, hd22⟩
  have hb22 := hd22.below
  have HB1722 : Hid (Below w17.heap.size w17 w22) := Lib.hid (HB1721.out.trans (hb22.mono HB1721.out.size))
  have HB22 : Hid (Below w.heap.size w w22) := Lib.hid (HB21.out.trans (hb22.mono HB21.out.size))
  clear hd22 hb22 HO21 HW21 HB1721 HB21
  go_wp2_with fail
  refine (laws_heldByteS.calls k A8 c8 M 1 (1 + (t.length : Int)) w22 (HMC.out _ HB1722.out).2 (HMC.out _ HB1722.out).1 HHE.out).mono ?_
  rintro e w23 ⟨rfl, hd23⟩
  have HB23 : Hid (Below w.heap.size w w23) := Lib.hid (HB22.out.trans (hd23.below.mono HB22.out.size))
  clear hd23
  go_wp2_with fail
  go_ret
  exact ⟨rfl, HB23.out⟩
end Go.Proofs.YtggkkgkjhfgipaaDoor
