/- The program's insOk: one instruction against the table. -/
import Derived.Test.YtogmphjhdkgdjaaDoorZShapesA
import Derived.Test.YtogmphjhdkgdjaaDoorZQFnExactValidModulex0
import Derived.Deep.RegionHeld3
import Derived.Deep.DeepCutAuto
import Derived.Laws.Rows
import Derived.Deep.QuietTactic
import Derived.BigQuiet
namespace Go.Proofs.YtogmphjhdkgdjaaDoor
open Go.RowKit Go.Lib Go.Proofs.YtogmphjhdkgdjaaDoor.QFnExactValidModule Go.Proofs.YtogmphjhdkgdjaaDoorW.PrintWords Go.Proofs.YtogmphjhdkgdjaaDoorW.PrintLast Go.Proofs.YtogmphjhdkgdjaaDoorW.PrintMore
set_option linter.unusedVariables false
set_option linter.unusedSimpArgs false
theorem blk_lt' {w : World} {g : Nat} {o : Obj} (h : w.heap[g]? = some o) : g < w.heap.size := (Array.getElem?_eq_some_iff.1 h).1
theorem within_any (a b c : Int) (w : World) : Calls Tryd.prog 42 #[.int .i64 a, .int .i64 b, .int .i64 c] w fun e w' => e = .returned (.bool (decide (b ≤ a) && decide (a ≤ c))) ∧ w' = w := by
  by_cases h : b ≤ a
  · have h0 : decide (b ≤ a) = true := decide_eq_true h
    rw [h0]
    clear h
    go_enter Tryd.func42, Tryd.ntmps42
    go_wp2
    go_ret
    simp
  · have h0 : decide (b ≤ a) = false := decide_eq_false h
    rw [h0]
    clear h
    go_enter Tryd.func42, Tryd.ntmps42
    go_wp2
    go_ret
    simp
theorem within_yes (a b c : Int) (w : World) (h0 : b ≤ a) (h1 : a ≤ c) : Calls Tryd.prog 42 #[.int .i64 a, .int .i64 b, .int .i64 c] w fun e w' => e = .returned (.bool true) ∧ w' = w := by
  have := within_any a b c w
  rw [decide_eq_true h0, decide_eq_true h1] at this
  exact this
theorem within_no (a b c : Int) (w : World) (h : ¬ (b ≤ a ∧ a ≤ c)) : Calls Tryd.prog 42 #[.int .i64 a, .int .i64 b, .int .i64 c] w fun e w' => e = .returned (.bool false) ∧ w' = w := by
  have := within_any a b c w
  rw [show (decide (b ≤ a) && decide (a ≤ c)) = false by simp; omega] at this
  exact this
/-- What lies in memory behind the look into the table. -/
structure InsM (w : World) (m f i : Array Value) (s0 s1 s2 : ByteArray) (X : Nat) (W : World) : Prop where
  m : W.heap[w.heap.size]? = some (.cells m 38 (0, 0))
  f : W.heap[w.heap.size + 1]? = some (.cells f 68 (0, 0))
  i : W.heap[w.heap.size + 2]? = some (.cells i 71 (0, 0))
  x : W.heap[X]? = some (.cells #[.string s0, .string s1, .string s2] 114 (0, 0))
  below : Below w.heap.size w W
theorem InsM.of {w W0 W : World} {m f i : Array Value} {s0 s1 s2 : ByteArray} {X : Nat} (hW : W0 = ((w.alloc (.cells m 38 (0, 0))).alloc (.cells f 68 (0, 0))).alloc (.cells i 71 (0, 0)))
    (hb : Below W0.heap.size W0 W) (hx : W.heap[X]? = some (.cells #[.string s0, .string s1, .string s2] 114 (0, 0))) : InsM w m f i s0 s1 s2 X W := by
  subst hW
  refine ⟨(hb.block _ (by simp; try omega)).trans ?_, (hb.block _ (by simp; try omega)).trans ?_, (hb.block _ (by simp; try omega)).trans ?_, hx, ?_⟩
  · rw [heap_alloc_old _ _ (by simp; omega), heap_alloc_old _ _ (by simp)]
    exact heap_alloc_new w _
  · rw [heap_alloc_old _ _ (by simp)]
    have := heap_alloc_new (w.alloc (.cells m 38 (0, 0))) (.cells f 68 (0, 0))
    simpa using this
  · have := heap_alloc_new ((w.alloc (.cells m 38 (0, 0))).alloc (.cells f 68 (0, 0))) (.cells i 71 (0, 0))
    simpa [Nat.add_assoc] using this
  · exact ((((Below.refl w.heap.size w).alloc (Nat.le_refl _) _).alloc (by simp) _).alloc (by simp; omega) _).trans (hb.mono (by simp; omega))
theorem three_set {W : World} {X : Nat} {s0 s1 s2 : ByteArray} (h : W.heap[X]? = some (.cells #[.string ⟨#[]⟩, .string ⟨#[]⟩, .string ⟨#[]⟩] 114 (0, 0))) :
    (((W.setCell ⟨X, 0, none⟩ (.string s0)).setCell ⟨X, 1, none⟩ (.string s1)).setCell ⟨X, 2, none⟩ (.string s2)).heap[X]? = some (.cells #[.string s0, .string s1, .string s2] 114 (0, 0)) :=
  heap_setCell_same _ X 2 _ _ _ (heap_setCell_same _ X 1 _ _ _ (heap_setCell_same W X 0 _ _ _ h))
/-- What the table's row makes of A and B. -/
inductive Cls (n0 m1 m2 : Nat) (g a : Int) : Int → ByteArray → ByteArray → Bool → Prop
  | bad (b : Int) (s1 : ByteArray) (h : b ≠ 0) : Cls n0 m1 m2 g a b s1 ⟨#[]⟩ false
  | zero : Cls n0 m1 m2 g a 0 ⟨#[]⟩ ⟨#[]⟩ (a == 0)
  | cons : Cls n0 m1 m2 g a 0 ⟨#[99, 111, 110, 115, 116]⟩ ⟨#[]⟩ (decide (0 ≤ a) && decide (a ≤ (n0 : Int) - 1))
  | slot : Cls n0 m1 m2 g a 0 ⟨#[115, 108, 111, 116]⟩ ⟨#[]⟩ (decide (0 ≤ a) && decide (a ≤ 199))
  | free : Cls n0 m1 m2 g a 0 ⟨#[102, 114, 101, 101]⟩ ⟨#[]⟩ (decide (0 ≤ a) && decide (a ≤ (m1 : Int) - 1))
  | global : Cls n0 m1 m2 g a 0 ⟨#[103, 108, 111, 98, 97, 108]⟩ ⟨#[]⟩ (decide (0 ≤ a) && decide (a ≤ wrap64 (g - 1)))
  | flag : Cls n0 m1 m2 g a 0 ⟨#[102, 108, 97, 103]⟩ ⟨#[]⟩ (decide (0 ≤ a) && decide (a ≤ 1))
  | args : Cls n0 m1 m2 g a 0 ⟨#[97, 114, 103, 115]⟩ ⟨#[]⟩ (decide (0 ≤ a) && decide (a ≤ 20))
  | place : Cls n0 m1 m2 g a 0 ⟨#[112, 108, 97, 99, 101]⟩ ⟨#[]⟩ (decide (0 ≤ a) && decide (a ≤ (m2 : Int) - 1))
  | prim : Cls n0 m1 m2 g a 0 ⟨#[112, 114, 105, 109]⟩ ⟨#[]⟩ (decide (0 ≤ a) && decide (a ≤ 21))
  | slide : Cls n0 m1 m2 g a 0 ⟨#[115, 108, 105, 100, 101]⟩ ⟨#[]⟩ (decide (0 ≤ a) && decide (a ≤ 200))
set_option maxHeartbeats 4000000 in
set_option maxRecDepth 100000 in
theorem ins_plain (A0 A2 B1 B2 : Option Addr) (n0 c0 n2 c2 m1 d1 m2 d2 : Nat) (g p op a b : Int) (s0 s1 s2 : ByteArray) (r : Bool) (w : World) (h0 : 0 ≤ op) (h1 : op ≤ 17) (hn0 : n0 ≤ 9223372036854775807) (hm1 : m1 ≤ 9223372036854775807) (hm2 : m2 ≤ 9223372036854775807) (hcls : Cls n0 m1 m2 g a b s1 s2 r)
    (hidx : ∀ w, (Instr.index 115 (.agg shapesV) (.int .i64 op)).run Tryd.prog w = .ok (.agg #[.string s0, .string s1, .string s2]) w) :
    Calls Tryd.prog 44 #[.agg #[.slice A0 n0 c0, .int .i64 g, .slice A2 n2 c2], .agg #[.int .i64 p, .slice B1 m1 d1, .slice B2 m2 d2], .agg #[.int .i64 op, .int .i64 a, .int .i64 b]] w fun e w' => e = .returned (.bool r) ∧ Below w.heap.size w w' := by
  have e0 : decide (0 ≤ op) = true := decide_eq_true h0
  have e1 : decide (op ≤ 17) = true := decide_eq_true h1
  clear h0 h1
  have HIDX := Lib.hid hidx
  clear hidx
  go_enter Tryd.func44, Tryd.ntmps44
  go_upto_region 3 with (go_at_call 42; refine (within_any _ _ _ _).mono ?_; rintro e w' ⟨rfl, rfl⟩; rw [e0, e1])
  have hW : ∃ W0 : World, W0 = ((w.alloc (.cells #[.slice A0 n0 c0, .int .i64 g, .slice A2 n2 c2] 38 (0, 0))).alloc (.cells #[.int .i64 p, .slice B1 m1 d1, .slice B2 m2 d2] 68 (0, 0))).alloc (.cells #[.int .i64 op, .int .i64 a, .int .i64 b] 71 (0, 0)) := ⟨_, rfl⟩
  obtain ⟨W0, hW⟩ := hW
  rw [← hW]
  have hcell : W0.cell? ⟨w.heap.size + 1 + 1, 0, none⟩ = some (.int .i64 op) := by rw [hW]; go_simp
  have HC : Hid (∀ W', Below W0.heap.size W0 W' → W'.cell? ⟨w.heap.size + 1 + 1, 0, none⟩ = some (.int .i64 op) ∧ (Instr.index 115 (.agg shapesV) (.int .i64 op)).run Tryd.prog W' = .ok (.agg #[.string s0, .string s1, .string s2]) W') :=
    Lib.hid (fun W' hb => ⟨(hb.cell (World.block_lt_of_cell? _ _ hcell)).trans hcell, HIDX.out W'⟩)
  have HW := Lib.hid hW
  have B0 : Hid (Below W0.heap.size W0 W0.drew) := Lib.hid (Below.refl _ _).drew
  clear hW hcell e0 e1
  go_cut [7] (fun s7 wc => ∃ X : Nat, s7 = .pointer (some ⟨X, 0, none⟩) ∧ Hid (InsM w #[.slice A0 n0 c0, .int .i64 g, .slice A2 n2 c2] #[.int .i64 p, .slice B1 m1 d1, .slice B2 m2 d2] #[.int .i64 op, .int .i64 a, .int .i64 b] s0 s1 s2 X wc))
  case first =>
    go_region_held3 (fun W' => W'.cell? ⟨w.heap.size + 1 + 1, 0, none⟩ = some (.int .i64 op) ∧ (Instr.index 115 (.agg shapesV) (.int .i64 op)).run Tryd.prog W' = .ok (.agg #[.string s0, .string s1, .string s2]) W')
      (first | exact HC.out _ B0.out | exact HC.out _ (B0.out.alloc (by simp) _) | exact HC.out _ (B0.out.trans (HB4.out.mono (by simp))) | exact HC.out _ ((B0.out.alloc (by simp) _).trans (HB4.out.mono (by simp))) | exact HC.out _ ((B0.out.trans (HB4.out.mono (by simp))).alloc (B0.out.trans (HB4.out.mono (by simp))).size _) | exact HC.out _ (((((B0.out.alloc (by simp) _).trans (HB4.out.mono (by simp))).setCell (p := ⟨W0.heap.size, 0, none⟩) (Nat.le_refl _) _).setCell (p := ⟨W0.heap.size, 1, none⟩) (Nat.le_refl _) _).setCell (p := ⟨W0.heap.size, 2, none⟩) (Nat.le_refl _) _) | exact HC.out _ (((((B0.out.trans (HB4.out.mono (by simp))).alloc (B0.out.trans (HB4.out.mono (by simp))).size _).setCell (p := ⟨w4.heap.size, 0, none⟩) (B0.out.trans (HB4.out.mono (by simp))).size _).setCell (p := ⟨w4.heap.size, 1, none⟩) (B0.out.trans (HB4.out.mono (by simp))).size _).setCell (p := ⟨w4.heap.size, 2, none⟩) (B0.out.trans (HB4.out.mono (by simp))).size _))
      ((go_at_call 71; refine (shapes_any _).mono ?_; rintro e w4 ⟨rfl, hb4⟩; have HB4 := Lib.hid hb4; clear hb4;
        first
        | (have hz := (HB4.out.block W0.heap.size (by simp)).trans (heap_alloc_new W0 (.cells #[.string ⟨#[]⟩, .string ⟨#[]⟩, .string ⟨#[]⟩] 114 (0, 0)));
           have hz0 : w4.cell? ⟨W0.heap.size, 0, none⟩ = some (.string ⟨#[]⟩) := cell_of_row _ _ 0 _ _ _ hz; have hz1 : w4.cell? ⟨W0.heap.size, 1, none⟩ = some (.string ⟨#[]⟩) := cell_of_row _ _ 1 _ _ _ hz; have hz2 : w4.cell? ⟨W0.heap.size, 2, none⟩ = some (.string ⟨#[]⟩) := cell_of_row _ _ 2 _ _ _ hz;
           have hf0 : w4.frozen? ⟨W0.heap.size, 0, none⟩ = false := frozen_of_row _ _ 0 _ _ hz; have hf1 : w4.frozen? ⟨W0.heap.size, 1, none⟩ = false := frozen_of_row _ _ 1 _ _ hz; have hf2 : w4.frozen? ⟨W0.heap.size, 2, none⟩ = false := frozen_of_row _ _ 2 _ _ hz; have HZ := Lib.hid hz; clear hz)
        | skip))
    all_goals (go_wp2_with fail; go_meet)
    all_goals first
      | exact ⟨_, rfl, Lib.hid (InsM.of HW.out ((B0.out.trans (HB4.out.mono (by simp))).alloc (B0.out.trans (HB4.out.mono (by simp))).size _) (heap_alloc_new w4 _))⟩
      | exact ⟨_, rfl, Lib.hid (InsM.of HW.out (((((B0.out.alloc (by simp) _).trans (HB4.out.mono (by simp))).setCell (p := ⟨W0.heap.size, 0, none⟩) (Nat.le_refl _) _).setCell (p := ⟨W0.heap.size, 1, none⟩) (Nat.le_refl _) _).setCell (p := ⟨W0.heap.size, 2, none⟩) (Nat.le_refl _) _) (three_set HZ.out))⟩
  case rest =>
    obtain ⟨X, rfl, HM⟩ := hcut
    have x1 : wc.cell? ⟨X, 1, none⟩ = some (.string s1) := cell_of_row _ _ 1 _ _ _ HM.out.x
    have x2 : wc.cell? ⟨X, 2, none⟩ = some (.string s2) := cell_of_row _ _ 2 _ _ _ HM.out.x
    have i1 : wc.cell? ⟨w.heap.size + 1 + 1, 1, none⟩ = some (.int .i64 a) := cell_of_row _ _ 1 _ _ _ HM.out.i
    have i2 : wc.cell? ⟨w.heap.size + 1 + 1, 2, none⟩ = some (.int .i64 b) := cell_of_row _ _ 2 _ _ _ HM.out.i
    have m0 : wc.cell? ⟨w.heap.size, 0, none⟩ = some (.slice A0 n0 c0) := cell_of_row _ _ 0 _ _ _ HM.out.m
    have m1' : wc.cell? ⟨w.heap.size, 1, none⟩ = some (.int .i64 g) := cell_of_row _ _ 1 _ _ _ HM.out.m
    have f1 : wc.cell? ⟨w.heap.size + 1, 1, none⟩ = some (.slice B1 m1 d1) := cell_of_row _ _ 1 _ _ _ HM.out.f
    have f2 : wc.cell? ⟨w.heap.size + 1, 2, none⟩ = some (.slice B2 m2 d2) := cell_of_row _ _ 2 _ _ _ HM.out.f
    clear B0 HW HC HIDX
    cases hcls with
    | bad _ _ h =>
      have hb : (b != 0) = true := by simpa using h
      clear h
      go_wp2_with fail
      go_ret
      exact ⟨rfl, HM.out.below⟩
    | zero =>
      go_wp2_with fail
      go_ret
      exact ⟨rfl, HM.out.below⟩
    | _ =>
      go_wp2_with (go_at_call 42; refine (within_any _ _ _ _).mono ?_; rintro e w' ⟨rfl, rfl⟩)
      go_ret
      exact ⟨rfl, HM.out.below⟩
set_option maxHeartbeats 4000000 in
set_option maxRecDepth 100000 in
theorem ins_func (A0 A2 B1 B2 : Option Addr) (n0 c0 n2 c2 m1 d1 m2 d2 : Nat) (g p op a b : Int) (s0 : ByteArray) (l2 : List S68) (w : World) (h0 : 0 ≤ op) (h1 : op ≤ 17) (hn0 : n0 ≤ 9223372036854775807) (hm1 : m1 ≤ 9223372036854775807) (hm2 : m2 ≤ 9223372036854775807) (hn2 : n2 = l2.length) (hl2 : n2 ≤ 9223372036854775807) (hr2 : Kd.C k68 w A2 l2.length l2)
    (hidx : ∀ w, (Instr.index 115 (.agg shapesV) (.int .i64 op)).run Tryd.prog w = .ok (.agg #[.string s0, .string ⟨#[102, 117, 110, 99]⟩, .string ⟨#[99, 111, 117, 110, 116]⟩]) w) :
    Calls Tryd.prog 44 #[.agg #[.slice A0 n0 c0, .int .i64 g, .slice A2 l2.length c2], .agg #[.int .i64 p, .slice B1 m1 d1, .slice B2 m2 d2], .agg #[.int .i64 op, .int .i64 a, .int .i64 b]] w fun e w' => e = .returned (.bool (decide (1 ≤ a) && decide (a ≤ (n2 : Int) - 1) && (b == ((rd_T68 l2 a).f1.length : Int)))) ∧ Below w.heap.size w w' := by
  subst hn2
  have e0 : decide (0 ≤ op) = true := decide_eq_true h0
  have e1 : decide (op ≤ 17) = true := decide_eq_true h1
  clear h0 h1
  have HIDX := Lib.hid hidx
  have HR2 := Lib.hid hr2
  clear hidx hr2
  go_enter Tryd.func44, Tryd.ntmps44
  go_upto_region 3 with (go_at_call 42; refine (within_any _ _ _ _).mono ?_; rintro e w' ⟨rfl, rfl⟩; rw [e0, e1])
  have hW : ∃ W0 : World, W0 = ((w.alloc (.cells #[.slice A0 n0 c0, .int .i64 g, .slice A2 l2.length c2] 38 (0, 0))).alloc (.cells #[.int .i64 p, .slice B1 m1 d1, .slice B2 m2 d2] 68 (0, 0))).alloc (.cells #[.int .i64 op, .int .i64 a, .int .i64 b] 71 (0, 0)) := ⟨_, rfl⟩
  obtain ⟨W0, hW⟩ := hW
  rw [← hW]
  have hcell : W0.cell? ⟨w.heap.size + 1 + 1, 0, none⟩ = some (.int .i64 op) := by rw [hW]; go_simp
  have HC : Hid (∀ W', Below W0.heap.size W0 W' → W'.cell? ⟨w.heap.size + 1 + 1, 0, none⟩ = some (.int .i64 op) ∧ (Instr.index 115 (.agg shapesV) (.int .i64 op)).run Tryd.prog W' = .ok (.agg #[.string s0, .string ⟨#[102, 117, 110, 99]⟩, .string ⟨#[99, 111, 117, 110, 116]⟩]) W') :=
    Lib.hid (fun W' hb => ⟨(hb.cell (World.block_lt_of_cell? _ _ hcell)).trans hcell, HIDX.out W'⟩)
  have HW := Lib.hid hW
  have B0 : Hid (Below W0.heap.size W0 W0.drew) := Lib.hid (Below.refl _ _).drew
  clear hW hcell e0 e1
  go_cut [7] (fun s7 wc => ∃ X : Nat, s7 = .pointer (some ⟨X, 0, none⟩) ∧ Hid (InsM w #[.slice A0 n0 c0, .int .i64 g, .slice A2 l2.length c2] #[.int .i64 p, .slice B1 m1 d1, .slice B2 m2 d2] #[.int .i64 op, .int .i64 a, .int .i64 b] s0 ⟨#[102, 117, 110, 99]⟩ ⟨#[99, 111, 117, 110, 116]⟩ X wc))
  case first =>
    go_region_held3 (fun W' => W'.cell? ⟨w.heap.size + 1 + 1, 0, none⟩ = some (.int .i64 op) ∧ (Instr.index 115 (.agg shapesV) (.int .i64 op)).run Tryd.prog W' = .ok (.agg #[.string s0, .string ⟨#[102, 117, 110, 99]⟩, .string ⟨#[99, 111, 117, 110, 116]⟩]) W')
      (first | exact HC.out _ B0.out | exact HC.out _ (B0.out.alloc (by simp) _) | exact HC.out _ (B0.out.trans (HB4.out.mono (by simp))) | exact HC.out _ ((B0.out.alloc (by simp) _).trans (HB4.out.mono (by simp))) | exact HC.out _ ((B0.out.trans (HB4.out.mono (by simp))).alloc (B0.out.trans (HB4.out.mono (by simp))).size _) | exact HC.out _ (((((B0.out.alloc (by simp) _).trans (HB4.out.mono (by simp))).setCell (p := ⟨W0.heap.size, 0, none⟩) (Nat.le_refl _) _).setCell (p := ⟨W0.heap.size, 1, none⟩) (Nat.le_refl _) _).setCell (p := ⟨W0.heap.size, 2, none⟩) (Nat.le_refl _) _) | exact HC.out _ (((((B0.out.trans (HB4.out.mono (by simp))).alloc (B0.out.trans (HB4.out.mono (by simp))).size _).setCell (p := ⟨w4.heap.size, 0, none⟩) (B0.out.trans (HB4.out.mono (by simp))).size _).setCell (p := ⟨w4.heap.size, 1, none⟩) (B0.out.trans (HB4.out.mono (by simp))).size _).setCell (p := ⟨w4.heap.size, 2, none⟩) (B0.out.trans (HB4.out.mono (by simp))).size _))
      ((go_at_call 71; refine (shapes_any _).mono ?_; rintro e w4 ⟨rfl, hb4⟩; have HB4 := Lib.hid hb4; clear hb4;
        first
        | (have hz := (HB4.out.block W0.heap.size (by simp)).trans (heap_alloc_new W0 (.cells #[.string ⟨#[]⟩, .string ⟨#[]⟩, .string ⟨#[]⟩] 114 (0, 0)));
           have hz0 : w4.cell? ⟨W0.heap.size, 0, none⟩ = some (.string ⟨#[]⟩) := cell_of_row _ _ 0 _ _ _ hz; have hz1 : w4.cell? ⟨W0.heap.size, 1, none⟩ = some (.string ⟨#[]⟩) := cell_of_row _ _ 1 _ _ _ hz; have hz2 : w4.cell? ⟨W0.heap.size, 2, none⟩ = some (.string ⟨#[]⟩) := cell_of_row _ _ 2 _ _ _ hz;
           have hf0 : w4.frozen? ⟨W0.heap.size, 0, none⟩ = false := frozen_of_row _ _ 0 _ _ hz; have hf1 : w4.frozen? ⟨W0.heap.size, 1, none⟩ = false := frozen_of_row _ _ 1 _ _ hz; have hf2 : w4.frozen? ⟨W0.heap.size, 2, none⟩ = false := frozen_of_row _ _ 2 _ _ hz; have HZ := Lib.hid hz; clear hz)
        | skip))
    all_goals (go_wp2_with fail; go_meet)
    all_goals first
      | exact ⟨_, rfl, Lib.hid (InsM.of HW.out ((B0.out.trans (HB4.out.mono (by simp))).alloc (B0.out.trans (HB4.out.mono (by simp))).size _) (heap_alloc_new w4 _))⟩
      | exact ⟨_, rfl, Lib.hid (InsM.of HW.out (((((B0.out.alloc (by simp) _).trans (HB4.out.mono (by simp))).setCell (p := ⟨W0.heap.size, 0, none⟩) (Nat.le_refl _) _).setCell (p := ⟨W0.heap.size, 1, none⟩) (Nat.le_refl _) _).setCell (p := ⟨W0.heap.size, 2, none⟩) (Nat.le_refl _) _) (three_set HZ.out))⟩
  case rest =>
    obtain ⟨X, rfl, HM⟩ := hcut
    have x1 : wc.cell? ⟨X, 1, none⟩ = some (.string ⟨#[102, 117, 110, 99]⟩) := cell_of_row _ _ 1 _ _ _ HM.out.x
    have x2 : wc.cell? ⟨X, 2, none⟩ = some (.string ⟨#[99, 111, 117, 110, 116]⟩) := cell_of_row _ _ 2 _ _ _ HM.out.x
    have i1 : wc.cell? ⟨w.heap.size + 1 + 1, 1, none⟩ = some (.int .i64 a) := cell_of_row _ _ 1 _ _ _ HM.out.i
    have i2 : wc.cell? ⟨w.heap.size + 1 + 1, 2, none⟩ = some (.int .i64 b) := cell_of_row _ _ 2 _ _ _ HM.out.i
    have m2' : wc.cell? ⟨w.heap.size, 2, none⟩ = some (.slice A2 l2.length c2) := cell_of_row _ _ 2 _ _ _ HM.out.m
    clear B0 HW HC HIDX
    by_cases h : 1 ≤ a ∧ a ≤ (l2.length : Int) - 1
    · have hw := fun w => within_yes a 1 ((l2.length : Int) - 1) w h.1 h.2
      have HD := Lib.hid h
      obtain ⟨ad, A1, d1', A2', d2', ea, k0, k1, k2, _, _, _, _⟩ := at_T68 HR2.out a (by omega) (by omega)
      cases ea
      have k1 := (HM.out.below.cell (World.block_lt_of_cell? w _ k1)).trans k1
      have g0 : 0 ≤ a := by omega
      have g1 : a < (l2.length : Int) := by omega
      clear k0 k2 h
      go_wp2_with fail
      go_quiet ((go_at_call 42; exact Calls.quiet_of_same (hw _)))
      go_wp2_with fail
      go_ret
      refine ⟨ret_bool (by rw [decide_eq_true HD.out.1, decide_eq_true HD.out.2]; simp; done), ?_⟩
      repeat (first | exact HM.out.below | apply pw_below_drewN | apply below_drew1)
    · have hw := fun w => within_no a 1 ((l2.length : Int) - 1) w h
      have hd : (decide (1 ≤ a) && decide (a ≤ (l2.length : Int) - 1)) = false := by simp; omega
      have HD := Lib.hid hd
      clear h hd
      go_wp2_with fail
      go_quiet ((go_at_call 42; exact Calls.quiet_of_same (hw _)))
      go_wp2_with fail
      go_ret
      refine ⟨ret_bool (by rw [HD.out]; simp; done), ?_⟩
      repeat (first | exact HM.out.below | apply pw_below_drewN | apply below_drew1)
/-- One instruction against the table. -/
def insW (n0 n2 m1 m2 : Nat) (kf g op a b : Int) : Bool :=
  if 0 ≤ op ∧ op ≤ 17 then
    if op = 8 then decide (1 ≤ a) && decide (a ≤ (n2 : Int) - 1) && (b == kf)
    else if b ≠ 0 then false
    else if op = 0 then decide (0 ≤ a) && decide (a ≤ (n0 : Int) - 1)
    else if op = 1 then decide (0 ≤ a) && decide (a ≤ 199)
    else if op = 2 then decide (0 ≤ a) && decide (a ≤ (m1 : Int) - 1)
    else if op = 3 ∨ op = 4 then decide (0 ≤ a) && decide (a ≤ wrap64 (g - 1))
    else if op = 5 then decide (0 ≤ a) && decide (a ≤ 1)
    else if op = 9 ∨ op = 10 then decide (0 ≤ a) && decide (a ≤ 20)
    else if op = 12 ∨ op = 13 then decide (0 ≤ a) && decide (a ≤ (m2 : Int) - 1)
    else if op = 14 then decide (0 ≤ a) && decide (a ≤ 21)
    else if op = 15 then decide (0 ≤ a) && decide (a ≤ 200)
    else a == 0
  else false
theorem ins_out (A0 A2 B1 B2 : Option Addr) (n0 c0 n2 c2 m1 d1 m2 d2 : Nat) (g p op a b : Int) (w : World) (h : ¬ (0 ≤ op ∧ op ≤ 17)) :
    Calls Tryd.prog 44 #[.agg #[.slice A0 n0 c0, .int .i64 g, .slice A2 n2 c2], .agg #[.int .i64 p, .slice B1 m1 d1, .slice B2 m2 d2], .agg #[.int .i64 op, .int .i64 a, .int .i64 b]] w fun e w' => e = .returned (.bool false) ∧ Below w.heap.size w w' := by
  have hw := fun w => within_no op 0 17 w h
  clear h
  go_enter Tryd.func44, Tryd.ntmps44
  go_wp2_with (go_at_call 42; refine (hw _).mono ?_; rintro e w' ⟨rfl, rfl⟩)
  go_ret
  exact ⟨rfl, (((Below.refl w.heap.size w).alloc (Nat.le_refl _) _).alloc (by simp) _).alloc (by simp; try omega) _⟩
end Go.Proofs.YtogmphjhdkgdjaaDoor
