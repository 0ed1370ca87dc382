-- Written by a program of this session (wip/tools/ownprint.py) over hand-proved contracts.
import Derived.Test.YtggkkgkjhfgipaaDoorQFnExactShowWordx0
namespace Go.Proofs.YtggkkgkjhfgipaaDoor.QFnExactShowWord
open Go.RowKit Go.Proofs.YtggkkgkjhfgipaaDoorW.PrintWords Go.Proofs.YtggkkgkjhfgipaaDoorW.PrintLast Go.Proofs.YtggkkgkjhfgipaaDoorW.PrintMore
attribute [local go_sem] max2_int min2_int max_two min_two max_three min_three max_four min_four   -- for this text's walks alone
set_option linter.unusedVariables false
set_option linter.unusedSimpArgs false

/-! ### spec_l2starts: function 65 -/
mutual
def spec_l2starts.j0 : Nat → Bool → List Int → Int → Option (List Bool × Bool)
  | 0, _, _, _ => none
  | k + 1, x25, x108000, x108001 => if x25 = true then (some (([] : List Bool), false)) else (if 0 ≤ x108001 then (if (x108001 : Int).toNat ≤ 281474976710656 then (spec_l2starts.l0 k (List.replicate (x108001 : Int).toNat false) 0 x108000 x108001) else (none)) else (none))
def spec_l2starts.l0 : Nat → List Bool → Int → List Int → Int → Option (List Bool × Bool)
  | 0, _, _, _, _ => none
  | k + 1, x4, x5, x108000, x108001 => if x5 < x108001 then (if 0 ≤ x5 then (if x5 < (x108000.length : Int) then (if (rd x108000 x5) < 0 then (some (([] : List Bool), false)) else (if (wrap64 (Int.tdiv (rd x108000 x5) 4)) > 1000 then (spec_l2starts.j2 k x4 x5 (Int.tmod (rd x108000 x5) 4) (wrap64 (Int.tdiv (rd x108000 x5) 4)) true x108000 x108001) else (spec_l2starts.j2 k x4 x5 (Int.tmod (rd x108000 x5) 4) (wrap64 (Int.tdiv (rd x108000 x5) 4)) (decide ((wrap64 ((wrap64 (x5 + 1)) + (wrap64 (Int.tdiv (rd x108000 x5) 4)))) > x108001)) x108000 x108001))) else (none)) else (none)) else (some (x4, true))
def spec_l2starts.j2 : Nat → List Bool → Int → Int → Int → Bool → List Int → Int → Option (List Bool × Bool)
  | 0, _, _, _, _, _, _, _ => none
  | k + 1, x4, x5, x7, x8, x54, x108000, x108001 => if x54 = true then (some (([] : List Bool), false)) else (if x7 = 0 then (if x8 = 2 then (if x7 = 3 then (if x8 = 1 then (if x7 = 2 then (spec_l2starts.j3 k x4 x5 x7 x8 (decide (x8 < 1)) x108000 x108001) else (spec_l2starts.j3 k x4 x5 x7 x8 false x108000 x108001)) else (spec_l2starts.j3 k x4 x5 x7 x8 true x108000 x108001)) else (if x7 = 2 then (spec_l2starts.j3 k x4 x5 x7 x8 (decide (x8 < 1)) x108000 x108001) else (spec_l2starts.j3 k x4 x5 x7 x8 false x108000 x108001))) else (spec_l2starts.j3 k x4 x5 x7 x8 true x108000 x108001)) else (if x7 = 3 then (if x8 = 1 then (if x7 = 2 then (spec_l2starts.j3 k x4 x5 x7 x8 (decide (x8 < 1)) x108000 x108001) else (spec_l2starts.j3 k x4 x5 x7 x8 false x108000 x108001)) else (spec_l2starts.j3 k x4 x5 x7 x8 true x108000 x108001)) else (if x7 = 2 then (spec_l2starts.j3 k x4 x5 x7 x8 (decide (x8 < 1)) x108000 x108001) else (spec_l2starts.j3 k x4 x5 x7 x8 false x108000 x108001))))
def spec_l2starts.j3 : Nat → List Bool → Int → Int → Int → Bool → List Int → Int → Option (List Bool × Bool)
  | 0, _, _, _, _, _, _, _ => none
  | k + 1, x4, x5, x7, x8, x76, x108000, x108001 => if x76 = true then (some (([] : List Bool), false)) else (if x7 = 2 then (if 0 ≤ (wrap64 (x5 + 1)) then (if (wrap64 (x5 + 1)) < (x108000.length : Int) then (if (rd x108000 (wrap64 (x5 + 1))) < 0 then (some (([] : List Bool), false)) else (if (Int.tmod (rd x108000 (wrap64 (x5 + 1))) 4) = 0 then (if 0 ≤ x5 then (if x5 < (x4.length : Int) then (spec_l2starts.l0 k (x4.set (x5 : Int).toNat true) (wrap64 (x5 + (wrap64 (1 + x8)))) x108000 x108001) else (none)) else (none)) else (some (([] : List Bool), false)))) else (none)) else (none)) else (if 0 ≤ x5 then (if x5 < (x4.length : Int) then (spec_l2starts.l0 k (x4.set (x5 : Int).toNat true) (wrap64 (x5 + (wrap64 (1 + x8)))) x108000 x108001) else (none)) else (none)))
end
def spec_l2starts.f (k : Nat) (l0_0 : List Int) (a0_1 : Int) : Option (List Bool × Bool) := if (l0_0.length : Int) > 20000 then (spec_l2starts.j0 k true l0_0 a0_1) else (if a0_1 < 0 then (spec_l2starts.j0 k true l0_0 a0_1) else (spec_l2starts.j0 k (decide (a0_1 > (l0_0.length : Int))) l0_0 a0_1))
theorem spec_l2starts.mono_l : ∀ k, (∀ y0 y1 y2, LeO (spec_l2starts.j0 k y0 y1 y2) (spec_l2starts.j0 (k + 1) y0 y1 y2)) ∧ (∀ y0 y1 y2 y3, LeO (spec_l2starts.l0 k y0 y1 y2 y3) (spec_l2starts.l0 (k + 1) y0 y1 y2 y3)) ∧ (∀ y0 y1 y2 y3 y4 y5 y6, LeO (spec_l2starts.j2 k y0 y1 y2 y3 y4 y5 y6) (spec_l2starts.j2 (k + 1) y0 y1 y2 y3 y4 y5 y6)) ∧ (∀ y0 y1 y2 y3 y4 y5 y6, LeO (spec_l2starts.j3 k y0 y1 y2 y3 y4 y5 y6) (spec_l2starts.j3 (k + 1) y0 y1 y2 y3 y4 y5 y6))
  | 0 => ⟨fun _ _ _ r h => by simp [spec_l2starts.j0] at h, fun _ _ _ _ r h => by simp [spec_l2starts.l0] at h, fun _ _ _ _ _ _ _ r h => by simp [spec_l2starts.j2] at h, fun _ _ _ _ _ _ _ r h => by simp [spec_l2starts.j3] at h⟩
  | k + 1 => by
    obtain ⟨ih0, ih1, ih2, ih3⟩ := spec_l2starts.mono_l k
    refine ⟨?_, ?_, ?_, ?_⟩
    · intro y0 y1 y2
      unfold spec_l2starts.j0
      repeat' first
      | (with_reducible exact ih0 _ _ _)
      | (with_reducible exact ih1 _ _ _ _)
      | (with_reducible exact ih2 _ _ _ _ _ _ _)
      | (with_reducible exact ih3 _ _ _ _ _ _ _)
      | (with_reducible exact LeO.refl _)
      | (with_reducible exact LeO.none _)
      | (with_reducible refine LeO.ite ?_ ?_)
      | (with_reducible refine LeO.bind ?_ (fun _ => ?_))
      | exact ih0 _ _ _
      | exact ih1 _ _ _ _
      | exact ih2 _ _ _ _ _ _ _
      | exact ih3 _ _ _ _ _ _ _
      | exact LeO.none _
      | refine LeO.ite ?_ ?_
      | refine LeO.bind ?_ (fun _ => ?_)
    · intro y0 y1 y2 y3
      unfold spec_l2starts.l0
      repeat' first
      | (with_reducible exact ih0 _ _ _)
      | (with_reducible exact ih1 _ _ _ _)
      | (with_reducible exact ih2 _ _ _ _ _ _ _)
      | (with_reducible exact ih3 _ _ _ _ _ _ _)
      | (with_reducible exact LeO.refl _)
      | (with_reducible exact LeO.none _)
      | (with_reducible refine LeO.ite ?_ ?_)
      | (with_reducible refine LeO.bind ?_ (fun _ => ?_))
      | exact ih0 _ _ _
      | exact ih1 _ _ _ _
      | exact ih2 _ _ _ _ _ _ _
      | exact ih3 _ _ _ _ _ _ _
      | exact LeO.none _
      | refine LeO.ite ?_ ?_
      | refine LeO.bind ?_ (fun _ => ?_)
    · intro y0 y1 y2 y3 y4 y5 y6
      unfold spec_l2starts.j2
      repeat' first
      | (with_reducible exact ih0 _ _ _)
      | (with_reducible exact ih1 _ _ _ _)
      | (with_reducible exact ih2 _ _ _ _ _ _ _)
      | (with_reducible exact ih3 _ _ _ _ _ _ _)
      | (with_reducible exact LeO.refl _)
      | (with_reducible exact LeO.none _)
      | (with_reducible refine LeO.ite ?_ ?_)
      | (with_reducible refine LeO.bind ?_ (fun _ => ?_))
      | exact ih0 _ _ _
      | exact ih1 _ _ _ _
      | exact ih2 _ _ _ _ _ _ _
      | exact ih3 _ _ _ _ _ _ _
      | exact LeO.none _
      | refine LeO.ite ?_ ?_
      | refine LeO.bind ?_ (fun _ => ?_)
    · intro y0 y1 y2 y3 y4 y5 y6
      unfold spec_l2starts.j3
      repeat' first
      | (with_reducible exact ih0 _ _ _)
      | (with_reducible exact ih1 _ _ _ _)
      | (with_reducible exact ih2 _ _ _ _ _ _ _)
      | (with_reducible exact ih3 _ _ _ _ _ _ _)
      | (with_reducible exact LeO.refl _)
      | (with_reducible exact LeO.none _)
      | (with_reducible refine LeO.ite ?_ ?_)
      | (with_reducible refine LeO.bind ?_ (fun _ => ?_))
      | exact ih0 _ _ _
      | exact ih1 _ _ _ _
      | exact ih2 _ _ _ _ _ _ _
      | exact ih3 _ _ _ _ _ _ _
      | exact LeO.none _
      | refine LeO.ite ?_ ?_
      | refine LeO.bind ?_ (fun _ => ?_)
theorem spec_l2starts.mono : ∀ a0 a1 k, LeO (spec_l2starts.f k a0 a1) (spec_l2starts.f (k + 1) a0 a1) := by
  intro a0 a1 k
  obtain ⟨ih0, ih1, ih2, ih3⟩ := spec_l2starts.mono_l k
  unfold spec_l2starts.f
  repeat' first
      | (with_reducible exact ih0 _ _ _)
      | (with_reducible exact ih1 _ _ _ _)
      | (with_reducible exact ih2 _ _ _ _ _ _ _)
      | (with_reducible exact ih3 _ _ _ _ _ _ _)
      | (with_reducible exact LeO.refl _)
      | (with_reducible exact LeO.none _)
      | (with_reducible refine LeO.ite ?_ ?_)
      | (with_reducible refine LeO.bind ?_ (fun _ => ?_))
      | exact ih0 _ _ _
      | exact ih1 _ _ _ _
      | exact ih2 _ _ _ _ _ _ _
      | exact ih3 _ _ _ _ _ _ _
      | exact LeO.none _
      | refine LeO.ite ?_ ?_
      | refine LeO.bind ?_ (fun _ => ?_)
set_option maxHeartbeats 8000000 in
set_option maxRecDepth 100000 in
theorem spec_l2starts.calls (k : Nat) (A0_0 : Option Addr) (c0_0 : Nat) (l0_0 : List Int) (a0_1 : Int) (r1 : List Bool) (r2 : Bool) (w : World) (hr0_0 : Kd.C (Kd.int .i64) w A0_0 l0_0.length l0_0) (hc0_0 : l0_0.length ≤ c0_0) (h : spec_l2starts.f k l0_0 a0_1 = some (r1, r2)) :
    Calls Tryd.prog 65 #[.agg #[.slice A0_0 l0_0.length c0_0, .int .i64 a0_1]] w fun e w' => ∃ v0_ : Value, e = .returned (.tuple #[v0_, .bool r2]) ∧ Kd.R Kd.bool 4 w' w.heap.size (fun _ => True) v0_ r1 ∧ Below w.heap.size w w' := by
  have hu30 := Tryd.underlying30
  have HR0_0 := Aside0.mk hr0_0
  have HC0_0 := Aside0.mk hc0_0
  clear hr0_0 hc0_0
  have HB := Aside0.mk (Below.refl w.heap.size w)
  have H : (if (l0_0.length : Int) > 20000 then (spec_l2starts.j0 k true l0_0 a0_1) else (if a0_1 < 0 then (spec_l2starts.j0 k true l0_0 a0_1) else (spec_l2starts.j0 k (decide (a0_1 > (l0_0.length : Int))) l0_0 a0_1))) = some (r1, r2) := h
  clear h
  have HC2 := Aside0.mk H
  clear H
  go_enter Tryd.func65, Tryd.ntmps65
  go_upto_region 1 with (first | ((with_reducible refine gate_dst (N := 1) rfl ?_); (try (refine gate_guard (by rfl) ?_; dsimp only)); refine box_event ?hg (N := 1) ?hd (cs := #[.slice A0_0 l0_0.length c0_0, .int .i64 a0_1]) (t := 30) ?hr ?_; (case hd => rfl); (case hg => rfl); (case hr => first | (go_simp; done) | (go_simp; rfl)); intro gb107 hg w3 hbox hb; have n0_ := Aside0.mk (below_step (by repeat (first | (with_reducible first | exact HB.out | apply below_alloc | apply pw_below_drewN | apply below_drew1) | exact HB.out)) hb); have n1_ := Aside0.mk (hbox); have n2_ := Aside0.mk ((by rw [hg]; exact (below_size (by repeat (first | (with_reducible first | exact HB.out | apply below_alloc | apply pw_below_drewN | apply below_drew1) | exact HB.out))) : w.heap.size ≤ gb107)); have n3_ := Aside0.mk ((by rw [hg]; exact (below_size (by repeat (first | (with_reducible first | exact HB.out | apply below_alloc | apply pw_below_drewN | apply below_drew1) | exact HB.out))) : w.heap.size ≤ gb107)); clear HB; have HB := n0_; have BK107 := n1_; have GW107 := n2_; have GE107 := n3_; clear n0_ n1_ n2_ n3_; clear hb hbox hg))
  (try simp only [Act.put, List.setIfInBounds_toArray, List.set_cons_zero, List.set_cons_succ])
  go_cut [25] (fun v25 wc => ∃ (kq : Nat) (x25_1 : Bool), v25 = .bool x25_1 ∧ Aside0 (spec_l2starts.j0 kq x25_1 l0_0 a0_1 = some (r1, r2)) ∧ Aside0 (kq ≤ k) ∧ Aside0 (wc.heap[gb107]? = some (.cells #[(.slice A0_0 l0_0.length c0_0), .int .i64 a0_1] 30 (0, 0))) ∧ Aside0 (Below w.heap.size w wc))
  case first =>
    have H := HC2.out
    clear HC2
    by_cases c4 : (l0_0.length : Int) > 20000
    · rw [if_pos c4] at H
      have c4b0 : decide (20000 < (l0_0.length : Int)) = true := decide_eq_true c4
      have c4b1 : decide (20000 < l0_0.length) = true := decide_eq_true (by omega)
      clear c4
      (first | rw [c4b0] | (simp only [i64_w, i32_w]; rw [c4b0]) | skip)
      have H' := Aside0.mk H
      clear H
      have hcz5_0 : w3.cell? ⟨gb107, 0, none⟩ = some (.slice A0_0 l0_0.length c0_0) := (blk_cell BK107.out 0).trans rfl
      have hcz5_1 : w3.cell? ⟨gb107, 1, none⟩ = some (.int .i64 a0_1) := (blk_cell BK107.out 1).trans rfl
      have hfz5_0 := blk_frozen BK107.out 0
      have hfz5_1 := blk_frozen BK107.out 1
      go_wp2
      go_meet
      case rel => exact ⟨_, (true), (by first | rfl | (simp; done) | (simp [*]; done)), H', ⟨by first | omega | exact Nat.le_refl _⟩, ⟨by (with_reducible repeat (first | refine blk_drewN ?_ _ | refine blk_drew ?_ | refine blk_alloc ?_ _)); exact BK107.out⟩, ⟨by repeat (first | (with_reducible first | exact HB.out | apply below_alloc | apply pw_below_drewN | apply below_drew1 | refine below_set ?_ GE107.out) | exact HB.out)⟩⟩
    · rw [if_neg c4] at H
      have c4b0 : decide (20000 < (l0_0.length : Int)) = false := decide_eq_false c4
      have c4b1 : decide (20000 < l0_0.length) = false := decide_eq_false (by omega)
      clear c4
      (first | rw [c4b0] | (simp only [i64_w, i32_w]; rw [c4b0]) | skip)
      by_cases c6 : a0_1 < 0
      · rw [if_pos c6] at H
        have c6b0 : decide (a0_1 < 0) = true := decide_eq_true c6
        clear c6
        have H' := Aside0.mk H
        clear H
        have hcz7_0 : w3.cell? ⟨gb107, 0, none⟩ = some (.slice A0_0 l0_0.length c0_0) := (blk_cell BK107.out 0).trans rfl
        have hcz7_1 : w3.cell? ⟨gb107, 1, none⟩ = some (.int .i64 a0_1) := (blk_cell BK107.out 1).trans rfl
        have hfz7_0 := blk_frozen BK107.out 0
        have hfz7_1 := blk_frozen BK107.out 1
        go_wp2
        go_meet
        case rel => exact ⟨_, (true), (by first | rfl | (simp; done) | (simp [*]; done)), H', ⟨by first | omega | exact Nat.le_refl _⟩, ⟨by (with_reducible repeat (first | refine blk_drewN ?_ _ | refine blk_drew ?_ | refine blk_alloc ?_ _)); exact BK107.out⟩, ⟨by repeat (first | (with_reducible first | exact HB.out | apply below_alloc | apply pw_below_drewN | apply below_drew1 | refine below_set ?_ GE107.out) | exact HB.out)⟩⟩
      · rw [if_neg c6] at H
        have c6b0 : decide (a0_1 < 0) = false := decide_eq_false c6
        clear c6
        have H' := Aside0.mk H
        clear H
        have hcz8_0 : w3.cell? ⟨gb107, 0, none⟩ = some (.slice A0_0 l0_0.length c0_0) := (blk_cell BK107.out 0).trans rfl
        have hcz8_1 : w3.cell? ⟨gb107, 1, none⟩ = some (.int .i64 a0_1) := (blk_cell BK107.out 1).trans rfl
        have hfz8_0 := blk_frozen BK107.out 0
        have hfz8_1 := blk_frozen BK107.out 1
        go_wp2
        go_meet
        case rel => exact ⟨_, (decide (a0_1 > (l0_0.length : Int))), (by first | rfl | (simp; done) | (simp [*]; done)), H', ⟨by first | omega | exact Nat.le_refl _⟩, ⟨by (with_reducible repeat (first | refine blk_drewN ?_ _ | refine blk_drew ?_ | refine blk_alloc ?_ _)); exact BK107.out⟩, ⟨by repeat (first | (with_reducible first | exact HB.out | apply below_alloc | apply pw_below_drewN | apply below_drew1 | refine below_set ?_ GE107.out) | exact HB.out)⟩⟩
  case rest =>
    clear HC2
    try clear p2
    try clear c4
    try clear c4b0
    try clear c4b1
    try clear c6
    try clear c6b0
    try clear hcz5_0
    try clear hcz5_1
    try clear hcz7_0
    try clear hcz7_1
    try clear hcz8_0
    try clear hcz8_1
    try clear hfz5_0
    try clear hfz5_1
    try clear hfz7_0
    try clear hfz7_1
    try clear hfz8_0
    try clear hfz8_1
    obtain ⟨kq, x25_1, rfl, HA, HJ1, BK107, HB⟩ := hcut
    cases kq with
    | zero => exact absurd HA.out (by simp [spec_l2starts.j0])
    | succ kj1 =>
      have H := HA.out
      clear HA
      simp only [spec_l2starts.j0] at H
      by_cases c9 : x25_1 = true
      · subst c9
        have H1 : (some (([] : List Bool), false)) = some (r1, r2) := by rw [if_pos rfl] at H; exact H
        clear H
        have H := H1
        clear H1
        simp only [Option.some.injEq, Prod.mk.injEq] at H
        obtain ⟨rfl, rfl⟩ := H
        go_wp2
        go_ret2
        exact ⟨_, by first | rfl | (simp [errW_none, errW_some] <;> rfl) | (simp [*, errW_none, errW_some] <;> rfl), by first | exact Kd.R_nil _ _ _ _ _ | exact Kd.N_nil _ _ _ _ _ | exact Kd.V_nil _ _ _ _ _ | exact Kd.Q_nil _ _ _ _ _ | exact Kd.S_nil _ _ _ _ _, by repeat (first | (with_reducible first | exact HB.out | apply below_alloc | apply pw_below_drewN | apply below_drew1 | refine below_set ?_ GE107.out) | exact HB.out)⟩
      · replace c9 := Bool.eq_false_iff.mpr c9
        subst c9
        have H1 : (if 0 ≤ a0_1 then (if (a0_1 : Int).toNat ≤ 281474976710656 then (spec_l2starts.l0 kj1 (List.replicate (a0_1 : Int).toNat false) 0 l0_0 a0_1) else (none)) else (none)) = some (r1, r2) := by rw [if_neg (show ¬ (false = true) by decide)] at H; exact H
        clear H
        have H := H1
        clear H1
        by_cases c10 : 0 ≤ a0_1
        · rw [if_pos c10] at H
          have c10b0 := eq_true c10
          have c10b1 : decide (0 ≤ a0_1) = true := decide_eq_true c10
          clear c10
          by_cases c11 : (a0_1 : Int).toNat ≤ 281474976710656
          · rw [if_pos c11] at H
            have c11b0 := eq_true c11
            have c11b1 : decide ((a0_1 : Int).toNat ≤ 281474976710656) = true := decide_eq_true c11
            clear c11
            obtain ⟨y108, hy108⟩ : ∃ y_ : List Bool, y_ = (List.replicate (a0_1 : Int).toNat false) := ⟨_, rfl⟩
            replace H : (spec_l2starts.l0 kj1 y108 0 l0_0 a0_1) = some (r1, r2) := by first | (rw [hy108]; with_reducible exact H) | (have H2_ := (Option.bind_some _ _).symm.trans H; rw [hy108]; with_reducible exact H2_) | (have H2_ := (Option.bind_some _ _).symm.trans H; with_reducible exact H2_) | with_reducible exact H | (rw [hy108]; exact H) | exact H
            have Ny108 := Aside0.mk hy108
            clear hy108
            have H' := Aside0.mk H
            clear H
            have hcz12_0 : wc.cell? ⟨gb107, 0, none⟩ = some (.slice A0_0 l0_0.length c0_0) := (blk_cell BK107.out 0).trans rfl
            have hcz12_1 : wc.cell? ⟨gb107, 1, none⟩ = some (.int .i64 a0_1) := (blk_cell BK107.out 1).trans rfl
            have hfz12_0 := blk_frozen BK107.out 0
            have hfz12_1 := blk_frozen BK107.out 1
            go_wp2_with (first | ((with_reducible refine gate_dst (N := 28) rfl ?_); (try (refine gate_guard (by rfl) ?_; dsimp only)); refine Kd.R_make Kd.bool _ 4 rfl (N := 28) rfl 66 _ _ rfl a0_1 rfl rfl Tryd.underlying66 (.bool false) 1 info4 rfl (by decide) (by omega) false (ok := fun _ => True) (okp := fun _ => True) rfl (fun _ hk => hk) trivial (of_decide_eq_true (by first | (with_reducible assumption) | assumption)) (Nat.le_trans (Nat.mul_le_mul_right _ (of_decide_eq_true (by first | (with_reducible assumption) | assumption) : a0_1.toNat ≤ 281474976710656)) (by omega)) (Below.refl _ _) (Nat.le_refl _) ?_; intro v109 w13 ho14 hb hg_ hnew_; clear hg_ hnew_; (first | rw [← Ny108.out] at ho14 | (simp only [Int.reduceToNat] at ho14; rw [← Ny108.out] at ho14)); have n0_ := Aside0.mk (Kd.R_lower ho14 (below_size (by repeat (first | (with_reducible first | exact HB.out | apply below_alloc | apply pw_below_drewN | apply below_drew1 | refine below_set ?_ GE107.out) | exact HB.out)))); have n1_ := Aside0.mk (blk_below (g := gb107) (o := .cells #[.slice A0_0 l0_0.length c0_0, .int .i64 a0_1] 30 (0, 0)) (by (with_reducible repeat (first | refine blk_drewN ?_ _ | refine blk_drew ?_ | refine blk_alloc ?_ _)); exact BK107.out) hb); have n2_ := Aside0.mk (below_step (by repeat (first | (with_reducible first | exact HB.out | apply below_alloc | apply pw_below_drewN | apply below_drew1 | refine below_set ?_ GE107.out) | exact HB.out)) hb); clear BK107; clear HB; have HO110 := n0_; have BK107 := n1_; have HB := n2_; clear n0_ n1_ n2_; clear hb ho14))
            go_loopg [5] kj1 (fun kq v5 w' => ∃ (x4_2 : List Bool) (x5_2 : Int), v5 = .int .i64 x5_2 ∧ Aside0 (spec_l2starts.l0 kq x4_2 x5_2 l0_0 a0_1 = some (r1, r2)) ∧ Aside0 (kq ≤ kj1) ∧ Aside0 (Kd.R Kd.bool 4 w' w.heap.size (fun _ => True) v109 x4_2) ∧ Aside0 (w'.heap[gb107]? = some (.cells #[(.slice A0_0 l0_0.length c0_0), .int .i64 a0_1] 30 (0, 0))) ∧ Aside0 (Below w.heap.size w w'))
            case atStart => exact ⟨(y108), (0), (by first | rfl | (simp; done) | (simp [*]; done)), H', ⟨Nat.le_refl _⟩, ⟨by (with_reducible repeat (first | apply Kd.R_alloc | apply Kd.R_drewN | apply Kd.R_drew)); exact HO110.out⟩, ⟨by (with_reducible repeat (first | refine blk_drewN ?_ _ | refine blk_drew ?_ | refine blk_alloc ?_ _)); exact BK107.out⟩, ⟨by repeat (first | (with_reducible first | exact HB.out | apply below_alloc | apply pw_below_drewN | apply below_drew1 | refine below_set ?_ GE107.out) | exact HB.out)⟩⟩
            case round =>
              clear H'
              try clear c1
              try clear p2
              try clear c4
              try clear c4b0
              try clear c4b1
              try clear c6
              try clear c6b0
              try clear c9
              try clear c10
              try clear c10b0
              try clear c10b1
              try clear c11
              try clear c11b0
              try clear c11b1
              try clear hcz12_0
              try clear hcz12_1
              try clear hcz5_0
              try clear hcz5_1
              try clear hcz7_0
              try clear hcz7_1
              try clear hcz8_0
              try clear hcz8_1
              try clear hfz12_0
              try clear hfz12_1
              try clear hfz5_0
              try clear hfz5_1
              try clear hfz7_0
              try clear hfz7_1
              try clear hfz8_0
              try clear hfz8_1
              try clear p2
              obtain ⟨x4_2, x5_2, rfl, HA, HK2, HO_4, BK107, HB⟩ := hrel
              cases gk with
              | zero => exact absurd HA.out (by simp [spec_l2starts.l0])
              | succ k2 =>
                have H := HA.out
                clear HA
                simp only [spec_l2starts.l0] at H
                by_cases c15 : x5_2 < a0_1
                · rw [if_pos c15] at H
                  have c15b0 : decide (x5_2 < a0_1) = true := decide_eq_true c15
                  clear c15
                  by_cases c16 : 0 ≤ x5_2
                  · rw [if_pos c16] at H
                    have c16b0 : decide (0 ≤ x5_2) = true := decide_eq_true c16
                    clear c16
                    by_cases c17 : x5_2 < (l0_0.length : Int)
                    · rw [if_pos c17] at H
                      have c17b0 : decide (x5_2 < (l0_0.length : Int)) = true := decide_eq_true c17
                      clear c17
                      by_cases c18 : (rd l0_0 x5_2) < 0
                      · rw [if_pos c18] at H
                        have c18b0 : decide ((rd l0_0 x5_2) < 0) = true := decide_eq_true c18
                        clear c18
                        simp only [Option.some.injEq, Prod.mk.injEq] at H
                        obtain ⟨rfl, rfl⟩ := H
                        have hcz19_0 : wr.cell? ⟨gb107, 0, none⟩ = some (.slice A0_0 l0_0.length c0_0) := (blk_cell BK107.out 0).trans rfl
                        have hcz19_1 : wr.cell? ⟨gb107, 1, none⟩ = some (.int .i64 a0_1) := (blk_cell BK107.out 1).trans rfl
                        have hfz19_0 := blk_frozen BK107.out 0
                        have hfz19_1 := blk_frozen BK107.out 1
                        have p111 : 0 ≤ (x5_2 : Int) := of_decide_eq_true (by first | (with_reducible assumption) | assumption)
                        have q111 : x5_2 < (l0_0.length : Int) := of_decide_eq_true (by first | (with_reducible assumption) | assumption)
                        obtain ⟨ad111, e111, hx111_0⟩ := Kd.at_int HR0_0.out x5_2 p111 q111
                        cases e111
                        replace hx111_0 := (HB.out.cell (World.block_lt_of_cell? w _ hx111_0)).trans hx111_0
                        replace p111 := eq_true p111
                        replace q111 := eq_true q111
                        go_wp2
                        go_ret2
                        exact ⟨_, by first | rfl | (simp [errW_none, errW_some] <;> rfl) | (simp [*, errW_none, errW_some] <;> rfl), by first | exact Kd.R_nil _ _ _ _ _ | exact Kd.N_nil _ _ _ _ _ | exact Kd.V_nil _ _ _ _ _ | exact Kd.Q_nil _ _ _ _ _ | exact Kd.S_nil _ _ _ _ _, by repeat (first | (with_reducible first | exact HB.out | apply below_alloc | apply pw_below_drewN | apply below_drew1 | refine below_set ?_ GE107.out) | exact HB.out)⟩
                      · rw [if_neg c18] at H
                        have c18b0 : decide ((rd l0_0 x5_2) < 0) = false := decide_eq_false c18
                        clear c18
                        have HC20 := Aside0.mk H
                        clear H
                        have hcz21_0 : wr.cell? ⟨gb107, 0, none⟩ = some (.slice A0_0 l0_0.length c0_0) := (blk_cell BK107.out 0).trans rfl
                        have hcz21_1 : wr.cell? ⟨gb107, 1, none⟩ = some (.int .i64 a0_1) := (blk_cell BK107.out 1).trans rfl
                        have hfz21_0 := blk_frozen BK107.out 0
                        have hfz21_1 := blk_frozen BK107.out 1
                        have p111 : 0 ≤ (x5_2 : Int) := of_decide_eq_true (by first | (with_reducible assumption) | assumption)
                        have q111 : x5_2 < (l0_0.length : Int) := of_decide_eq_true (by first | (with_reducible assumption) | assumption)
                        obtain ⟨ad111, e111, hx111_0⟩ := Kd.at_int HR0_0.out x5_2 p111 q111
                        cases e111
                        replace hx111_0 := (HB.out.cell (World.block_lt_of_cell? w _ hx111_0)).trans hx111_0
                        replace p111 := eq_true p111
                        replace q111 := eq_true q111
                        go_upto_region 11 with (fail)
                        go_cut [54] (fun v54 wc => ∃ (kq : Nat) (x54_19 : Bool), v54 = .bool x54_19 ∧ Aside0 (spec_l2starts.j2 kq x4_2 x5_2 (Int.tmod (rd l0_0 x5_2) 4) (wrap64 (Int.tdiv (rd l0_0 x5_2) 4)) x54_19 l0_0 a0_1 = some (r1, r2)) ∧ Aside0 (kq ≤ k2) ∧ Aside0 (Kd.R Kd.bool 4 wc w.heap.size (fun _ => True) v109 x4_2) ∧ Aside0 (wc.heap[gb107]? = some (.cells #[(.slice (some ad111) l0_0.length c0_0), .int .i64 a0_1] 30 (0, 0))) ∧ Aside0 (Below w.heap.size w wc))
                        case first =>
                          have H := HC20.out
                          clear HC20
                          by_cases c22 : (wrap64 (Int.tdiv (rd l0_0 x5_2) 4)) > 1000
                          · rw [if_pos c22] at H
                            have c22b0 : decide (1000 < (wrap64 (Int.tdiv (rd l0_0 x5_2) 4))) = true := decide_eq_true c22
                            clear c22
                            (first | rw [c22b0] | (simp only [i64_w, i32_w]; rw [c22b0]) | skip)
                            have H' := Aside0.mk H
                            clear H
                            go_wp2
                            go_meet
                            case rel => exact ⟨_, (true), (by first | rfl | (simp; done) | (simp [*]; done)), H', ⟨by have := HJ1.out; have := HK2.out; first | omega | exact Nat.le_refl _⟩, ⟨by (with_reducible repeat (first | apply Kd.R_alloc | apply Kd.R_drewN | apply Kd.R_drew)); exact HO_4.out⟩, ⟨by (with_reducible repeat (first | refine blk_drewN ?_ _ | refine blk_drew ?_ | refine blk_alloc ?_ _)); exact BK107.out⟩, ⟨by repeat (first | (with_reducible first | exact HB.out | apply below_alloc | apply pw_below_drewN | apply below_drew1 | refine below_set ?_ GE107.out) | exact HB.out)⟩⟩
                          · rw [if_neg c22] at H
                            have c22b0 : decide (1000 < (wrap64 (Int.tdiv (rd l0_0 x5_2) 4))) = false := decide_eq_false c22
                            clear c22
                            (first | rw [c22b0] | (simp only [i64_w, i32_w]; rw [c22b0]) | skip)
                            have H' := Aside0.mk H
                            clear H
                            have hcz23_0 : wr.cell? ⟨gb107, 0, none⟩ = some (.slice (some ad111) l0_0.length c0_0) := (blk_cell BK107.out 0).trans rfl
                            have hcz23_1 : wr.cell? ⟨gb107, 1, none⟩ = some (.int .i64 a0_1) := (blk_cell BK107.out 1).trans rfl
                            have hfz23_0 := blk_frozen BK107.out 0
                            have hfz23_1 := blk_frozen BK107.out 1
                            go_wp2
                            go_meet
                            case rel => exact ⟨_, (decide ((wrap64 ((wrap64 (x5_2 + 1)) + (wrap64 (Int.tdiv (rd l0_0 x5_2) 4)))) > a0_1)), (by first | rfl | (simp; done) | (simp [*]; done)), H', ⟨by have := HJ1.out; have := HK2.out; first | omega | exact Nat.le_refl _⟩, ⟨by (with_reducible repeat (first | apply Kd.R_alloc | apply Kd.R_drewN | apply Kd.R_drew)); exact HO_4.out⟩, ⟨by (with_reducible repeat (first | refine blk_drewN ?_ _ | refine blk_drew ?_ | refine blk_alloc ?_ _)); exact BK107.out⟩, ⟨by repeat (first | (with_reducible first | exact HB.out | apply below_alloc | apply pw_below_drewN | apply below_drew1 | refine below_set ?_ GE107.out) | exact HB.out)⟩⟩
                        case rest =>
                          clear HC20
                          try clear c1
                          try clear p1
                          try clear q1
                          try clear hx1
                          try clear c2
                          try clear p2
                          try clear c4
                          try clear c4b0
                          try clear c4b1
                          try clear c6
                          try clear c6b0
                          try clear p6
                          try clear c9
                          try clear c10
                          try clear c10b0
                          try clear c10b1
                          try clear c11
                          try clear c11b0
                          try clear c11b1
                          try clear p11
                          try clear q11
                          try clear hx11
                          try clear c15
                          try clear c15b0
                          try clear c16
                          try clear c16b0
                          try clear c17
                          try clear c17b0
                          try clear c18
                          try clear c18b0
                          try clear c22
                          try clear c22b0
                          try clear hcz12_0
                          try clear hcz12_1
                          try clear hcz19_0
                          try clear hcz19_1
                          try clear hcz21_0
                          try clear hcz21_1
                          try clear hcz23_0
                          try clear hcz23_1
                          try clear hcz5_0
                          try clear hcz5_1
                          try clear hcz7_0
                          try clear hcz7_1
                          try clear hcz8_0
                          try clear hcz8_1
                          try clear hfz12_0
                          try clear hfz12_1
                          try clear hfz19_0
                          try clear hfz19_1
                          try clear hfz21_0
                          try clear hfz21_1
                          try clear hfz23_0
                          try clear hfz23_1
                          try clear hfz5_0
                          try clear hfz5_1
                          try clear hfz7_0
                          try clear hfz7_1
                          try clear hfz8_0
                          try clear hfz8_1
                          try clear hx111_0
                          try clear p111
                          try clear p2
                          try clear q111
                          obtain ⟨kq, x54_19, rfl, HA, HJ19, HO_4, BK107, HB⟩ := hcut
                          cases kq with
                          | zero => exact absurd HA.out (by simp [spec_l2starts.j2])
                          | succ kj19 =>
                            have H := HA.out
                            clear HA
                            simp only [spec_l2starts.j2] at H
                            by_cases c24 : x54_19 = true
                            · subst c24
                              have H1 : (some (([] : List Bool), false)) = some (r1, r2) := by rw [if_pos rfl] at H; exact H
                              clear H
                              have H := H1
                              clear H1
                              simp only [Option.some.injEq, Prod.mk.injEq] at H
                              obtain ⟨rfl, rfl⟩ := H
                              go_wp2
                              go_ret2
                              exact ⟨_, by first | rfl | (simp [errW_none, errW_some] <;> rfl) | (simp [*, errW_none, errW_some] <;> rfl), by first | exact Kd.R_nil _ _ _ _ _ | exact Kd.N_nil _ _ _ _ _ | exact Kd.V_nil _ _ _ _ _ | exact Kd.Q_nil _ _ _ _ _ | exact Kd.S_nil _ _ _ _ _, by repeat (first | (with_reducible first | exact HB.out | apply below_alloc | apply pw_below_drewN | apply below_drew1 | refine below_set ?_ GE107.out) | exact HB.out)⟩
                            · replace c24 := Bool.eq_false_iff.mpr c24
                              subst c24
                              have H1 : (if (Int.tmod (rd l0_0 x5_2) 4) = 0 then (if (wrap64 (Int.tdiv (rd l0_0 x5_2) 4)) = 2 then (if (Int.tmod (rd l0_0 x5_2) 4) = 3 then (if (wrap64 (Int.tdiv (rd l0_0 x5_2) 4)) = 1 then (if (Int.tmod (rd l0_0 x5_2) 4) = 2 then (spec_l2starts.j3 kj19 x4_2 x5_2 (Int.tmod (rd l0_0 x5_2) 4) (wrap64 (Int.tdiv (rd l0_0 x5_2) 4)) (decide ((wrap64 (Int.tdiv (rd l0_0 x5_2) 4)) < 1)) l0_0 a0_1) else (spec_l2starts.j3 kj19 x4_2 x5_2 (Int.tmod (rd l0_0 x5_2) 4) (wrap64 (Int.tdiv (rd l0_0 x5_2) 4)) false l0_0 a0_1)) else (spec_l2starts.j3 kj19 x4_2 x5_2 (Int.tmod (rd l0_0 x5_2) 4) (wrap64 (Int.tdiv (rd l0_0 x5_2) 4)) true l0_0 a0_1)) else (if (Int.tmod (rd l0_0 x5_2) 4) = 2 then (spec_l2starts.j3 kj19 x4_2 x5_2 (Int.tmod (rd l0_0 x5_2) 4) (wrap64 (Int.tdiv (rd l0_0 x5_2) 4)) (decide ((wrap64 (Int.tdiv (rd l0_0 x5_2) 4)) < 1)) l0_0 a0_1) else (spec_l2starts.j3 kj19 x4_2 x5_2 (Int.tmod (rd l0_0 x5_2) 4) (wrap64 (Int.tdiv (rd l0_0 x5_2) 4)) false l0_0 a0_1))) else (spec_l2starts.j3 kj19 x4_2 x5_2 (Int.tmod (rd l0_0 x5_2) 4) (wrap64 (Int.tdiv (rd l0_0 x5_2) 4)) true l0_0 a0_1)) else (if (Int.tmod (rd l0_0 x5_2) 4) = 3 then (if (wrap64 (Int.tdiv (rd l0_0 x5_2) 4)) = 1 then (if (Int.tmod (rd l0_0 x5_2) 4) = 2 then (spec_l2starts.j3 kj19 x4_2 x5_2 (Int.tmod (rd l0_0 x5_2) 4) (wrap64 (Int.tdiv (rd l0_0 x5_2) 4)) (decide ((wrap64 (Int.tdiv (rd l0_0 x5_2) 4)) < 1)) l0_0 a0_1) else (spec_l2starts.j3 kj19 x4_2 x5_2 (Int.tmod (rd l0_0 x5_2) 4) (wrap64 (Int.tdiv (rd l0_0 x5_2) 4)) false l0_0 a0_1)) else (spec_l2starts.j3 kj19 x4_2 x5_2 (Int.tmod (rd l0_0 x5_2) 4) (wrap64 (Int.tdiv (rd l0_0 x5_2) 4)) true l0_0 a0_1)) else (if (Int.tmod (rd l0_0 x5_2) 4) = 2 then (spec_l2starts.j3 kj19 x4_2 x5_2 (Int.tmod (rd l0_0 x5_2) 4) (wrap64 (Int.tdiv (rd l0_0 x5_2) 4)) (decide ((wrap64 (Int.tdiv (rd l0_0 x5_2) 4)) < 1)) l0_0 a0_1) else (spec_l2starts.j3 kj19 x4_2 x5_2 (Int.tmod (rd l0_0 x5_2) 4) (wrap64 (Int.tdiv (rd l0_0 x5_2) 4)) false l0_0 a0_1)))) = some (r1, r2) := by rw [if_neg (show ¬ (false = true) by decide)] at H; exact H
                              clear H
                              have H := H1
                              clear H1
                              have HC25 := Aside0.mk H
                              clear H
                              go_upto_region 13 with (fail)
                              go_cut [76] (fun v76 wc => ∃ (kq : Nat) (x76_24 : Bool), v76 = .bool x76_24 ∧ Aside0 (spec_l2starts.j3 kq x4_2 x5_2 (Int.tmod (rd l0_0 x5_2) 4) (wrap64 (Int.tdiv (rd l0_0 x5_2) 4)) x76_24 l0_0 a0_1 = some (r1, r2)) ∧ Aside0 (kq ≤ kj19) ∧ Aside0 (Kd.R Kd.bool 4 wc w.heap.size (fun _ => True) v109 x4_2) ∧ Aside0 (wc.heap[gb107]? = some (.cells #[(.slice (some ad111) l0_0.length c0_0), .int .i64 a0_1] 30 (0, 0))) ∧ Aside0 (Below w.heap.size w wc))
                              case first =>
                                have H := HC25.out
                                clear HC25
                                by_cases c26 : (Int.tmod (rd l0_0 x5_2) 4) = 0
                                · rw [if_pos c26] at H
                                  have c26b0 : ((Int.tmod (rd l0_0 x5_2) 4) == 0) = true := beq_iff_eq.mpr c26
                                  have c26b1 : ((Int.tmod (rd l0_0 x5_2) 4) != 0) = false := bne_eq_false_iff_eq.mpr c26
                                  clear c26
                                  (first | rw [c26b0] | (simp only [i64_w, i32_w]; rw [c26b0]) | skip)
                                  by_cases c27 : (wrap64 (Int.tdiv (rd l0_0 x5_2) 4)) = 2
                                  · rw [if_pos c27] at H
                                    have c27b0 : ((wrap64 (Int.tdiv (rd l0_0 x5_2) 4)) == 2) = true := beq_iff_eq.mpr c27
                                    have c27b1 : ((wrap64 (Int.tdiv (rd l0_0 x5_2) 4)) != 2) = false := bne_eq_false_iff_eq.mpr c27
                                    clear c27
                                    by_cases c28 : (Int.tmod (rd l0_0 x5_2) 4) = 3
                                    · rw [if_pos c28] at H
                                      have c28b0 : ((Int.tmod (rd l0_0 x5_2) 4) == 3) = true := beq_iff_eq.mpr c28
                                      have c28b1 : ((Int.tmod (rd l0_0 x5_2) 4) != 3) = false := bne_eq_false_iff_eq.mpr c28
                                      clear c28
                                      by_cases c29 : (wrap64 (Int.tdiv (rd l0_0 x5_2) 4)) = 1
                                      · rw [if_pos c29] at H
                                        have c29b0 : ((wrap64 (Int.tdiv (rd l0_0 x5_2) 4)) == 1) = true := beq_iff_eq.mpr c29
                                        have c29b1 : ((wrap64 (Int.tdiv (rd l0_0 x5_2) 4)) != 1) = false := bne_eq_false_iff_eq.mpr c29
                                        clear c29
                                        by_cases c30 : (Int.tmod (rd l0_0 x5_2) 4) = 2
                                        · rw [if_pos c30] at H
                                          have c30b0 : ((Int.tmod (rd l0_0 x5_2) 4) == 2) = true := beq_iff_eq.mpr c30
                                          have c30b1 : ((Int.tmod (rd l0_0 x5_2) 4) != 2) = false := bne_eq_false_iff_eq.mpr c30
                                          clear c30
                                          have H' := Aside0.mk H
                                          clear H
                                          go_wp2
                                          go_meet
                                          case rel => exact ⟨_, (decide ((wrap64 (Int.tdiv (rd l0_0 x5_2) 4)) < 1)), (by first | rfl | (simp; done) | (simp [*]; done)), H', ⟨by have := HJ1.out; have := HK2.out; have := HJ19.out; first | omega | exact Nat.le_refl _⟩, ⟨by (with_reducible repeat (first | apply Kd.R_alloc | apply Kd.R_drewN | apply Kd.R_drew)); exact HO_4.out⟩, ⟨by (with_reducible repeat (first | refine blk_drewN ?_ _ | refine blk_drew ?_ | refine blk_alloc ?_ _)); exact BK107.out⟩, ⟨by repeat (first | (with_reducible first | exact HB.out | apply below_alloc | apply pw_below_drewN | apply below_drew1 | refine below_set ?_ GE107.out) | exact HB.out)⟩⟩
                                        · rw [if_neg c30] at H
                                          have c30b0 : ((Int.tmod (rd l0_0 x5_2) 4) == 2) = false := beq_eq_false_iff_ne.mpr c30
                                          have c30b1 : ((Int.tmod (rd l0_0 x5_2) 4) != 2) = true := bne_iff_ne.mpr c30
                                          have H' := Aside0.mk H
                                          clear H
                                          go_wp2
                                          go_meet
                                          case rel => exact ⟨_, (false), (by first | rfl | (simp; done) | (simp [*]; done)), H', ⟨by have := HJ1.out; have := HK2.out; have := HJ19.out; first | omega | exact Nat.le_refl _⟩, ⟨by (with_reducible repeat (first | apply Kd.R_alloc | apply Kd.R_drewN | apply Kd.R_drew)); exact HO_4.out⟩, ⟨by (with_reducible repeat (first | refine blk_drewN ?_ _ | refine blk_drew ?_ | refine blk_alloc ?_ _)); exact BK107.out⟩, ⟨by repeat (first | (with_reducible first | exact HB.out | apply below_alloc | apply pw_below_drewN | apply below_drew1 | refine below_set ?_ GE107.out) | exact HB.out)⟩⟩
                                      · rw [if_neg c29] at H
                                        have c29b0 : ((wrap64 (Int.tdiv (rd l0_0 x5_2) 4)) == 1) = false := beq_eq_false_iff_ne.mpr c29
                                        have c29b1 : ((wrap64 (Int.tdiv (rd l0_0 x5_2) 4)) != 1) = true := bne_iff_ne.mpr c29
                                        have H' := Aside0.mk H
                                        clear H
                                        go_wp2
                                        go_meet
                                        case rel => exact ⟨_, (true), (by first | rfl | (simp; done) | (simp [*]; done)), H', ⟨by have := HJ1.out; have := HK2.out; have := HJ19.out; first | omega | exact Nat.le_refl _⟩, ⟨by (with_reducible repeat (first | apply Kd.R_alloc | apply Kd.R_drewN | apply Kd.R_drew)); exact HO_4.out⟩, ⟨by (with_reducible repeat (first | refine blk_drewN ?_ _ | refine blk_drew ?_ | refine blk_alloc ?_ _)); exact BK107.out⟩, ⟨by repeat (first | (with_reducible first | exact HB.out | apply below_alloc | apply pw_below_drewN | apply below_drew1 | refine below_set ?_ GE107.out) | exact HB.out)⟩⟩
                                    · rw [if_neg c28] at H
                                      have c28b0 : ((Int.tmod (rd l0_0 x5_2) 4) == 3) = false := beq_eq_false_iff_ne.mpr c28
                                      have c28b1 : ((Int.tmod (rd l0_0 x5_2) 4) != 3) = true := bne_iff_ne.mpr c28
                                      by_cases c31 : (Int.tmod (rd l0_0 x5_2) 4) = 2
                                      · rw [if_pos c31] at H
                                        have c31b0 : ((Int.tmod (rd l0_0 x5_2) 4) == 2) = true := beq_iff_eq.mpr c31
                                        have c31b1 : ((Int.tmod (rd l0_0 x5_2) 4) != 2) = false := bne_eq_false_iff_eq.mpr c31
                                        clear c31
                                        have H' := Aside0.mk H
                                        clear H
                                        go_wp2
                                        go_meet
                                        case rel => exact ⟨_, (decide ((wrap64 (Int.tdiv (rd l0_0 x5_2) 4)) < 1)), (by first | rfl | (simp; done) | (simp [*]; done)), H', ⟨by have := HJ1.out; have := HK2.out; have := HJ19.out; first | omega | exact Nat.le_refl _⟩, ⟨by (with_reducible repeat (first | apply Kd.R_alloc | apply Kd.R_drewN | apply Kd.R_drew)); exact HO_4.out⟩, ⟨by (with_reducible repeat (first | refine blk_drewN ?_ _ | refine blk_drew ?_ | refine blk_alloc ?_ _)); exact BK107.out⟩, ⟨by repeat (first | (with_reducible first | exact HB.out | apply below_alloc | apply pw_below_drewN | apply below_drew1 | refine below_set ?_ GE107.out) | exact HB.out)⟩⟩
                                      · rw [if_neg c31] at H
                                        have c31b0 : ((Int.tmod (rd l0_0 x5_2) 4) == 2) = false := beq_eq_false_iff_ne.mpr c31
                                        have c31b1 : ((Int.tmod (rd l0_0 x5_2) 4) != 2) = true := bne_iff_ne.mpr c31
                                        have H' := Aside0.mk H
                                        clear H
                                        go_wp2
                                        go_meet
                                        case rel => exact ⟨_, (false), (by first | rfl | (simp; done) | (simp [*]; done)), H', ⟨by have := HJ1.out; have := HK2.out; have := HJ19.out; first | omega | exact Nat.le_refl _⟩, ⟨by (with_reducible repeat (first | apply Kd.R_alloc | apply Kd.R_drewN | apply Kd.R_drew)); exact HO_4.out⟩, ⟨by (with_reducible repeat (first | refine blk_drewN ?_ _ | refine blk_drew ?_ | refine blk_alloc ?_ _)); exact BK107.out⟩, ⟨by repeat (first | (with_reducible first | exact HB.out | apply below_alloc | apply pw_below_drewN | apply below_drew1 | refine below_set ?_ GE107.out) | exact HB.out)⟩⟩
                                  · rw [if_neg c27] at H
                                    have c27b0 : ((wrap64 (Int.tdiv (rd l0_0 x5_2) 4)) == 2) = false := beq_eq_false_iff_ne.mpr c27
                                    have c27b1 : ((wrap64 (Int.tdiv (rd l0_0 x5_2) 4)) != 2) = true := bne_iff_ne.mpr c27
                                    have H' := Aside0.mk H
                                    clear H
                                    go_wp2
                                    go_meet
                                    case rel => exact ⟨_, (true), (by first | rfl | (simp; done) | (simp [*]; done)), H', ⟨by have := HJ1.out; have := HK2.out; have := HJ19.out; first | omega | exact Nat.le_refl _⟩, ⟨by (with_reducible repeat (first | apply Kd.R_alloc | apply Kd.R_drewN | apply Kd.R_drew)); exact HO_4.out⟩, ⟨by (with_reducible repeat (first | refine blk_drewN ?_ _ | refine blk_drew ?_ | refine blk_alloc ?_ _)); exact BK107.out⟩, ⟨by repeat (first | (with_reducible first | exact HB.out | apply below_alloc | apply pw_below_drewN | apply below_drew1 | refine below_set ?_ GE107.out) | exact HB.out)⟩⟩
                                · rw [if_neg c26] at H
                                  have c26b0 : ((Int.tmod (rd l0_0 x5_2) 4) == 0) = false := beq_eq_false_iff_ne.mpr c26
                                  have c26b1 : ((Int.tmod (rd l0_0 x5_2) 4) != 0) = true := bne_iff_ne.mpr c26
                                  (first | rw [c26b0] | (simp only [i64_w, i32_w]; rw [c26b0]) | skip)
                                  by_cases c32 : (Int.tmod (rd l0_0 x5_2) 4) = 3
                                  · rw [if_pos c32] at H
                                    have c32b0 : ((Int.tmod (rd l0_0 x5_2) 4) == 3) = true := beq_iff_eq.mpr c32
                                    have c32b1 : ((Int.tmod (rd l0_0 x5_2) 4) != 3) = false := bne_eq_false_iff_eq.mpr c32
                                    clear c32
                                    by_cases c33 : (wrap64 (Int.tdiv (rd l0_0 x5_2) 4)) = 1
                                    · rw [if_pos c33] at H
                                      have c33b0 : ((wrap64 (Int.tdiv (rd l0_0 x5_2) 4)) == 1) = true := beq_iff_eq.mpr c33
                                      have c33b1 : ((wrap64 (Int.tdiv (rd l0_0 x5_2) 4)) != 1) = false := bne_eq_false_iff_eq.mpr c33
                                      clear c33
                                      by_cases c34 : (Int.tmod (rd l0_0 x5_2) 4) = 2
                                      · rw [if_pos c34] at H
                                        have c34b0 : ((Int.tmod (rd l0_0 x5_2) 4) == 2) = true := beq_iff_eq.mpr c34
                                        have c34b1 : ((Int.tmod (rd l0_0 x5_2) 4) != 2) = false := bne_eq_false_iff_eq.mpr c34
                                        clear c34
                                        have H' := Aside0.mk H
                                        clear H
                                        go_wp2
                                        go_meet
                                        case rel => exact ⟨_, (decide ((wrap64 (Int.tdiv (rd l0_0 x5_2) 4)) < 1)), (by first | rfl | (simp; done) | (simp [*]; done)), H', ⟨by have := HJ1.out; have := HK2.out; have := HJ19.out; first | omega | exact Nat.le_refl _⟩, ⟨by (with_reducible repeat (first | apply Kd.R_alloc | apply Kd.R_drewN | apply Kd.R_drew)); exact HO_4.out⟩, ⟨by (with_reducible repeat (first | refine blk_drewN ?_ _ | refine blk_drew ?_ | refine blk_alloc ?_ _)); exact BK107.out⟩, ⟨by repeat (first | (with_reducible first | exact HB.out | apply below_alloc | apply pw_below_drewN | apply below_drew1 | refine below_set ?_ GE107.out) | exact HB.out)⟩⟩
                                      · rw [if_neg c34] at H
                                        have c34b0 : ((Int.tmod (rd l0_0 x5_2) 4) == 2) = false := beq_eq_false_iff_ne.mpr c34
                                        have c34b1 : ((Int.tmod (rd l0_0 x5_2) 4) != 2) = true := bne_iff_ne.mpr c34
                                        have H' := Aside0.mk H
                                        clear H
                                        go_wp2
                                        go_meet
                                        case rel => exact ⟨_, (false), (by first | rfl | (simp; done) | (simp [*]; done)), H', ⟨by have := HJ1.out; have := HK2.out; have := HJ19.out; first | omega | exact Nat.le_refl _⟩, ⟨by (with_reducible repeat (first | apply Kd.R_alloc | apply Kd.R_drewN | apply Kd.R_drew)); exact HO_4.out⟩, ⟨by (with_reducible repeat (first | refine blk_drewN ?_ _ | refine blk_drew ?_ | refine blk_alloc ?_ _)); exact BK107.out⟩, ⟨by repeat (first | (with_reducible first | exact HB.out | apply below_alloc | apply pw_below_drewN | apply below_drew1 | refine below_set ?_ GE107.out) | exact HB.out)⟩⟩
                                    · rw [if_neg c33] at H
                                      have c33b0 : ((wrap64 (Int.tdiv (rd l0_0 x5_2) 4)) == 1) = false := beq_eq_false_iff_ne.mpr c33
                                      have c33b1 : ((wrap64 (Int.tdiv (rd l0_0 x5_2) 4)) != 1) = true := bne_iff_ne.mpr c33
                                      have H' := Aside0.mk H
                                      clear H
                                      go_wp2
                                      go_meet
                                      case rel => exact ⟨_, (true), (by first | rfl | (simp; done) | (simp [*]; done)), H', ⟨by have := HJ1.out; have := HK2.out; have := HJ19.out; first | omega | exact Nat.le_refl _⟩, ⟨by (with_reducible repeat (first | apply Kd.R_alloc | apply Kd.R_drewN | apply Kd.R_drew)); exact HO_4.out⟩, ⟨by (with_reducible repeat (first | refine blk_drewN ?_ _ | refine blk_drew ?_ | refine blk_alloc ?_ _)); exact BK107.out⟩, ⟨by repeat (first | (with_reducible first | exact HB.out | apply below_alloc | apply pw_below_drewN | apply below_drew1 | refine below_set ?_ GE107.out) | exact HB.out)⟩⟩
                                  · rw [if_neg c32] at H
                                    have c32b0 : ((Int.tmod (rd l0_0 x5_2) 4) == 3) = false := beq_eq_false_iff_ne.mpr c32
                                    have c32b1 : ((Int.tmod (rd l0_0 x5_2) 4) != 3) = true := bne_iff_ne.mpr c32
                                    by_cases c35 : (Int.tmod (rd l0_0 x5_2) 4) = 2
                                    · rw [if_pos c35] at H
                                      have c35b0 : ((Int.tmod (rd l0_0 x5_2) 4) == 2) = true := beq_iff_eq.mpr c35
                                      have c35b1 : ((Int.tmod (rd l0_0 x5_2) 4) != 2) = false := bne_eq_false_iff_eq.mpr c35
                                      clear c35
                                      have H' := Aside0.mk H
                                      clear H
                                      go_wp2
                                      go_meet
                                      case rel => exact ⟨_, (decide ((wrap64 (Int.tdiv (rd l0_0 x5_2) 4)) < 1)), (by first | rfl | (simp; done) | (simp [*]; done)), H', ⟨by have := HJ1.out; have := HK2.out; have := HJ19.out; first | omega | exact Nat.le_refl _⟩, ⟨by (with_reducible repeat (first | apply Kd.R_alloc | apply Kd.R_drewN | apply Kd.R_drew)); exact HO_4.out⟩, ⟨by (with_reducible repeat (first | refine blk_drewN ?_ _ | refine blk_drew ?_ | refine blk_alloc ?_ _)); exact BK107.out⟩, ⟨by repeat (first | (with_reducible first | exact HB.out | apply below_alloc | apply pw_below_drewN | apply below_drew1 | refine below_set ?_ GE107.out) | exact HB.out)⟩⟩
                                    · rw [if_neg c35] at H
                                      have c35b0 : ((Int.tmod (rd l0_0 x5_2) 4) == 2) = false := beq_eq_false_iff_ne.mpr c35
                                      have c35b1 : ((Int.tmod (rd l0_0 x5_2) 4) != 2) = true := bne_iff_ne.mpr c35
                                      have H' := Aside0.mk H
                                      clear H
                                      go_wp2
                                      go_meet
                                      case rel => exact ⟨_, (false), (by first | rfl | (simp; done) | (simp [*]; done)), H', ⟨by have := HJ1.out; have := HK2.out; have := HJ19.out; first | omega | exact Nat.le_refl _⟩, ⟨by (with_reducible repeat (first | apply Kd.R_alloc | apply Kd.R_drewN | apply Kd.R_drew)); exact HO_4.out⟩, ⟨by (with_reducible repeat (first | refine blk_drewN ?_ _ | refine blk_drew ?_ | refine blk_alloc ?_ _)); exact BK107.out⟩, ⟨by repeat (first | (with_reducible first | exact HB.out | apply below_alloc | apply pw_below_drewN | apply below_drew1 | refine below_set ?_ GE107.out) | exact HB.out)⟩⟩
                              case rest =>
                                clear HC25
                                try clear c1
                                try clear p1
                                try clear q1
                                try clear hx1
                                try clear c2
                                try clear p2
                                try clear c3
                                try clear c4
                                try clear c4b0
                                try clear c4b1
                                try clear c6
                                try clear c6b0
                                try clear p6
                                try clear c9
                                try clear c10
                                try clear c10b0
                                try clear c10b1
                                try clear c11
                                try clear c11b0
                                try clear c11b1
                                try clear p11
                                try clear q11
                                try clear hx11
                                try clear c15
                                try clear c15b0
                                try clear c16
                                try clear c16b0
                                try clear c17
                                try clear c17b0
                                try clear c18
                                try clear c18b0
                                try clear c22
                                try clear c22b0
                                try clear c24
                                try clear c26
                                try clear c26b0
                                try clear c26b1
                                try clear c27
                                try clear c27b0
                                try clear c27b1
                                try clear c28
                                try clear c28b0
                                try clear c28b1
                                try clear c29
                                try clear c29b0
                                try clear c29b1
                                try clear c30
                                try clear c30b0
                                try clear c30b1
                                try clear c31
                                try clear c31b0
                                try clear c31b1
                                try clear c32
                                try clear c32b0
                                try clear c32b1
                                try clear c33
                                try clear c33b0
                                try clear c33b1
                                try clear c34
                                try clear c34b0
                                try clear c34b1
                                try clear c35
                                try clear c35b0
                                try clear c35b1
                                try clear hcz12_0
                                try clear hcz12_1
                                try clear hcz19_0
                                try clear hcz19_1
                                try clear hcz21_0
                                try clear hcz21_1
                                try clear hcz23_0
                                try clear hcz23_1
                                try clear hcz5_0
                                try clear hcz5_1
                                try clear hcz7_0
                                try clear hcz7_1
                                try clear hcz8_0
                                try clear hcz8_1
                                try clear hfz12_0
                                try clear hfz12_1
                                try clear hfz19_0
                                try clear hfz19_1
                                try clear hfz21_0
                                try clear hfz21_1
                                try clear hfz23_0
                                try clear hfz23_1
                                try clear hfz5_0
                                try clear hfz5_1
                                try clear hfz7_0
                                try clear hfz7_1
                                try clear hfz8_0
                                try clear hfz8_1
                                try clear hx111_0
                                try clear p1
                                try clear p11
                                try clear p111
                                try clear p2
                                try clear p6
                                try clear q1
                                try clear q11
                                try clear q111
                                obtain ⟨kq, x76_24, rfl, HA, HJ24, HO_4, BK107, HB⟩ := hcut
                                cases kq with
                                | zero => exact absurd HA.out (by simp [spec_l2starts.j3])
                                | succ kj24 =>
                                  have H := HA.out
                                  clear HA
                                  simp only [spec_l2starts.j3] at H
                                  by_cases c36 : x76_24 = true
                                  · subst c36
                                    have H1 : (some (([] : List Bool), false)) = some (r1, r2) := by rw [if_pos rfl] at H; exact H
                                    clear H
                                    have H := H1
                                    clear H1
                                    simp only [Option.some.injEq, Prod.mk.injEq] at H
                                    obtain ⟨rfl, rfl⟩ := H
                                    go_wp2
                                    go_ret2
                                    exact ⟨_, by first | rfl | (simp [errW_none, errW_some] <;> rfl) | (simp [*, errW_none, errW_some] <;> rfl), by first | exact Kd.R_nil _ _ _ _ _ | exact Kd.N_nil _ _ _ _ _ | exact Kd.V_nil _ _ _ _ _ | exact Kd.Q_nil _ _ _ _ _ | exact Kd.S_nil _ _ _ _ _, by repeat (first | (with_reducible first | exact HB.out | apply below_alloc | apply pw_below_drewN | apply below_drew1 | refine below_set ?_ GE107.out) | exact HB.out)⟩
                                  · replace c36 := Bool.eq_false_iff.mpr c36
                                    subst c36
                                    have H1 : (if (Int.tmod (rd l0_0 x5_2) 4) = 2 then (if 0 ≤ (wrap64 (x5_2 + 1)) then (if (wrap64 (x5_2 + 1)) < (l0_0.length : Int) then (if (rd l0_0 (wrap64 (x5_2 + 1))) < 0 then (some (([] : List Bool), false)) else (if (Int.tmod (rd l0_0 (wrap64 (x5_2 + 1))) 4) = 0 then (if 0 ≤ x5_2 then (if x5_2 < (x4_2.length : Int) then (spec_l2starts.l0 kj24 (x4_2.set (x5_2 : Int).toNat true) (wrap64 (x5_2 + (wrap64 (1 + (wrap64 (Int.tdiv (rd l0_0 x5_2) 4)))))) l0_0 a0_1) else (none)) else (none)) else (some (([] : List Bool), false)))) else (none)) else (none)) else (if 0 ≤ x5_2 then (if x5_2 < (x4_2.length : Int) then (spec_l2starts.l0 kj24 (x4_2.set (x5_2 : Int).toNat true) (wrap64 (x5_2 + (wrap64 (1 + (wrap64 (Int.tdiv (rd l0_0 x5_2) 4)))))) l0_0 a0_1) else (none)) else (none))) = some (r1, r2) := by rw [if_neg (show ¬ (false = true) by decide)] at H; exact H
                                    clear H
                                    have H := H1
                                    clear H1
                                    by_cases c37 : (Int.tmod (rd l0_0 x5_2) 4) = 2
                                    · rw [if_pos c37] at H
                                      have c37b0 : ((Int.tmod (rd l0_0 x5_2) 4) == 2) = true := beq_iff_eq.mpr c37
                                      have c37b1 : ((Int.tmod (rd l0_0 x5_2) 4) != 2) = false := bne_eq_false_iff_eq.mpr c37
                                      clear c37
                                      obtain ⟨ji38, hji38⟩ : ∃ j_ : Int, (wrap64 (x5_2 + 1)) = j_ := ⟨_, rfl⟩
                                      replace H : (if 0 ≤ (ji38) then (if (ji38) < (l0_0.length : Int) then (if (rd l0_0 (ji38)) < 0 then (some (([] : List Bool), false)) else (if (Int.tmod (rd l0_0 (ji38)) 4) = 0 then (if 0 ≤ x5_2 then (if x5_2 < (x4_2.length : Int) then (spec_l2starts.l0 kj24 (x4_2.set (x5_2 : Int).toNat true) (wrap64 (x5_2 + (wrap64 (1 + (wrap64 (Int.tdiv (rd l0_0 x5_2) 4)))))) l0_0 a0_1) else (none)) else (none)) else (some (([] : List Bool), false)))) else (none)) else (none)) = some (r1, r2) := by first | (rw [hji38] at H; exact H) | (simp only [hji38] at H ⊢; exact H)
                                      have hji38w : (IntKind.i64.wrap (x5_2 + 1)) = ji38 := (i64_w _).trans hji38
                                      by_cases c39 : 0 ≤ (ji38)
                                      · rw [if_pos c39] at H
                                        have c39b0 : decide (0 ≤ (ji38)) = true := decide_eq_true c39
                                        clear c39
                                        by_cases c40 : (ji38) < (l0_0.length : Int)
                                        · rw [if_pos c40] at H
                                          have c40b0 : decide ((ji38) < (l0_0.length : Int)) = true := decide_eq_true c40
                                          clear c40
                                          by_cases c41 : (rd l0_0 (ji38)) < 0
                                          · rw [if_pos c41] at H
                                            have c41b0 : decide ((rd l0_0 (ji38)) < 0) = true := decide_eq_true c41
                                            clear c41
                                            simp only [Option.some.injEq, Prod.mk.injEq] at H
                                            obtain ⟨rfl, rfl⟩ := H
                                            have hcz42_0 : wc.cell? ⟨gb107, 0, none⟩ = some (.slice (some ad111) l0_0.length c0_0) := (blk_cell BK107.out 0).trans rfl
                                            have hcz42_1 : wc.cell? ⟨gb107, 1, none⟩ = some (.int .i64 a0_1) := (blk_cell BK107.out 1).trans rfl
                                            have hfz42_0 := blk_frozen BK107.out 0
                                            have hfz42_1 := blk_frozen BK107.out 1
                                            have p112 : 0 ≤ ((ji38) : Int) := of_decide_eq_true (by first | (with_reducible assumption) | assumption)
                                            have q112 : (ji38) < (l0_0.length : Int) := of_decide_eq_true (by first | (with_reducible assumption) | assumption)
                                            obtain ⟨ad112, e112, hx112_0⟩ := Kd.at_int HR0_0.out (ji38) p112 q112
                                            obtain rfl : ad111 = ad112 := (by injection e112)
                                            replace hx112_0 := (HB.out.cell (World.block_lt_of_cell? w _ hx112_0)).trans hx112_0
                                            replace p112 := eq_true p112
                                            replace q112 := eq_true q112
                                            go_wp2
                                            go_ret2
                                            exact ⟨_, by first | rfl | (simp [errW_none, errW_some] <;> rfl) | (simp only [← hji38]; first | rfl | (simp [errW_none, errW_some] <;> rfl)) | (simp [*, errW_none, errW_some] <;> rfl), by first | exact Kd.R_nil _ _ _ _ _ | exact Kd.N_nil _ _ _ _ _ | exact Kd.V_nil _ _ _ _ _ | exact Kd.Q_nil _ _ _ _ _ | exact Kd.S_nil _ _ _ _ _, by repeat (first | (with_reducible first | exact HB.out | apply below_alloc | apply pw_below_drewN | apply below_drew1 | refine below_set ?_ GE107.out) | exact HB.out)⟩
                                          · rw [if_neg c41] at H
                                            have c41b0 : decide ((rd l0_0 (ji38)) < 0) = false := decide_eq_false c41
                                            clear c41
                                            by_cases c43 : (Int.tmod (rd l0_0 (ji38)) 4) = 0
                                            · rw [if_pos c43] at H
                                              have c43b0 : ((Int.tmod (rd l0_0 (ji38)) 4) == 0) = true := beq_iff_eq.mpr c43
                                              have c43b1 : ((Int.tmod (rd l0_0 (ji38)) 4) != 0) = false := bne_eq_false_iff_eq.mpr c43
                                              clear c43
                                              by_cases c44 : 0 ≤ x5_2
                                              · rw [if_pos c44] at H
                                                have c44b0 : decide (0 ≤ x5_2) = true := decide_eq_true c44
                                                clear c44
                                                by_cases c45 : x5_2 < (x4_2.length : Int)
                                                · rw [if_pos c45] at H
                                                  have c45b0 : decide (x5_2 < (x4_2.length : Int)) = true := decide_eq_true c45
                                                  clear c45
                                                  obtain ⟨y114, hy114⟩ : ∃ y_ : List Bool, y_ = (x4_2.set (x5_2 : Int).toNat true) := ⟨_, rfl⟩
                                                  replace H : (spec_l2starts.l0 kj24 y114 (wrap64 (x5_2 + (wrap64 (1 + (wrap64 (Int.tdiv (rd l0_0 x5_2) 4)))))) l0_0 a0_1) = some (r1, r2) := by first | (rw [hy114]; with_reducible exact H) | (have H2_ := (Option.bind_some _ _).symm.trans H; rw [hy114]; with_reducible exact H2_) | (have H2_ := (Option.bind_some _ _).symm.trans H; with_reducible exact H2_) | with_reducible exact H | (rw [hy114]; exact H) | exact H
                                                  have Ny114 := Aside0.mk hy114
                                                  clear hy114
                                                  have H' := Aside0.mk H
                                                  clear H
                                                  have hcz47_0 : wc.cell? ⟨gb107, 0, none⟩ = some (.slice (some ad111) l0_0.length c0_0) := (blk_cell BK107.out 0).trans rfl
                                                  have hcz47_1 : wc.cell? ⟨gb107, 1, none⟩ = some (.int .i64 a0_1) := (blk_cell BK107.out 1).trans rfl
                                                  have hfz47_0 := blk_frozen BK107.out 0
                                                  have hfz47_1 := blk_frozen BK107.out 1
                                                  have p112 : 0 ≤ ((ji38) : Int) := of_decide_eq_true (by first | (with_reducible assumption) | assumption)
                                                  have q112 : (ji38) < (l0_0.length : Int) := of_decide_eq_true (by first | (with_reducible assumption) | assumption)
                                                  obtain ⟨ad112, e112, hx112_0⟩ := Kd.at_int HR0_0.out (ji38) p112 q112
                                                  obtain rfl : ad111 = ad112 := (by injection e112)
                                                  replace hx112_0 := (HB.out.cell (World.block_lt_of_cell? w _ hx112_0)).trans hx112_0
                                                  replace p112 := eq_true p112
                                                  replace q112 := eq_true q112
                                                  have p113 : 0 ≤ ((ji38) : Int) := of_decide_eq_true (by first | (with_reducible assumption) | assumption)
                                                  have q113 : (ji38) < (l0_0.length : Int) := of_decide_eq_true (by first | (with_reducible assumption) | assumption)
                                                  obtain ⟨ad113, e113, hx113_0⟩ := Kd.at_int HR0_0.out (ji38) p113 q113
                                                  obtain rfl : ad111 = ad113 := (by injection e113)
                                                  replace hx113_0 := (HB.out.cell (World.block_lt_of_cell? w _ hx113_0)).trans hx113_0
                                                  replace p113 := eq_true p113
                                                  replace q113 := eq_true q113
                                                  have p46 : 0 ≤ (x5_2 : Int) := of_decide_eq_true (by first | (with_reducible assumption) | assumption)
                                                  have q46 : (x5_2 : Int) < ((x4_2.length : Int) : Int) := of_decide_eq_true (by first | (with_reducible assumption) | assumption)
                                                  obtain ⟨go46, co46, eo46, gb46, gl46, cl46, HG46⟩ := Kd.R_form HO_4.out (by omega)
                                                  (first | cases eo46 | (injection eo46 with ea_ en_ ec_; (first | subst ea_ | (injection ea_ with ea_; subst ea_)); subst ec_; clear en_))
                                                  have GB46 := Aside0.mk gb46
                                                  have GG46 := Aside0.mk HG46
                                                  clear gb46 gl46 HG46
                                                  obtain ⟨hx46_0, hf46_0⟩ := Kd.R_celln false HO_4.out (x5_2 : Int) p46 q46
                                                  replace p46 := eq_true p46
                                                  replace q46 := eq_true q46
                                                  have HP48 := Kd.R_putg HO_4.out (x5_2 : Int) true
                                                  go_wp2_with (first | ((with_reducible refine gate_store (t := 4) (p := 100) rfl ?_); refine store_event (t := 4) (p := 100) (v := ?vo_w49) (w1 := (wc.setCell ⟨go46, (x5_2 : Int).toNat, none⟩ (.bool true))) ?hg ?ho ?hn ?hr ?_; (case ho => rfl); (case hg => rfl); (case hn => rfl); (case hr => first | (go_simp; done) | (go_simp; rfl)); intro w49 hw; have hg : wc.grownBy w49 (some go46) := (by rw [hw]; exact HP48.2); have hp_ : Kd.R Kd.bool 4 w49 w.heap.size (fun _ => True) (.slice (some ⟨go46, 0, none⟩) x4_2.length co46) y114 := (by rw [hw, Ny114.out]; exact HP48.1); clear HP48; have n0_ := Aside0.mk (hp_); have n1_ := Aside0.mk (blk_grown (g := gb107) (o := .cells #[.slice (some ad111) l0_0.length c0_0, .int .i64 a0_1] 30 (0, 0)) (by (with_reducible repeat (first | refine blk_drewN ?_ _ | refine blk_drew ?_ | refine blk_alloc ?_ _)); exact BK107.out) hg (Kd.R_ne HO_4.out BK107.out (by decide))); have n2_ := Aside0.mk ((by rw [hw]; exact below_set (HB.out) GB46.out : Below w.heap.size w w49)); clear HO_4; clear BK107; clear HB; have HO_4 := n0_; have BK107 := n1_; have HB := n2_; clear n0_ n1_ n2_; clear hg hw hp_))
                                                  go_roundg kj24
                                                  case measure => have := HJ1.out; have := HK2.out; have := HJ19.out; have := HJ24.out; omega
                                                  case rel => exact ⟨(y114), (wrap64 (x5_2 + (wrap64 (1 + (wrap64 (Int.tdiv (rd l0_0 x5_2) 4)))))), (by first | rfl | (simp; done) | (simp [*]; done)), H', ⟨by have := HJ1.out; have := HK2.out; have := HJ19.out; have := HJ24.out; omega⟩, ⟨by (with_reducible repeat (first | apply Kd.R_alloc | apply Kd.R_drewN | apply Kd.R_drew)); exact HO_4.out⟩, ⟨by (with_reducible repeat (first | refine blk_drewN ?_ _ | refine blk_drew ?_ | refine blk_alloc ?_ _)); exact BK107.out⟩, ⟨by repeat (first | (with_reducible first | exact HB.out | apply below_alloc | apply pw_below_drewN | apply below_drew1 | refine below_set ?_ GE107.out) | exact HB.out)⟩⟩
                                                · rw [if_neg c45] at H
                                                  exact absurd H (by simp)
                                              · rw [if_neg c44] at H
                                                exact absurd H (by simp)
                                            · rw [if_neg c43] at H
                                              have c43b0 : ((Int.tmod (rd l0_0 (ji38)) 4) == 0) = false := beq_eq_false_iff_ne.mpr c43
                                              have c43b1 : ((Int.tmod (rd l0_0 (ji38)) 4) != 0) = true := bne_iff_ne.mpr c43
                                              simp only [Option.some.injEq, Prod.mk.injEq] at H
                                              obtain ⟨rfl, rfl⟩ := H
                                              have hcz50_0 : wc.cell? ⟨gb107, 0, none⟩ = some (.slice (some ad111) l0_0.length c0_0) := (blk_cell BK107.out 0).trans rfl
                                              have hcz50_1 : wc.cell? ⟨gb107, 1, none⟩ = some (.int .i64 a0_1) := (blk_cell BK107.out 1).trans rfl
                                              have hfz50_0 := blk_frozen BK107.out 0
                                              have hfz50_1 := blk_frozen BK107.out 1
                                              have p112 : 0 ≤ ((ji38) : Int) := of_decide_eq_true (by first | (with_reducible assumption) | assumption)
                                              have q112 : (ji38) < (l0_0.length : Int) := of_decide_eq_true (by first | (with_reducible assumption) | assumption)
                                              obtain ⟨ad112, e112, hx112_0⟩ := Kd.at_int HR0_0.out (ji38) p112 q112
                                              obtain rfl : ad111 = ad112 := (by injection e112)
                                              replace hx112_0 := (HB.out.cell (World.block_lt_of_cell? w _ hx112_0)).trans hx112_0
                                              replace p112 := eq_true p112
                                              replace q112 := eq_true q112
                                              have p113 : 0 ≤ ((ji38) : Int) := of_decide_eq_true (by first | (with_reducible assumption) | assumption)
                                              have q113 : (ji38) < (l0_0.length : Int) := of_decide_eq_true (by first | (with_reducible assumption) | assumption)
                                              obtain ⟨ad113, e113, hx113_0⟩ := Kd.at_int HR0_0.out (ji38) p113 q113
                                              obtain rfl : ad111 = ad113 := (by injection e113)
                                              replace hx113_0 := (HB.out.cell (World.block_lt_of_cell? w _ hx113_0)).trans hx113_0
                                              replace p113 := eq_true p113
                                              replace q113 := eq_true q113
                                              go_wp2
                                              go_ret2
                                              exact ⟨_, by first | rfl | (simp [errW_none, errW_some] <;> rfl) | (simp only [← hji38]; first | rfl | (simp [errW_none, errW_some] <;> rfl)) | (simp [*, errW_none, errW_some] <;> rfl), by first | exact Kd.R_nil _ _ _ _ _ | exact Kd.N_nil _ _ _ _ _ | exact Kd.V_nil _ _ _ _ _ | exact Kd.Q_nil _ _ _ _ _ | exact Kd.S_nil _ _ _ _ _, by repeat (first | (with_reducible first | exact HB.out | apply below_alloc | apply pw_below_drewN | apply below_drew1 | refine below_set ?_ GE107.out) | exact HB.out)⟩
                                        · rw [if_neg c40] at H
                                          exact absurd H (by simp)
                                      · rw [if_neg c39] at H
                                        exact absurd H (by simp)
                                    · rw [if_neg c37] at H
                                      have c37b0 : ((Int.tmod (rd l0_0 x5_2) 4) == 2) = false := beq_eq_false_iff_ne.mpr c37
                                      have c37b1 : ((Int.tmod (rd l0_0 x5_2) 4) != 2) = true := bne_iff_ne.mpr c37
                                      by_cases c51 : 0 ≤ x5_2
                                      · rw [if_pos c51] at H
                                        have c51b0 : decide (0 ≤ x5_2) = true := decide_eq_true c51
                                        clear c51
                                        by_cases c52 : x5_2 < (x4_2.length : Int)
                                        · rw [if_pos c52] at H
                                          have c52b0 : decide (x5_2 < (x4_2.length : Int)) = true := decide_eq_true c52
                                          clear c52
                                          obtain ⟨y115, hy115⟩ : ∃ y_ : List Bool, y_ = (x4_2.set (x5_2 : Int).toNat true) := ⟨_, rfl⟩
                                          replace H : (spec_l2starts.l0 kj24 y115 (wrap64 (x5_2 + (wrap64 (1 + (wrap64 (Int.tdiv (rd l0_0 x5_2) 4)))))) l0_0 a0_1) = some (r1, r2) := by first | (rw [hy115]; with_reducible exact H) | (have H2_ := (Option.bind_some _ _).symm.trans H; rw [hy115]; with_reducible exact H2_) | (have H2_ := (Option.bind_some _ _).symm.trans H; with_reducible exact H2_) | with_reducible exact H | (rw [hy115]; exact H) | exact H
                                          have Ny115 := Aside0.mk hy115
                                          clear hy115
                                          have H' := Aside0.mk H
                                          clear H
                                          have p53 : 0 ≤ (x5_2 : Int) := of_decide_eq_true (by first | (with_reducible assumption) | assumption)
                                          have q53 : (x5_2 : Int) < ((x4_2.length : Int) : Int) := of_decide_eq_true (by first | (with_reducible assumption) | assumption)
                                          obtain ⟨go53, co53, eo53, gb53, gl53, cl53, HG53⟩ := Kd.R_form HO_4.out (by omega)
                                          (first | cases eo53 | (injection eo53 with ea_ en_ ec_; (first | subst ea_ | (injection ea_ with ea_; subst ea_)); subst ec_; clear en_))
                                          have GB53 := Aside0.mk gb53
                                          have GG53 := Aside0.mk HG53
                                          clear gb53 gl53 HG53
                                          obtain ⟨hx53_0, hf53_0⟩ := Kd.R_celln false HO_4.out (x5_2 : Int) p53 q53
                                          replace p53 := eq_true p53
                                          replace q53 := eq_true q53
                                          have HP54 := Kd.R_putg HO_4.out (x5_2 : Int) true
                                          go_wp2_with (first | ((with_reducible refine gate_store (t := 4) (p := 100) rfl ?_); refine store_event (t := 4) (p := 100) (v := ?vo_w55) (w1 := (wc.setCell ⟨go53, (x5_2 : Int).toNat, none⟩ (.bool true))) ?hg ?ho ?hn ?hr ?_; (case ho => rfl); (case hg => rfl); (case hn => rfl); (case hr => first | (go_simp; done) | (go_simp; rfl)); intro w55 hw; have hg : wc.grownBy w55 (some go53) := (by rw [hw]; exact HP54.2); have hp_ : Kd.R Kd.bool 4 w55 w.heap.size (fun _ => True) (.slice (some ⟨go53, 0, none⟩) x4_2.length co53) y115 := (by rw [hw, Ny115.out]; exact HP54.1); clear HP54; have n0_ := Aside0.mk (hp_); have n1_ := Aside0.mk (blk_grown (g := gb107) (o := .cells #[.slice (some ad111) l0_0.length c0_0, .int .i64 a0_1] 30 (0, 0)) (by (with_reducible repeat (first | refine blk_drewN ?_ _ | refine blk_drew ?_ | refine blk_alloc ?_ _)); exact BK107.out) hg (Kd.R_ne HO_4.out BK107.out (by decide))); have n2_ := Aside0.mk ((by rw [hw]; exact below_set (HB.out) GB53.out : Below w.heap.size w w55)); clear HO_4; clear BK107; clear HB; have HO_4 := n0_; have BK107 := n1_; have HB := n2_; clear n0_ n1_ n2_; clear hg hw hp_))
                                          go_roundg kj24
                                          case measure => have := HJ1.out; have := HK2.out; have := HJ19.out; have := HJ24.out; omega
                                          case rel => exact ⟨(y115), (wrap64 (x5_2 + (wrap64 (1 + (wrap64 (Int.tdiv (rd l0_0 x5_2) 4)))))), (by first | rfl | (simp; done) | (simp [*]; done)), H', ⟨by have := HJ1.out; have := HK2.out; have := HJ19.out; have := HJ24.out; omega⟩, ⟨by (with_reducible repeat (first | apply Kd.R_alloc | apply Kd.R_drewN | apply Kd.R_drew)); exact HO_4.out⟩, ⟨by (with_reducible repeat (first | refine blk_drewN ?_ _ | refine blk_drew ?_ | refine blk_alloc ?_ _)); exact BK107.out⟩, ⟨by repeat (first | (with_reducible first | exact HB.out | apply below_alloc | apply pw_below_drewN | apply below_drew1 | refine below_set ?_ GE107.out) | exact HB.out)⟩⟩
                                        · rw [if_neg c52] at H
                                          exact absurd H (by simp)
                                      · rw [if_neg c51] at H
                                        exact absurd H (by simp)
                    · rw [if_neg c17] at H
                      exact absurd H (by simp)
                  · rw [if_neg c16] at H
                    exact absurd H (by simp)
                · rw [if_neg c15] at H
                  have c15b0 : decide (x5_2 < a0_1) = false := decide_eq_false c15
                  clear c15
                  simp only [Option.some.injEq, Prod.mk.injEq] at H
                  obtain ⟨rfl, rfl⟩ := H
                  have hcz56_0 : wr.cell? ⟨gb107, 0, none⟩ = some (.slice A0_0 l0_0.length c0_0) := (blk_cell BK107.out 0).trans rfl
                  have hcz56_1 : wr.cell? ⟨gb107, 1, none⟩ = some (.int .i64 a0_1) := (blk_cell BK107.out 1).trans rfl
                  have hfz56_0 := blk_frozen BK107.out 0
                  have hfz56_1 := blk_frozen BK107.out 1
                  go_wp2
                  go_ret2
                  exact ⟨_, by first | rfl | (simp [errW_none, errW_some] <;> rfl) | (simp [*, errW_none, errW_some] <;> rfl), by (with_reducible repeat (first | apply Kd.R_alloc | apply Kd.R_drewN | apply Kd.R_drew)); exact HO_4.out, by repeat (first | (with_reducible first | exact HB.out | apply below_alloc | apply pw_below_drewN | apply below_drew1 | refine below_set ?_ GE107.out) | exact HB.out)⟩
          · rw [if_neg c11] at H
            exact absurd H (by simp)
        · rw [if_neg c10] at H
          exact absurd H (by simp)

end Go.Proofs.YtggkkgkjhfgipaaDoor.QFnExactShowWord
