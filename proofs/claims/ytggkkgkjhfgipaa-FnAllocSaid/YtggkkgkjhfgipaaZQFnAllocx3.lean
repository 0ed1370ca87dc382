-- Written by a program of this session (wip/tools/ownprint.py) over hand-proved contracts.
import Derived.Test.YtggkkgkjhfgipaaZQFnAllocx0
import Derived.Test.YtggkkgkjhfgipaaZQFnAllocx1
import Derived.Test.YtggkkgkjhfgipaaZQFnAllocx2
namespace Go.Proofs.Ytggkkgkjhfgipaa.QFnAlloc
open Go.RowKit Go.Proofs.YtggkkgkjhfgipaaW.PrintWords Go.Proofs.YtggkkgkjhfgipaaW.PrintLast Go.Proofs.YtggkkgkjhfgipaaW.PrintMore
attribute [local go_sem] max2_int min2_int max_two min_two max_three min_three max_four min_four   -- for this text's walks alone
set_option linter.unusedVariables false
set_option linter.unusedSimpArgs false

/-! ### spec_l2valid: function 37 -/
mutual
def spec_l2valid.l0 : Nat → List Bool → Int → List Int → Int → Option (List Bool × Bool)
 | 0, _, _, _, _ => none
 | k + 1, x4, x6, x113000, x113001 => if x6 < (x113000.length : Int) then (if x6 ≥ x113001 then (if 0 ≤ x6 then (spec_l2valid.j1 k x4 x6 ((rd x113000 x6) != 0) x113000 x113001) else (none)) else (spec_l2valid.j1 k x4 x6 false x113000 x113001)) else (some (x4, true))
def spec_l2valid.j1 : Nat → List Bool → Int → Bool → List Int → Int → Option (List Bool × Bool)
 | 0, _, _, _, _, _ => none
 | k + 1, x4, x6, x32, x113000, x113001 => if x32 = true then (some (([] : List Bool), false)) else (if x6 < x113001 then (if 0 ≤ x6 then (if x6 < (x4.length : Int) then (if rdOf false x4 x6 = true then (spec_l2valid.l0 k x4 (wrap64 (x6 + 1)) x113000 x113001) else (if x6 < (x113000.length : Int) then ((spec_l2word.f (rd x113000 x6) x4).bind fun t120 => (if t120 = true then (spec_l2valid.l0 k x4 (wrap64 (x6 + 1)) x113000 x113001) else (some (([] : List Bool), false)))) else (none))) else (none)) else (none)) else (spec_l2valid.l0 k x4 (wrap64 (x6 + 1)) x113000 x113001))
end
def spec_l2valid.f (k : Nat) (l0_0 : List Int) (a0_1 : Int) : Option (List Bool × Bool) := (spec_l2starts.f k l0_0 a0_1).bind fun bt113 => (if bt113.2 = true then (spec_l2valid.l0 k bt113.1 0 l0_0 a0_1) else (some (([] : List Bool), false)))
theorem spec_l2valid.mono_l : ∀ k, (∀ y0 y1 y2 y3, LeO (spec_l2valid.l0 k y0 y1 y2 y3) (spec_l2valid.l0 (k + 1) y0 y1 y2 y3)) ∧ (∀ y0 y1 y2 y3 y4, LeO (spec_l2valid.j1 k y0 y1 y2 y3 y4) (spec_l2valid.j1 (k + 1) y0 y1 y2 y3 y4))
 | 0 => ⟨fun _ _ _ _ r h => by simp [spec_l2valid.l0] at h, fun _ _ _ _ _ r h => by simp [spec_l2valid.j1] at h⟩
 | k + 1 => by
  obtain ⟨ih0, ih1⟩ := spec_l2valid.mono_l k
  refine ⟨?_, ?_⟩
  ·intro y0 y1 y2 y3
   unfold spec_l2valid.l0
   repeat' first
   | (with_reducible exact ih0 _ _ _ _)
   | (with_reducible exact ih1 _ _ _ _ _)
   | (with_reducible exact spec_l2starts.mono _ _ _)
   | (with_reducible exact LeO.refl _)
   | (with_reducible exact LeO.none _)
   | (with_reducible refine LeO.ite ?_ ?_)
   | (with_reducible refine LeO.bind ?_ (fun _ => ?_))
   | exact ih0 _ _ _ _
   | exact ih1 _ _ _ _ _
   | exact spec_l2starts.mono _ _ _
   | exact LeO.none _
   | refine LeO.ite ?_ ?_
   | refine LeO.bind ?_ (fun _ => ?_)
  ·intro y0 y1 y2 y3 y4
   unfold spec_l2valid.j1
   repeat' first
   | (with_reducible exact ih0 _ _ _ _)
   | (with_reducible exact ih1 _ _ _ _ _)
   | (with_reducible exact spec_l2starts.mono _ _ _)
   | (with_reducible exact LeO.refl _)
   | (with_reducible exact LeO.none _)
   | (with_reducible refine LeO.ite ?_ ?_)
   | (with_reducible refine LeO.bind ?_ (fun _ => ?_))
   | exact ih0 _ _ _ _
   | exact ih1 _ _ _ _ _
   | exact spec_l2starts.mono _ _ _
   | exact LeO.none _
   | refine LeO.ite ?_ ?_
   | refine LeO.bind ?_ (fun _ => ?_)
theorem spec_l2valid.mono : ∀ a0 a1 k, LeO (spec_l2valid.f k a0 a1) (spec_l2valid.f (k + 1) a0 a1) := by
 intro a0 a1 k
 obtain ⟨ih0, ih1⟩ := spec_l2valid.mono_l k
 unfold spec_l2valid.f
 repeat' first
   | (with_reducible exact ih0 _ _ _ _)
   | (with_reducible exact ih1 _ _ _ _ _)
   | (with_reducible exact spec_l2starts.mono _ _ _)
   | (with_reducible exact LeO.refl _)
   | (with_reducible exact LeO.none _)
   | (with_reducible refine LeO.ite ?_ ?_)
   | (with_reducible refine LeO.bind ?_ (fun _ => ?_))
   | exact ih0 _ _ _ _
   | exact ih1 _ _ _ _ _
   | exact spec_l2starts.mono _ _ _
   | exact LeO.none _
   | refine LeO.ite ?_ ?_
   | refine LeO.bind ?_ (fun _ => ?_)
set_option maxHeartbeats 8000000 in
set_option maxRecDepth 100000 in
theorem spec_l2valid.calls (k : Nat) (A0_0 : Option Addr) (c0_0 : Nat) (l0_0 : List Int) (a0_1 : Int) (r1 : List Bool) (r2 : Bool) (w : World) (hr0_0 : Kd.C (Kd.int .i64) w A0_0 l0_0.length l0_0) (hc0_0 : l0_0.length ≤ c0_0) (h : spec_l2valid.f k l0_0 a0_1 = some (r1, r2)) :
  Calls Try.prog 37 #[.agg #[.slice A0_0 l0_0.length c0_0, .int .i64 a0_1]] w fun e w' => ∃ v0_ : Value, e = .returned (.tuple #[v0_, .bool r2]) ∧ Kd.R Kd.bool 4 w' w.heap.size (fun _ => True) v0_ r1 ∧ Below w.heap.size w w' := by
 have hu31 := Try.underlying31
 have HR0_0 := zA hr0_0
 have HC0_0 := zA hc0_0
 clear hr0_0 hc0_0
 have HB := zA (Below.refl w.heap.size w)
 have H : ((spec_l2starts.f k l0_0 a0_1).bind fun bt113 => (if bt113.2 = true then (spec_l2valid.l0 k bt113.1 0 l0_0 a0_1) else (some (([] : List Bool), false)))) = some (r1, r2) := h
 clear h
 replace H := Option.bind_eq_some_iff.mp H
 obtain ⟨⟨t113, t116⟩, A20, H⟩ := H
 replace H : (if t116 = true then (spec_l2valid.l0 k t113 0 l0_0 a0_1) else (some (([] : List Bool), false))) = some (r1, r2) := H
 have A2 := zA A20
 clear A20
 by_cases c3 : t116 = true
 ·subst c3
  have H1 : (spec_l2valid.l0 k t113 0 l0_0 a0_1) = some (r1, r2) := by rw [if_pos rfl] at H; exact H
  clear H
  have H := H1
  clear H1
  have H' := zA H
  clear H
  go_enter Try.func37, Try.ntmps37
  go_wp2_with (first | ((with_reducible refine gate_dst (N := 1) rfl ?_); refine box_event ?hg (N := 1) ?hd (cs := #[.slice A0_0 l0_0.length c0_0, .int .i64 a0_1]) (t := 31) ?hr ?_; (case hd => rfl); (case hg => rfl); (case hr => first | (go_simp; done) | (go_simp; rfl)); intro gb112 hg w4 hbox hb; have n0_ := zA (zX (bE HB.out) hb); have n1_ := zA (hbox); have n2_ := zA ((by rw [hg]; exact (below_size (bE HB.out)) : w.heap.size ≤ gb112)); have n3_ := zA ((by rw [hg]; exact (below_size (bE HB.out)) : w.heap.size ≤ gb112)); clear HB; have HB := n0_; have BK112 := n1_; have GW112 := n2_; have GE112 := n3_; clear n0_ n1_ n2_ n3_; clear hb hbox hg; have hcz5_0 : w4.cell? ⟨gb112, 0, none⟩ = some (.slice A0_0 l0_0.length c0_0) := (zZ BK112.out 0).trans rfl; have hcz5_1 : w4.cell? ⟨gb112, 1, none⟩ = some (.int .i64 a0_1) := (zZ BK112.out 1).trans rfl; have hfz5_0 := zY BK112.out 0; have hfz5_1 := zY BK112.out 1) | ((with_reducible refine gate_callee (f := 56) rfl ?_); refine goesL_ (some 9) rfl rfl Try.func56 (by kernel_rfl) rfl #[.agg #[.slice A0_0 l0_0.length c0_0, .int .i64 a0_1]] rfl (by (try simp only [List.map_toArray, List.map_cons, List.map_nil]); first | done | rfl | (simp only [List.length_drop, List.length_take]; rfl)) ?_; (with_reducible refine (spec_l2starts.calls k _ _ l0_0 a0_1 t113 true _ ?side1 ?side2 A2.out).mono ?_); (case side1 => repeat (first | exact (Kd.C_below HR0_0.out HB.out) | (with_reducible refine zc ?_ _) | (with_reducible refine zd ?_ _) | (with_reducible refine ze ?_))); (case side2 => exact HC0_0.out); rintro e w6 ⟨v114, rfl, ho0, hb⟩; refine ⟨_, rfl, ?_⟩; have n0_ := zA (Kd.R_lower ho0 (below_size (bA HB.out GE112.out))); have n1_ := zA (zN (g := gb112) (o := .cells #[.slice A0_0 l0_0.length c0_0, .int .i64 a0_1] 31 (0, 0)) (bU BK112.out) hb); have n2_ := zA (zX (bA HB.out GE112.out) hb); clear BK112 HB; have HO115 := n0_; have BK112 := n1_; have HB := n2_; clear n0_ n1_ n2_; (try clear hb); (try clear hb2); (try clear hk); (try clear hi); (try clear ho0)))
  go_loopg [6] k (fun kq v6 w' => ∃ (x6_1 : Int), v6 = .int .i64 x6_1 ∧ Aside0 (spec_l2valid.l0 kq t113 x6_1 l0_0 a0_1 = some (r1, r2)) ∧ Aside0 (kq ≤ k) ∧ Aside0 (Kd.R Kd.bool 4 w' w.heap.size (fun _ => True) v114 t113) ∧ Aside0 (w'.heap[gb112]? = some (.cells #[(.slice A0_0 l0_0.length c0_0), .int .i64 a0_1] 31 (0, 0))) ∧ Aside0 (Below w.heap.size w w'))
  case atStart => exact ⟨(0), (by first | rfl | (simp; done) | (simp [*]; done)), H', ⟨Nat.le_refl _⟩, ⟨bR HO115.out⟩, ⟨bU BK112.out⟩, ⟨bA HB.out GE112.out⟩⟩
  case round =>
   clear H'
   try clear p2
   try clear c3
   try clear c5
   try clear hcz5_0
   try clear hcz5_1
   try clear hfz5_0
   try clear hfz5_1
   obtain ⟨x6_1, rfl, HA, HK1, HO_4, BK112, HB⟩ := hrel
   cases gk with
   | zero => exact absurd HA.out (by simp [spec_l2valid.l0])
   | succ k1 =>
    have H := HA.out
    clear HA
    simp only [spec_l2valid.l0] at H
    by_cases c7 : x6_1 < (l0_0.length : Int)
    ·rw [if_pos c7] at H
     have c7b0 : decide (x6_1 < (l0_0.length : Int)) = true := zG c7
     clear c7
     have HC8 := zA H
     clear H
     have hcz9_0 : wr.cell? ⟨gb112, 0, none⟩ = some (.slice A0_0 l0_0.length c0_0) := (zZ BK112.out 0).trans rfl
     have hcz9_1 : wr.cell? ⟨gb112, 1, none⟩ = some (.int .i64 a0_1) := (zZ BK112.out 1).trans rfl
     have hfz9_0 := zY BK112.out 0
     have hfz9_1 := zY BK112.out 1
     go_upto_region 7 with (fail)
     go_cut [32] (fun v32 wc => ∃ (kq : Nat) (x32_7 : Bool), v32 = .bool x32_7 ∧ Aside0 (spec_l2valid.j1 kq t113 x6_1 x32_7 l0_0 a0_1 = some (r1, r2)) ∧ Aside0 (kq ≤ k1) ∧ Aside0 (Kd.R Kd.bool 4 wc w.heap.size (fun _ => True) v114 t113) ∧ Aside0 (wc.heap[gb112]? = some (.cells #[(.slice A0_0 l0_0.length c0_0), .int .i64 a0_1] 31 (0, 0))) ∧ Aside0 (Below w.heap.size w wc))
     case first =>
      have H := HC8.out
      clear HC8
      by_cases c10 : x6_1 ≥ a0_1
      ·rw [if_pos c10] at H
       have c10b0 : decide (a0_1 ≤ x6_1) = true := zG c10
       clear c10
       (first | rw [c10b0] | (simp only [i64_w, i32_w]; rw [c10b0]) | skip)
       by_cases c11 : 0 ≤ x6_1
       ·rw [if_pos c11] at H
        have c11b0 : decide (0 ≤ x6_1) = true := zG c11
        clear c11
        have H' := zA H
        clear H
        have hcz12_0 : wr.cell? ⟨gb112, 0, none⟩ = some (.slice A0_0 l0_0.length c0_0) := (zZ BK112.out 0).trans rfl
        have hcz12_1 : wr.cell? ⟨gb112, 1, none⟩ = some (.int .i64 a0_1) := (zZ BK112.out 1).trans rfl
        have hfz12_0 := zY BK112.out 0
        have hfz12_1 := zY BK112.out 1
        have p117 : 0 ≤ (x6_1 : Int) := zF (by first | (with_reducible assumption) | assumption)
        have q117 : x6_1 < (l0_0.length : Int) := zF (by first | (with_reducible assumption) | assumption)
        obtain ⟨ad117, e117, hx117_0⟩ := Kd.at_int HR0_0.out x6_1 p117 q117
        cases e117
        replace hx117_0 := (HB.out.cell (World.block_lt_of_cell? w _ hx117_0)).trans hx117_0
        replace p117 := eq_true p117
        replace q117 := eq_true q117
        go_wp2
        go_meet
        case rel => exact ⟨_, (((rd l0_0 x6_1) != 0)), (by first | rfl | (simp; done) | (simp [*]; done)), H', ⟨by have := HK1.out; first | omega | exact Nat.le_refl _⟩, ⟨bR HO_4.out⟩, ⟨bU BK112.out⟩, ⟨bA HB.out GE112.out⟩⟩
       ·rw [if_neg c11] at H
        exact absurd H (by simp)
      ·rw [if_neg c10] at H
       have c10b0 : decide (a0_1 ≤ x6_1) = false := zH c10
       clear c10
       (first | rw [c10b0] | (simp only [i64_w, i32_w]; rw [c10b0]) | skip)
       have H' := zA H
       clear H
       have hcz13_0 : wr.cell? ⟨gb112, 0, none⟩ = some (.slice A0_0 l0_0.length c0_0) := (zZ BK112.out 0).trans rfl
       have hcz13_1 : wr.cell? ⟨gb112, 1, none⟩ = some (.int .i64 a0_1) := (zZ BK112.out 1).trans rfl
       have hfz13_0 := zY BK112.out 0
       have hfz13_1 := zY BK112.out 1
       go_wp2
       go_meet
       case rel => exact ⟨_, (false), (by first | rfl | (simp; done) | (simp [*]; done)), H', ⟨by have := HK1.out; first | omega | exact Nat.le_refl _⟩, ⟨bR HO_4.out⟩, ⟨bU BK112.out⟩, ⟨bA HB.out GE112.out⟩⟩
     case rest =>
      clear HC8
      try clear c1
      try clear p1
      try clear q1
      try clear hx1
      try clear p2
      try clear c3
      try clear c5
      try clear c7
      try clear c7b0
      try clear c10
      try clear c10b0
      try clear c11
      try clear c11b0
      try clear p11
      try clear q11
      try clear hx11
      try clear hcz12_0
      try clear hcz12_1
      try clear hcz13_0
      try clear hcz13_1
      try clear hcz5_0
      try clear hcz5_1
      try clear hcz9_0
      try clear hcz9_1
      try clear hfz12_0
      try clear hfz12_1
      try clear hfz13_0
      try clear hfz13_1
      try clear hfz5_0
      try clear hfz5_1
      try clear hfz9_0
      try clear hfz9_1
      try clear hx117_0
      try clear p117
      try clear p2
      try clear q117
      obtain ⟨kq, x32_7, rfl, HA, HJ7, HO_4, BK112, HB⟩ := hcut
      cases kq with
      | zero => exact absurd HA.out (by simp [spec_l2valid.j1])
      | succ kj7 =>
       have H := HA.out
       clear HA
       simp only [spec_l2valid.j1] at H
       by_cases c14 : x32_7 = true
       ·subst c14
        have H1 : (some (([] : List Bool), false)) = some (r1, r2) := by rw [if_pos rfl] at H; exact H
        clear H
        have H := H1
        clear H1
        simp only [Option.some.injEq, Prod.mk.injEq] at H
        obtain ⟨rfl, rfl⟩ := H
        go_wp2
        go_ret2
        exact ⟨_, by first | rfl | (simp [errW_none, errW_some] <;> rfl) | (simp [*, errW_none, errW_some] <;> rfl), by first | exact Kd.R_nil _ _ _ _ _ | exact Kd.N_nil _ _ _ _ _ | exact Kd.V_nil _ _ _ _ _ | exact Kd.Q_nil _ _ _ _ _ | exact Kd.S_nil _ _ _ _ _, bA HB.out GE112.out⟩
       ·replace c14 := Bool.eq_false_iff.mpr c14
        subst c14
        have H1 : (if x6_1 < a0_1 then (if 0 ≤ x6_1 then (if x6_1 < (t113.length : Int) then (if rdOf false t113 x6_1 = true then (spec_l2valid.l0 kj7 t113 (wrap64 (x6_1 + 1)) l0_0 a0_1) else (if x6_1 < (l0_0.length : Int) then ((spec_l2word.f (rd l0_0 x6_1) t113).bind fun t120 => (if t120 = true then (spec_l2valid.l0 kj7 t113 (wrap64 (x6_1 + 1)) l0_0 a0_1) else (some (([] : List Bool), false)))) else (none))) else (none)) else (none)) else (spec_l2valid.l0 kj7 t113 (wrap64 (x6_1 + 1)) l0_0 a0_1)) = some (r1, r2) := by rw [if_neg (show ¬ (false = true) by decide)] at H; exact H
        clear H
        have H := H1
        clear H1
        by_cases c15 : x6_1 < a0_1
        ·rw [if_pos c15] at H
         have c15b0 : decide (x6_1 < a0_1) = true := zG c15
         clear c15
         by_cases c16 : 0 ≤ x6_1
         ·rw [if_pos c16] at H
          have c16b0 : decide (0 ≤ x6_1) = true := zG c16
          clear c16
          by_cases c17 : x6_1 < (t113.length : Int)
          ·rw [if_pos c17] at H
           have c17b0 : decide (x6_1 < (t113.length : Int)) = true := zG c17
           clear c17
           obtain ⟨bq18, hbq18⟩ : ∃ b_ : Bool, b_ = (rdOf false t113 x6_1) := ⟨_, rfl⟩
           replace H : (if bq18 = true then (spec_l2valid.l0 kj7 t113 (wrap64 (x6_1 + 1)) l0_0 a0_1) else (if x6_1 < (l0_0.length : Int) then ((spec_l2word.f (rd l0_0 x6_1) t113).bind fun t120 => (if t120 = true then (spec_l2valid.l0 kj7 t113 (wrap64 (x6_1 + 1)) l0_0 a0_1) else (some (([] : List Bool), false)))) else (none))) = some (r1, r2) := by rw [← hbq18] at H; exact H
           have Nbq18 := zA hbq18
           clear hbq18
           by_cases c19 : bq18 = true
           ·subst c19
            have H1 : (spec_l2valid.l0 kj7 t113 (wrap64 (x6_1 + 1)) l0_0 a0_1) = some (r1, r2) := by rw [if_pos rfl] at H; exact H
            clear H
            have H := H1
            clear H1
            have H' := zA H
            clear H
            have hcz20_0 : wc.cell? ⟨gb112, 0, none⟩ = some (.slice A0_0 l0_0.length c0_0) := (zZ BK112.out 0).trans rfl
            have hcz20_1 : wc.cell? ⟨gb112, 1, none⟩ = some (.int .i64 a0_1) := (zZ BK112.out 1).trans rfl
            have hfz20_0 := zY BK112.out 0
            have hfz20_1 := zY BK112.out 1
            obtain ⟨Ao21, co21, eo21⟩ := Kd.R_slice HO_4.out
            subst eo21
            have p118 : 0 ≤ (x6_1 : Int) := zF (by first | (with_reducible assumption) | assumption)
            have q118 : x6_1 < (t113.length : Int) := zF (by first | (with_reducible assumption) | assumption)
            obtain ⟨ad118, e118, hx118_0⟩ := Kd.at_bool (zO HO_4.out).2.2 x6_1 p118 q118
            (try rw [← Nbq18.out] at hx118_0)
            cases e118
            replace p118 := eq_true p118
            replace q118 := eq_true q118
            go_wp2
            go_roundg kj7
            case measure => have := HK1.out; have := HJ7.out; omega
            case rel => exact ⟨(wrap64 (x6_1 + 1)), (by first | rfl | (simp; done) | (simp [*]; done)), H', ⟨by have := HK1.out; have := HJ7.out; omega⟩, ⟨bR HO_4.out⟩, ⟨bU BK112.out⟩, ⟨bA HB.out GE112.out⟩⟩
           ·replace c19 := Bool.eq_false_iff.mpr c19
            subst c19
            have H1 : (if x6_1 < (l0_0.length : Int) then ((spec_l2word.f (rd l0_0 x6_1) t113).bind fun t120 => (if t120 = true then (spec_l2valid.l0 kj7 t113 (wrap64 (x6_1 + 1)) l0_0 a0_1) else (some (([] : List Bool), false)))) else (none)) = some (r1, r2) := by rw [if_neg (show ¬ (false = true) by decide)] at H; exact H
            clear H
            have H := H1
            clear H1
            by_cases c22 : x6_1 < (l0_0.length : Int)
            ·rw [if_pos c22] at H
             have c22b0 : decide (x6_1 < (l0_0.length : Int)) = true := zG c22
             clear c22
             replace H := Option.bind_eq_some_iff.mp H
             obtain ⟨t120, A230, H⟩ := H
             replace H : (if t120 = true then (spec_l2valid.l0 kj7 t113 (wrap64 (x6_1 + 1)) l0_0 a0_1) else (some (([] : List Bool), false))) = some (r1, r2) := H
             have A23 := zA A230
             clear A230
             by_cases c24 : t120 = true
             ·subst c24
              have H1 : (spec_l2valid.l0 kj7 t113 (wrap64 (x6_1 + 1)) l0_0 a0_1) = some (r1, r2) := by rw [if_pos rfl] at H; exact H
              clear H
              have H := H1
              clear H1
              have H' := zA H
              clear H
              have hcz25_0 : wc.cell? ⟨gb112, 0, none⟩ = some (.slice A0_0 l0_0.length c0_0) := (zZ BK112.out 0).trans rfl
              have hcz25_1 : wc.cell? ⟨gb112, 1, none⟩ = some (.int .i64 a0_1) := (zZ BK112.out 1).trans rfl
              have hfz25_0 := zY BK112.out 0
              have hfz25_1 := zY BK112.out 1
              obtain ⟨Ao26, co26, eo26⟩ := Kd.R_slice HO_4.out
              subst eo26
              have p118 : 0 ≤ (x6_1 : Int) := zF (by first | (with_reducible assumption) | assumption)
              have q118 : x6_1 < (t113.length : Int) := zF (by first | (with_reducible assumption) | assumption)
              obtain ⟨ad118, e118, hx118_0⟩ := Kd.at_bool (zO HO_4.out).2.2 x6_1 p118 q118
              (try rw [← Nbq18.out] at hx118_0)
              cases e118
              replace p118 := eq_true p118
              replace q118 := eq_true q118
              have p119 : 0 ≤ (x6_1 : Int) := zF (by first | (with_reducible assumption) | assumption)
              have q119 : x6_1 < (l0_0.length : Int) := zF (by first | (with_reducible assumption) | assumption)
              obtain ⟨ad119, e119, hx119_0⟩ := Kd.at_int HR0_0.out x6_1 p119 q119
              cases e119
              replace hx119_0 := (HB.out.cell (World.block_lt_of_cell? w _ hx119_0)).trans hx119_0
              replace p119 := eq_true p119
              replace q119 := eq_true q119
              go_wp2_with (first | (go_at_call 38; (with_reducible refine (spec_l2word.calls (rd l0_0 x6_1) _ _ t113 true _ ?side1 ?side2 A23.out).mono ?_); (case side1 => repeat (first | exact (zO HO_4.out).2.2 | (with_reducible refine zc ?_ _) | (with_reducible refine zd ?_ _) | (with_reducible refine ze ?_))); (case side2 => exact (zO HO_4.out).2.1); rintro e w' ⟨rfl, ⟨nd, rfl⟩⟩))
              go_roundg kj7
              case measure => have := HK1.out; have := HJ7.out; omega
              case rel => exact ⟨(wrap64 (x6_1 + 1)), (by first | rfl | (simp; done) | (simp [*]; done)), H', ⟨by have := HK1.out; have := HJ7.out; omega⟩, ⟨bR HO_4.out⟩, ⟨bU BK112.out⟩, ⟨bA HB.out GE112.out⟩⟩
             ·replace c24 := Bool.eq_false_iff.mpr c24
              subst c24
              have H1 : (some (([] : List Bool), false)) = some (r1, r2) := by rw [if_neg (show ¬ (false = true) by decide)] at H; exact H
              clear H
              have H := H1
              clear H1
              simp only [Option.some.injEq, Prod.mk.injEq] at H
              obtain ⟨rfl, rfl⟩ := H
              have hcz27_0 : wc.cell? ⟨gb112, 0, none⟩ = some (.slice A0_0 l0_0.length c0_0) := (zZ BK112.out 0).trans rfl
              have hcz27_1 : wc.cell? ⟨gb112, 1, none⟩ = some (.int .i64 a0_1) := (zZ BK112.out 1).trans rfl
              have hfz27_0 := zY BK112.out 0
              have hfz27_1 := zY BK112.out 1
              obtain ⟨Ao28, co28, eo28⟩ := Kd.R_slice HO_4.out
              subst eo28
              have p118 : 0 ≤ (x6_1 : Int) := zF (by first | (with_reducible assumption) | assumption)
              have q118 : x6_1 < (t113.length : Int) := zF (by first | (with_reducible assumption) | assumption)
              obtain ⟨ad118, e118, hx118_0⟩ := Kd.at_bool (zO HO_4.out).2.2 x6_1 p118 q118
              (try rw [← Nbq18.out] at hx118_0)
              cases e118
              replace p118 := eq_true p118
              replace q118 := eq_true q118
              have p119 : 0 ≤ (x6_1 : Int) := zF (by first | (with_reducible assumption) | assumption)
              have q119 : x6_1 < (l0_0.length : Int) := zF (by first | (with_reducible assumption) | assumption)
              obtain ⟨ad119, e119, hx119_0⟩ := Kd.at_int HR0_0.out x6_1 p119 q119
              cases e119
              replace hx119_0 := (HB.out.cell (World.block_lt_of_cell? w _ hx119_0)).trans hx119_0
              replace p119 := eq_true p119
              replace q119 := eq_true q119
              go_wp2_with (first | (go_at_call 38; (with_reducible refine (spec_l2word.calls (rd l0_0 x6_1) _ _ t113 false _ ?side1 ?side2 A23.out).mono ?_); (case side1 => repeat (first | exact (zO HO_4.out).2.2 | (with_reducible refine zc ?_ _) | (with_reducible refine zd ?_ _) | (with_reducible refine ze ?_))); (case side2 => exact (zO HO_4.out).2.1); rintro e w' ⟨rfl, ⟨nd, rfl⟩⟩))
              go_ret2
              exact ⟨_, by first | rfl | (simp [errW_none, errW_some] <;> rfl) | (simp [*, errW_none, errW_some] <;> rfl), by first | exact Kd.R_nil _ _ _ _ _ | exact Kd.N_nil _ _ _ _ _ | exact Kd.V_nil _ _ _ _ _ | exact Kd.Q_nil _ _ _ _ _ | exact Kd.S_nil _ _ _ _ _, bA HB.out GE112.out⟩
            ·rw [if_neg c22] at H
             exact absurd H (by simp)
          ·rw [if_neg c17] at H
           exact absurd H (by simp)
         ·rw [if_neg c16] at H
          exact absurd H (by simp)
        ·rw [if_neg c15] at H
         have c15b0 : decide (x6_1 < a0_1) = false := zH c15
         clear c15
         have H' := zA H
         clear H
         have hcz29_0 : wc.cell? ⟨gb112, 0, none⟩ = some (.slice A0_0 l0_0.length c0_0) := (zZ BK112.out 0).trans rfl
         have hcz29_1 : wc.cell? ⟨gb112, 1, none⟩ = some (.int .i64 a0_1) := (zZ BK112.out 1).trans rfl
         have hfz29_0 := zY BK112.out 0
         have hfz29_1 := zY BK112.out 1
         go_wp2
         go_roundg kj7
         case measure => have := HK1.out; have := HJ7.out; omega
         case rel => exact ⟨(wrap64 (x6_1 + 1)), (by first | rfl | (simp; done) | (simp [*]; done)), H', ⟨by have := HK1.out; have := HJ7.out; omega⟩, ⟨bR HO_4.out⟩, ⟨bU BK112.out⟩, ⟨bA HB.out GE112.out⟩⟩
    ·rw [if_neg c7] at H
     have c7b0 : decide (x6_1 < (l0_0.length : Int)) = false := zH c7
     clear c7
     simp only [Option.some.injEq, Prod.mk.injEq] at H
     obtain ⟨rfl, rfl⟩ := H
     have hcz30_0 : wr.cell? ⟨gb112, 0, none⟩ = some (.slice A0_0 l0_0.length c0_0) := (zZ BK112.out 0).trans rfl
     have hcz30_1 : wr.cell? ⟨gb112, 1, none⟩ = some (.int .i64 a0_1) := (zZ BK112.out 1).trans rfl
     have hfz30_0 := zY BK112.out 0
     have hfz30_1 := zY BK112.out 1
     go_wp2
     go_ret2
     exact ⟨_, by first | rfl | (simp [errW_none, errW_some] <;> rfl) | (simp [*, errW_none, errW_some] <;> rfl), bR HO_4.out, bA HB.out GE112.out⟩
 ·replace c3 := Bool.eq_false_iff.mpr c3
  subst c3
  have H1 : (some (([] : List Bool), false)) = some (r1, r2) := by rw [if_neg (show ¬ (false = true) by decide)] at H; exact H
  clear H
  have H := H1
  clear H1
  simp only [Option.some.injEq, Prod.mk.injEq] at H
  obtain ⟨rfl, rfl⟩ := H
  go_enter Try.func37, Try.ntmps37
  go_wp2_with (first | ((with_reducible refine gate_dst (N := 1) rfl ?_); refine box_event ?hg (N := 1) ?hd (cs := #[.slice A0_0 l0_0.length c0_0, .int .i64 a0_1]) (t := 31) ?hr ?_; (case hd => rfl); (case hg => rfl); (case hr => first | (go_simp; done) | (go_simp; rfl)); intro gb112 hg w31 hbox hb; have n0_ := zA (zX (bE HB.out) hb); have n1_ := zA (hbox); have n2_ := zA ((by rw [hg]; exact (below_size (bE HB.out)) : w.heap.size ≤ gb112)); have n3_ := zA ((by rw [hg]; exact (below_size (bE HB.out)) : w.heap.size ≤ gb112)); clear HB; have HB := n0_; have BK112 := n1_; have GW112 := n2_; have GE112 := n3_; clear n0_ n1_ n2_ n3_; clear hb hbox hg; have hcz32_0 : w31.cell? ⟨gb112, 0, none⟩ = some (.slice A0_0 l0_0.length c0_0) := (zZ BK112.out 0).trans rfl; have hcz32_1 : w31.cell? ⟨gb112, 1, none⟩ = some (.int .i64 a0_1) := (zZ BK112.out 1).trans rfl; have hfz32_0 := zY BK112.out 0; have hfz32_1 := zY BK112.out 1) | ((with_reducible refine gate_callee (f := 56) rfl ?_); refine goesL_ (some 9) rfl rfl Try.func56 (by kernel_rfl) rfl #[.agg #[.slice A0_0 l0_0.length c0_0, .int .i64 a0_1]] rfl (by (try simp only [List.map_toArray, List.map_cons, List.map_nil]); first | done | rfl | (simp only [List.length_drop, List.length_take]; rfl)) ?_; (with_reducible refine (spec_l2starts.calls k _ _ l0_0 a0_1 t113 false _ ?side1 ?side2 A2.out).mono ?_); (case side1 => repeat (first | exact (Kd.C_below HR0_0.out HB.out) | (with_reducible refine zc ?_ _) | (with_reducible refine zd ?_ _) | (with_reducible refine ze ?_))); (case side2 => exact HC0_0.out); rintro e w33 ⟨v114, rfl, ho0, hb⟩; refine ⟨_, rfl, ?_⟩; have n0_ := zA (Kd.R_lower ho0 (below_size (bA HB.out GE112.out))); have n1_ := zA (zN (g := gb112) (o := .cells #[.slice A0_0 l0_0.length c0_0, .int .i64 a0_1] 31 (0, 0)) (bU BK112.out) hb); have n2_ := zA (zX (bA HB.out GE112.out) hb); clear BK112 HB; have HO115 := n0_; have BK112 := n1_; have HB := n2_; clear n0_ n1_ n2_; (try clear hb); (try clear hb2); (try clear hk); (try clear hi); (try clear ho0)))
  go_ret2
  exact ⟨_, by first | rfl | (simp [errW_none, errW_some] <;> rfl) | (simp [*, errW_none, errW_some] <;> rfl), by first | exact Kd.R_nil _ _ _ _ _ | exact Kd.N_nil _ _ _ _ _ | exact Kd.V_nil _ _ _ _ _ | exact Kd.Q_nil _ _ _ _ _ | exact Kd.S_nil _ _ _ _ _, bA HB.out GE112.out⟩

/-! ### spec_ValidHeap: function 21 -/
mutual
def spec_ValidHeap.j0 : Nat → List Int → List Bool → Bool → Option (Bool)
 | 0, _, _, _ => none
 | k + 1, x1, x5, x19 => if x19 = true then (some false) else (spec_ValidHeap.l0 k x1 x5 0)
def spec_ValidHeap.l0 : Nat → List Int → List Bool → Int → Option (Bool)
 | 0, _, _, _ => none
 | k + 1, x1, x5, x7 => if x7 < (x1.length : Int) then (if 0 ≤ x7 then ((spec_l2word.f (rd x1 x7) x5).bind fun t127 => (if t127 = true then (spec_ValidHeap.l0 k x1 x5 (wrap64 (x7 + 1))) else (some false))) else (none)) else (some true)
end
def spec_ValidHeap.f (k : Nat) (l0_0 : List Int) (a0_1 : Int) (l1 : List Int) : Option (Bool) := (spec_l2valid.f k l0_0 a0_1).bind fun bt122 => (if bt122.2 = true then (spec_ValidHeap.j0 k l1 bt122.1 (decide ((l1.length : Int) > 20000))) else (spec_ValidHeap.j0 k l1 bt122.1 true))
theorem spec_ValidHeap.mono_l : ∀ k, (∀ y0 y1 y2, LeO (spec_ValidHeap.j0 k y0 y1 y2) (spec_ValidHeap.j0 (k + 1) y0 y1 y2)) ∧ (∀ y0 y1 y2, LeO (spec_ValidHeap.l0 k y0 y1 y2) (spec_ValidHeap.l0 (k + 1) y0 y1 y2))
 | 0 => ⟨fun _ _ _ r h => by simp [spec_ValidHeap.j0] at h, fun _ _ _ r h => by simp [spec_ValidHeap.l0] at h⟩
 | k + 1 => by
  obtain ⟨ih0, ih1⟩ := spec_ValidHeap.mono_l k
  refine ⟨?_, ?_⟩
  ·intro y0 y1 y2
   unfold spec_ValidHeap.j0
   repeat' first
   | (with_reducible exact ih0 _ _ _)
   | (with_reducible exact ih1 _ _ _)
   | (with_reducible exact spec_l2valid.mono _ _ _)
   | (with_reducible exact LeO.refl _)
   | (with_reducible exact LeO.none _)
   | (with_reducible refine LeO.ite ?_ ?_)
   | (with_reducible refine LeO.bind ?_ (fun _ => ?_))
   | exact ih0 _ _ _
   | exact ih1 _ _ _
   | exact spec_l2valid.mono _ _ _
   | exact LeO.none _
   | refine LeO.ite ?_ ?_
   | refine LeO.bind ?_ (fun _ => ?_)
  ·intro y0 y1 y2
   unfold spec_ValidHeap.l0
   repeat' first
   | (with_reducible exact ih0 _ _ _)
   | (with_reducible exact ih1 _ _ _)
   | (with_reducible exact spec_l2valid.mono _ _ _)
   | (with_reducible exact LeO.refl _)
   | (with_reducible exact LeO.none _)
   | (with_reducible refine LeO.ite ?_ ?_)
   | (with_reducible refine LeO.bind ?_ (fun _ => ?_))
   | exact ih0 _ _ _
   | exact ih1 _ _ _
   | exact spec_l2valid.mono _ _ _
   | exact LeO.none _
   | refine LeO.ite ?_ ?_
   | refine LeO.bind ?_ (fun _ => ?_)
theorem spec_ValidHeap.mono : ∀ a0 a1 a2 k, LeO (spec_ValidHeap.f k a0 a1 a2) (spec_ValidHeap.f (k + 1) a0 a1 a2) := by
 intro a0 a1 a2 k
 obtain ⟨ih0, ih1⟩ := spec_ValidHeap.mono_l k
 unfold spec_ValidHeap.f
 repeat' first
   | (with_reducible exact ih0 _ _ _)
   | (with_reducible exact ih1 _ _ _)
   | (with_reducible exact spec_l2valid.mono _ _ _)
   | (with_reducible exact LeO.refl _)
   | (with_reducible exact LeO.none _)
   | (with_reducible refine LeO.ite ?_ ?_)
   | (with_reducible refine LeO.bind ?_ (fun _ => ?_))
   | exact ih0 _ _ _
   | exact ih1 _ _ _
   | exact spec_l2valid.mono _ _ _
   | exact LeO.none _
   | refine LeO.ite ?_ ?_
   | refine LeO.bind ?_ (fun _ => ?_)
set_option maxHeartbeats 8000000 in
set_option maxRecDepth 100000 in
theorem spec_ValidHeap.calls (k : Nat) (A0_0 : Option Addr) (c0_0 : Nat) (l0_0 : List Int) (a0_1 : Int) (A1 : Option Addr) (c1 : Nat) (l1 : List Int) (r : Bool) (w : World) (hr0_0 : Kd.C (Kd.int .i64) w A0_0 l0_0.length l0_0) (hc0_0 : l0_0.length ≤ c0_0) (hr1 : Kd.C (Kd.int .i64) w A1 l1.length l1) (hc1 : l1.length ≤ c1) (h : spec_ValidHeap.f k l0_0 a0_1 l1 = some r) :
  Calls Try.prog 21 #[.agg #[.slice A0_0 l0_0.length c0_0, .int .i64 a0_1], .slice A1 l1.length c1] w fun e w' => e = .returned (.bool r) ∧ Below w.heap.size w w' := by
 have hu31 := Try.underlying31
 have HR0_0 := zA hr0_0
 have HC0_0 := zA hc0_0
 clear hr0_0 hc0_0
 have HR1 := zA hr1
 have HC1 := zA hc1
 clear hr1 hc1
 have HB := zA (Below.refl w.heap.size w)
 have H : ((spec_l2valid.f k l0_0 a0_1).bind fun bt122 => (if bt122.2 = true then (spec_ValidHeap.j0 k l1 bt122.1 (decide ((l1.length : Int) > 20000))) else (spec_ValidHeap.j0 k l1 bt122.1 true))) = some r := h
 clear h
 replace H := Option.bind_eq_some_iff.mp H
 obtain ⟨⟨t122, t125⟩, A30, H⟩ := H
 replace H : (if t125 = true then (spec_ValidHeap.j0 k l1 t122 (decide ((l1.length : Int) > 20000))) else (spec_ValidHeap.j0 k l1 t122 true)) = some r := H
 have A3 := zA A30
 clear A30
 have HC4 := zA H
 clear H
 go_enter Try.func21, Try.ntmps21
 go_upto_region 2 with (first | ((with_reducible refine gate_dst (N := 2) rfl ?_); (try (refine gate_guard (by rfl) ?_; dsimp only)); refine box_event ?hg (N := 2) ?hd (cs := #[.slice A0_0 l0_0.length c0_0, .int .i64 a0_1]) (t := 31) ?hr ?_; (case hd => rfl); (case hg => rfl); (case hr => first | (go_simp; done) | (go_simp; rfl)); intro gb121 hg w5 hbox hb; have n0_ := zA (zX (bE HB.out) hb); have n1_ := zA (hbox); have n2_ := zA ((by rw [hg]; exact (below_size (bE HB.out)) : w.heap.size ≤ gb121)); have n3_ := zA ((by rw [hg]; exact (below_size (bE HB.out)) : w.heap.size ≤ gb121)); clear HB; have HB := n0_; have BK121 := n1_; have GW121 := n2_; have GE121 := n3_; clear n0_ n1_ n2_ n3_; clear hb hbox hg; have hcz6_0 : w5.cell? ⟨gb121, 0, none⟩ = some (.slice A0_0 l0_0.length c0_0) := (zZ BK121.out 0).trans rfl; have hcz6_1 : w5.cell? ⟨gb121, 1, none⟩ = some (.int .i64 a0_1) := (zZ BK121.out 1).trans rfl; have hfz6_0 := zY BK121.out 0; have hfz6_1 := zY BK121.out 1) | ((with_reducible refine gate_callee (f := 37) rfl ?_); refine goesL_ (some 10) rfl rfl Try.func37 (by kernel_rfl) rfl #[.agg #[.slice A0_0 l0_0.length c0_0, .int .i64 a0_1]] rfl (by (try simp only [List.map_toArray, List.map_cons, List.map_nil]); first | done | rfl | (simp only [List.length_drop, List.length_take]; rfl)) ?_; (with_reducible refine (spec_l2valid.calls k _ _ l0_0 a0_1 t122 t125 _ ?side1 ?side2 A3.out).mono ?_); (case side1 => repeat (first | exact (Kd.C_below HR0_0.out HB.out) | (with_reducible refine zc ?_ _) | (with_reducible refine zd ?_ _) | (with_reducible refine ze ?_))); (case side2 => exact HC0_0.out); rintro e w7 ⟨v123, rfl, ho0, hb⟩; refine ⟨_, rfl, ?_⟩; have n0_ := zA (Kd.R_lower ho0 (below_size (bA HB.out GE121.out))); have n1_ := zA (zN (g := gb121) (o := .cells #[.slice A0_0 l0_0.length c0_0, .int .i64 a0_1] 31 (0, 0)) (bU BK121.out) hb); have n2_ := zA (zX (bA HB.out GE121.out) hb); clear BK121 HB; have HO124 := n0_; have BK121 := n1_; have HB := n2_; clear n0_ n1_ n2_; (try clear hb); (try clear hb2); (try clear hk); (try clear hi); (try clear ho0)))
 (try simp only [Act.put, List.setIfInBounds_toArray, List.set_cons_zero, List.set_cons_succ])
 go_cut [19] (fun v19 wc => ∃ (kq : Nat) (x19_3 : Bool), v19 = .bool x19_3 ∧ Aside0 (spec_ValidHeap.j0 kq l1 t122 x19_3 = some r) ∧ Aside0 (kq ≤ k) ∧ Aside0 (Kd.R Kd.bool 4 wc w.heap.size (fun _ => True) v123 t122) ∧ Aside0 (wc.heap[gb121]? = some (.cells #[(.slice A0_0 l0_0.length c0_0), .int .i64 a0_1] 31 (0, 0))) ∧ Aside0 (Below w.heap.size w wc))
 case first =>
  have H := HC4.out
  clear HC4
  by_cases c8 : t125 = true
  ·subst c8
   have H1 : (spec_ValidHeap.j0 k l1 t122 (decide ((l1.length : Int) > 20000))) = some r := by rw [if_pos rfl] at H; exact H
   clear H
   have H := H1
   clear H1
   have H' := zA H
   clear H
   go_wp2
   go_meet
   case rel => exact ⟨_, (decide ((l1.length : Int) > 20000)), (by first | rfl | (simp; done) | (simp [*]; done)), H', ⟨by first | omega | exact Nat.le_refl _⟩, ⟨bR HO124.out⟩, ⟨bU BK121.out⟩, ⟨bA HB.out GE121.out⟩⟩
  ·replace c8 := Bool.eq_false_iff.mpr c8
   subst c8
   have H1 : (spec_ValidHeap.j0 k l1 t122 true) = some r := by rw [if_neg (show ¬ (false = true) by decide)] at H; exact H
   clear H
   have H := H1
   clear H1
   have H' := zA H
   clear H
   go_wp2
   go_meet
   case rel => exact ⟨_, (true), (by first | rfl | (simp; done) | (simp [*]; done)), H', ⟨by first | omega | exact Nat.le_refl _⟩, ⟨bR HO124.out⟩, ⟨bU BK121.out⟩, ⟨bA HB.out GE121.out⟩⟩
 case rest =>
  clear HC4
  try clear c1
  try clear c2
  try clear p2
  try clear c3
  try clear c8
  try clear hcz6_0
  try clear hcz6_1
  try clear hfz6_0
  try clear hfz6_1
  obtain ⟨kq, x19_3, rfl, HA, HJ3, HO_5, BK121, HB⟩ := hcut
  cases kq with
  | zero => exact absurd HA.out (by simp [spec_ValidHeap.j0])
  | succ kj3 =>
   have H := HA.out
   clear HA
   simp only [spec_ValidHeap.j0] at H
   by_cases c9 : x19_3 = true
   ·subst c9
    have H1 : (some false) = some r := by rw [if_pos rfl] at H; exact H
    clear H
    have H := H1
    clear H1
    obtain rfl := Option.some.inj H
    go_wp2
    go_ret
    exact ⟨by first | rfl | (simp [errW_none, errW_some] <;> rfl) | (simp [*, errW_none, errW_some] <;> rfl), bA HB.out GE121.out⟩
   ·replace c9 := Bool.eq_false_iff.mpr c9
    subst c9
    have H1 : (spec_ValidHeap.l0 kj3 l1 t122 0) = some r := by rw [if_neg (show ¬ (false = true) by decide)] at H; exact H
    clear H
    have H := H1
    clear H1
    have H' := zA H
    clear H
    go_wp2
    go_loopg [7] kj3 (fun kq v7 w' => ∃ (x7_2 : Int), v7 = .int .i64 x7_2 ∧ Aside0 (spec_ValidHeap.l0 kq l1 t122 x7_2 = some r) ∧ Aside0 (kq ≤ kj3) ∧ Aside0 (Kd.R Kd.bool 4 w' w.heap.size (fun _ => True) v123 t122) ∧ Aside0 (w'.heap[gb121]? = some (.cells #[(.slice A0_0 l0_0.length c0_0), .int .i64 a0_1] 31 (0, 0))) ∧ Aside0 (Below w.heap.size w w'))
    case atStart => exact ⟨(0), (by first | rfl | (simp; done) | (simp [*]; done)), H', ⟨Nat.le_refl _⟩, ⟨bR HO_5.out⟩, ⟨bU BK121.out⟩, ⟨bA HB.out GE121.out⟩⟩
    case round =>
     clear H'
     try clear c1
     try clear c2
     try clear p2
     try clear c3
     try clear c8
     try clear c9
     try clear hcz6_0
     try clear hcz6_1
     try clear hfz6_0
     try clear hfz6_1
     try clear p2
     obtain ⟨x7_2, rfl, HA, HK2, HO_5, BK121, HB⟩ := hrel
     cases gk with
     | zero => exact absurd HA.out (by simp [spec_ValidHeap.l0])
     | succ k2 =>
      have H := HA.out
      clear HA
      simp only [spec_ValidHeap.l0] at H
      by_cases c10 : x7_2 < (l1.length : Int)
      ·rw [if_pos c10] at H
       have c10b0 : decide (x7_2 < (l1.length : Int)) = true := zG c10
       clear c10
       by_cases c11 : 0 ≤ x7_2
       ·rw [if_pos c11] at H
        have c11b0 : decide (0 ≤ x7_2) = true := zG c11
        clear c11
        replace H := Option.bind_eq_some_iff.mp H
        obtain ⟨t127, A120, H⟩ := H
        replace H : (if t127 = true then (spec_ValidHeap.l0 k2 l1 t122 (wrap64 (x7_2 + 1))) else (some false)) = some r := H
        have A12 := zA A120
        clear A120
        by_cases c13 : t127 = true
        ·subst c13
         have H1 : (spec_ValidHeap.l0 k2 l1 t122 (wrap64 (x7_2 + 1))) = some r := by rw [if_pos rfl] at H; exact H
         clear H
         have H := H1
         clear H1
         have H' := zA H
         clear H
         have p126 : 0 ≤ (x7_2 : Int) := zF (by first | (with_reducible assumption) | assumption)
         have q126 : x7_2 < (l1.length : Int) := zF (by first | (with_reducible assumption) | assumption)
         obtain ⟨ad126, e126, hx126_0⟩ := Kd.at_int HR1.out x7_2 p126 q126
         cases e126
         replace hx126_0 := (HB.out.cell (World.block_lt_of_cell? w _ hx126_0)).trans hx126_0
         replace p126 := eq_true p126
         replace q126 := eq_true q126
         obtain ⟨Ao14, co14, eo14⟩ := Kd.R_slice HO_5.out
         subst eo14
         go_wp2_with (first | ((with_reducible refine gate_callee (f := 38) rfl ?_); refine goesL_ (some 31) rfl rfl Try.func38 (by kernel_rfl) rfl #[.int .i64 (rd l1 x7_2), .slice Ao14 t122.length co14] rfl (by (try simp only [List.map_toArray, List.map_cons, List.map_nil]); first | done | rfl | (simp only [List.length_drop, List.length_take]; rfl)) ?_; (with_reducible refine (spec_l2word.calls (rd l1 x7_2) _ _ t122 true _ ?side1 ?side2 A12.out).mono ?_); (case side1 => repeat (first | exact (zO HO_5.out).2.2 | (with_reducible refine zc ?_ _) | (with_reducible refine zd ?_ _) | (with_reducible refine ze ?_))); (case side2 => exact (zO HO_5.out).2.1); rintro e w' ⟨rfl, ⟨nd, rfl⟩⟩; refine ⟨_, rfl, ?_⟩))
         go_roundg k2
         case measure => have := HJ3.out; have := HK2.out; omega
         case rel => exact ⟨(wrap64 (x7_2 + 1)), (by first | rfl | (simp; done) | (simp [*]; done)), H', ⟨by have := HJ3.out; have := HK2.out; omega⟩, ⟨bR HO_5.out⟩, ⟨bU BK121.out⟩, ⟨bA HB.out GE121.out⟩⟩
        ·replace c13 := Bool.eq_false_iff.mpr c13
         subst c13
         have H1 : (some false) = some r := by rw [if_neg (show ¬ (false = true) by decide)] at H; exact H
         clear H
         have H := H1
         clear H1
         obtain rfl := Option.some.inj H
         have p126 : 0 ≤ (x7_2 : Int) := zF (by first | (with_reducible assumption) | assumption)
         have q126 : x7_2 < (l1.length : Int) := zF (by first | (with_reducible assumption) | assumption)
         obtain ⟨ad126, e126, hx126_0⟩ := Kd.at_int HR1.out x7_2 p126 q126
         cases e126
         replace hx126_0 := (HB.out.cell (World.block_lt_of_cell? w _ hx126_0)).trans hx126_0
         replace p126 := eq_true p126
         replace q126 := eq_true q126
         obtain ⟨Ao15, co15, eo15⟩ := Kd.R_slice HO_5.out
         subst eo15
         go_wp2_with (first | ((with_reducible refine gate_callee (f := 38) rfl ?_); refine goesL_ (some 31) rfl rfl Try.func38 (by kernel_rfl) rfl #[.int .i64 (rd l1 x7_2), .slice Ao15 t122.length co15] rfl (by (try simp only [List.map_toArray, List.map_cons, List.map_nil]); first | done | rfl | (simp only [List.length_drop, List.length_take]; rfl)) ?_; (with_reducible refine (spec_l2word.calls (rd l1 x7_2) _ _ t122 false _ ?side1 ?side2 A12.out).mono ?_); (case side1 => repeat (first | exact (zO HO_5.out).2.2 | (with_reducible refine zc ?_ _) | (with_reducible refine zd ?_ _) | (with_reducible refine ze ?_))); (case side2 => exact (zO HO_5.out).2.1); rintro e w' ⟨rfl, ⟨nd, rfl⟩⟩; refine ⟨_, rfl, ?_⟩))
         go_ret
         exact ⟨by first | rfl | (simp [errW_none, errW_some] <;> rfl) | (simp [*, errW_none, errW_some] <;> rfl), bA HB.out GE121.out⟩
       ·rw [if_neg c11] at H
        exact absurd H (by simp)
      ·rw [if_neg c10] at H
       have c10b0 : decide (x7_2 < (l1.length : Int)) = false := zH c10
       clear c10
       obtain rfl := Option.some.inj H
       go_wp2
       go_ret
       exact ⟨by first | rfl | (simp [errW_none, errW_some] <;> rfl) | (simp [*, errW_none, errW_some] <;> rfl), bA HB.out GE121.out⟩

/-! ### spec_l2copy: function 40 -/
def spec_l2copy.f (l0_0 : List Int) (a0_1 : Int) : Option (List Int × Int) := if ([] : List Int).length + l0_0.length < 17592186044416 then (some ((([] : List Int) ++ l0_0), a0_1)) else (none)
set_option maxHeartbeats 8000000 in
set_option maxRecDepth 100000 in
theorem spec_l2copy.calls (A0_0 : Option Addr) (c0_0 : Nat) (l0_0 : List Int) (a0_1 : Int) (r1 : List Int) (r2 : Int) (w : World) (hr0_0 : Kd.C (Kd.int .i64) w A0_0 l0_0.length l0_0) (hc0_0 : l0_0.length ≤ c0_0) (h : spec_l2copy.f l0_0 a0_1 = some (r1, r2)) :
  Calls Try.prog 40 #[.agg #[.slice A0_0 l0_0.length c0_0, .int .i64 a0_1]] w fun e w' => ∃ v0_ : Value, e = .returned (.agg #[v0_, .int .i64 r2]) ∧ Kd.R (Kd.int .i64) 3 w' w.heap.size (fun _ => True) v0_ r1 ∧ Below w.heap.size w w' := by
 have hu31 := Try.underlying31
 have HR0_0 := zA hr0_0
 have HC0_0 := zA hc0_0
 clear hr0_0 hc0_0
 have HB := zA (Below.refl w.heap.size w)
 have H : (if ([] : List Int).length + l0_0.length < 17592186044416 then (some ((([] : List Int) ++ l0_0), a0_1)) else (none)) = some (r1, r2) := h
 clear h
 by_cases c2 : ([] : List Int).length + l0_0.length < 17592186044416
 ·rw [if_pos c2] at H
  have LMc2 := zA c2
  clear c2
  obtain ⟨y130, hy130⟩ : ∃ y_ : List Int, y_ = (([] : List Int) ++ l0_0) := ⟨_, rfl⟩
  replace H : (some (y130, a0_1)) = some (r1, r2) := by first | (rw [hy130]; with_reducible exact H) | (have H2_ := (Option.bind_some _ _).symm.trans H; rw [hy130]; with_reducible exact H2_) | (have H2_ := (Option.bind_some _ _).symm.trans H; with_reducible exact H2_) | with_reducible exact H | (rw [hy130]; exact H) | exact H
  have Ny130 := zA hy130
  clear hy130
  simp only [Option.some.injEq, Prod.mk.injEq] at H
  obtain ⟨rfl, rfl⟩ := H
  go_enter Try.func40, Try.ntmps40
  go_wp2_with (first | ((with_reducible refine gate_dst (N := 1) rfl ?_); refine box_event ?hg (N := 1) ?hd (cs := #[.slice A0_0 l0_0.length c0_0, .int .i64 a0_1]) (t := 31) ?hr ?_; (case hd => rfl); (case hg => rfl); (case hr => first | (go_simp; done) | (go_simp; rfl)); intro gb128 hg w3 hbox hb; have n0_ := zA (zX (bE HB.out) hb); have n1_ := zA (hbox); have n2_ := zA ((by rw [hg]; exact (below_size (bE HB.out)) : w.heap.size ≤ gb128)); have n3_ := zA ((by rw [hg]; exact (below_size (bE HB.out)) : w.heap.size ≤ gb128)); clear HB; have HB := n0_; have BK128 := n1_; have GW128 := n2_; have GE128 := n3_; clear n0_ n1_ n2_ n3_; clear hb hbox hg) | ((with_reducible refine gate_dst (N := 2) rfl ?_); refine box_event ?hg (N := 2) ?hd (cs := #[.slice none 0 0, .int .i64 0]) (t := 31) ?hr ?_; (case hd => rfl); (case hg => rfl); (case hr => first | (go_simp; done) | (go_simp; rfl)); intro gb129 hg w4 hbox hb; have n0_ := zA (zN (g := gb128) (o := .cells #[.slice A0_0 l0_0.length c0_0, .int .i64 a0_1] 31 (0, 0)) (bU BK128.out) hb); have n1_ := zA (zX (bA HB.out GE128.out) hb); have n2_ := zA (hbox); have n3_ := zA ((by rw [hg]; exact (below_size (bA HB.out GE128.out)) : w.heap.size ≤ gb129)); have n4_ := zA ((by rw [hg]; exact (below_size (bA HB.out GE128.out)) : w.heap.size ≤ gb129)); have n5_ := zA ((by rw [hg]; exact Nat.ne_of_lt (blk_lt (g := gb128) (o := .cells #[.slice A0_0 l0_0.length c0_0, .int .i64 a0_1] 31 (0, 0)) (bU BK128.out)) : gb128 ≠ gb129)); have n6_ := zA ((by rw [hg]; exact Nat.ne_of_gt (blk_lt (g := gb128) (o := .cells #[.slice A0_0 l0_0.length c0_0, .int .i64 a0_1] 31 (0, 0)) (bU BK128.out)) : gb129 ≠ gb128)); clear BK128 HB; have BK128 := n0_; have HB := n1_; have BK129 := n2_; have GW129 := n3_; have GE129 := n4_; have NB128_129 := n5_; have NB129_128 := n6_; clear n0_ n1_ n2_ n3_ n4_ n5_ n6_; clear hb hbox hg; have hnb5 := NB128_129.out; have hnc5 := NB129_128.out; have hcz6_0 : w4.cell? ⟨gb128, 0, none⟩ = some (.slice A0_0 l0_0.length c0_0) := (zZ BK128.out 0).trans rfl; have hcz6_1 : w4.cell? ⟨gb128, 1, none⟩ = some (.int .i64 a0_1) := (zZ BK128.out 1).trans rfl; have hfz6_0 := zY BK128.out 0; have hfz6_1 := zY BK128.out 1) | ((with_reducible refine gate_builtin (b := .append) (xs := #[.tmp 4, .tmp 6]) rfl ?_); at_builtin; refine Kd.R_append_rows (Kd.int .i64) (w0 := w) w.heap.size rfl (.tmp 4) (.tmp 6) 29 3 (.int .i64 0) 8 rfl Try.underlying29 info3 rfl (by decide) (by omega) (.slice none 0 0) ([] : List Int) l0_0 _ _ _ (fun _ => True) (fun _ => False) rfl rfl ?aO ?aR (fun _ _ h => h) (fun _ h => h.elim) ?aF ?aB ?aS ?aL ?_; (case aR => repeat (first | exact (Kd.C_below HR0_0.out HB.out) | (with_reducible refine zc ?_ _) | (with_reducible refine zd ?_ _) | (with_reducible refine ze ?_))); (case aB => exact (bD HB.out GE128.out GE129.out)); (case aF => exact (fun _ _ => trivial)); (case aO => exact ((Kd.R_nil _ _ _ _ (fun _ => True)))); (case aS => exact (below_size (bD HB.out GE128.out GE129.out))); (case aL => have := LMc2.out; omega); intro v131 w7 ho hb hg hat; rw [← Ny130.out] at ho; have n0_ := zA (blk_grown (g := gb128) (o := .cells #[.slice A0_0 l0_0.length c0_0, .int .i64 a0_1] 31 (0, 0)) (bU BK128.out) hg (by simp [Value.ownBlock])); have n1_ := zA (blk_grown (g := gb129) (o := .cells #[.slice none 0 0, .int .i64 0] 31 (0, 0)) (bU BK129.out) hg (by simp [Value.ownBlock])); have n2_ := zA (hb); have n3_ := zA (ho); clear BK128 BK129 HB; have BK128 := n0_; have BK129 := n1_; have HB := n2_; have HO132 := n3_; clear n0_ n1_ n2_ n3_; clear ho hb hg hat; have hcz8_0 : w7.cell? ⟨gb128, 0, none⟩ = some (.slice A0_0 l0_0.length c0_0) := (zZ BK128.out 0).trans rfl; have hcz8_1 : w7.cell? ⟨gb128, 1, none⟩ = some (.int .i64 a0_1) := (zZ BK128.out 1).trans rfl; have hfz8_0 := zY BK128.out 0; have hfz8_1 := zY BK128.out 1; obtain ⟨Ao9, co9, eo9⟩ := Kd.R_slice HO132.out; subst eo9; have hcz10_0 : w7.cell? ⟨gb129, 0, none⟩ = some (.slice none 0 0) := (zZ BK129.out 0).trans rfl; have hcz10_1 : w7.cell? ⟨gb129, 1, none⟩ = some (.int .i64 0) := (zZ BK129.out 1).trans rfl; have hfz10_0 := zY BK129.out 0; have hfz10_1 := zY BK129.out 1))
  refine bodyPost_ret (results_cell_row rfl _ _ gb129 31 #[.slice Ao9 y130.length co9, .int .i64 a0_1] (0, 0) _ rfl (by (with_reducible repeat (first | refine blk_drewN ?_ _ | refine blk_drew ?_ | refine blk_alloc ?_ _)); refine blk_put (cs := #[.slice Ao9 y130.length co9, .int .i64 0]) ?_ 1 _ rfl; (with_reducible repeat (first | refine blk_drewN ?_ _ | refine blk_drew ?_ | refine blk_alloc ?_ _)); refine blk_put (cs := #[.slice none 0 0, .int .i64 0]) ?_ 0 _ rfl; exact bU BK129.out) Try.underlying31 rfl (by kernel_rfl)) rfl ?_
  exact ⟨_, by first | rfl | (simp [errW_none, errW_some] <;> rfl) | (simp [*, errW_none, errW_some] <;> rfl), bR (zI (zJ (p := ⟨gb129, 1, none⟩) (zJ (p := ⟨gb129, 0, none⟩) (zL HO132.out BK129.out (by decide)) (fun _ hk => hk.2) (.slice Ao9 y130.length co9)) (fun _ hk => hk.2) (.int .i64 a0_1)) (fun _ hk => trivial)), bD HB.out GE128.out GE129.out⟩
 ·rw [if_neg c2] at H
  exact absurd H (by simp)

end Go.Proofs.Ytggkkgkjhfgipaa.QFnAlloc
