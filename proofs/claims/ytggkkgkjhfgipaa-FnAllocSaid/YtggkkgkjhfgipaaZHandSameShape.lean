/- The program's SameShape in the print's shape, over the hand-proved contract. -/
import Derived.Test.YtggkkgkjhfgipaaZShapeE
namespace Go.Proofs.Ytggkkgkjhfgipaa
open Go.RowKit Go.Proofs.YtggkkgkjhfgipaaW.PrintWords Go.Proofs.YtggkkgkjhfgipaaW.PrintLast Go.Proofs.YtggkkgkjhfgipaaW.PrintMore
set_option linter.unusedVariables false
/-- The same, to be reckoned: what both are collected to is the same. -/
def sameF (ws : List Int) (top : Int) (roots : List Int) (vs : List Int) (top2 : Int) (others : List Int) : Bool :=
 validF ws top roots && (validF vs top2 others && (decide (roots.length = others.length) && (decide (offO ws (orderO ws roots) = offO vs (orderO vs others)) && (decide ((orderO ws roots).flatMap (mapObj ws (orderO ws roots)) = (orderO vs others).flatMap (mapObj vs (orderO vs others))) &&
  decide (roots.map (movedO ws (orderO ws roots)) = others.map (movedO vs (orderO vs others)))))))
theorem shapeF_eq (ws : List Int) (top : Int) (roots : List Int) (vs : List Int) (top2 : Int) (others : List Int) : shapeF ws top roots vs top2 others = sameF ws top roots vs top2 others := by
 unfold shapeF sameF
 cases h1 : validF ws top roots with
 | false => rfl
 | true =>
  cases h2 : validF vs top2 others with
  | false => rfl
  | true =>
   obtain ⟨L, hL, _⟩ := validF_parts h1
   obtain ⟨M, hM, _⟩ := validF_parts h2
   obtain ⟨t, rfl⟩ := Int.eq_ofNat_of_zero_le (objsF_mem hL).2.1
   obtain ⟨u, rfl⟩ := Int.eq_ofNat_of_zero_le (objsF_mem hM).2.1
   obtain ⟨hw, hwr, _⟩ := laid_of h1 hL
   obtain ⟨hv, hvr, _⟩ := laid_of h2 hM
   simp only [Bool.true_and]
   by_cases h3 : ShapeP ws vs roots others
   ·obtain ⟨e1, e2, e3⟩ := shape_same hw hv hwr hvr h3
    rw [shapeB_true h3, decide_eq_true e1, decide_eq_true e2, decide_eq_true e3]
    rfl
   ·rw [shapeB_false h3]
    by_cases e2 : (orderO ws roots).flatMap (mapObj ws (orderO ws roots)) = (orderO vs others).flatMap (mapObj vs (orderO vs others))
    ·by_cases e3 : roots.map (movedO ws (orderO ws roots)) = others.map (movedO vs (orderO vs others))
     ·exact absurd (same_shape hw hv hwr hvr e2 e3) h3
     ·rw [decide_eq_false e3]
      simp
    ·rw [decide_eq_false e2]
     simp
def impl_SameShape.f (l0_0 : List Int) (a0_1 : Int) (l1 : List Int) (l2_0 : List Int) (a2_1 : Int) (l3 : List Int) : Option Bool := if allIn l0_0 = true then (if allIn l1 = true then (if allIn l2_0 = true then (if allIn l3 = true then some (sameF l0_0 a0_1 l1 l2_0 a2_1 l3) else none) else none) else none) else none
theorem impl_SameShape.calls (A0_0 : Option Addr) (c0_0 : Nat) (l0_0 : List Int) (a0_1 : Int) (A1 : Option Addr) (c1 : Nat) (l1 : List Int) (A2_0 : Option Addr) (c2_0 : Nat) (l2_0 : List Int) (a2_1 : Int) (A3 : Option Addr) (c3 : Nat) (l3 : List Int) (r : Bool) (w : World)
  (hr0_0 : Kd.C (Kd.int .i64) w A0_0 l0_0.length l0_0) (hc0_0 : l0_0.length ≤ c0_0) (hr1 : Kd.C (Kd.int .i64) w A1 l1.length l1) (hc1 : l1.length ≤ c1) (hr2_0 : Kd.C (Kd.int .i64) w A2_0 l2_0.length l2_0) (hc2_0 : l2_0.length ≤ c2_0) (hr3 : Kd.C (Kd.int .i64) w A3 l3.length l3) (hc3 : l3.length ≤ c3) (h : impl_SameShape.f l0_0 a0_1 l1 l2_0 a2_1 l3 = some r) :
  Calls Try.prog 30 #[.agg #[.slice A0_0 l0_0.length c0_0, .int .i64 a0_1], .slice A1 l1.length c1, .agg #[.slice A2_0 l2_0.length c2_0, .int .i64 a2_1], .slice A3 l3.length c3] w fun e w' => e = .returned (.bool r) ∧ Below w.heap.size w w' := by
 unfold impl_SameShape.f at h
 split at h
 ·split at h
  ·split at h
   ·split at h
    ·rename_i h1 h2 h3 h4
     have := SameShape_calls A0_0 c0_0 l0_0 a0_1 A1 c1 l1 A2_0 c2_0 l2_0 a2_1 A3 c3 l3 w hr0_0 hc0_0 (allIn_of h1) hr1 hc1 (allIn_of h2) hr2_0 hc2_0 (allIn_of h3) hr3 hc3 (allIn_of h4)
     rw [shapeF_eq, Option.some.inj h] at this
     exact this
    ·cases h
   ·cases h
  ·cases h
 ·cases h
end Go.Proofs.Ytggkkgkjhfgipaa
