/- The program's Collect in the print's shape, over the hand-proved contract. -/
import Derived.Test.YtggkkgkjhfgipaaCollG
namespace Go.Proofs.Ytggkkgkjhfgipaa
open Go.RowKit Go.Proofs.YtggkkgkjhfgipaaW.PrintWords Go.Proofs.YtggkkgkjhfgipaaW.PrintLast Go.Proofs.YtggkkgkjhfgipaaW.PrintMore
set_option linter.unusedVariables false
def impl_Collect.f (l0_0 : List Int) (a0_1 : Int) (l1 : List Int) : Option (List Int × Int × List Int × Int) := if allIn l0_0 = true then (if allIn l1 = true then some (collectF l0_0 a0_1 l1) else none) else none
theorem impl_Collect.calls (A0_0 : Option Addr) (c0_0 : Nat) (l0_0 : List Int) (a0_1 : Int) (A1 : Option Addr) (c1 : Nat) (l1 : List Int) (r1 : List Int) (r2 : Int) (r3 : List Int) (r4 : Int) (w : World) (hr0_0 : Kd.C (Kd.int .i64) w A0_0 l0_0.length l0_0) (hc0_0 : l0_0.length ≤ c0_0) (hr1 : Kd.C (Kd.int .i64) w A1 l1.length l1) (hc1 : l1.length ≤ c1) (h : impl_Collect.f l0_0 a0_1 l1 = some (r1, r2, r3, r4)) :
    Calls Try.prog 32 #[.agg #[.slice A0_0 l0_0.length c0_0, .int .i64 a0_1], .slice A1 l1.length c1] w fun e w' => ∃ v0_ v2_ : Value, e = .returned (.tuple #[.agg #[v0_, .int .i64 r2], v2_, .int .i64 r4]) ∧ Kd.R (Kd.int .i64) 3 w' w.heap.size (fun k_ => some k_ ≠ (v2_ : Value).ownBlock) v0_ r1 ∧ Kd.R (Kd.int .i64) 3 w' w.heap.size (fun k_ => some k_ ≠ (v0_ : Value).ownBlock) v2_ r3 ∧ Below w.heap.size w w' := by
  unfold impl_Collect.f at h
  split at h
  · split at h
    · rename_i h1 h2
      have := Collect_calls A0_0 c0_0 l0_0 a0_1 A1 c1 l1 w hr0_0 hc0_0 (allIn_of h1) hr1 hc1 (allIn_of h2)
      rw [Option.some.inj h] at this
      exact this
    · cases h
  · cases h
end Go.Proofs.Ytggkkgkjhfgipaa
