/- The program's Alloc in the print's shape, over the hand-proved contract. -/
import Derived.Test.YtggkkgkjhfgipaaZAllocB
namespace Go.Proofs.Ytggkkgkjhfgipaa
open Go.RowKit Go.Proofs.YtggkkgkjhfgipaaW.PrintWords Go.Proofs.YtggkkgkjhfgipaaW.PrintLast Go.Proofs.YtggkkgkjhfgipaaW.PrintMore
set_option linter.unusedVariables false
def impl_Alloc.f (l0_0 : List Int) (a0_1 : Int) (a1 : Int) (l2 : List Int) : Option (List Int × Int × Int × Int) := if allIn l0_0 = true then (if allIn l2 = true then some (allocF l0_0 a0_1 a1 l2) else none) else none
theorem impl_Alloc.calls (A0_0 : Option Addr) (c0_0 : Nat) (l0_0 : List Int) (a0_1 : Int) (a1 : Int) (A2 : Option Addr) (c2 : Nat) (l2 : List Int) (r1 : List Int) (r2 : Int) (r3 : Int) (r4 : Int) (w : World) (hr0_0 : Kd.C (Kd.int .i64) w A0_0 l0_0.length l0_0) (hc0_0 : l0_0.length ≤ c0_0) (hr2 : Kd.C (Kd.int .i64) w A2 l2.length l2) (hc2 : l2.length ≤ c2) (h : impl_Alloc.f l0_0 a0_1 a1 l2 = some (r1, r2, r3, r4)) :
  Calls Try.prog 27 #[.agg #[.slice A0_0 l0_0.length c0_0, .int .i64 a0_1], .int .i64 a1, .slice A2 l2.length c2] w fun e w' => ∃ v0_ : Value, e = .returned (.tuple #[.agg #[v0_, .int .i64 r2], .int .i64 r3, .int .i64 r4]) ∧ Kd.R (Kd.int .i64) 3 w' w.heap.size (fun _ => True) v0_ r1 ∧ Below w.heap.size w w' := by
 unfold impl_Alloc.f at h
 split at h
 ·split at h
  ·rename_i h1 h2
   have := Alloc_calls A0_0 c0_0 l0_0 a0_1 a1 A2 c2 l2 w hr0_0 hc0_0 (allIn_of h1) hr2 hc2 (allIn_of h2)
   rw [Option.some.inj h] at this
   exact this
  ·cases h
 ·cases h
end Go.Proofs.Ytggkkgkjhfgipaa
