/- The program's ValidHeap in the print's shape, over the hand-proved contract. -/
import Derived.Test.YtggkkgkjhfgipaaZHeapF
namespace Go.Proofs.Ytggkkgkjhfgipaa
open Go.RowKit Go.Proofs.YtggkkgkjhfgipaaW.PrintWords Go.Proofs.YtggkkgkjhfgipaaW.PrintLast Go.Proofs.YtggkkgkjhfgipaaW.PrintMore
set_option linter.unusedVariables false
instance (x : Int) : Decidable (InI64 x) := inferInstanceAs (Decidable (_ ∧ _))
def allIn (xs : List Int) : Bool := xs.all fun x => decide (InI64 x)
theorem allIn_of {xs : List Int} (h : allIn xs = true) : ∀ x ∈ xs, InI64 x := fun x hx => of_decide_eq_true (List.all_eq_true.1 h x hx)
theorem allIn_mk {xs : List Int} (h : ∀ x ∈ xs, InI64 x) : allIn xs = true := List.all_eq_true.2 fun x hx => decide_eq_true (h x hx)
def impl_ValidHeap.f (l0_0 : List Int) (a0_1 : Int) (l1 : List Int) : Option (Bool) := if allIn l0_0 = true then (if allIn l1 = true then some (validF l0_0 a0_1 l1) else none) else none
theorem impl_ValidHeap.calls (A0_0 : Option Addr) (c0_0 : Nat) (l0_0 : List Int) (a0_1 : Int) (A1 : Option Addr) (c1 : Nat) (l1 : List Int) (r : Bool) (w : World) (hr0_0 : Kd.C (Kd.int .i64) w A0_0 l0_0.length l0_0) (hc0_0 : l0_0.length ≤ c0_0) (hr1 : Kd.C (Kd.int .i64) w A1 l1.length l1) (hc1 : l1.length ≤ c1) (h : impl_ValidHeap.f l0_0 a0_1 l1 = some r) :
  Calls Try.prog 24 #[.agg #[.slice A0_0 l0_0.length c0_0, .int .i64 a0_1], .slice A1 l1.length c1] w fun e w' => e = .returned (.bool r) ∧ Below w.heap.size w w' := by
 unfold impl_ValidHeap.f at h
 split at h
 ·split at h
  ·rename_i h1 h2
   cases h
   exact ValidHeap_calls A0_0 c0_0 l0_0 a0_1 A1 c1 l1 w hr0_0 hc0_0 (allIn_of h1) hr1 hc1 (allIn_of h2)
  ·cases h
 ·cases h
end Go.Proofs.Ytggkkgkjhfgipaa
