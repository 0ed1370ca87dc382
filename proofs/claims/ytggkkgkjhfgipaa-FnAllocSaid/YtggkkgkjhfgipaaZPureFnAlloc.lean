import Derived.Test.YtggkkgkjhfgipaaZQFnAllocx10
import Derived.Test.YtggkkgkjhfgipaaZPureAlloc
namespace Go.Proofs.Ytggkkgkjhfgipaa.Pure
open Go.RowKit Go.Proofs.Ytggkkgkjhfgipaa.QFnAlloc Go.Proofs.YtggkkgkjhfgipaaW.PrintWords Go.Proofs.YtggkkgkjhfgipaaW.PrintLast
theorem wf_byte {n : Int} (h : (Lit.int .u8 n).wf = true) : 0 ≤ n ∧ n ≤ 255 := by
 simp [Lit.wf, IntKind.min, IntKind.max, IntKind.bits, IntKind.signed] at h
 omega
theorem FnAlloc : laws_FnAlloc.Pure := fun l0 _ _ hw => PureAlloc.law_true l0 fun x hx => wf_byte (hw x hx)
end Go.Proofs.Ytggkkgkjhfgipaa.Pure
