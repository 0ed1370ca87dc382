-- Written by a program of this session (wip/tools/ownprint.py) over hand-proved contracts.
import Derived.Test.YtggkkgkjhfgipaaDoorProg
import Derived.Below
import Derived.Deep.Draws
import Derived.Deep.AppendLies
import Derived.Maps.AppendAt
import Derived.OwnWalk
import Derived.Laws.BytesArg
import Derived.Laws.MakeOwn
import Derived.Laws.OwnMore
import Derived.Deep.OwnRows
import Derived.Tactics
import Derived.Lib.ConvBytes
import Derived.Laws.Slices
import Derived.WalkKit
import Derived.KernelRfl
import Derived.RowKit3
import Derived.Deep.LoopGhost
import Derived.Deep.QuietTactic
import Derived.BigQuiet
import Derived.WideLaws
import Derived.Deep.DeepCutAuto
import Derived.Deep.CutBlock
import Derived.Deep.RegionHeld3
import Derived.Laws.Rows
import Derived.Lib.AppendStr
import Derived.ArgAppend
import Derived.Laws.IdiomCopy
import Derived.OrdersHeld
import Derived.Laws.BitsLemmas
import Derived.RowKit
import Derived.Test.YtggkkgkjhfgipaaDoorWWords
import Derived.Test.YtggkkgkjhfgipaaDoorWLast
import Derived.Test.YtggkkgkjhfgipaaDoorWTab
import Derived.Test.YtggkkgkjhfgipaaDoorWFour
import Derived.Test.YtggkkgkjhfgipaaDoorWQPut
import Derived.Test.YtggkkgkjhfgipaaDoorWApart
import Derived.Test.YtggkkgkjhfgipaaDoorWArr
import Derived.Test.YtggkkgkjhfgipaaDoorWZeros
import Derived.Test.YtggkkgkjhfgipaaDoorWFoot
import Derived.Test.YtggkkgkjhfgipaaDoorWKept
import Derived.Test.YtggkkgkjhfgipaaDoorWShare
import Derived.Test.YtggkkgkjhfgipaaDoorWN
import Derived.Test.YtggkkgkjhfgipaaDoorWFootNe
import Derived.Test.YtggkkgkjhfgipaaDoorWAt
import Derived.Test.YtggkkgkjhfgipaaDoorWEqStruct
import Derived.Test.YtggkkgkjhfgipaaDoorWRepsOne
import Derived.Test.YtggkkgkjhfgipaaDoorWInv
import Derived.Test.YtggkkgkjhfgipaaDoorWInvWords
import Derived.Test.YtggkkgkjhfgipaaDoorWGuard
import Derived.Test.YtggkkgkjhfgipaaDoorWNEv
import Derived.Test.YtggkkgkjhfgipaaDoorWMore
namespace Go.Proofs.YtggkkgkjhfgipaaDoor.QFnExactShowWord
open Go.RowKit Go.Proofs.YtggkkgkjhfgipaaDoorW.PrintWords Go.Proofs.YtggkkgkjhfgipaaDoorW.PrintLast Go.Proofs.YtggkkgkjhfgipaaDoorW.PrintMore
attribute [local go_sem] max2_int min2_int max_two min_two max_three min_three max_four min_four   -- for this text's walks alone
set_option linter.unusedVariables false
set_option linter.unusedSimpArgs false



def errW : Option Int → Value
  | none => .nilIface
  | some c => .iface 0 (.int .i64 c)
theorem errW_none : errW none = .nilIface := rfl
theorem errW_some (c : Int) : errW (some c) = .iface 0 (.int .i64 c) := rfl

theorem info3 : (Tryd.prog.info? 3).map (fun i => (i.zero, i.size, i.bytes)) = some (some (.int .i64 0), 1, 8) := by kernel_rfl
theorem info4 : (Tryd.prog.info? 4).map (fun i => (i.zero, i.size, i.bytes)) = some (some (.bool false), 1, 1) := by kernel_rfl
theorem info5 : (Tryd.prog.info? 5).map (fun i => (i.zero, i.size, i.bytes)) = some (some (.int .u8 0), 1, 1) := by kernel_rfl
-- the values' own types
def rd_L2 (xs : List (List Int)) (i : Int) : (List Int) := xs.getD i.toNat ([] : List Int)
theorem at_L2 {w : World} {A : Option Addr} {n : Nat} {xs : List (List Int)} (h : Kd.C (Kd.slice 5 (Kd.int .u8)) w A n xs) (i : Int) (h0 : 0 ≤ i) (h1 : i < n) : ∃ ad A0 c0, A = some ad ∧ w.cell? (ad.add i.toNat) = some (.slice A0 (rd_L2 xs i).length c0) ∧ (rd_L2 xs i).length ≤ c0 ∧ (Kd.int .u8).C w A0 (rd_L2 xs i).length (rd_L2 xs i) := by
  obtain ⟨ad, c, e, _, hK, hc0⟩ := Kd.C_get h ([] : List Int) i h0 h1
  have hc : ∀ j u, c[j]? = some u → w.cell? (ad.add (i.toNat * 1 + j)) = some u := hc0
  obtain ⟨A0, c0, rfl, l0, g0⟩ := hK
  exact ⟨ad, A0, c0, e, by have hq := hc 0 _ rfl; rwa [Nat.mul_one, Nat.add_zero] at hq, l0, g0⟩

theorem viewAt_ {α : Type} {d : Kd α} {e base m : Nat} {ok : Nat → Prop} {w W1_ : World} {v : Value} {xs : List α} (hq : w.drewN m = W1_) (h : Kd.V d e w base ok v xs) : Kd.V d e W1_ base ok v xs := by
  subst hq
  exact Kd.V_drewN h m
end Go.Proofs.YtggkkgkjhfgipaaDoor.QFnExactShowWord
