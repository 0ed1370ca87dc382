/- The program's insOk in the print's shape. -/
import Derived.Test.YtogmphjhdkgdjaaDoorZInsA
namespace Go.Proofs.YtogmphjhdkgdjaaDoor
open Go.RowKit Go.Lib Go.Proofs.YtogmphjhdkgdjaaDoor.QFnExactValidModule Go.Proofs.YtogmphjhdkgdjaaDoorW.PrintWords Go.Proofs.YtogmphjhdkgdjaaDoorW.PrintLast Go.Proofs.YtogmphjhdkgdjaaDoorW.PrintMore
set_option linter.unusedVariables false
set_option linter.unusedSimpArgs false
theorem idx0 (w : World) : (Instr.index 115 (.agg shapesV) (.int .i64 0)).run Tryd.prog w = .ok (.agg #[.string ⟨#[99, 111, 110, 115, 116]⟩, .string ⟨#[99, 111, 110, 115, 116]⟩, .string ⟨#[]⟩]) w := by kernel_rfl
theorem idx1 (w : World) : (Instr.index 115 (.agg shapesV) (.int .i64 1)).run Tryd.prog w = .ok (.agg #[.string ⟨#[108, 111, 99, 97, 108]⟩, .string ⟨#[115, 108, 111, 116]⟩, .string ⟨#[]⟩]) w := by kernel_rfl
theorem idx2 (w : World) : (Instr.index 115 (.agg shapesV) (.int .i64 2)).run Tryd.prog w = .ok (.agg #[.string ⟨#[102, 114, 101, 101]⟩, .string ⟨#[102, 114, 101, 101]⟩, .string ⟨#[]⟩]) w := by kernel_rfl
theorem idx3 (w : World) : (Instr.index 115 (.agg shapesV) (.int .i64 3)).run Tryd.prog w = .ok (.agg #[.string ⟨#[103, 108, 111, 98, 97, 108]⟩, .string ⟨#[103, 108, 111, 98, 97, 108]⟩, .string ⟨#[]⟩]) w := by kernel_rfl
theorem idx4 (w : World) : (Instr.index 115 (.agg shapesV) (.int .i64 4)).run Tryd.prog w = .ok (.agg #[.string ⟨#[115, 101, 116, 103, 108, 111, 98, 97, 108]⟩, .string ⟨#[103, 108, 111, 98, 97, 108]⟩, .string ⟨#[]⟩]) w := by kernel_rfl
theorem idx5 (w : World) : (Instr.index 115 (.agg shapesV) (.int .i64 5)).run Tryd.prog w = .ok (.agg #[.string ⟨#[98, 111, 120]⟩, .string ⟨#[102, 108, 97, 103]⟩, .string ⟨#[]⟩]) w := by kernel_rfl
theorem idx6 (w : World) : (Instr.index 115 (.agg shapesV) (.int .i64 6)).run Tryd.prog w = .ok (.agg #[.string ⟨#[117, 110, 98, 111, 120]⟩, .string ⟨#[]⟩, .string ⟨#[]⟩]) w := by kernel_rfl
theorem idx7 (w : World) : (Instr.index 115 (.agg shapesV) (.int .i64 7)).run Tryd.prog w = .ok (.agg #[.string ⟨#[115, 101, 116, 98, 111, 120]⟩, .string ⟨#[]⟩, .string ⟨#[]⟩]) w := by kernel_rfl
theorem idx8 (w : World) : (Instr.index 115 (.agg shapesV) (.int .i64 8)).run Tryd.prog w = .ok (.agg #[.string ⟨#[99, 108, 111, 115, 117, 114, 101]⟩, .string ⟨#[102, 117, 110, 99]⟩, .string ⟨#[99, 111, 117, 110, 116]⟩]) w := by kernel_rfl
theorem idx9 (w : World) : (Instr.index 115 (.agg shapesV) (.int .i64 9)).run Tryd.prog w = .ok (.agg #[.string ⟨#[99, 97, 108, 108]⟩, .string ⟨#[97, 114, 103, 115]⟩, .string ⟨#[]⟩]) w := by kernel_rfl
theorem idx10 (w : World) : (Instr.index 115 (.agg shapesV) (.int .i64 10)).run Tryd.prog w = .ok (.agg #[.string ⟨#[116, 97, 105, 108]⟩, .string ⟨#[97, 114, 103, 115]⟩, .string ⟨#[]⟩]) w := by kernel_rfl
theorem idx11 (w : World) : (Instr.index 115 (.agg shapesV) (.int .i64 11)).run Tryd.prog w = .ok (.agg #[.string ⟨#[114, 101, 116, 117, 114, 110]⟩, .string ⟨#[]⟩, .string ⟨#[]⟩]) w := by kernel_rfl
theorem idx12 (w : World) : (Instr.index 115 (.agg shapesV) (.int .i64 12)).run Tryd.prog w = .ok (.agg #[.string ⟨#[106, 117, 109, 112]⟩, .string ⟨#[112, 108, 97, 99, 101]⟩, .string ⟨#[]⟩]) w := by kernel_rfl
theorem idx13 (w : World) : (Instr.index 115 (.agg shapesV) (.int .i64 13)).run Tryd.prog w = .ok (.agg #[.string ⟨#[106, 117, 109, 112, 102, 97, 108, 115, 101]⟩, .string ⟨#[112, 108, 97, 99, 101]⟩, .string ⟨#[]⟩]) w := by kernel_rfl
theorem idx14 (w : World) : (Instr.index 115 (.agg shapesV) (.int .i64 14)).run Tryd.prog w = .ok (.agg #[.string ⟨#[112, 114, 105, 109]⟩, .string ⟨#[112, 114, 105, 109]⟩, .string ⟨#[]⟩]) w := by kernel_rfl
theorem idx15 (w : World) : (Instr.index 115 (.agg shapesV) (.int .i64 15)).run Tryd.prog w = .ok (.agg #[.string ⟨#[115, 108, 105, 100, 101]⟩, .string ⟨#[115, 108, 105, 100, 101]⟩, .string ⟨#[]⟩]) w := by kernel_rfl
theorem idx16 (w : World) : (Instr.index 115 (.agg shapesV) (.int .i64 16)).run Tryd.prog w = .ok (.agg #[.string ⟨#[112, 111, 112]⟩, .string ⟨#[]⟩, .string ⟨#[]⟩]) w := by kernel_rfl
theorem idx17 (w : World) : (Instr.index 115 (.agg shapesV) (.int .i64 17)).run Tryd.prog w = .ok (.agg #[.string ⟨#[118, 111, 105, 100]⟩, .string ⟨#[]⟩, .string ⟨#[]⟩]) w := by kernel_rfl
theorem insOk_any (A0 A2 B1 B2 : Option Addr) (n0 c0 c2 m1 d1 m2 d2 : Nat) (g p op a b : Int) (l2 : List S68) (w : World) (hn0 : n0 ≤ 9223372036854775807) (hm1 : m1 ≤ 9223372036854775807) (hm2 : m2 ≤ 9223372036854775807) (hl2 : l2.length ≤ 9223372036854775807) (hr2 : Kd.C k68 w A2 l2.length l2) :
    Calls Tryd.prog 44 #[.agg #[.slice A0 n0 c0, .int .i64 g, .slice A2 l2.length c2], .agg #[.int .i64 p, .slice B1 m1 d1, .slice B2 m2 d2], .agg #[.int .i64 op, .int .i64 a, .int .i64 b]] w fun e w' => e = .returned (.bool (insW n0 l2.length m1 m2 ((rd_T68 l2 a).f1.length : Int) g op a b)) ∧ Below w.heap.size w w' := by
  by_cases h : 0 ≤ op ∧ op ≤ 17
  · have hc : op = 0 ∨ op = 1 ∨ op = 2 ∨ op = 3 ∨ op = 4 ∨ op = 5 ∨ op = 6 ∨ op = 7 ∨ op = 8 ∨ op = 9 ∨ op = 10 ∨ op = 11 ∨ op = 12 ∨ op = 13 ∨ op = 14 ∨ op = 15 ∨ op = 16 ∨ op = 17 := by omega
    clear h
    by_cases hb : b = 0
    · subst hb
      rcases hc with rfl | rfl | rfl | rfl | rfl | rfl | rfl | rfl | rfl | rfl | rfl | rfl | rfl | rfl | rfl | rfl | rfl | rfl
      · simpa [insW] using ins_plain A0 A2 B1 B2 n0 c0 l2.length c2 m1 d1 m2 d2 g p 0 a 0 _ _ _ _ w (by omega) (by omega) hn0 hm1 hm2 .cons idx0
      · simpa [insW] using ins_plain A0 A2 B1 B2 n0 c0 l2.length c2 m1 d1 m2 d2 g p 1 a 0 _ _ _ _ w (by omega) (by omega) hn0 hm1 hm2 .slot idx1
      · simpa [insW] using ins_plain A0 A2 B1 B2 n0 c0 l2.length c2 m1 d1 m2 d2 g p 2 a 0 _ _ _ _ w (by omega) (by omega) hn0 hm1 hm2 .free idx2
      · simpa [insW] using ins_plain A0 A2 B1 B2 n0 c0 l2.length c2 m1 d1 m2 d2 g p 3 a 0 _ _ _ _ w (by omega) (by omega) hn0 hm1 hm2 .global idx3
      · simpa [insW] using ins_plain A0 A2 B1 B2 n0 c0 l2.length c2 m1 d1 m2 d2 g p 4 a 0 _ _ _ _ w (by omega) (by omega) hn0 hm1 hm2 .global idx4
      · simpa [insW] using ins_plain A0 A2 B1 B2 n0 c0 l2.length c2 m1 d1 m2 d2 g p 5 a 0 _ _ _ _ w (by omega) (by omega) hn0 hm1 hm2 .flag idx5
      · simpa [insW] using ins_plain A0 A2 B1 B2 n0 c0 l2.length c2 m1 d1 m2 d2 g p 6 a 0 _ _ _ _ w (by omega) (by omega) hn0 hm1 hm2 .zero idx6
      · simpa [insW] using ins_plain A0 A2 B1 B2 n0 c0 l2.length c2 m1 d1 m2 d2 g p 7 a 0 _ _ _ _ w (by omega) (by omega) hn0 hm1 hm2 .zero idx7
      · simpa [insW] using ins_func A0 A2 B1 B2 n0 c0 l2.length c2 m1 d1 m2 d2 g p 8 a 0 _ l2 w (by omega) (by omega) hn0 hm1 hm2 rfl hl2 hr2 idx8
      · simpa [insW] using ins_plain A0 A2 B1 B2 n0 c0 l2.length c2 m1 d1 m2 d2 g p 9 a 0 _ _ _ _ w (by omega) (by omega) hn0 hm1 hm2 .args idx9
      · simpa [insW] using ins_plain A0 A2 B1 B2 n0 c0 l2.length c2 m1 d1 m2 d2 g p 10 a 0 _ _ _ _ w (by omega) (by omega) hn0 hm1 hm2 .args idx10
      · simpa [insW] using ins_plain A0 A2 B1 B2 n0 c0 l2.length c2 m1 d1 m2 d2 g p 11 a 0 _ _ _ _ w (by omega) (by omega) hn0 hm1 hm2 .zero idx11
      · simpa [insW] using ins_plain A0 A2 B1 B2 n0 c0 l2.length c2 m1 d1 m2 d2 g p 12 a 0 _ _ _ _ w (by omega) (by omega) hn0 hm1 hm2 .place idx12
      · simpa [insW] using ins_plain A0 A2 B1 B2 n0 c0 l2.length c2 m1 d1 m2 d2 g p 13 a 0 _ _ _ _ w (by omega) (by omega) hn0 hm1 hm2 .place idx13
      · simpa [insW] using ins_plain A0 A2 B1 B2 n0 c0 l2.length c2 m1 d1 m2 d2 g p 14 a 0 _ _ _ _ w (by omega) (by omega) hn0 hm1 hm2 .prim idx14
      · simpa [insW] using ins_plain A0 A2 B1 B2 n0 c0 l2.length c2 m1 d1 m2 d2 g p 15 a 0 _ _ _ _ w (by omega) (by omega) hn0 hm1 hm2 .slide idx15
      · simpa [insW] using ins_plain A0 A2 B1 B2 n0 c0 l2.length c2 m1 d1 m2 d2 g p 16 a 0 _ _ _ _ w (by omega) (by omega) hn0 hm1 hm2 .zero idx16
      · simpa [insW] using ins_plain A0 A2 B1 B2 n0 c0 l2.length c2 m1 d1 m2 d2 g p 17 a 0 _ _ _ _ w (by omega) (by omega) hn0 hm1 hm2 .zero idx17
    · rcases hc with rfl | rfl | rfl | rfl | rfl | rfl | rfl | rfl | rfl | rfl | rfl | rfl | rfl | rfl | rfl | rfl | rfl | rfl
      · simpa [insW, hb] using ins_plain A0 A2 B1 B2 n0 c0 l2.length c2 m1 d1 m2 d2 g p 0 a b _ _ _ _ w (by omega) (by omega) hn0 hm1 hm2 (.bad b _ hb) idx0
      · simpa [insW, hb] using ins_plain A0 A2 B1 B2 n0 c0 l2.length c2 m1 d1 m2 d2 g p 1 a b _ _ _ _ w (by omega) (by omega) hn0 hm1 hm2 (.bad b _ hb) idx1
      · simpa [insW, hb] using ins_plain A0 A2 B1 B2 n0 c0 l2.length c2 m1 d1 m2 d2 g p 2 a b _ _ _ _ w (by omega) (by omega) hn0 hm1 hm2 (.bad b _ hb) idx2
      · simpa [insW, hb] using ins_plain A0 A2 B1 B2 n0 c0 l2.length c2 m1 d1 m2 d2 g p 3 a b _ _ _ _ w (by omega) (by omega) hn0 hm1 hm2 (.bad b _ hb) idx3
      · simpa [insW, hb] using ins_plain A0 A2 B1 B2 n0 c0 l2.length c2 m1 d1 m2 d2 g p 4 a b _ _ _ _ w (by omega) (by omega) hn0 hm1 hm2 (.bad b _ hb) idx4
      · simpa [insW, hb] using ins_plain A0 A2 B1 B2 n0 c0 l2.length c2 m1 d1 m2 d2 g p 5 a b _ _ _ _ w (by omega) (by omega) hn0 hm1 hm2 (.bad b _ hb) idx5
      · simpa [insW, hb] using ins_plain A0 A2 B1 B2 n0 c0 l2.length c2 m1 d1 m2 d2 g p 6 a b _ _ _ _ w (by omega) (by omega) hn0 hm1 hm2 (.bad b _ hb) idx6
      · simpa [insW, hb] using ins_plain A0 A2 B1 B2 n0 c0 l2.length c2 m1 d1 m2 d2 g p 7 a b _ _ _ _ w (by omega) (by omega) hn0 hm1 hm2 (.bad b _ hb) idx7
      · simpa [insW] using ins_func A0 A2 B1 B2 n0 c0 l2.length c2 m1 d1 m2 d2 g p 8 a b _ l2 w (by omega) (by omega) hn0 hm1 hm2 rfl hl2 hr2 idx8
      · simpa [insW, hb] using ins_plain A0 A2 B1 B2 n0 c0 l2.length c2 m1 d1 m2 d2 g p 9 a b _ _ _ _ w (by omega) (by omega) hn0 hm1 hm2 (.bad b _ hb) idx9
      · simpa [insW, hb] using ins_plain A0 A2 B1 B2 n0 c0 l2.length c2 m1 d1 m2 d2 g p 10 a b _ _ _ _ w (by omega) (by omega) hn0 hm1 hm2 (.bad b _ hb) idx10
      · simpa [insW, hb] using ins_plain A0 A2 B1 B2 n0 c0 l2.length c2 m1 d1 m2 d2 g p 11 a b _ _ _ _ w (by omega) (by omega) hn0 hm1 hm2 (.bad b _ hb) idx11
      · simpa [insW, hb] using ins_plain A0 A2 B1 B2 n0 c0 l2.length c2 m1 d1 m2 d2 g p 12 a b _ _ _ _ w (by omega) (by omega) hn0 hm1 hm2 (.bad b _ hb) idx12
      · simpa [insW, hb] using ins_plain A0 A2 B1 B2 n0 c0 l2.length c2 m1 d1 m2 d2 g p 13 a b _ _ _ _ w (by omega) (by omega) hn0 hm1 hm2 (.bad b _ hb) idx13
      · simpa [insW, hb] using ins_plain A0 A2 B1 B2 n0 c0 l2.length c2 m1 d1 m2 d2 g p 14 a b _ _ _ _ w (by omega) (by omega) hn0 hm1 hm2 (.bad b _ hb) idx14
      · simpa [insW, hb] using ins_plain A0 A2 B1 B2 n0 c0 l2.length c2 m1 d1 m2 d2 g p 15 a b _ _ _ _ w (by omega) (by omega) hn0 hm1 hm2 (.bad b _ hb) idx15
      · simpa [insW, hb] using ins_plain A0 A2 B1 B2 n0 c0 l2.length c2 m1 d1 m2 d2 g p 16 a b _ _ _ _ w (by omega) (by omega) hn0 hm1 hm2 (.bad b _ hb) idx16
      · simpa [insW, hb] using ins_plain A0 A2 B1 B2 n0 c0 l2.length c2 m1 d1 m2 d2 g p 17 a b _ _ _ _ w (by omega) (by omega) hn0 hm1 hm2 (.bad b _ hb) idx17
  · have e : insW n0 l2.length m1 m2 ((rd_T68 l2 a).f1.length : Int) g op a b = false := by unfold insW; rw [if_neg h]
    rw [e]
    exact ins_out A0 A2 B1 B2 n0 c0 l2.length c2 m1 d1 m2 d2 g p op a b w h
def impl_Module_insOk.f (l0_0 : List (List S57)) (a0_1 : Int) (l0_2 : List S68) (a1_0 : Int) (l1_1 : List Bool) (l1_2 : List S71) (a2_0 : Int) (a2_1 : Int) (a2_2 : Int) : Option Bool :=
  some (insW l0_0.length l0_2.length l1_1.length l1_2.length ((rd_T68 l0_2 a2_1).f1.length : Int) a0_1 a2_0 a2_1 a2_2)
theorem impl_Module_insOk.calls (A0_0 : Option Addr) (c0_0 : Nat) (l0_0 : List (List S57)) (a0_1 : Int) (A0_2 : Option Addr) (c0_2 : Nat) (l0_2 : List S68) (a1_0 : Int) (A1_1 : Option Addr) (c1_1 : Nat) (l1_1 : List Bool) (A1_2 : Option Addr) (c1_2 : Nat) (l1_2 : List S71) (a2_0 : Int) (a2_1 : Int) (a2_2 : Int) (r : Bool) (w : World)
    (hr0_0 : Kd.C (Kd.slice 57 k57) w A0_0 l0_0.length l0_0) (hc0_0 : l0_0.length ≤ c0_0) (hr0_2 : Kd.C k68 w A0_2 l0_2.length l0_2) (hc0_2 : l0_2.length ≤ c0_2) (hr1_1 : Kd.C Kd.bool w A1_1 l1_1.length l1_1) (hc1_1 : l1_1.length ≤ c1_1) (hr1_2 : Kd.C k71 w A1_2 l1_2.length l1_2) (hc1_2 : l1_2.length ≤ c1_2)
    (h : impl_Module_insOk.f l0_0 a0_1 l0_2 a1_0 l1_1 l1_2 a2_0 a2_1 a2_2 = some r) :
    Calls Tryd.prog 44 #[.agg #[.slice A0_0 l0_0.length c0_0, .int .i64 a0_1, .slice A0_2 l0_2.length c0_2], .agg #[.int .i64 a1_0, .slice A1_1 l1_1.length c1_1, .slice A1_2 l1_2.length c1_2], .agg #[.int .i64 a2_0, .int .i64 a2_1, .int .i64 a2_2]] w fun e w' => e = .returned (.bool r) ∧ Below w.heap.size w w' := by
  cases h
  exact insOk_any A0_0 A0_2 A1_1 A1_2 _ c0_0 c0_2 _ c1_1 _ c1_2 a0_1 a1_0 a2_0 a2_1 a2_2 l0_2 w hr0_0.2.1 hr1_1.2.1 hr1_2.2.1 hr0_2.2.1 hr0_2
end Go.Proofs.YtogmphjhdkgdjaaDoor
