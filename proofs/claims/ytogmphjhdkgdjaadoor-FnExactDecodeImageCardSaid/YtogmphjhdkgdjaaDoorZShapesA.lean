/- The program's table of instructions: shapes. -/
import Derived.Test.YtogmphjhdkgdjaaDoorZSymA
import Derived.Deep.WholeRow
namespace Go.Proofs.YtogmphjhdkgdjaaDoor
open Go.RowKit Go.Lib Go.Proofs.YtogmphjhdkgdjaaDoorW.PrintWords Go.Proofs.YtogmphjhdkgdjaaDoorW.PrintLast Go.Proofs.YtogmphjhdkgdjaaDoorW.PrintMore
set_option linter.unusedVariables false
set_option linter.unusedSimpArgs false
/-- The table: of each instruction its word, and what A and B may name. -/
def shapesV : Array Value := #[.string ⟨#[99, 111, 110, 115, 116]⟩, .string ⟨#[99, 111, 110, 115, 116]⟩, .string ⟨#[]⟩,
 .string ⟨#[108, 111, 99, 97, 108]⟩, .string ⟨#[115, 108, 111, 116]⟩, .string ⟨#[]⟩,
 .string ⟨#[102, 114, 101, 101]⟩, .string ⟨#[102, 114, 101, 101]⟩, .string ⟨#[]⟩,
 .string ⟨#[103, 108, 111, 98, 97, 108]⟩, .string ⟨#[103, 108, 111, 98, 97, 108]⟩, .string ⟨#[]⟩,
 .string ⟨#[115, 101, 116, 103, 108, 111, 98, 97, 108]⟩, .string ⟨#[103, 108, 111, 98, 97, 108]⟩, .string ⟨#[]⟩,
 .string ⟨#[98, 111, 120]⟩, .string ⟨#[102, 108, 97, 103]⟩, .string ⟨#[]⟩,
 .string ⟨#[117, 110, 98, 111, 120]⟩, .string ⟨#[]⟩, .string ⟨#[]⟩,
 .string ⟨#[115, 101, 116, 98, 111, 120]⟩, .string ⟨#[]⟩, .string ⟨#[]⟩,
 .string ⟨#[99, 108, 111, 115, 117, 114, 101]⟩, .string ⟨#[102, 117, 110, 99]⟩, .string ⟨#[99, 111, 117, 110, 116]⟩,
 .string ⟨#[99, 97, 108, 108]⟩, .string ⟨#[97, 114, 103, 115]⟩, .string ⟨#[]⟩,
 .string ⟨#[116, 97, 105, 108]⟩, .string ⟨#[97, 114, 103, 115]⟩, .string ⟨#[]⟩,
 .string ⟨#[114, 101, 116, 117, 114, 110]⟩, .string ⟨#[]⟩, .string ⟨#[]⟩,
 .string ⟨#[106, 117, 109, 112]⟩, .string ⟨#[112, 108, 97, 99, 101]⟩, .string ⟨#[]⟩,
 .string ⟨#[106, 117, 109, 112, 102, 97, 108, 115, 101]⟩, .string ⟨#[112, 108, 97, 99, 101]⟩, .string ⟨#[]⟩,
 .string ⟨#[112, 114, 105, 109]⟩, .string ⟨#[112, 114, 105, 109]⟩, .string ⟨#[]⟩,
 .string ⟨#[115, 108, 105, 100, 101]⟩, .string ⟨#[115, 108, 105, 100, 101]⟩, .string ⟨#[]⟩,
 .string ⟨#[112, 111, 112]⟩, .string ⟨#[]⟩, .string ⟨#[]⟩,
 .string ⟨#[118, 111, 105, 100]⟩, .string ⟨#[]⟩, .string ⟨#[]⟩]
section
variable {P : Program} {ops : Array Oper} {rest : List Oper} {o : Oper} {a : Act} {Q : Exit → Act → World → Prop}
/-- An operation whose value is known; it gets a letter. -/
theorem value_event {W : World} {v : Value} (hgd : o.guard = none) {N : Tmp} (hN : o.dst = some N) (hrun : (execOp a.eval o).run P W = .ok (.value v) W) (h : ∀ v', Hid (v' = v) → wpList P ops Q rest (a.put (some N) v') W) : wpList P ops Q (o :: rest) a W := by
 refine wpList_plain hgd fun K hK => ?_
 unfold Oper.wp
 rw [hrun]
 show K (a.put o.dst v) W
 rw [hN]
 exact hK _ _ (h v (Lib.hid rfl))
theorem run_store_op {W w1 : World} {t : TypeId} {p v : Operand} (ho : o.op = .store t p v) (h : (Instr.storeAt t (a.eval p) (a.eval v)).run P W = .ok () w1) : (execOp a.eval o).run P W = .ok .skip w1 := by
 simp [execOp, ho, h, Result.andThen]
end
set_option maxHeartbeats 4000000 in
set_option maxRecDepth 100000 in
theorem shapes_any (w : World) : Calls Tryd.prog 71 #[] w fun e w' => e = .returned (.agg shapesV) ∧ Below w.heap.size w w' := by
 go_enter Tryd.func71, Tryd.ntmps71
 go_wp2_with (first
  | ((with_reducible refine gate_dst (N := 1) rfl ?_); refine value_event (v := .agg #[.string ⟨#[99, 111, 110, 115, 116]⟩, .string ⟨#[99, 111, 110, 115, 116]⟩, .string ⟨#[]⟩]) ?hg (N := 1) ?hd ?hr ?_; (case hd => rfl); (case hg => rfl); (case hr => kernel_rfl); intro v1 H1)
  | ((with_reducible refine gate_dst (N := 2) rfl ?_); refine value_event (v := .agg #[.string ⟨#[108, 111, 99, 97, 108]⟩, .string ⟨#[115, 108, 111, 116]⟩, .string ⟨#[]⟩]) ?hg (N := 2) ?hd ?hr ?_; (case hd => rfl); (case hg => rfl); (case hr => kernel_rfl); intro v2 H2)
  | ((with_reducible refine gate_dst (N := 3) rfl ?_); refine value_event (v := .agg #[.string ⟨#[102, 114, 101, 101]⟩, .string ⟨#[102, 114, 101, 101]⟩, .string ⟨#[]⟩]) ?hg (N := 3) ?hd ?hr ?_; (case hd => rfl); (case hg => rfl); (case hr => kernel_rfl); intro v3 H3)
  | ((with_reducible refine gate_dst (N := 4) rfl ?_); refine value_event (v := .agg #[.string ⟨#[103, 108, 111, 98, 97, 108]⟩, .string ⟨#[103, 108, 111, 98, 97, 108]⟩, .string ⟨#[]⟩]) ?hg (N := 4) ?hd ?hr ?_; (case hd => rfl); (case hg => rfl); (case hr => kernel_rfl); intro v4 H4)
  | ((with_reducible refine gate_dst (N := 5) rfl ?_); refine value_event (v := .agg #[.string ⟨#[115, 101, 116, 103, 108, 111, 98, 97, 108]⟩, .string ⟨#[103, 108, 111, 98, 97, 108]⟩, .string ⟨#[]⟩]) ?hg (N := 5) ?hd ?hr ?_; (case hd => rfl); (case hg => rfl); (case hr => kernel_rfl); intro v5 H5)
  | ((with_reducible refine gate_dst (N := 6) rfl ?_); refine value_event (v := .agg #[.string ⟨#[98, 111, 120]⟩, .string ⟨#[102, 108, 97, 103]⟩, .string ⟨#[]⟩]) ?hg (N := 6) ?hd ?hr ?_; (case hd => rfl); (case hg => rfl); (case hr => kernel_rfl); intro v6 H6)
  | ((with_reducible refine gate_dst (N := 7) rfl ?_); refine value_event (v := .agg #[.string ⟨#[117, 110, 98, 111, 120]⟩, .string ⟨#[]⟩, .string ⟨#[]⟩]) ?hg (N := 7) ?hd ?hr ?_; (case hd => rfl); (case hg => rfl); (case hr => kernel_rfl); intro v7 H7)
  | ((with_reducible refine gate_dst (N := 8) rfl ?_); refine value_event (v := .agg #[.string ⟨#[115, 101, 116, 98, 111, 120]⟩, .string ⟨#[]⟩, .string ⟨#[]⟩]) ?hg (N := 8) ?hd ?hr ?_; (case hd => rfl); (case hg => rfl); (case hr => kernel_rfl); intro v8 H8)
  | ((with_reducible refine gate_dst (N := 9) rfl ?_); refine value_event (v := .agg #[.string ⟨#[99, 108, 111, 115, 117, 114, 101]⟩, .string ⟨#[102, 117, 110, 99]⟩, .string ⟨#[99, 111, 117, 110, 116]⟩]) ?hg (N := 9) ?hd ?hr ?_; (case hd => rfl); (case hg => rfl); (case hr => kernel_rfl); intro v9 H9)
  | ((with_reducible refine gate_dst (N := 10) rfl ?_); refine value_event (v := .agg #[.string ⟨#[99, 97, 108, 108]⟩, .string ⟨#[97, 114, 103, 115]⟩, .string ⟨#[]⟩]) ?hg (N := 10) ?hd ?hr ?_; (case hd => rfl); (case hg => rfl); (case hr => kernel_rfl); intro v10 H10)
  | ((with_reducible refine gate_dst (N := 11) rfl ?_); refine value_event (v := .agg #[.string ⟨#[116, 97, 105, 108]⟩, .string ⟨#[97, 114, 103, 115]⟩, .string ⟨#[]⟩]) ?hg (N := 11) ?hd ?hr ?_; (case hd => rfl); (case hg => rfl); (case hr => kernel_rfl); intro v11 H11)
  | ((with_reducible refine gate_dst (N := 12) rfl ?_); refine value_event (v := .agg #[.string ⟨#[114, 101, 116, 117, 114, 110]⟩, .string ⟨#[]⟩, .string ⟨#[]⟩]) ?hg (N := 12) ?hd ?hr ?_; (case hd => rfl); (case hg => rfl); (case hr => kernel_rfl); intro v12 H12)
  | ((with_reducible refine gate_dst (N := 13) rfl ?_); refine value_event (v := .agg #[.string ⟨#[106, 117, 109, 112]⟩, .string ⟨#[112, 108, 97, 99, 101]⟩, .string ⟨#[]⟩]) ?hg (N := 13) ?hd ?hr ?_; (case hd => rfl); (case hg => rfl); (case hr => kernel_rfl); intro v13 H13)
  | ((with_reducible refine gate_dst (N := 14) rfl ?_); refine value_event (v := .agg #[.string ⟨#[106, 117, 109, 112, 102, 97, 108, 115, 101]⟩, .string ⟨#[112, 108, 97, 99, 101]⟩, .string ⟨#[]⟩]) ?hg (N := 14) ?hd ?hr ?_; (case hd => rfl); (case hg => rfl); (case hr => kernel_rfl); intro v14 H14)
  | ((with_reducible refine gate_dst (N := 15) rfl ?_); refine value_event (v := .agg #[.string ⟨#[112, 114, 105, 109]⟩, .string ⟨#[112, 114, 105, 109]⟩, .string ⟨#[]⟩]) ?hg (N := 15) ?hd ?hr ?_; (case hd => rfl); (case hg => rfl); (case hr => kernel_rfl); intro v15 H15)
  | ((with_reducible refine gate_dst (N := 16) rfl ?_); refine value_event (v := .agg #[.string ⟨#[115, 108, 105, 100, 101]⟩, .string ⟨#[115, 108, 105, 100, 101]⟩, .string ⟨#[]⟩]) ?hg (N := 16) ?hd ?hr ?_; (case hd => rfl); (case hg => rfl); (case hr => kernel_rfl); intro v16 H16)
  | ((with_reducible refine gate_dst (N := 17) rfl ?_); refine value_event (v := .agg #[.string ⟨#[112, 111, 112]⟩, .string ⟨#[]⟩, .string ⟨#[]⟩]) ?hg (N := 17) ?hd ?hr ?_; (case hd => rfl); (case hg => rfl); (case hr => kernel_rfl); intro v17 H17)
  | ((with_reducible refine gate_dst (N := 18) rfl ?_); refine value_event (v := .agg #[.string ⟨#[118, 111, 105, 100]⟩, .string ⟨#[]⟩, .string ⟨#[]⟩]) ?hg (N := 18) ?hd ?hr ?_; (case hd => rfl); (case hg => rfl); (case hr => kernel_rfl); intro v18 H18)
  | ((with_reducible refine gate_dst (N := 19) rfl ?_); refine value_event (v := .agg shapesV) ?hg (N := 19) ?hd ?hr ?_; (case hd => rfl); (case hg => rfl); (case hr => (obtain rfl := H1.out; obtain rfl := H2.out; obtain rfl := H3.out; obtain rfl := H4.out; obtain rfl := H5.out; obtain rfl := H6.out; obtain rfl := H7.out; obtain rfl := H8.out; obtain rfl := H9.out; obtain rfl := H10.out; obtain rfl := H11.out; obtain rfl := H12.out; obtain rfl := H13.out; obtain rfl := H14.out; obtain rfl := H15.out; obtain rfl := H16.out; obtain rfl := H17.out; obtain rfl := H18.out; kernel_rfl)); intro v19 H19; simp only [Act.put, List.setIfInBounds_toArray, List.set_cons_succ, List.set_cons_zero])
  | ((with_reducible refine gate_store (t := 115) (p := 0) rfl ?_); refine store_event (t := 115) (p := 0) (v := .tmp 19) (w1 := w.alloc (.cells shapesV 115)) ?hg ?ho ?hn ?hr ?_; (case ho => rfl); (case hg => rfl); (case hn => rfl); (case hr => (refine run_store_op (t := 115) (p := .tmp 0) (v := .tmp 19) rfl ?_; obtain rfl := H19.out; exact run_storeAt_new (P := Tryd.prog) w 115 _ shapesV (by kernel_rfl) (by kernel_rfl) (by kernel_rfl))); intro w1 hw1))
 subst hw1
 refine bodyPost_ret (v := .agg shapesV) ?_ rfl ⟨rfl, (Below.refl _ _).alloc (Nat.le_refl _) _⟩
 exact results_cell_row (d := .array 18 114) rfl _ _ w.heap.size 115 shapesV (0, 0) rfl (heap_alloc_new w _) Tryd.underlying115 rfl (by kernel_rfl)
end Go.Proofs.YtogmphjhdkgdjaaDoor
