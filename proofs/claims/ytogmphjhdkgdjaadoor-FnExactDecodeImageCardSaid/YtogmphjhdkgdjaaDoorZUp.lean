/- What is read, or lies in a block, is so behind new blocks and draws: in one word. -/
import Derived.Test.YtogmphjhdkgdjaaDoorZWords
namespace Go.Proofs.YtogmphjhdkgdjaaDoor
open Go.RowKit Go.Proofs.YtogmphjhdkgdjaaDoorW.PrintWords
theorem rUp {α : Type} {d : Kd α} {e base : Nat} {ok : Nat → Prop} {w w' : World} {v : Value} {xs : List α} (h : Kd.R d e w base ok v xs)
    (hb : Below w.heap.size w w' := by (with_reducible repeat (first | apply below_alloc | apply pw_below_drewN | apply below_drew1)); exact Below.refl _ _) : Kd.R d e w' base ok v xs := Kd.R_below h hb
theorem kUp {w w' : World} {g : Nat} {o : Obj} (h : w.heap[g]? = some o)
    (hb : Below w.heap.size w w' := by (with_reducible repeat (first | apply below_alloc | apply pw_below_drewN | apply below_drew1)); exact Below.refl _ _) : w'.heap[g]? = some o := blk_below h hb
abbrev zA := @Aside0.mk
abbrev zB := @below_set
abbrev zC := @pw_below_drewN
abbrev zD := @below_drew1
abbrev zE := @below_alloc
abbrev zF := @of_decide_eq_true
abbrev zG := @decide_eq_true
abbrev zH := @decide_eq_false
abbrev zI := @Kd.R_mono
abbrev zJ := @Kd.R_far
abbrev zK := @Kept.setCell
abbrev zL := @Kd.R_types
abbrev zM := @Kd.R_elder'
abbrev zN := @blk_below
abbrev zO := @Kd.R_reads'
abbrev zP := @Kd.R_below
abbrev zQ := @Kd.R_base
abbrev zR := @Kd.R_new'
abbrev zS := @KeepBut.set_
abbrev zT := @keep_drewN
abbrev zU := @keep_alloc
abbrev zV := @keep_far
abbrev zW := @keep_drew
abbrev zX := @below_step
abbrev zY := @blk_frozen
abbrev zZ := @blk_cell
abbrev za := @Kd.fresh'
abbrev zb := @Kd.R_after
abbrev zc := @Kd.C_alloc
abbrev zd := @Kd.C_drewN
abbrev ze := @Kd.C_drew
abbrev zf := @below_weaken
abbrev zg := @KeepBut.trans
abbrev zk? := @World.block_lt_of_cell?
abbrev zl := @Option.some.inj
abbrev zm := @beq_eq_false_iff_ne
abbrev zn := @bne_eq_false_iff_eq
abbrev zo := @Option.bind_eq_some_iff
abbrev zp := @Bool.eq_false_iff
end Go.Proofs.YtogmphjhdkgdjaaDoor
