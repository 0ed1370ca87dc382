/- What is read, or lies in a block, is so behind new blocks and draws: in one word. -/
import Derived.Test.YtggkkgkjhfgipaaZWords
namespace Go.Proofs.Ytggkkgkjhfgipaa
open Go.RowKit Go.Proofs.YtggkkgkjhfgipaaW.PrintWords
theorem rUp {α : Type} {d : Kd α} {e base : Nat} {ok : Nat → Prop} {w w' : World} {v : Value} {xs : List α} (h : Kd.R d e w base ok v xs)
    (hb : Below w.heap.size w w' := by (with_reducible repeat (first | apply below_alloc | apply pw_below_drewN | apply below_drew1)); exact Below.refl _ _) : Kd.R d e w' base ok v xs := Kd.R_below h hb
theorem kUp {w w' : World} {g : Nat} {o : Obj} (h : w.heap[g]? = some o)
    (hb : Below w.heap.size w w' := by (with_reducible repeat (first | apply below_alloc | apply pw_below_drewN | apply below_drew1)); exact Below.refl _ _) : w'.heap[g]? = some o := blk_below h hb
abbrev zA := @Aside0.mk
abbrev zB := @below_set
abbrev zC := @pw_below_drewN
abbrev zD := @below_drew1
abbrev zE := @below_alloc
abbrev zF := @of_decide_eq_true
abbrev zG := @decide_eq_true
abbrev zH := @decide_eq_false
abbrev zI := @Kd.R_mono
abbrev zJ := @Kd.R_far
abbrev zK := @Kept.setCell
abbrev zL := @Kd.R_types
abbrev zM := @Kd.R_elder'
abbrev zN := @blk_below
abbrev zO := @Kd.R_reads'
abbrev zP := @Kd.R_below
abbrev zQ := @Kd.R_base
abbrev zR := @Kd.R_new'
abbrev zS := @KeepBut.set_
abbrev zT := @keep_drewN
abbrev zU := @keep_alloc
abbrev zV := @keep_far
abbrev zW := @keep_drew
abbrev zX := @below_step
abbrev zY := @blk_frozen
abbrev zZ := @blk_cell
abbrev za := @Kd.fresh'
abbrev zb := @Kd.R_after
abbrev zc := @Kd.C_alloc
abbrev zd := @Kd.C_drewN
abbrev ze := @Kd.C_drew
abbrev zf := @below_weaken
abbrev zg := @KeepBut.trans
abbrev zk? := @World.block_lt_of_cell?
abbrev zl := @Option.some.inj
abbrev zm := @beq_eq_false_iff_ne
abbrev zn := @bne_eq_false_iff_eq
abbrev zo := @Option.bind_eq_some_iff
abbrev zp := @Bool.eq_false_iff
theorem bU {P Q : Prop} (h : P) (q : P → Q := by intro h_; (with_reducible repeat (first | refine blk_drewN ?_ _ | refine blk_drew ?_ | refine blk_alloc ?_ _)); exact h_) : Q := q h
theorem bR {P Q : Prop} (h : P) (q : P → Q := by intro h_; (with_reducible repeat (first | apply Kd.R_alloc | apply Kd.R_drewN | apply Kd.R_drew)); exact h_) : Q := q h
theorem bE {P Q : Prop} (h : P) (q : P → Q := by intro h_; repeat (first | (with_reducible first | exact h_ | apply zE | apply zC | apply zD) | exact h_)) : Q := q h
theorem bA {P Q : Prop} {G0 : Prop} (h : P) (k0 : G0) (q : P → G0 → Q := by intro h_ g0_; repeat (first | (with_reducible first | exact h_ | apply zE | apply zC | apply zD | refine zB ?_ g0_) | exact h_)) : Q := q h k0
theorem bD {P Q : Prop} {G0 : Prop} {G1 : Prop} (h : P) (k0 : G0) (k1 : G1) (q : P → G0 → G1 → Q := by intro h_ g0_ g1_; repeat (first | (with_reducible first | exact h_ | apply zE | apply zC | apply zD | refine zB ?_ g0_ | refine zB ?_ g1_) | exact h_)) : Q := q h k0 k1
theorem bC {P Q : Prop} {G0 : Prop} {G1 : Prop} {G2 : Prop} (h : P) (k0 : G0) (k1 : G1) (k2 : G2) (q : P → G0 → G1 → G2 → Q := by intro h_ g0_ g1_ g2_; repeat (first | (with_reducible first | exact h_ | apply zE | apply zC | apply zD | refine zB ?_ g0_ | refine zB ?_ g1_ | refine zB ?_ g2_) | exact h_)) : Q := q h k0 k1 k2
theorem bI {P Q : Prop} {G0 : Prop} {G1 : Prop} {G2 : Prop} {G3 : Prop} (h : P) (k0 : G0) (k1 : G1) (k2 : G2) (k3 : G3) (q : P → G0 → G1 → G2 → G3 → Q := by intro h_ g0_ g1_ g2_ g3_; repeat (first | (with_reducible first | exact h_ | apply zE | apply zC | apply zD | refine zB ?_ g0_ | refine zB ?_ g1_ | refine zB ?_ g2_ | refine zB ?_ g3_) | exact h_)) : Q := q h k0 k1 k2 k3
theorem bG {P Q : Prop} (h : P) (q : P → Q := by intro h_; repeat (first | (with_reducible first | exact h_ | apply IsS86.alloc | apply IsS86.drewN | apply IsS86.drew | apply IsS86.set_1) | exact h_)) : Q := q h
theorem bJ {P Q : Prop} (h : P) (q : P → Q := by intro h_; repeat (first | (with_reducible first | exact h_ | apply zS | apply zT | apply zW | apply zU) | exact h_)) : Q := q h
theorem bL {P Q : Prop} {G0 : Prop} (h : P) (k0 : G0) (q : P → G0 → Q := by intro h_ g0_; repeat (first | (with_reducible first | exact h_ | apply zS | apply zT | apply zW | apply zU | refine zV ?_ g0_ _) | exact h_)) : Q := q h k0
theorem bH {P Q : Prop} {G0 : Prop} (h : P) (k0 : G0) (q : P → G0 → Q := by intro h_ g0_; repeat (first | (with_reducible first | exact h_ | apply IsS86.alloc | apply IsS86.drewN | apply IsS86.drew | apply IsS86.set_1 | refine IsS86.far ?_ g0_ _) | exact h_)) : Q := q h k0
theorem bF {P Q : Prop} {G0 : Prop} {G1 : Prop} (h : P) (k0 : G0) (k1 : G1) (q : P → G0 → G1 → Q := by intro h_ g0_ g1_; repeat (first | (with_reducible first | exact h_ | apply zS | apply zT | apply zW | apply zU | refine zV ?_ g0_ _ | refine zV ?_ g1_ _) | exact h_)) : Q := q h k0 k1
theorem bB {P Q : Prop} {G0 : Prop} {G1 : Prop} (h : P) (k0 : G0) (k1 : G1) (q : P → G0 → G1 → Q := by intro h_ g0_ g1_; repeat (first | (with_reducible first | exact h_ | apply IsS86.alloc | apply IsS86.drewN | apply IsS86.drew | apply IsS86.set_1 | refine IsS86.far ?_ g0_ _ | refine IsS86.far ?_ g1_ _) | exact h_)) : Q := q h k0 k1
theorem bM {P Q : Prop} {G0 : Prop} {G1 : Prop} {G2 : Prop} (h : P) (k0 : G0) (k1 : G1) (k2 : G2) (q : P → G0 → G1 → G2 → Q := by intro h_ g0_ g1_ g2_; repeat (first | (with_reducible first | exact h_ | apply zS | apply zT | apply zW | apply zU | refine zV ?_ g0_ _ | refine zV ?_ g1_ _ | refine zV ?_ g2_ _) | exact h_)) : Q := q h k0 k1 k2
theorem bN {P Q : Prop} {G0 : Prop} {G1 : Prop} {G2 : Prop} (h : P) (k0 : G0) (k1 : G1) (k2 : G2) (q : P → G0 → G1 → G2 → Q := by intro h_ g0_ g1_ g2_; repeat (first | (with_reducible first | exact h_ | apply IsS86.alloc | apply IsS86.drewN | apply IsS86.drew | apply IsS86.set_1 | refine IsS86.far ?_ g0_ _ | refine IsS86.far ?_ g1_ _ | refine IsS86.far ?_ g2_ _) | exact h_)) : Q := q h k0 k1 k2
theorem bK {P Q : Prop} {G0 : Prop} {G1 : Prop} {G2 : Prop} {G3 : Prop} {G4 : Prop} (h : P) (k0 : G0) (k1 : G1) (k2 : G2) (k3 : G3) (k4 : G4) (q : P → G0 → G1 → G2 → G3 → G4 → Q := by intro h_ g0_ g1_ g2_ g3_ g4_; repeat (first | (with_reducible first | exact h_ | apply zE | apply zC | apply zD | refine zB ?_ g0_ | refine zB ?_ g1_ | refine zB ?_ g2_ | refine zB ?_ g3_ | refine zB ?_ g4_) | exact h_)) : Q := q h k0 k1 k2 k3 k4
end Go.Proofs.Ytggkkgkjhfgipaa
