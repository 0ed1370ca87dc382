/- The program's copier: its method word, in memory alone. -/
import Derived.Test.YtggkkgkjhfgipaaZAllocA
import Derived.StillTailTactics
namespace Go.Proofs.Ytggkkgkjhfgipaa
open Go.RowKit Go.Proofs.YtggkkgkjhfgipaaW.PrintWords Go.Proofs.YtggkkgkjhfgipaaW.PrintLast Go.Proofs.YtggkkgkjhfgipaaW.PrintMore
open Go.ChangeMaps (setBlock)
set_option linter.unusedVariables false
set_option linter.unusedSimpArgs false
/-- Nothing but the blocks S has turned. -/
structure But (S : Nat → Prop) (w w' : World) : Prop where
 os : w'.os = w.os
 tape : w'.tape = w.tape
 output : w'.output = w.output
 size : w.heap.size ≤ w'.heap.size
 block : ∀ k, k < w.heap.size → ¬ S k → w'.heap[k]? = w.heap[k]?
theorem But.refl (S : Nat → Prop) (w : World) : But S w w := ⟨rfl, rfl, rfl, Nat.le_refl _, fun _ _ _ => rfl⟩
theorem But.trans {S : Nat → Prop} {a b c : World} (h : But S a b) (k : But S b c) : But S a c :=
 ⟨k.os.trans h.os, k.tape.trans h.tape, k.output.trans h.output, Nat.le_trans h.size k.size, fun i hi hs => (k.block i (Nat.lt_of_lt_of_le hi h.size) hs).trans (h.block i hi hs)⟩
theorem But.alloc {S : Nat → Prop} {a w : World} (h : But S a w) (o : Obj) : But S a (w.alloc o) :=
 h.trans ⟨rfl, rfl, rfl, by simp, fun k hk _ => Below.heap_alloc _ _ _ hk⟩
theorem But.setCell {S : Nat → Prop} {a w : World} (h : But S a w) {p : Addr} (hp : S p.block) (u : Value) : But S a (w.setCell p u) :=
 h.trans ⟨rfl, rfl, rfl, by simp [World.setCell], fun k hk hs => Below.heap_setCell _ _ _ _ (fun e => hs (e ▸ hp))⟩
theorem But.setBlock {S : Nat → Prop} {a w : World} (h : But S a w) {b : Nat} (hp : S b) (o : Obj) : But S a (setBlock w b o) :=
 h.trans ⟨rfl, rfl, rfl, by simp [Go.ChangeMaps.setBlock], fun k hk hs => by
  simp [Go.ChangeMaps.setBlock, Array.getElem?_setIfInBounds]
  intro e
  exact absurd (e ▸ hp) hs⟩
theorem But.drew {S : Nat → Prop} {a w : World} (h : But S a w) : But S a w.drew := ⟨h.os, h.tape, h.output, h.size, h.block⟩
theorem But.below {S : Nat → Prop} {B : Nat} {w0 w w' : World} (hb : Below B w0 w) (h : But S w w') (hS : ∀ k, S k → B ≤ k) (hB : B ≤ w.heap.size) : Below B w0 w' :=
 ⟨h.os.trans hb.os, h.tape.trans hb.tape, h.output.trans hb.output, Nat.le_trans hb.size h.size, fun k hk => (h.block k (by omega) (fun hs => by have := hS k hs; omega)).trans (hb.block k hk)⟩
theorem But.of_below {S : Nat → Prop} {w w' : World} (h : Below w.heap.size w w') : But S w w' := ⟨h.os, h.tape, h.output, h.size, fun k hk _ => h.block k hk⟩
theorem zero_int (w : World) : (zeroValue 3).run Try.prog w = .ok (.int .i64 0) w := by kernel_rfl

theorem But.cell {S : Nat → Prop} {w w' : World} (h : But S w w') {a : Addr} {v : Value} (hc : w.cell? a = some v) (hs : ¬ S a.block) : w'.cell? a = some v :=
 (World.cell?_of_block (h.block a.block (World.block_lt_of_cell? w _ hc) hs)).trans hc
theorem But.blk {S : Nat → Prop} {w w' : World} (h : But S w w') {g : Nat} {o : Obj} (hc : w.heap[g]? = some o) (hs : ¬ S g) : w'.heap[g]? = some o := (h.block g (blk_lt hc) hs).trans hc
theorem But.mono {S T : Nat → Prop} {w w' : World} (h : But S w w') (hs : ∀ k, S k → T k) : But T w w' := ⟨h.os, h.tape, h.output, h.size, fun k hk ht => h.block k hk (fun e => ht (hs k e))⟩
theorem But.setRow (w : World) (g : Nat) (cs : Array Value) : But (fun j => j = g) w (w.setRow g cs) := ⟨rfl, rfl, rfl, by simp [World.setRow], fun k hk hs => setRow_other w g k cs (fun e => hs e)⟩
/-- copy, as one step of a region that draws its order; only the row that is written has turned. -/
theorem step_copy_but {P : Program} {ops : Array Oper} {o : Oper} {a : Act} {w : World} {K : Act → World → Prop} {Q : Exit → Act → World → Prop} {E : Prop} (hgd : o.guard = none) (d s : Operand) (dT sT : TypeId)
  (ho : o.op = .call { callee := .builtin .copy, args := #[d, s], argTypes := #[dT, sT] }) (elem : TypeId) (hu : P.underlying dT = some (.slice elem)) (hsz : (P.info? elem).map (·.size) = some 1)
  (dp sp : Option Addr) (dLen dCap sLen sCap : Nat) (hd : a.eval d = .slice dp dLen dCap) (hs : a.eval s = .slice sp sLen sCap)
  (g off : Nat) (cur : List Value) (t : TypeId) (hg : w.heap[g]? = some (.cells cur.toArray t (0, 0))) (cs : List Value) (hn : cs.length = Nat.min sLen dLen)
  (hpos : 0 < cs.length → dp = some ⟨g, off, none⟩ ∧ ∃ ad, sp = some ad ∧ ∀ j v, cs[j]? = some v → w.cell? (ad.add j) = some v)
  (hfit : off + cs.length ≤ cur.length) (h1 : ∀ v ∈ cs, v.oneCell' = true)
  (h : ∀ w', Hid (w'.heap[g]? = some (.cells (splice cur off cs).toArray t (0, 0))) → Hid (But (fun j => j = g) w w') → K (a.put o.dst (goInt cs.length)) w') :
  if Region.wanted o (yielded ops a.tmps) = true then Oper.wp P o a w K Q else E := by
 have hw : Region.wanted o (yielded ops a.tmps) = true := by simp [Region.wanted, hgd]
 rw [if_pos hw]
 by_cases h0 : cs.length = 0
 ·obtain rfl : cs = [] := List.eq_nil_of_length_eq_zero h0
  have hrun := run_copy_none (P := P) w dT sT o.type elem dp sp dLen dCap sLen sCap hu hsz (by simpa using hn.symm)
  unfold Oper.wp
  simp [execOp, ho, resolve, invoke, builtin, hd, hs, hrun, Result.andThen]
  exact h w (show _ = _ by simpa [splice] using hg) (But.refl _ _)
 ·obtain ⟨rfl, ad, rfl, hsrc⟩ := hpos (by omega)
  have hrun := run_copy_row (P := P) w dT sT o.type elem g off dLen dCap ad sLen sCap cur.toArray t cs hu hsz hg hn hsrc (by simpa using hfit) h1
  unfold Oper.wp
  simp [execOp, ho, resolve, invoke, builtin, hd, hs, hrun, Result.andThen]
  exact h _ (show _ = _ by simpa [splice] using setRow_heap w g _ _ t _ hg) (But.setRow _ _ _)
theorem row_put {ws fs : List Int} {t : Nat} {v : Int} (h : t + 1 + fs.length ≤ ws.length) :
  splice ((ints ws).set t (.int .i64 v)) (t + 1) (ints fs) = ints (ws.take t ++ v :: fs ++ ws.drop (t + 1 + fs.length)) := by
 have hl : t < (ints ws).length := by simp [ints]; omega
 have e1 : (ints ws).set t (.int .i64 v) = ints (ws.take t) ++ (.int .i64 v :: ints (ws.drop (t + 1))) := by
  rw [List.set_eq_take_append_cons_drop, if_pos hl]
  simp [ints]
 have hlt : (ints (ws.take t)).length = t := by simp [ints]; omega
 have e2 : (ints (ws.take t) ++ (Value.int .i64 v :: ints (ws.drop (t + 1)))).take (t + 1) = ints (ws.take t) ++ [.int .i64 v] := by
  rw [List.take_append, hlt]
  simp [hlt, Nat.add_sub_cancel_left]
  rw [List.take_of_length_le (by omega)]
 have e3 : (ints (ws.take t) ++ (Value.int .i64 v :: ints (ws.drop (t + 1)))).drop (t + 1 + fs.length) = ints (ws.drop (t + 1 + fs.length)) := by
  rw [List.drop_append, hlt, List.drop_eq_nil_of_le (by omega), show t + 1 + fs.length - t = fs.length + 1 by omega, List.nil_append, List.drop_succ_cons]
  simp [ints]
 rw [e1]
 unfold splice
 rw [ints_length, e2, e3]
 simp [ints]
/-- What the copier's word does where the object was not yet copied. -/
structure NewPost (C bf bt g off p n N clock : Nat) (k : Int) (fs row : List Int) (ts : List MapEntry) (w w' : World) : Prop where
 box : w'.heap[C]? = some (.cells #[.map (some bf), .slice (some ⟨g, 0, none⟩) N N, .int .i64 ((off + 1 + n : Nat) : Int), .map (some bt)] 75 (0, 0))
 too : w'.heap[bt]? = some (.map (ts ++ [ent (p : Int) (.int .i64 (off : Int)) clock]).toArray (clock + 1))
 row : w'.heap[g]? = some (.cells (ints (row.take off ++ (4 * (n : Int) + k) :: fs ++ row.drop (off + 1 + n))).toArray 3 (0, 0))
 but : But (fun j => j = C ∨ j = bt ∨ j = g) w w'

set_option maxHeartbeats 4000000 in
set_option maxRecDepth 100000 in
theorem word_new (C bf bt g off p n c N clock : Nat) (a : Option Addr) (k x : Int) (fs row : List Int) (ts : List MapEntry) (w0 w : World)
  (hbox : w.heap[C]? = some (.cells #[.map (some bf), .slice (some ⟨g, 0, none⟩) N N, .int .i64 (off : Int), .map (some bt)] 75 (0, 0)))
  (hto : w.heap[bt]? = some (.map ts.toArray clock)) (hts : IntKeys ts) (hnew : lookAt ts (p : Int) = none)
  (hfrom : (Instr.lookup 59 (.map (some bf)) (.int .i64 (p : Int)) false).run Try.prog w = .ok (.agg #[.int .i64 k, .slice a n c]) w)
  (hrow : w.heap[g]? = some (.cells (ints row).toArray 3 (0, 0))) (hlen : row.length = N) (hx : x = 4 * (p : Int) + 1) (hp : p ≤ 20000) (hN : N ≤ 20000) (hfit : off + 1 + n ≤ N) (hn : fs.length = n) (hk0 : 0 ≤ k) (hk3 : k ≤ 3)
  (hfs : Kd.C (Kd.int .i64) w0 a n fs) (hb0 : Below w0.heap.size w0 w) (hB1 : w0.heap.size ≤ C) (hB2 : w0.heap.size ≤ bt) (hB3 : w0.heap.size ≤ g) (hC1 : C ≠ bt) (hC2 : C ≠ g) (hC3 : bt ≠ g) :
  Calls Try.prog 50 #[.pointer (some ⟨C, 0, none⟩), .int .i64 x] w fun e w' => e = .returned (.int .i64 (4 * (off : Int) + 1)) ∧ NewPost C bf bt g off p n N clock k fs row ts w w' := by
 have c0 : w.cell? ⟨C, 0, none⟩ = some (.map (some bf)) := blk_cell hbox 0
 have c1 : w.cell? ⟨C, 1, none⟩ = some (.slice (some ⟨g, 0, none⟩) N N) := blk_cell hbox 1
 have c2 : w.cell? ⟨C, 2, none⟩ = some (.int .i64 (off : Int)) := blk_cell hbox 2
 have c3 : w.cell? ⟨C, 3, none⟩ = some (.map (some bt)) := blk_cell hbox 3
 have lC := blk_lt hbox
 have lT := blk_lt hto
 have lG := blk_lt hrow
 have hlk := run_lookup_ok Try.underlying68 Try.underlying3 hto hts (p : Int) (zero_int w)
 rw [hnew] at hlk
 simp only [Option.getD_none, Option.isSome_none] at hlk
 have hst := fun v => run_store_new Try.underlying68 Try.underlying3 (blk_alloc hto (.cells #[.int .i64 k, .slice a n c] 66 (0, 0))) hts (p : Int) v hnew
 have HBOX := Lib.hid hbox
 have HTO := Lib.hid hto
 have HROW := Lib.hid hrow
 have HT : Hid (x % 4 = 1) := Lib.hid (by omega)
 have HP : Hid ((x - 1) / 4 = (p : Int)) := Lib.hid (by omega)
 have hx1 : 1 ≤ x := by omega
 have hx2 : x ≤ 9223372036854775807 := by omega
 have HFS := Lib.hid hfs
 have HB0 := Lib.hid hb0
 have HLEN := Lib.hid hlen
 have HFL := Lib.hid hn
 clear hbox hto hrow hx hfs hb0 hlen hn hts hnew
 go_enter Try.func50, Try.ntmps50
 go_wp2_with (first
  | (go_at_call 46; refine (tagOf_calls x 1 HT.out _).mono ?_; rintro e w' ⟨rfl, rfl⟩)
  | (go_at_call 47; refine (placeOf_calls x hx1 hx2 _).mono ?_; rintro e w' ⟨rfl, rfl⟩; rw [HP.out]))
 have hM : (w.alloc (.cells #[.int .i64 k, .slice a n c] 66 (0, 0))).heap[bt]? = some (.map ts.toArray clock) := blk_alloc HTO.out _
 have m1 : (setBlock (w.alloc (.cells #[.int .i64 k, .slice a n c] 66 (0, 0))) bt (.map (ts ++ [ent (p : Int) (.int .i64 (off : Int)) clock]).toArray (clock + 1))).heap[C]? = some (.cells #[.map (some bf), .slice (some ⟨g, 0, none⟩) N N, .int .i64 (off : Int), .map (some bt)] 75 (0, 0)) :=
  (Go.ChangeMaps.heap_setBlock_other hM _ hC1).trans (blk_alloc HBOX.out _)
 have m2 : (setBlock (w.alloc (.cells #[.int .i64 k, .slice a n c] 66 (0, 0))) bt (.map (ts ++ [ent (p : Int) (.int .i64 (off : Int)) clock]).toArray (clock + 1))).heap[w.heap.size]? = some (.cells #[.int .i64 k, .slice a n c] 66 (0, 0)) :=
  (Go.ChangeMaps.heap_setBlock_other hM _ (by omega)).trans (blk_new w _)
 have m3 : (setBlock (w.alloc (.cells #[.int .i64 k, .slice a n c] 66 (0, 0))) bt (.map (ts ++ [ent (p : Int) (.int .i64 (off : Int)) clock]).toArray (clock + 1))).heap[g]? = some (.cells (ints row).toArray 3 (0, 0)) :=
  (Go.ChangeMaps.heap_setBlock_other hM _ (Ne.symm hC3)).trans (blk_alloc HROW.out _)
 have m4 := Go.ChangeMaps.heap_setBlock_same hM (.map (ts ++ [ent (p : Int) (.int .i64 (off : Int)) clock]).toArray (clock + 1))
 have m5 : But (fun j => j = C ∨ j = bt ∨ j = g) w (setBlock (w.alloc (.cells #[.int .i64 k, .slice a n c] 66 (0, 0))) bt (.map (ts ++ [ent (p : Int) (.int .i64 (off : Int)) clock]).toArray (clock + 1))) :=
  ((But.refl _ w).alloc _).setBlock (.inr (.inl rfl)) _
 clear hM hst hlk hfrom c0 c1 c2 c3 HBOX HTO HROW
 generalize setBlock (w.alloc _) bt _ = W at m1 m2 m3 m4 m5 ⊢
 have d1 : W.cell? ⟨C, 1, none⟩ = some (.slice (some ⟨g, 0, none⟩) N N) := blk_cell m1 1
 have d2 : W.cell? ⟨C, 2, none⟩ = some (.int .i64 (off : Int)) := blk_cell m1 2
 have o0 : W.cell? ⟨w.heap.size, 0, none⟩ = some (.int .i64 k) := blk_cell m2 0
 have o1 : W.cell? ⟨w.heap.size, 1, none⟩ = some (.slice a n c) := blk_cell m2 1
 obtain ⟨u, hu⟩ : ∃ u, W.cell? ⟨g, off, none⟩ = some u := by
  have hcl := blk_cell m3 off
  have hlt : off < ((ints row).toArray).size := by
   have := HLEN.out
   simp [ints]
   omega
  rw [Array.getElem?_eq_getElem hlt] at hcl
  exact ⟨_, hcl⟩
 have fr : W.frozen? ⟨g, off, none⟩ = false := blk_frozen m3 off
 have M1 := Lib.hid m1
 have M2 := Lib.hid m2
 have M3 := Lib.hid m3
 have M4 := Lib.hid m4
 have M5 := Lib.hid m5
 clear m1 m2 m3 m4 m5
 have g0 : (0 : Int) ≤ (off : Int) := by omega
 have g1 : (off : Int) < (N : Int) := by omega
 have g2 : (off : Int) ≤ 20000 := by omega
 have g3 : (n : Int) ≤ 20000 := by omega
 have wr1 : IntKind.i64.wrap (4 * (n : Int)) = 4 * (n : Int) := IntWalk.i64_in _ (by omega)
 have wr2 : IntKind.i64.wrap (4 * (n : Int) + k) = 4 * (n : Int) + k := IntWalk.i64_in _ (by omega)
 have h9 : W.drew.cell? ⟨C, 1, none⟩ = some (.slice (some ⟨g, 0, none⟩) N N) ∧ W.drew.cell? ⟨w.heap.size, 0, none⟩ = some (.int .i64 k) ∧ W.drew.cell? ⟨w.heap.size, 1, none⟩ = some (.slice a n c) := ⟨d1, o0, o1⟩
 have h10 : (W.setCell ⟨g, off, none⟩ (.int .i64 (4 * (n : Int) + k))).drew.cell? ⟨C, 1, none⟩ = some (.slice (some ⟨g, 0, none⟩) N N) ∧ (W.setCell ⟨g, off, none⟩ (.int .i64 (4 * (n : Int) + k))).drew.cell? ⟨w.heap.size, 0, none⟩ = some (.int .i64 k) ∧ (W.setCell ⟨g, off, none⟩ (.int .i64 (4 * (n : Int) + k))).drew.cell? ⟨w.heap.size, 1, none⟩ = some (.slice a n c) :=
  ⟨(cell_far (by show C ≠ g; exact hC2) _).trans d1, (cell_far (by show w.heap.size ≠ g; omega) _).trans o0, (cell_far (by show w.heap.size ≠ g; omega) _).trans o1⟩
 go_region_held3 (fun w' => w'.cell? ⟨C, 1, none⟩ = some (.slice (some ⟨g, 0, none⟩) N N) ∧ w'.cell? ⟨w.heap.size, 0, none⟩ = some (.int .i64 k) ∧ w'.cell? ⟨w.heap.size, 1, none⟩ = some (.slice a n c)) (first | exact h9 | exact h10) (fail)
 have m1 : (W.setCell ⟨g, off, none⟩ (.int .i64 (4 * (n : Int) + k))).drew.heap[C]? = some (.cells #[.map (some bf), .slice (some ⟨g, 0, none⟩) N N, .int .i64 (off : Int), .map (some bt)] 75 (0, 0)) := blk_far M1.out (by show C ≠ g; exact hC2) _
 have m2 : (W.setCell ⟨g, off, none⟩ (.int .i64 (4 * (n : Int) + k))).drew.heap[w.heap.size]? = some (.cells #[.int .i64 k, .slice a n c] 66 (0, 0)) := blk_far M2.out (by show w.heap.size ≠ g; omega) _
 have m3 : (W.setCell ⟨g, off, none⟩ (.int .i64 (4 * (n : Int) + k))).drew.heap[g]? = some (.cells ((ints row).set off (.int .i64 (4 * (n : Int) + k))).toArray 3 (0, 0)) := blk_put M3.out off _ (by simp)
 have m4 : (W.setCell ⟨g, off, none⟩ (.int .i64 (4 * (n : Int) + k))).drew.heap[bt]? = some (.map (ts ++ [ent (p : Int) (.int .i64 (off : Int)) clock]).toArray (clock + 1)) := (Below.heap_setCell W _ _ bt (by show bt ≠ g; exact hC3)).trans M4.out
 have m5 : But (fun j => j = C ∨ j = bt ∨ j = g) w (W.setCell ⟨g, off, none⟩ (.int .i64 (4 * (n : Int) + k))).drew := (M5.out.setCell (.inr (.inr rfl)) _).drew
 clear d1 d2 o0 o1 hu fr h9 h10 M1 M2 M3 M4 M5 wr1 wr2
 go_wp2_with (fail)
 generalize (W.setCell _ _).drew = V at m1 m2 m3 m4 m5 ⊢
 have d1 : V.cell? ⟨C, 1, none⟩ = some (.slice (some ⟨g, 0, none⟩) N N) := blk_cell m1 1
 have o1 : V.cell? ⟨w.heap.size, 1, none⟩ = some (.slice a n c) := blk_cell m2 1
 obtain ⟨CUR, hCUR⟩ : ∃ CUR, CUR = (ints row).set off (.int .i64 (4 * (n : Int) + k)) := ⟨_, rfl⟩
 rw [← hCUR] at m3
 have HCUR := Lib.hid hCUR
 have HCL : Hid (CUR.length = N) := Lib.hid (by rw [hCUR]; simp [ints]; exact HLEN.out)
 clear hCUR
 obtain ⟨i29, hi29, hz0, hz1, hz2⟩ := info_parts (show (Try.prog.info? 3).map (fun i => (i.zero, i.size, i.bytes)) = some (some (.int .i64 0), 1, 8) by kernel_rfl)
 have hcut := cut_from (P := Try.prog) 29 3 .i64 Try.underlying29 hi29 1 hz1 (some ⟨g, 0, none⟩) N N ((off : Int) + 1) (by omega) (by omega)
 have et : ((off : Int) + 1).toNat = off + 1 := by omega
 rw [et] at hcut
 obtain ⟨A2, hA2⟩ : ∃ A2, A2 = (if N = off + 1 then some (⟨g, 0, none⟩ : Addr) else (some (⟨g, 0, none⟩ : Addr)).map (·.add ((off + 1) * 1))) := ⟨_, rfl⟩
 rw [← hA2] at hcut
 have HA2 : Hid (0 < n → A2 = some ⟨g, off + 1, none⟩) := by
  refine Lib.hid (fun hp => ?_)
  rw [hA2, if_neg (by omega)]
  simp [Addr.add]
 obtain ⟨N2, hN2⟩ : ∃ N2, N2 = N - (off + 1) := ⟨_, rfl⟩
 rw [← hN2] at hcut
 have HN2 := Lib.hid hN2
 have HW3 : Hid (Kd.C (Kd.int .i64) V a n fs) := Lib.hid (Kd.C_below HFS.out (m5.below HB0.out (fun j hj => by rcases hj with rfl | rfl | rfl <;> assumption) HB0.out.size))
 have M1 := Lib.hid m1
 have M2 := Lib.hid m2
 have M3 := Lib.hid m3
 have M4 := Lib.hid m4
 have M5 := Lib.hid m5
 clear m1 m2 m3 m4 m5 hA2 hN2 et hz0 hz1 hz2 hi29
 have SZ : (Try.prog.info? 3).map (·.size) = some 1 := by kernel_rfl
 have wr1 : IntKind.i64.wrap ((off : Int) + 1) = (off : Int) + 1 := IntWalk.i64_in _ (by omega)
 have h9 : V.drew.cell? ⟨C, 1, none⟩ = some (.slice (some ⟨g, 0, none⟩) N N) ∧ V.drew.cell? ⟨w.heap.size, 1, none⟩ = some (.slice a n c) := ⟨d1, o1⟩
 have H9 : Hid (∀ w', But (fun j => j = g) V.drew w' → w'.cell? ⟨C, 1, none⟩ = some (.slice (some ⟨g, 0, none⟩) N N) ∧ w'.cell? ⟨w.heap.size, 1, none⟩ = some (.slice a n c)) :=
  Lib.hid (fun w' hb => ⟨hb.cell h9.1 hC2, hb.cell h9.2 (by show ¬ w.heap.size = g; omega)⟩)
 have HN1 : Hid ((ints fs).length = n.min N2) := Lib.hid (by rw [ints_length, HFL.out, HN2.out]; exact (Nat.min_eq_left (show n ≤ N - (off + 1) by omega)).symm)
 have HN3 : Hid (∀ v ∈ ints fs, v.oneCell' = true) := Lib.hid (by intro v hv; obtain ⟨x, _, rfl⟩ := List.mem_map.1 hv; rfl)
 have HN4 : Hid (off + 1 + (ints fs).length ≤ CUR.length) := Lib.hid (by rw [ints_length, HFL.out, HCL.out]; omega)
 have HPOS : Hid (0 < (ints fs).length → A2 = some ⟨g, off + 1, none⟩ ∧ ∃ ad, a = some ad ∧ ∀ j v, (ints fs)[j]? = some v → V.drew.cell? (ad.add j) = some v) := by
  refine Lib.hid (fun hp => ?_)
  rw [ints_length, HFL.out] at hp
  refine ⟨HA2.out hp, ?_⟩
  obtain ⟨ad, had, _⟩ := HW3.out.2.2 hp
  exact ⟨ad, had, reads_ints (by have := HW3.out; rw [had, ← HFL.out] at this; exact Kd.C_drew this)⟩
 have HM3 : Hid (V.drew.heap[g]? = some (.cells CUR.toArray 3 (0, 0))) := M3
 go_region_held3 (fun w' => w'.cell? ⟨C, 1, none⟩ = some (.slice (some ⟨g, 0, none⟩) N N) ∧ w'.cell? ⟨w.heap.size, 1, none⟩ = some (.slice a n c)) (first | exact h9 | exact H9.out _ (Hid.out (by assumption)))
  ((refine step_copy_but rfl (.tmp 66) (.tmp 68) 29 29 rfl 3 Try.underlying29 SZ A2 a N2 N2 n c (by rfl) (by rfl) g (off + 1) CUR 3 HM3.out (ints fs) HN1.out HPOS.out HN4.out HN3.out ?_; intro w2 HG2 HB2))
 go_wp2_with (fail)
 have n1 : w2.heap[C]? = some (.cells #[.map (some bf), .slice (some ⟨g, 0, none⟩) N N, .int .i64 (off : Int), .map (some bt)] 75 (0, 0)) := HB2.out.blk M1.out hC2
 have n2 : w2.heap[w.heap.size]? = some (.cells #[.int .i64 k, .slice a n c] 66 (0, 0)) := HB2.out.blk M2.out (by show ¬ w.heap.size = g; omega)
 have n4 : w2.heap[bt]? = some (.map (ts ++ [ent (p : Int) (.int .i64 (off : Int)) clock]).toArray (clock + 1)) := HB2.out.blk M4.out hC3
 have n5 : But (fun j => j = C ∨ j = bt ∨ j = g) w w2 := M5.out.trans ((But.drew (But.refl _ _)).trans (HB2.out.mono (fun j hj => .inr (.inr hj))))
 have e2 : w2.cell? ⟨C, 2, none⟩ = some (.int .i64 (off : Int)) := blk_cell n1 2
 have e1 : w2.cell? ⟨w.heap.size, 1, none⟩ = some (.slice a n c) := blk_cell n2 1
 have ef : w2.frozen? ⟨C, 2, none⟩ = false := blk_frozen n1 2
 have N1 := Lib.hid n1
 have N2_ := Lib.hid n2
 have N4 := Lib.hid n4
 have N5 := Lib.hid n5
 clear n1 n2 n4 n5 d1 o1 h9 H9 hcut HN1 HN3 HN4 HPOS HM3 HW3
 have wr3 : IntKind.i64.wrap (1 + (n : Int)) = 1 + (n : Int) := IntWalk.i64_in _ (by omega)
 have wr4 : IntKind.i64.wrap ((off : Int) + (1 + (n : Int))) = (off : Int) + (1 + (n : Int)) := IntWalk.i64_in _ (by omega)
 have h9 : w2.drew.cell? ⟨C, 2, none⟩ = some (.int .i64 (off : Int)) ∧ w2.drew.cell? ⟨w.heap.size, 1, none⟩ = some (.slice a n c) := ⟨e2, e1⟩
 have hfr : w2.drew.frozen? ⟨C, 2, none⟩ = false := ef
 go_still_tail 13, (by kernel_rfl)
 change wpList _ _ _ _ _ w2.drew
 go_wp2_with (go_at_call 44; refine (pointer_calls (off : Int) g0 g2 _).mono ?_; rintro e w' ⟨rfl, rfl⟩)
 go_ret
 refine ⟨rfl, ?_, ?_, ?_, ?_⟩
 ·have := blk_put N1.out 2 (.int .i64 ((off : Int) + (1 + (n : Int)))) rfl
  refine this.trans ?_
  simp
  omega
 ·exact (Below.heap_setCell w2 _ _ bt (by show bt ≠ C; omega)).trans N4.out
 ·refine (Below.heap_setCell w2 _ _ g (by show g ≠ C; omega)).trans (HG2.out.trans ?_)
  rw [HCUR.out, row_put (by rw [HFL.out, HLEN.out]; exact hfit), HFL.out]
 ·exact (N5.out.setCell (p := ⟨C, 2, none⟩) (.inl rfl) _).drew
end Go.Proofs.Ytggkkgkjhfgipaa
