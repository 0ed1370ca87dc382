/- The program's SameShape: the function that it calls itself, at objects that were not met. -/
import Derived.Test.YtggkkgkjhfgipaaZShapeC
import Derived.Test.YtggkkgkjhfgipaaZCollF
import Derived.Deep.DeepCutAuto
namespace Go.Proofs.Ytggkkgkjhfgipaa
open Go.RowKit Go.Proofs.YtggkkgkjhfgipaaW.PrintWords Go.Proofs.YtggkkgkjhfgipaaW.PrintLast Go.Proofs.YtggkkgkjhfgipaaW.PrintMore
open Go.ChangeMaps (setBlock)
set_option linter.unusedVariables false
set_option linter.unusedSimpArgs false
/-- The search's state in memory. -/
structure Shp (wb : World) (T U A B S mt mu ba bb : Nat) (F : Value) (ps : List (Nat × Nat)) (w : World) : Prop where
 cT : w.heap[T]? = some (.cells #[.map (some mt)] 68 (0, 0))
 cU : w.heap[U]? = some (.cells #[.map (some mu)] 68 (0, 0))
 cA : w.heap[A]? = some (.cells #[.map (some ba)] 59 (0, 0))
 cB : w.heap[B]? = some (.cells #[.map (some bb)] 59 (0, 0))
 cS : w.heap[S]? = some (.cells #[F] 63 (0, 0))
 mT : ∃ ts clock, w.heap[mt]? = some (.map ts.toArray clock) ∧ IntKeys ts ∧ ∀ p : Nat, lookAt ts (p : Int) = (lookP ps p).map fun (q : Nat) => Value.int .i64 (q : Int)
 mU : ∃ ts clock, w.heap[mu]? = some (.map ts.toArray clock) ∧ IntKeys ts ∧ ∀ q : Nat, lookAt ts (q : Int) = (lookQ ps q).map fun (p : Nat) => Value.int .i64 (p : Int)
 below : Below wb.heap.size wb w
 b1 : wb.heap.size ≤ mt
 b2 : wb.heap.size ≤ mu
 ne : mt ≠ mu
theorem Shp.keep {wb w w2 : World} {T U A B S mt mu ba bb : Nat} {F : Value} {ps : List (Nat × Nat)} (h : Shp wb T U A B S mt mu ba bb F ps w) (hk : Below w.heap.size w w2) : Shp wb T U A B S mt mu ba bb F ps w2 := by
 obtain ⟨ts, c1, t1, t2, t3⟩ := h.mT
 obtain ⟨us, c2, u1, u2, u3⟩ := h.mU
 exact ⟨blk_below h.cT hk, blk_below h.cU hk, blk_below h.cA hk, blk_below h.cB hk, blk_below h.cS hk, ⟨ts, c1, blk_below t1 hk, t2, t3⟩, ⟨us, c2, blk_below u1 hk, u2, u3⟩, h.below.trans (hk.mono h.below.size), h.b1, h.b2, h.ne⟩
/-- Two objects in variables of the call's own. -/
structure Two (W Wz : World) (X Y : Nat) (k1 : Int) (a1 : Option Addr) (n1 c1 : Nat) (k2 : Int) (a2 : Option Addr) (n2 c2 : Nat) : Prop where
 x : Wz.heap[X]? = some (.cells #[.int .i64 k1, .slice a1 n1 c1] 66 (0, 0))
 y : Wz.heap[Y]? = some (.cells #[.int .i64 k2, .slice a2 n2 c2] 66 (0, 0))
 below : Below W.heap.size W Wz
theorem two_ab (W : World) (k1 : Int) (a1 : Option Addr) (n1 c1 : Nat) (k2 : Int) (a2 : Option Addr) (n2 c2 : Nat) : ∃ X Y : Nat, Value.pointer (some ⟨W.heap.size, 0, none⟩) = .pointer (some ⟨X, 0, none⟩) ∧ Value.pointer (some ⟨W.heap.size + 1, 0, none⟩) = .pointer (some ⟨Y, 0, none⟩) ∧
  Hid (Two W ((W.alloc (.cells #[.int .i64 k1, .slice a1 n1 c1] 66 (0, 0))).alloc (.cells #[.int .i64 k2, .slice a2 n2 c2] 66 (0, 0))).drew X Y k1 a1 n1 c1 k2 a2 n2 c2) := by
 refine ⟨_, _, rfl, rfl, Lib.hid ⟨blk_alloc (blk_new W _) _, ?_, (((Below.refl _ _).alloc (Nat.le_refl _) _).alloc (by simp) _).drew⟩⟩
 refine blk_drew ?_
 have := blk_new (W.alloc (.cells #[.int .i64 k1, .slice a1 n1 c1] 66 (0, 0))) (.cells #[.int .i64 k2, .slice a2 n2 c2] 66 (0, 0))
 simpa using this
theorem two_ba (W : World) (k1 : Int) (a1 : Option Addr) (n1 c1 : Nat) (k2 : Int) (a2 : Option Addr) (n2 c2 : Nat) : ∃ X Y : Nat, Value.pointer (some ⟨W.heap.size + 1, 0, none⟩) = .pointer (some ⟨X, 0, none⟩) ∧ Value.pointer (some ⟨W.heap.size, 0, none⟩) = .pointer (some ⟨Y, 0, none⟩) ∧
  Hid (Two W ((W.alloc (.cells #[.int .i64 k2, .slice a2 n2 c2] 66 (0, 0))).alloc (.cells #[.int .i64 k1, .slice a1 n1 c1] 66 (0, 0))).drew X Y k1 a1 n1 c1 k2 a2 n2 c2) := by
 refine ⟨_, _, rfl, rfl, Lib.hid ⟨?_, blk_alloc (blk_new W _) _, (((Below.refl _ _).alloc (Nat.le_refl _) _).alloc (by simp) _).drew⟩⟩
 refine blk_drew ?_
 have := blk_new (W.alloc (.cells #[.int .i64 k2, .slice a2 n2 c2] 66 (0, 0))) (.cells #[.int .i64 k1, .slice a1 n1 c1] 66 (0, 0))
 simpa using this
/-- A pair is written into the two maps, in either order. -/
theorem Shp.put {wb w : World} {T U A B S mt mu ba bb : Nat} {F : Value} {ps : List (Nat × Nat)} (h : Shp wb T U A B S mt mu ba bb F ps w) {p q : Nat} (l1 : lookP ps p = none) (l2 : lookQ ps q = none) : ∃ O1 O2 : Obj,
  (Instr.mapUpdate 68 (.map (some mt)) (.int .i64 (p : Int)) (.int .i64 (q : Int))).run Try.prog w = .ok () (setBlock w mt O1) ∧
  (Instr.mapUpdate 68 (.map (some mu)) (.int .i64 (q : Int)) (.int .i64 (p : Int))).run Try.prog w = .ok () (setBlock w mu O2) ∧
  (Instr.mapUpdate 68 (.map (some mt)) (.int .i64 (p : Int)) (.int .i64 (q : Int))).run Try.prog (setBlock w mu O2) = .ok () (setBlock (setBlock w mu O2) mt O1) ∧
  (Instr.mapUpdate 68 (.map (some mu)) (.int .i64 (q : Int)) (.int .i64 (p : Int))).run Try.prog (setBlock w mt O1) = .ok () (setBlock (setBlock w mt O1) mu O2) ∧
  Shp wb T U A B S mt mu ba bb F (ps ++ [(p, q)]) (setBlock (setBlock w mt O1) mu O2) ∧ Shp wb T U A B S mt mu ba bb F (ps ++ [(p, q)]) (setBlock (setBlock w mu O2) mt O1) ∧
  But (fun j => j = mt ∨ j = mu) w (setBlock (setBlock w mt O1) mu O2) ∧ But (fun j => j = mt ∨ j = mu) w (setBlock (setBlock w mu O2) mt O1) ∧
  (∀ (g : Nat) (t : TypeId) (cs : Array Value), w.heap[g]? = some (.cells cs t (0, 0)) → (setBlock w mt O1).heap[g]? = some (.cells cs t (0, 0)) ∧ (setBlock w mu O2).heap[g]? = some (.cells cs t (0, 0)) ∧ (setBlock (setBlock w mt O1) mu O2).heap[g]? = some (.cells cs t (0, 0)) ∧ (setBlock (setBlock w mu O2) mt O1).heap[g]? = some (.cells cs t (0, 0))) := by
 obtain ⟨ts, k1, t1, t2, t3⟩ := h.mT
 obtain ⟨us, k2, u1, u2, u3⟩ := h.mU
 have n1 : lookAt ts (p : Int) = none := by rw [t3, l1]; rfl
 have n2 : lookAt us (q : Int) = none := by rw [u3, l2]; rfl
 have hne := h.ne
 have e1 := Go.ChangeMaps.heap_setBlock_same t1 (.map (ts ++ [ent (p : Int) (.int .i64 (q : Int)) k1]).toArray (k1 + 1))
 have e2 := Go.ChangeMaps.heap_setBlock_same u1 (.map (us ++ [ent (q : Int) (.int .i64 (p : Int)) k2]).toArray (k2 + 1))
 have f1 := (Go.ChangeMaps.heap_setBlock_other t1 (.map (ts ++ [ent (p : Int) (.int .i64 (q : Int)) k1]).toArray (k1 + 1)) (Ne.symm hne)).trans u1
 have f2 := (Go.ChangeMaps.heap_setBlock_other u1 (.map (us ++ [ent (q : Int) (.int .i64 (p : Int)) k2]).toArray (k2 + 1)) hne).trans t1
 have g1 := Go.ChangeMaps.heap_setBlock_same f1 (.map (us ++ [ent (q : Int) (.int .i64 (p : Int)) k2]).toArray (k2 + 1))
 have g2 := Go.ChangeMaps.heap_setBlock_same f2 (.map (ts ++ [ent (p : Int) (.int .i64 (q : Int)) k1]).toArray (k1 + 1))
 have h1 := (Go.ChangeMaps.heap_setBlock_other f1 (.map (us ++ [ent (q : Int) (.int .i64 (p : Int)) k2]).toArray (k2 + 1)) hne).trans e1
 have h2 := (Go.ChangeMaps.heap_setBlock_other f2 (.map (ts ++ [ent (p : Int) (.int .i64 (q : Int)) k1]).toArray (k1 + 1)) (Ne.symm hne)).trans e2
 have hcell : ∀ (g : Nat) (t : TypeId) (cs : Array Value), w.heap[g]? = some (.cells cs t (0, 0)) → g ≠ mt ∧ g ≠ mu := by
  intro g t cs hg
  constructor
  ·rintro rfl
   rw [t1] at hg
   cases hg
  ·rintro rfl
   rw [u1] at hg
   cases hg
 have hkp : ∀ x : Nat, lookAt (ts ++ [ent (p : Int) (.int .i64 (q : Int)) k1]) (x : Int) = (lookP (ps ++ [(p, q)]) x).map fun (q : Nat) => Value.int .i64 (q : Int) := by
  intro x
  rw [lookAt_snoc, t3 x, lookP_snoc]
  cases lookP ps x with
  | some y => rfl
  | none =>
   by_cases hx : p = x
   ·subst hx; simp
   ·rw [if_neg hx]
    show (if (x : Int) = (p : Int) then _ else _) = _
    rw [if_neg (by omega)]
    rfl
 have hkq : ∀ x : Nat, lookAt (us ++ [ent (q : Int) (.int .i64 (p : Int)) k2]) (x : Int) = (lookQ (ps ++ [(p, q)]) x).map fun (p : Nat) => Value.int .i64 (p : Int) := by
  intro x
  rw [lookAt_snoc, u3 x, lookQ_snoc]
  cases lookQ ps x with
  | some y => rfl
  | none =>
   by_cases hx : q = x
   ·subst hx; simp
   ·rw [if_neg hx]
    show (if (x : Int) = (q : Int) then _ else _) = _
    rw [if_neg (by omega)]
    rfl
 refine ⟨.map (ts ++ [ent (p : Int) (.int .i64 (q : Int)) k1]).toArray (k1 + 1), .map (us ++ [ent (q : Int) (.int .i64 (p : Int)) k2]).toArray (k2 + 1),
  run_store_new Try.underlying68 Try.underlying3 t1 t2 _ _ n1, run_store_new Try.underlying68 Try.underlying3 u1 u2 _ _ n2, run_store_new Try.underlying68 Try.underlying3 f2 t2 _ _ n1, run_store_new Try.underlying68 Try.underlying3 f1 u2 _ _ n2, ?_, ?_,
  ((But.refl _ w).setBlock (.inl rfl) _).setBlock (.inr rfl) _, ((But.refl _ w).setBlock (.inr rfl) _).setBlock (.inl rfl) _, ?_⟩
 ·have hc : ∀ (g : Nat) (t : TypeId) (cs : Array Value), w.heap[g]? = some (.cells cs t (0, 0)) → (setBlock (setBlock w mt (.map (ts ++ [ent (p : Int) (.int .i64 (q : Int)) k1]).toArray (k1 + 1))) mu (.map (us ++ [ent (q : Int) (.int .i64 (p : Int)) k2]).toArray (k2 + 1))).heap[g]? = some (.cells cs t (0, 0)) := fun g t cs hg =>
   ((Go.ChangeMaps.heap_setBlock_other f1 _ (hcell g t cs hg).2).trans (Go.ChangeMaps.heap_setBlock_other t1 _ (hcell g t cs hg).1)).trans hg
  exact ⟨hc _ _ _ h.cT, hc _ _ _ h.cU, hc _ _ _ h.cA, hc _ _ _ h.cB, hc _ _ _ h.cS, ⟨_, _, h1, t2.snoc _ _ _, hkp⟩, ⟨_, _, g1, u2.snoc _ _ _, hkq⟩, below_setBlock (below_setBlock h.below h.b1 _) h.b2 _, h.b1, h.b2, h.ne⟩
 ·have hc : ∀ (g : Nat) (t : TypeId) (cs : Array Value), w.heap[g]? = some (.cells cs t (0, 0)) → (setBlock (setBlock w mu (.map (us ++ [ent (q : Int) (.int .i64 (p : Int)) k2]).toArray (k2 + 1))) mt (.map (ts ++ [ent (p : Int) (.int .i64 (q : Int)) k1]).toArray (k1 + 1))).heap[g]? = some (.cells cs t (0, 0)) := fun g t cs hg =>
   ((Go.ChangeMaps.heap_setBlock_other f2 _ (hcell g t cs hg).1).trans (Go.ChangeMaps.heap_setBlock_other u1 _ (hcell g t cs hg).2)).trans hg
  exact ⟨hc _ _ _ h.cT, hc _ _ _ h.cU, hc _ _ _ h.cA, hc _ _ _ h.cB, hc _ _ _ h.cS, ⟨_, _, g2, t2.snoc _ _ _, hkp⟩, ⟨_, _, h2, u2.snoc _ _ _, hkq⟩, below_setBlock (below_setBlock h.below h.b2 _) h.b1 _, h.b1, h.b2, h.ne⟩
 ·intro g t cs hg
  obtain ⟨m1, m2⟩ := hcell g t cs hg
  exact ⟨(Go.ChangeMaps.heap_setBlock_other t1 _ m1).trans hg, (Go.ChangeMaps.heap_setBlock_other u1 _ m2).trans hg, ((Go.ChangeMaps.heap_setBlock_other f1 _ m2).trans (Go.ChangeMaps.heap_setBlock_other t1 _ m1)).trans hg,
   ((Go.ChangeMaps.heap_setBlock_other f2 _ m1).trans (Go.ChangeMaps.heap_setBlock_other u1 _ m2)).trans hg⟩
/-- The value of the function that calls itself. -/
def FV (T U A B S : Nat) : Value := .func (.func 45) #[] #[.pointer (some ⟨T, 0, none⟩), .pointer (some ⟨U, 0, none⟩), .pointer (some ⟨A, 0, none⟩), .pointer (some ⟨B, 0, none⟩), .pointer (some ⟨S, 0, none⟩)]
theorem Shp.cell_ne {wb w : World} {T U A B S mt mu ba bb : Nat} {F : Value} {ps : List (Nat × Nat)} (h : Shp wb T U A B S mt mu ba bb F ps w) {g : Nat} {t : TypeId} {cs : Array Value} (hg : w.heap[g]? = some (.cells cs t (0, 0))) : ¬ (g = mt ∨ g = mu) := by
 obtain ⟨ts, k1, t1, _⟩ := h.mT
 obtain ⟨us, k2, u1, _⟩ := h.mU
 rintro (rfl | rfl)
 ·rw [t1] at hg
  cases hg
 ·rw [u1] at hg
  cases hg
def SP (wb : World) (T U A B S mt mu ba bb : Nat) (F : Value) (ws vs : List Int) (L M ps : List (Nat × Nat)) (v w : Int) (W : World) (e : Ending) (W' : World) : Prop :=
 ∃ (b : Bool) (cs : List (Nat × Nat)), e = .returned (.bool b) ∧ SameRes ws vs L M ps v w b cs ∧ (b = true → Shp wb T U A B S mt mu ba bb F cs W') ∧ But (fun j => j = mt ∨ j = mu) W W'
set_option maxHeartbeats 4000000 in
set_option maxRecDepth 100000 in
theorem same_new (wb : World) (T U A B S mt mu ba bb : Nat) (ws vs : List Int) (L M ps : List (Nat × Nat)) (v w : Int) (p q n1 n2 c1 c2 : Nat) (k1 k2 : Int) (a1 a2 : Option Addr) (W : World)
  (hS : Shp wb T U A B S mt mu ba bb (FV T U A B S) ps W) (hv : v = 4 * (p : Int) + 1) (hw : w = 4 * (q : Int) + 1) (hp : p ≤ 20000) (hq : q ≤ 20000) (l1 : lookP ps p = none) (l2 : lookQ ps q = none)
  (hd1 : ws.getD p 0 = 4 * (n1 : Int) + k1) (hd2 : vs.getD q 0 = 4 * (n2 : Int) + k2) (hk1 : 0 ≤ k1 ∧ k1 ≤ 3) (hk2 : 0 ≤ k2 ∧ k2 ≤ 3) (hn1 : n1 ≤ 1000) (hn2 : n2 ≤ 1000) (hpp : plc v = p) (hqq : plc w = q)
  (r1 : Kd.C (Kd.int .i64) wb a1 n1 (objFields ws p)) (r2 : Kd.C (Kd.int .i64) wb a2 n2 (objFields vs q)) (g1 : (objFields ws p).length = n1) (g2 : (objFields vs q).length = n2) (hsz : n1 = sizeAt ws p) (hin1 : (p, sizeAt ws p) ∈ L) (hin2 : (q, sizeAt vs q) ∈ M) (hok : PsOk ws vs L M ps)
  (i1 : ∀ x ∈ objFields ws p, wordF (isPlace L) x = true ∧ InI64 x) (i2 : ∀ x ∈ objFields vs q, wordF (isPlace M) x = true ∧ InI64 x)
  (IH : ∀ (cs : List (Nat × Nat)) (v w : Int) (W : World), ps.length < cs.length → PsOk ws vs L M cs → wordF (isPlace L) v = true → wordF (isPlace M) w = true → InI64 v → InI64 w → Shp wb T U A B S mt mu ba bb (FV T U A B S) cs W →
   Calls Try.prog 45 #[.int .i64 v, .int .i64 w, .pointer (some ⟨T, 0, none⟩), .pointer (some ⟨U, 0, none⟩), .pointer (some ⟨A, 0, none⟩), .pointer (some ⟨B, 0, none⟩), .pointer (some ⟨S, 0, none⟩)] W (SP wb T U A B S mt mu ba bb (FV T U A B S) ws vs L M cs v w W))
  (f1 : ∀ W' : World, Below wb.heap.size wb W' → (Instr.lookup 59 (.map (some ba)) (.int .i64 (p : Int)) false).run Try.prog W' = .ok (.agg #[.int .i64 k1, .slice a1 n1 c1]) W')
  (f2 : ∀ W' : World, Below wb.heap.size wb W' → (Instr.lookup 59 (.map (some bb)) (.int .i64 (q : Int)) false).run Try.prog W' = .ok (.agg #[.int .i64 k2, .slice a2 n2 c2]) W') :
  Calls Try.prog 45 #[.int .i64 v, .int .i64 w, .pointer (some ⟨T, 0, none⟩), .pointer (some ⟨U, 0, none⟩), .pointer (some ⟨A, 0, none⟩), .pointer (some ⟨B, 0, none⟩), .pointer (some ⟨S, 0, none⟩)] W (SP wb T U A B S mt mu ba bb (FV T U A B S) ws vs L M ps v w W) := by
 have HV : Hid (v % 4 = 1) := Lib.hid (by omega)
 have HW : Hid (w % 4 = 1) := Lib.hid (by omega)
 have HP : Hid ((v - 1) / 4 = (p : Int)) := Lib.hid (by omega)
 have HQ : Hid ((w - 1) / 4 = (q : Int)) := Lib.hid (by omega)
 have hv0 : 1 ≤ v := by omega
 have hv1 : v ≤ 9223372036854775807 := by omega
 have hw0 : 1 ≤ w := by omega
 have hw1 : w ≤ 9223372036854775807 := by omega
 obtain ⟨ts, clk1, t1, t2, t3⟩ := hS.mT
 obtain ⟨us, clk2, u1, u2, u3⟩ := hS.mU
 have hl1 := run_lookup_ok Try.underlying68 Try.underlying3 t1 t2 (p : Int) (zero_int W)
 rw [t3 p, l1] at hl1
 have hl1 : (Instr.lookup 68 (.map (some mt)) (.int .i64 (p : Int)) true).run Try.prog W = .ok (.tuple #[.int .i64 0, .bool false]) W := hl1
 have hl2 := run_lookup_ok Try.underlying68 Try.underlying3 u1 u2 (q : Int) (zero_int W)
 rw [u3 q, l2] at hl2
 have hl2 : (Instr.lookup 68 (.map (some mu)) (.int .i64 (q : Int)) true).run Try.prog W = .ok (.tuple #[.int .i64 0, .bool false]) W := hl2
 have cT : W.cell? ⟨T, 0, none⟩ = some (.map (some mt)) := blk_cell hS.cT 0
 have cU : W.cell? ⟨U, 0, none⟩ = some (.map (some mu)) := blk_cell hS.cU 0
 have HS := Lib.hid hS
 have HK : Hid (∀ W' : World, Below W.heap.size W W' → W'.cell? ⟨A, 0, none⟩ = some (.map (some ba)) ∧ W'.cell? ⟨B, 0, none⟩ = some (.map (some bb)) ∧
   (Instr.lookup 59 (.map (some ba)) (.int .i64 (p : Int)) false).run Try.prog W' = .ok (.agg #[.int .i64 k1, .slice a1 n1 c1]) W' ∧
   (Instr.lookup 59 (.map (some bb)) (.int .i64 (q : Int)) false).run Try.prog W' = .ok (.agg #[.int .i64 k2, .slice a2 n2 c2]) W') := by
  refine Lib.hid (fun W' hb => ?_)
  have hk := hS.keep hb
  exact ⟨blk_cell hk.cA 0, blk_cell hk.cB 0, f1 W' hk.below, f2 W' hk.below⟩
 have b0 : Below W.heap.size W W.drew := (Below.refl _ _).drew
 have B0 := Lib.hid b0
 have HPP := Lib.hid hpp
 have HQQ := Lib.hid hqq
 have HD1 := Lib.hid hd1
 have HD2 := Lib.hid hd2
 have HL1 := Lib.hid l1
 have HR1 := Lib.hid r1
 have HR2 := Lib.hid r2
 have HG1 := Lib.hid g1
 have HG2 := Lib.hid g2
 have HSZ := Lib.hid hsz
 have HI1 := Lib.hid i1
 have HI2 := Lib.hid i2
 have HIH := Lib.hid IH
 have HMID : Hid (Mid ws vs L M ps p q 0 (ps ++ [(p, q)])) := Lib.hid (Mid.start hok hin1 hin2 l1 l2)
 have HL2 := Lib.hid l2
 clear r1 r2 g1 g2 hsz i1 i2 IH hin1 hin2 hok hpp hqq hd1 hd2 hv hw hS t1 t2 t3 u1 u2 u3 l1 l2 f1 f2 b0
 go_enter Try.func45, Try.ntmps45
 go_wp2_with fail
 refine (tagOf_calls v 1 HV.out _).mono ?_
 rintro e w' ⟨rfl, rfl⟩
 go_wp2_with fail
 refine (tagOf_calls w 1 HW.out _).mono ?_
 rintro e w' ⟨rfl, rfl⟩
 go_wp2_with fail
 refine (placeOf_calls v hv0 hv1 _).mono ?_
 rintro e w' ⟨rfl, rfl⟩
 rw [HP.out]
 go_wp2_with fail
 refine (placeOf_calls w hw0 hw1 _).mono ?_
 rintro e w' ⟨rfl, rfl⟩
 rw [HQ.out]
 go_upto_region 8 with fail
 clear hl1 hl2 cT cU
 go_cut [16, 17] (fun s16 s17 wx => ∃ X Y : Nat, s16 = .pointer (some ⟨X, 0, none⟩) ∧ s17 = .pointer (some ⟨Y, 0, none⟩) ∧ Hid (Two W wx X Y k1 a1 n1 c1 k2 a2 n2 c2))
 case first =>
  go_region_held3 (fun W' => W'.cell? ⟨A, 0, none⟩ = some (.map (some ba)) ∧ W'.cell? ⟨B, 0, none⟩ = some (.map (some bb)) ∧
   (Instr.lookup 59 (.map (some ba)) (.int .i64 (p : Int)) false).run Try.prog W' = .ok (.agg #[.int .i64 k1, .slice a1 n1 c1]) W' ∧
   (Instr.lookup 59 (.map (some bb)) (.int .i64 (q : Int)) false).run Try.prog W' = .ok (.agg #[.int .i64 k2, .slice a2 n2 c2]) W')
   (first | exact HK.out _ B0.out | exact HK.out _ (B0.out.alloc (by simp) _) | exact HK.out _ ((B0.out.alloc (by simp) _).alloc (by simp) _))
   (fail)
  all_goals (go_wp2_with fail; go_meet)
  all_goals first | exact two_ab W _ _ _ _ _ _ _ _ | exact two_ba W _ _ _ _ _ _ _ _
 case rest =>
  obtain ⟨X, Y, rfl, rfl, HT⟩ := hcut
  have x0 : wc.cell? ⟨X, 0, none⟩ = some (.int .i64 k1) := blk_cell HT.out.x 0
  have x1 : wc.cell? ⟨X, 1, none⟩ = some (.slice a1 n1 c1) := blk_cell HT.out.x 1
  have y0 : wc.cell? ⟨Y, 0, none⟩ = some (.int .i64 k2) := blk_cell HT.out.y 0
  have y1 : wc.cell? ⟨Y, 1, none⟩ = some (.slice a2 n2 c2) := blk_cell HT.out.y 1
  by_cases hk : k1 = k2
  ·by_cases hn : n1 = n2
   ·subst hk hn
    have hSw := HS.out.keep (HT.out.below.drew)
    obtain ⟨O1, O2, r1, r2, r3, r4, S1, S2, B1, B2, hc⟩ := hSw.put HL1.out HL2.out
    have tc := blk_cell hSw.cT 0
    have uc := blk_cell hSw.cU 0
    have hk0 : wc.drew.cell? ⟨T, 0, none⟩ = some (.map (some mt)) ∧ wc.drew.cell? ⟨U, 0, none⟩ = some (.map (some mu)) := ⟨tc, uc⟩
    have HC := Lib.hid hc
    have HCT := Lib.hid hSw.cT
    have HCU := Lib.hid hSw.cU
    have S1 := Lib.hid S1
    have S2 := Lib.hid S2
    have B1 := Lib.hid B1
    have B2 := Lib.hid B2
    clear hc hSw tc uc
    go_upto_region 11 with fail
    go_cut [10] (fun s10 wx => s10 = .int .i64 (p : Int) ∧ Hid (Shp wb T U A B S mt mu ba bb (FV T U A B S) (ps ++ [(p, q)]) wx) ∧ Hid (wx.heap[X]? = some (.cells #[.int .i64 k1, .slice a1 n1 c1] 66 (0, 0))) ∧ Hid (wx.heap[Y]? = some (.cells #[.int .i64 k1, .slice a2 n1 c2] 66 (0, 0))) ∧ Hid (But (fun j => j = mt ∨ j = mu) W wx))
    case first =>
     clear x0 x1 y0 y1
     go_region_held3 (fun W' => W'.cell? ⟨T, 0, none⟩ = some (.map (some mt)) ∧ W'.cell? ⟨U, 0, none⟩ = some (.map (some mu)))
      (first | exact hk0 | exact ⟨blk_cell (HC.out _ _ _ HCT.out).1 0, blk_cell (HC.out _ _ _ HCU.out).1 0⟩ | exact ⟨blk_cell (HC.out _ _ _ HCT.out).2.1 0, blk_cell (HC.out _ _ _ HCU.out).2.1 0⟩ | exact ⟨blk_cell (HC.out _ _ _ HCT.out).2.2.1 0, blk_cell (HC.out _ _ _ HCU.out).2.2.1 0⟩ | exact ⟨blk_cell (HC.out _ _ _ HCT.out).2.2.2 0, blk_cell (HC.out _ _ _ HCU.out).2.2.2 0⟩)
      (fail)
     all_goals (go_wp2_with fail; go_meet)
     all_goals first
      | exact ⟨rfl, S1, (HC.out _ _ _ HT.out.x).2.2.1, (HC.out _ _ _ HT.out.y).2.2.1, Lib.hid ((But.of_below HT.out.below).drew.trans B1.out)⟩
      | exact ⟨rfl, S2, (HC.out _ _ _ HT.out.x).2.2.2, (HC.out _ _ _ HT.out.y).2.2.2, Lib.hid ((But.of_below HT.out.below).drew.trans B2.out)⟩
    case rest =>
     obtain ⟨rfl, HSS, HX, HY, HBU⟩ := hcut
     have HXM : Hid (¬ (X = mt ∨ X = mu)) := Lib.hid (HSS.out.cell_ne HX.out)
     have HYM : Hid (¬ (Y = mt ∨ Y = mu)) := Lib.hid (HSS.out.cell_ne HY.out)
     have HSM : Hid (¬ (S = mt ∨ S = mu)) := Lib.hid (HSS.out.cell_ne HSS.out.cS)
     have x1 : wc.cell? ⟨X, 1, none⟩ = some (.slice a1 n1 c1) := blk_cell HX.out 1
     clear HT
     go_wp2_with fail
     clear x1
     go_loopw [93] (fun u wr => ∃ (j : Nat) (cs : List (Nat × Nat)), u = .int .i64 (j : Int) ∧ j ≤ n1 ∧ Hid (Mid ws vs L M ps p q j cs) ∧ Hid (Shp wb T U A B S mt mu ba bb (FV T U A B S) cs wr) ∧ Hid (But (fun j => j = mt ∨ j = mu) W wr) ∧
      Hid (wr.heap[X]? = some (.cells #[.int .i64 k1, .slice a1 n1 c1] 66 (0, 0))) ∧ Hid (wr.heap[Y]? = some (.cells #[.int .i64 k1, .slice a2 n1 c2] 66 (0, 0)))) (fun u _ => n1 - (intOf u).toNat)
     case atStart => exact ⟨0, _, rfl, Nat.zero_le _, HMID, HSS, HBU, HX, HY⟩
     case round =>
      clear HMID HSS HBU HX HY
      obtain ⟨j, cs, rfl, hj, HMI, HSS, HBU, HX, HY⟩ := hrel
      by_cases hlt : j < n1
      ·obtain ⟨ad1, ha1, hcell1⟩ := Kd.at_int (by have := HR1.out; rw [← HG1.out] at this; exact this) (j : Int) (by omega) (by rw [HG1.out]; omega)
       obtain ⟨ad2, ha2, hcell2⟩ := Kd.at_int (by have := HR2.out; rw [← HG2.out] at this; exact this) (j : Int) (by omega) (by rw [HG2.out]; omega)
       have e1 := (HSS.out.below.cell (World.block_lt_of_cell? wb _ hcell1)).trans hcell1
       have e2 := (HSS.out.below.cell (World.block_lt_of_cell? wb _ hcell2)).trans hcell2
       have hbk1 := World.block_lt_of_cell? wb _ hcell1
       have hbk2 := World.block_lt_of_cell? wb _ hcell2
       rw [Int.toNat_natCast] at e1 e2 hbk1 hbk2
       obtain ⟨x, hx⟩ : ∃ x, x = (objFields ws p).getD j 0 := ⟨_, rfl⟩
       obtain ⟨y, hy⟩ : ∃ y, y = (objFields vs q).getD j 0 := ⟨_, rfl⟩
       rw [show rd (objFields ws p) (j : Int) = x from hx.symm] at e1
       rw [show rd (objFields vs q) (j : Int) = y from hy.symm] at e2
       have HX0 := Lib.hid hx
       have HY0 := Lib.hid hy
       clear hcell1 hcell2 hx hy
       cases ha1
       cases ha2
       have HWX : Hid (wordF (isPlace L) x = true ∧ InI64 x) := Lib.hid (by rw [HX0.out]; exact HI1.out _ (getD_mem (by rw [HG1.out]; exact hlt)))
       have HWY : Hid (wordF (isPlace M) y = true ∧ InI64 y) := Lib.hid (by rw [HY0.out]; exact HI2.out _ (getD_mem (by rw [HG2.out]; exact hlt)))
       have sx : wr.cell? ⟨X, 1, none⟩ = some (.slice (some ad1) n1 c1) := blk_cell HX.out 1
       have sy : wr.cell? ⟨Y, 1, none⟩ = some (.slice (some ad2) n1 c2) := blk_cell HY.out 1
       have sS : wr.cell? ⟨S, 0, none⟩ = some (.func (.func 45) #[] #[.pointer (some ⟨T, 0, none⟩), .pointer (some ⟨U, 0, none⟩), .pointer (some ⟨A, 0, none⟩), .pointer (some ⟨B, 0, none⟩), .pointer (some ⟨S, 0, none⟩)]) := blk_cell HSS.out.cS 0
       have hb1 := HSS.out.b1
       have hb2 := HSS.out.b2
       have HSD : Hid (Shp wb T U A B S mt mu ba bb (FV T U A B S) cs wr.drew) := Lib.hid (HSS.out.keep (Below.refl _ _).drew)
       have h9 : wr.drew.cell? ⟨S, 0, none⟩ = some (.func (.func 45) #[] #[.pointer (some ⟨T, 0, none⟩), .pointer (some ⟨U, 0, none⟩), .pointer (some ⟨A, 0, none⟩), .pointer (some ⟨B, 0, none⟩), .pointer (some ⟨S, 0, none⟩)]) ∧ wr.drew.cell? ⟨X, 1, none⟩ = some (.slice (some ad1) n1 c1) ∧ wr.drew.cell? (ad1.add j) = some (.int .i64 x) ∧ wr.drew.cell? ⟨Y, 1, none⟩ = some (.slice (some ad2) n1 c2) ∧ wr.drew.cell? (ad2.add j) = some (.int .i64 y) := ⟨sS, sx, e1, sy, e2⟩
       have H9 : Hid (∀ w', But (fun j => j = mt ∨ j = mu) wr.drew w' → w'.cell? ⟨S, 0, none⟩ = some (.func (.func 45) #[] #[.pointer (some ⟨T, 0, none⟩), .pointer (some ⟨U, 0, none⟩), .pointer (some ⟨A, 0, none⟩), .pointer (some ⟨B, 0, none⟩), .pointer (some ⟨S, 0, none⟩)]) ∧ w'.cell? ⟨X, 1, none⟩ = some (.slice (some ad1) n1 c1) ∧ w'.cell? (ad1.add j) = some (.int .i64 x) ∧ w'.cell? ⟨Y, 1, none⟩ = some (.slice (some ad2) n1 c2) ∧ w'.cell? (ad2.add j) = some (.int .i64 y)) :=
        Lib.hid (fun w' hb => ⟨hb.cell h9.1 HSM.out, hb.cell h9.2.1 HXM.out, hb.cell h9.2.2.1 (by omega), hb.cell h9.2.2.2.1 HYM.out, hb.cell h9.2.2.2.2 (by omega)⟩)
       have hi0 : (0 : Int) ≤ (j : Int) := by omega
       have hi1 : (j : Int) < (n1 : Int) := by omega
       clear sx sy sS e1 e2 hb1 hb2 hbk1 hbk2
       go_wp2_with fail
       go_region_held3 (fun w' => w'.cell? ⟨S, 0, none⟩ = some (.func (.func 45) #[] #[.pointer (some ⟨T, 0, none⟩), .pointer (some ⟨U, 0, none⟩), .pointer (some ⟨A, 0, none⟩), .pointer (some ⟨B, 0, none⟩), .pointer (some ⟨S, 0, none⟩)]) ∧ w'.cell? ⟨X, 1, none⟩ = some (.slice (some ad1) n1 c1) ∧ w'.cell? (ad1.add j) = some (.int .i64 x) ∧ w'.cell? ⟨Y, 1, none⟩ = some (.slice (some ad2) n1 c2) ∧ w'.cell? (ad2.add j) = some (.int .i64 y))
        (first | exact h9 | exact H9.out _ HB4.out)
        ((go_at_call 45; refine (HIH.out cs x y _ HMI.out.len HMI.out.ok HWX.out.1 HWY.out.1 HWX.out.2 HWY.out.2 HSD.out).mono ?_; rintro e w4 ⟨b, cs2, rfl, hres, hshp, hbut⟩; have HB4 := Lib.hid hbut; have HRES := Lib.hid hres; have HSHP := Lib.hid hshp; clear hres hshp hbut))
       have HBW : Hid (But (fun j => j = mt ∨ j = mu) W w4) := Lib.hid (HBU.out.trans ((But.drew (But.refl _ _)).trans HB4.out))
       have HX4 : Hid (w4.heap[X]? = some (.cells #[.int .i64 k1, .slice (some ad1) n1 c1] 66 (0, 0))) := Lib.hid (HB4.out.blk (blk_drew HX.out) HXM.out)
       have HY4 : Hid (w4.heap[Y]? = some (.cells #[.int .i64 k1, .slice (some ad2) n1 c2] 66 (0, 0))) := Lib.hid (HB4.out.blk (blk_drew HY.out) HYM.out)
       clear h9 hi0 hi1
       cases b with
       | true =>
        go_wp2_with fail
        go_roundw
        case rel =>
         refine ⟨j + 1, cs2, by go_num, by omega, ?_, HSHP.out rfl, HBW, HX4, HY4⟩
         refine Lib.hid (HMI.out.next (by rw [← HSZ.out]; exact hlt) ?_)
         rw [← HX0.out, ← HY0.out]
         exact HRES.out.1 rfl
        case measure => simp [intOf]; omega
       | false =>
        have HNO : Hid (No ws vs ps v w) := by
         refine Lib.hid ?_
         have h1 := HRES.out.2 rfl
         have h2 := HMI.out
         rw [HX0.out, HY0.out, ← HPP.out, ← HQQ.out] at h1
         rw [← HPP.out, ← HQQ.out] at h2
         exact h2.no HV.out HW.out (by rw [HPP.out, ← HSZ.out]; exact hlt) h1
        go_wp2_with fail
        go_ret
        exact ⟨false, ps, rfl, ⟨(fun e => by cases e), fun _ => HNO.out⟩, (fun e => by cases e), HBW.out⟩
      ·have hjn : j = n1 := by omega
       have HYES : Hid (Yes ws vs L M ps v w cs) := by
        refine Lib.hid ?_
        have h2 := HMI.out
        rw [← HPP.out, ← HQQ.out] at h2
        refine h2.done HV.out HW.out ?_ ?_
        ·rw [HPP.out, HQQ.out, HD1.out, HD2.out]
        ·rw [HPP.out, ← HSZ.out]
         exact hjn
       clear hjn
       go_wp2_with fail
       go_ret
       exact ⟨true, cs, rfl, ⟨fun _ => HYES.out, (fun e => by cases e)⟩, fun _ => HSS.out, HBU.out⟩
   ·have hnb : ((n1 : Int) != (n2 : Int)) = true := by rw [bne_iff_ne]; omega
    subst hk
    have HNO : Hid (No ws vs ps v w) := by
     refine Lib.hid (same_heads HV.out HW.out ?_)
     rw [HPP.out, HQQ.out, HD1.out, HD2.out]
     omega
    clear hn
    go_wp2
    go_ret
    exact ⟨false, ps, rfl, ⟨(fun e => by cases e), fun _ => HNO.out⟩, (fun e => by cases e), But.of_below HT.out.below⟩
  ·have hkb : (k1 != k2) = true := by rw [bne_iff_ne]; exact hk
   have HNO : Hid (No ws vs ps v w) := by
    refine Lib.hid (same_heads HV.out HW.out ?_)
    rw [HPP.out, HQQ.out, HD1.out, HD2.out]
    omega
   clear hk
   go_wp2
   go_ret
   exact ⟨false, ps, rfl, ⟨(fun e => by cases e), fun _ => HNO.out⟩, (fun e => by cases e), But.of_below HT.out.below⟩
end Go.Proofs.Ytggkkgkjhfgipaa
