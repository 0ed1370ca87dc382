/- The program's reader: the deferred closure. -/
import Derived.Test.YtogmphjhdkgdjaaDoorDiF
import Derived.Defers
import Derived.Recover
import Derived.Test.YtogmphjhdkgdjaaDoorDiP
namespace Go.Proofs.YtogmphjhdkgdjaaDoor
open Go.RowKit Go.Proofs.YtogmphjhdkgdjaaDoorW.PrintWords Go.Proofs.YtogmphjhdkgdjaaDoor.QFnExactValidModule
set_option linter.unusedVariables false
set_option linter.unusedSimpArgs false
/-- What the deferred closure leaves where nothing was thrown. -/
def Idle (w : World) (u : FrameMode) (e : Ending) (u' : FrameMode) (w' : World) : Prop := e = .returned (.tuple #[]) ∧ u' = u ∧ ∃ m, w' = w.drewN m
set_option maxHeartbeats 1000000 in
set_option maxRecDepth 100000 in
theorem idle_calls (bX bY : Nat) (w : World) :
    CallsD Tryd.prog 85 #[.pointer (some ⟨bX, 0, none⟩), .pointer (some ⟨bY, 0, none⟩)] .returning w (Idle w .returning) := by
  refine callsD_of_wpS Tryd.func85 rfl fun c₀ cs hu => ?_
  apply wpS_seq
  apply wpS_region
  simp [wpOpsS, go_sem, recoverD, hu, Tryd.ntmps85, Exit.thenS]
  refine wpS_of_wp ?_
  have et : (#[Value.pointer (some ⟨bX, 0, none⟩), .pointer (some ⟨bY, 0, none⟩)] ++ (((Array.replicate 15 undef).setIfInBounds 3 Value.nilIface).setIfInBounds 0 Value.nilIface)) = #[.pointer (some ⟨bX, 0, none⟩), .pointer (some ⟨bY, 0, none⟩), .nilIface, undef, undef, .nilIface, undef, undef, undef, undef, undef, undef, undef, undef, undef, undef, undef] := by kernel_rfl
  rw [et]
  clear et
  go_wp2_with fail
  refine ⟨rfl, .returning, by cases c₀; simp_all, .tuple #[], ?_, rfl, rfl, 0, rfl⟩
  simp [results, Tryd.results85]
theorem assert_torn (W : World) : (Instr.typeAssert (.iface 133 (.agg #[])) 20 133 true).run Tryd.prog W = .ok (.tuple #[.agg #[], .bool true]) W := by kernel_rfl
def tornD (r : Bool) : FrameMode := .panicking [{ v := .iface 133 (.agg #[]), recovered := r }]
/-- What it leaves where an image was torn: no module, and false. -/
def Torn (bX bY : Nat) (w : World) (e : Ending) (u' : FrameMode) (w' : World) : Prop := e = .returned (.tuple #[]) ∧ u' = tornD true ∧ w'.heap[bX]? = some (.cells #[.slice none 0 0, .int .i64 0, .slice none 0 0] 38 (0, 0)) ∧ w'.heap[bY]? = some (.cells #[.bool false] 4 (0, 0)) ∧ (∀ B, B ≤ bX → B ≤ bY → B ≤ w.heap.size → Below B w w')
set_option maxHeartbeats 1000000 in
set_option maxRecDepth 100000 in
theorem torn_calls (bX bY : Nat) (c0 c1 c2 y0 : Value) (w : World) (hX : w.heap[bX]? = some (.cells #[c0, c1, c2] 38 (0, 0))) (hY : w.heap[bY]? = some (.cells #[y0] 4 (0, 0))) :
    CallsD Tryd.prog 85 #[.pointer (some ⟨bX, 0, none⟩), .pointer (some ⟨bY, 0, none⟩)] (tornD false) w (Torn bX bY w) := by
  have hne : bX ≠ bY := by
    rintro rfl
    rw [hX] at hY
    cases hY
  refine callsD_of_wpS Tryd.func85 rfl fun c₀ cs hu => ?_
  have hu' := hu
  unfold tornD at hu
  have a2 : ∀ W, (binOp .neq 20 (.iface 133 (.agg #[])) .nilIface).run Tryd.prog W = .ok (.bool true) W := fun W => by kernel_rfl
  have a1 := assert_torn
  apply wpS_seq
  apply wpS_region
  simp [wpOpsS, go_sem, recoverD, hu, Tryd.ntmps85, Exit.thenS]
  obtain ⟨c₁, hc1⟩ : ∃ c₁ : Frame, c₁ = { c₀ with mode := FrameMode.panicking [{ v := Value.iface 133 (Value.agg #[]), recovered := true }] } := ⟨_, rfl⟩
  have HC1 := Lib.hid hc1
  rw [← hc1]
  clear hc1 hu hu'
  refine wpS_of_wp ?_
  have et : (#[Value.pointer (some ⟨bX, 0, none⟩), .pointer (some ⟨bY, 0, none⟩)] ++ (((Array.replicate 15 undef).setIfInBounds 3 (Value.iface 133 (.agg #[]))).setIfInBounds 0 (Value.iface 133 (.agg #[])))) = #[.pointer (some ⟨bX, 0, none⟩), .pointer (some ⟨bY, 0, none⟩), .iface 133 (.agg #[]), undef, undef, .iface 133 (.agg #[]), undef, undef, undef, undef, undef, undef, undef, undef, undef, undef, undef] := by kernel_rfl
  rw [et]
  clear et
  obtain ⟨x0, x1, x2, xf0, xf1, xf2, xl⟩ := boxF hX
  have y1 : w.cell? ⟨bY, 0, none⟩ = some y0 := by simp [World.cell?, hY]
  have yf : w.frozen? ⟨bY, 0, none⟩ = false := by simp [World.frozen?, hY]
  have yl : bY < w.heap.size := blk_lt2 hY
  have hu := Tryd.underlying38
  have HX := Lib.hid hX
  have HY := Lib.hid hY
  clear hX hY
  go_wp2_with fail
  refine ⟨rfl, tornD true, by rw [HC1.out]; rfl, .tuple #[], ?_, rfl, rfl, ?_, ?_, fun B hX hY hw => ?_⟩
  · simp [results, Tryd.results85]
  · exact blk_old2 (set_far (put3_box HX.out) hne _) _
  · have h3 := set_far (j := 2) (set_far (j := 1) (set_far (j := 0) HY.out hne.symm (.slice none 0 0)) hne.symm (.int .i64 0)) hne.symm (.slice none 0 0)
    have := Go.Joins.block_setCell (i := 0) h3 (.bool false)
    exact blk_old2 (by simpa using this) _
  · exact (((((Below.refl B w).setCell (p := ⟨bX, 0, none⟩) hX _).setCell (p := ⟨bX, 1, none⟩) hX _).setCell (p := ⟨bX, 2, none⟩) hX _).setCell (p := ⟨bY, 0, none⟩) hY _).alloc (by simp [set_size]; exact hw) _
end Go.Proofs.YtogmphjhdkgdjaaDoor
/- The program's reader: a module. -/
namespace Go.Proofs.YtogmphjhdkgdjaaDoor
open Go.RowKit Go.Proofs.YtogmphjhdkgdjaaDoorW.PrintWords Go.Proofs.YtogmphjhdkgdjaaDoor.QFnExactValidModule
set_option linter.unusedVariables false
set_option linter.unusedSimpArgs false
/-- What the reading of a module answers: the module and true, or nothing and false. -/
def ModPost (w0 : World) (R : Nat) (l : List Int) (w : World) (e : Ending) (w' : World) : Prop :=
  Rk w0 R w w' ∧ ((∃ (m : ModP) (v0 v2 : Value) (mid : Nat), readM l = some m ∧ e = .returned (.tuple #[.agg #[v0, .int .i64 m.g, v2], .bool true]) ∧ RowO ekDats w.heap.size mid w' v0 m.cs ∧ RowO ekFun mid w'.heap.size w' v2 m.fs) ∨ (readM l = none ∧ e = .returned (.tuple #[.agg #[.slice none 0 0, .int .i64 0, .slice none 0 0], .bool false])))
theorem RowO.high {α : Type} {k : Ek α} {lo hi : Nat} {w w' : World} {v : Value} {xs : List α} (h : RowO k lo hi w v xs) (hk : ∀ {lo hi x c}, k.E w lo hi x c → (∀ q, lo ≤ q → w'.heap[q]? = w.heap[q]?) → k.E w' lo hi x c) (hs : ∀ q, lo ≤ q → w'.heap[q]? = w.heap[q]?) : RowO k lo hi w' v xs := by
  obtain ⟨cs, f, ho, q2, q3, q4, q5, q6, q7⟩ := h
  refine ⟨cs, f, own_move ho (fun g hg => hs g (ho.lt g hg).1), q2, q3, q4, q5, q6, fun i x c hx hc => hk (q7 i x c hx hc) (fun q hq => hs q ?_)⟩
  have := q5 0 i (Nat.zero_le _)
  omega
theorem fun_high {w w' : World} {lo hi : Nat} {x : S68} {c : List Value} (h : ekFun.E w lo hi x c) (hs : ∀ q, lo ≤ q → w'.heap[q]? = w.heap[q]?) : ekFun.E w' lo hi x c := by
  obtain ⟨bv, iv, rfl, hb, hi⟩ := h
  exact ⟨bv, iv, rfl, hb.high (fun h _ => h) hs, hi.high (fun h _ => h) hs⟩
theorem results_two {P : Program} {fn : Func} {p q : Tmp} {ty tb : TypeId} (h : fn.results = #[.cell p ty, .cell q tb]) (tmps : Array Value) (w : World) (g k : Nat) (t : TypeId) (cs : Array Value) (fr : Nat × Nat) (d : TypeDesc) (y : Value)
    (hp : tmps.getD p undef = .pointer (some ⟨g, 0, none⟩)) (hg : w.heap[g]? = some (.cells cs t fr))
    (hu : P.underlying ty = some d) (hd : (match d with | .struct _ | .array _ _ => true | _ => false) = true) (hi : (P.info? ty).map (·.size) = some cs.size)
    (hq : tmps.getD q undef = .pointer (some ⟨k, 0, none⟩)) (hy : (loadVar tb ⟨k, 0, none⟩).run P w = .ok y w) :
    (results fn tmps).run P w = .ok (.tuple #[.agg cs, y]) w := by
  have hp' : tmps[p]?.getD undef = .pointer (some ⟨g, 0, none⟩) := by simpa using hp
  have hq' : tmps[q]?.getD undef = .pointer (some ⟨k, 0, none⟩) := by simpa using hq
  simp [results, h, hp', hq', asAddr, run_loadVar_row w g t ty cs fr d hg hu hd hi, hy, Result.andThen]
theorem load_bool (w : World) (k : Nat) (b : Bool) (h : w.heap[k]? = some (.cells #[.bool b] 4 (0, 0))) : (loadVar 4 ⟨k, 0, none⟩).run Tryd.prog w = .ok (.bool b) w := by
  have hu := Tryd.underlying4
  have c0 : w.cell? ⟨k, 0, none⟩ = some (.bool b) := by simp [World.cell?, h]
  go_simp
/-- The end where an image was torn. -/
theorem torn_end {w0 w w1 : World} {R : Nat} {l : List Int} {c0 c1 c2 y0 : Value} {tmps : Array Value} (hw0 : w0.heap.size ≤ w.heap.size) (hRl : R < w.heap.size) (hk : Rk w0 R w w1) (hX : w1.heap[w.heap.size]? = some (.cells #[c0, c1, c2] 38 (0, 0))) (hY : w1.heap[w.heap.size + 1]? = some (.cells #[y0] 4 (0, 0))) (hr : readM l = none)
    (h2 : tmps.getD 2 undef = .pointer (some ⟨w.heap.size, 0, none⟩)) (h3 : tmps.getD 3 undef = .pointer (some ⟨w.heap.size + 1, 0, none⟩)) :
    bodyPostD Tryd.prog Tryd.f59 (ModPost w0 R l w) (Exit.panic torns) { tmps := tmps, defers := [{ target := .fn (.func 85) #[.pointer (some ⟨w.heap.size, 0, none⟩), .pointer (some ⟨w.heap.size + 1, 0, none⟩)], args := #[] }] } w1 := by
  refine leaves_cons (f := 85) (args := #[.pointer (some ⟨w.heap.size, 0, none⟩), .pointer (some ⟨w.heap.size + 1, 0, none⟩)]) (by simp [torns]) (by simp [go_sem]) ?_
  refine (torn_calls w.heap.size (w.heap.size + 1) c0 c1 c2 y0 w1 hX hY).mono ?_
  rintro e u' w2 ⟨rfl, rfl, hX2, hY2, hb⟩
  have hb2 := hb w.heap.size (Nat.le_refl _) (by omega) hk.size
  refine ⟨.tuple #[.agg #[.slice none 0 0, .int .i64 0, .slice none 0 0], .bool false], ?_, ⟨fun q hq hR => (hb2.block q hq).trans (hk.oth q hq hR), Nat.le_trans hk.size hb2.size, hk.bel.trans (hb2.mono hw0)⟩, Or.inr ⟨hr, rfl⟩⟩
  exact results_two Tryd.results59 tmps w2 w.heap.size (w.heap.size + 1) _ _ _ _ (.bool false) h2 hX2 Tryd.underlying38 rfl (by kernel_rfl) h3 (load_bool w2 _ false hY2)
theorem rep_len {α : Type} {p : Ps α} (hp : ∀ l x r, p l = some (x, r) → r.length ≤ l.length) : ∀ (n : Nat) (l r : List Int) (xs : List α), repP p n l = some (xs, r) → r.length ≤ l.length
  | 0, l, r, xs, h => by
    simp only [repP] at h
    cases h
    exact Nat.le_refl _
  | n + 1, l, r, xs, h => by
    simp only [repP] at h
    obtain ⟨⟨x, l1⟩, h1, h⟩ := bind_some h
    obtain ⟨⟨ys, l2⟩, h2, h⟩ := bind_some h
    cases h
    exact Nat.le_trans (rep_len hp n _ _ _ h2) (hp _ _ _ h1)
theorem txt_len {n : Nat} {l l' x : List Int} (h : txtP n l = some (x, l')) : l'.length ≤ l.length := by
  unfold txtP at h
  split at h
  · cases h; rw [List.length_drop]; omega
  · cases h
theorem dat_len {l l' : List Int} {x : S57} (h : datP l = some (x, l')) : l'.length ≤ l.length := by
  unfold datP at h
  obtain ⟨⟨k, l1⟩, h1, h⟩ := bind_some h
  have e1 := num_len h1
  simp only at h
  split at h
  · obtain ⟨⟨n, l2⟩, h2, h⟩ := bind_some h
    have e2 := num_len h2
    cases h
    exact Nat.le_trans e2 e1
  · split at h
    · obtain ⟨⟨n, l2⟩, h2, h⟩ := bind_some h
      have e2 := num_len h2
      cases h
      exact Nat.le_trans e2 e1
    · split at h
      · obtain ⟨⟨n, l2⟩, h2, h⟩ := bind_some h
        have e2 := num_len h2
        obtain ⟨⟨s, l3⟩, h3, h⟩ := bind_some h
        have e3 := txt_len h3
        cases h
        exact Nat.le_trans e3 (Nat.le_trans e2 e1)
      · obtain ⟨⟨n, l2⟩, h2, h⟩ := bind_some h
        have e2 := num_len h2
        cases h
        exact Nat.le_trans e2 e1
theorem box_len {l l' : List Int} {x : Bool} (h : boxPs l = some (x, l')) : l'.length ≤ l.length := by
  unfold boxPs at h
  obtain ⟨⟨k, l1⟩, h1, h⟩ := bind_some h
  cases h
  exact num_len h1
theorem ins_len {l l' : List Int} {x : S71} (h : insPs l = some (x, l')) : l'.length ≤ l.length := by
  unfold insPs at h
  obtain ⟨⟨k, l1⟩, h1, h⟩ := bind_some h
  obtain ⟨⟨m, l2⟩, h2, h⟩ := bind_some h
  obtain ⟨⟨n, l3⟩, h3, h⟩ := bind_some h
  cases h
  exact Nat.le_trans (num_len h3) (Nat.le_trans (num_len h2) (num_len h1))
theorem fun_len {l l' : List Int} {x : S68} (h : funPs l = some (x, l')) : l'.length ≤ l.length := by
  unfold funPs at h
  obtain ⟨⟨k, l1⟩, h1, h⟩ := bind_some h
  obtain ⟨⟨m, l2⟩, h2, h⟩ := bind_some h
  obtain ⟨⟨fr, l3⟩, h3, h⟩ := bind_some h
  obtain ⟨⟨n, l4⟩, h4, h⟩ := bind_some h
  obtain ⟨⟨co, l5⟩, h5, h⟩ := bind_some h
  cases h
  exact Nat.le_trans (rep_len (fun _ _ _ h => ins_len h) _ _ _ _ h5) (Nat.le_trans (num_len h4) (Nat.le_trans (rep_len (fun _ _ _ h => box_len h) _ _ _ _ h3) (Nat.le_trans (num_len h2) (num_len h1))))
/-- The state of the call: the reader in R, the module in the result's box. -/
structure MSt (w0 w : World) (R : Nat) (l : List Int) (g : Int) (cv fv : Value) (cs : List (List S57)) (fs : List S68) (hC lF hF : Nat) (wr : World) : Prop where
  rd : RdI w0 R l wr
  ll : l.length ≤ 1048576
  bys : Bys l
  rk : Rk w0 R w wr
  xb : wr.heap[w.heap.size]? = some (.cells #[cv, .int .i64 g, fv] 38 (0, 0))
  yb : wr.heap[w.heap.size + 1]? = some (.cells #[.bool false] 4 (0, 0))
  con : RowO ekDats w.heap.size hC wr cv cs
  fun_ : RowO ekFun lF hF wr fv fs
  hc : hC ≤ wr.heap.size
  hf : hF ≤ wr.heap.size
  lo : w.heap.size ≤ lF
section
variable {w0 w wr w' : World} {R : Nat} {l l' : List Int} {g : Int} {cv fv : Value} {cs : List (List S57)} {fs : List S68} {hC lF hF : Nat}
theorem MSt.step (h : MSt w0 w R l g cv fv cs fs hC lF hF wr) (hk : Rk w0 R wr w') (hR : RdI w0 R l' w') (hl : l'.length ≤ 1048576) (hb : Bys l') (hRl : R < w.heap.size) : MSt w0 w R l' g cv fv cs fs hC lF hF w' :=
  ⟨hR, hl, hb, h.rk.trans hk, hk.box h.xb (by omega), hk.box h.yb (by omega), h.con.fx (Fx.rkI hk h.rd (by decide)), h.fun_.fx (Fx.rkI hk h.rd (by decide)), Nat.le_trans h.hc hk.size, Nat.le_trans h.hf hk.size, h.lo⟩
theorem MSt.high (h : MSt w0 w R l g cv fv cs fs hC lF hF wr) {S : Nat} (hs : ∀ q, q < S → w'.heap[q]? = wr.heap[q]?) (hz : wr.heap.size ≤ w'.heap.size) (hb : Below w0.heap.size wr w') (h1 : hC ≤ S) (h2 : hF ≤ S) (h3 : w.heap.size + 1 < S) (hRl : R < w.heap.size) : MSt w0 w R l g cv fv cs fs hC lF hF w' :=
  ⟨h.rd.old (hs R (by omega)), h.ll, h.bys, ⟨fun q hq hR => (hs q (by omega)).trans (h.rk.oth q hq hR), Nat.le_trans h.rk.size hz, h.rk.bel.trans hb⟩, (hs _ (by omega)).trans h.xb, (hs _ (by omega)).trans h.yb, h.con.low (fun q hq => hs q (by omega)), h.fun_.low (fun q hq => hs q (by omega)), Nat.le_trans h.hc hz, Nat.le_trans h.hf hz, h.lo⟩
theorem MSt.xs (h : MSt w0 w R l g cv fv cs fs hC lF hF wr) : wr.cell? ⟨w.heap.size, 0, none⟩ = some cv ∧ wr.cell? ⟨w.heap.size, 1, none⟩ = some (.int .i64 g) ∧ wr.cell? ⟨w.heap.size, 2, none⟩ = some fv ∧ wr.frozen? ⟨w.heap.size, 0, none⟩ = false ∧ wr.frozen? ⟨w.heap.size, 1, none⟩ = false ∧ wr.frozen? ⟨w.heap.size, 2, none⟩ = false ∧ w.heap.size < wr.heap.size := boxF h.xb
theorem MSt.setC (h : MSt w0 w R l g cv fv cs fs hC lF hF wr) (hRl : R < w.heap.size) (hw : w0.heap.size ≤ w.heap.size) {v1 : Value} {w1 : World} {cs' : List (List S57)} (hr : RowO ekDats w.heap.size w1.heap.size w1 v1 cs') (hg : wr.grownBy w1 cv.ownBlock) : MSt w0 w R l g v1 fv cs' fs w1.heap.size lF hF (w1.setCell ⟨w.heap.size, 0, none⟩ v1) := by
  have hT := h.con.typed
  have hne : ∀ (k : Nat) (cs : Array Value) (T : Nat), wr.heap[k]? = some (.cells cs T (0, 0)) → T ≠ 25 → w1.heap[k]? = some (.cells cs T (0, 0)) := fun k cs T hk ht => Fx.grown (ts := [T]) hg hT (by simpa using fun e => ht e.symm) k cs T (by simp) hk
  have hM := hne _ _ _ h.xb (by decide)
  refine ⟨(h.rd.grown hg hT (by decide)).old (Below.heap_setCell _ _ _ _ (by simp; omega)), h.ll, h.bys, (h.rk.grown hg (fun q hq => (h.con.lt q hq).1) hw).set hw (Nat.le_refl _) _, ?_, set_far (hne _ _ _ h.yb (by decide)) (by omega) _, (hr.fx (Fx.box hM _ (by decide))).mono (Nat.le_refl _) (Nat.le_refl _), ?_, by rw [set_size]; exact Nat.le_refl _, by rw [set_size]; exact Nat.le_trans h.hf hg.size, h.lo⟩
  · have := Go.Joins.block_setCell (i := 0) hM v1
    simpa using this
  · exact (h.fun_.fx (Fx.grown hg hT (by decide))).fx (Fx.box hM _ (by decide))
theorem MSt.setF (h : MSt w0 w R l g cv fv cs fs hC lF hF wr) (hRl : R < w.heap.size) (hw : w0.heap.size ≤ w.heap.size) {v1 : Value} {w1 : World} {fs' : List S68} (hr : RowO ekFun lF w1.heap.size w1 v1 fs') (hg : wr.grownBy w1 fv.ownBlock) : MSt w0 w R l g cv v1 cs fs' hC lF w1.heap.size (w1.setCell ⟨w.heap.size, 2, none⟩ v1) := by
  have hT := h.fun_.typed
  have hne : ∀ (k : Nat) (cs : Array Value) (T : Nat), wr.heap[k]? = some (.cells cs T (0, 0)) → T ≠ 68 → w1.heap[k]? = some (.cells cs T (0, 0)) := fun k cs T hk ht => Fx.grown (ts := [T]) hg hT (by simpa using fun e => ht e.symm) k cs T (by simp) hk
  have hM := hne _ _ _ h.xb (by decide)
  refine ⟨(h.rd.grown hg hT (by decide)).old (Below.heap_setCell _ _ _ _ (by simp; omega)), h.ll, h.bys, (h.rk.grown hg (fun q hq => Nat.le_trans h.lo (h.fun_.lt q hq).1) hw).set hw (Nat.le_refl _) _, ?_, set_far (hne _ _ _ h.yb (by decide)) (by omega) _, ?_, (hr.fx (Fx.box hM _ (by decide))).mono (Nat.le_refl _) (Nat.le_refl _), by rw [set_size]; exact Nat.le_trans h.hc hg.size, by rw [set_size]; exact Nat.le_refl _, h.lo⟩
  · have := Go.Joins.block_setCell (i := 2) hM v1
    simpa using this
  · exact (h.con.fx (Fx.grown hg hT (by decide))).fx (Fx.box hM _ (by decide))
end
set_option maxHeartbeats 8000000 in
set_option maxRecDepth 100000 in
theorem modI_calls (w0 : World) (R : Nat) (l : List Int) (w : World) (h : RdI w0 R l w) (hB : Below w0.heap.size w0 w) (hBR : w0.heap.size ≤ R) (hl : l.length ≤ 1048576) (hby : Bys l) :
    Calls Tryd.prog 59 #[.pointer (some ⟨R, 0, none⟩)] w (ModPost w0 R l w) := by
  have hRl : R < w.heap.size := by obtain ⟨_, _, h1, _⟩ := h; exact blk_lt2 h1
  have hw0 : w0.heap.size ≤ w.heap.size := hB.size
  have hu := Tryd.underlying38
  obtain ⟨W, hW⟩ : ∃ W, W = (w.alloc (.cells #[.slice none 0 0, .int .i64 0, .slice none 0 0] 38)).alloc (.cells #[.bool false] 4) := ⟨_, rfl⟩
  have hbW : Below w.heap.size w W := by rw [hW]; exact ((Below.refl _ _).alloc (Nat.le_refl _) _).alloc (by simp) _
  have hX : W.heap[w.heap.size]? = some (.cells #[.slice none 0 0, .int .i64 0, .slice none 0 0] 38 (0, 0)) := by rw [hW]; exact blk_old2 (blk_new2 _ _) _
  have hY : W.heap[w.heap.size + 1]? = some (.cells #[.bool false] 4 (0, 0)) := by
    have := blk_new2 (w.alloc (.cells #[.slice none 0 0, .int .i64 0, .slice none 0 0] 38)) (.cells #[.bool false] 4)
    rw [← hW, show (w.alloc (.cells #[.slice none 0 0, .int .i64 0, .slice none 0 0] 38)).heap.size = w.heap.size + 1 by simp] at this
    exact this
  have HX := Lib.hid hX
  have HY := Lib.hid hY
  have HKW := Lib.hid (Rk.below (R := R) hw0 hbW)
  have HRW := Lib.hid (h.old (hbW.block R hRl))
  have HB := Lib.hid hB
  have HBY := Lib.hid hby
  have HBW : Hid (Below w0.heap.size w0 W) := Lib.hid (hB.trans (hbW.mono hw0))
  have hzW : w.heap.size + 1 < W.heap.size := blk_lt2 hY
  have hmf : ∀ (fn : Fn) (first cap : Array Value) (w : World), (Instr.makeFunc fn first cap).run Tryd.prog w = .ok (.func fn first cap) w := fun _ _ _ _ => rfl
  clear h hB hby hbW hX hY
  go_enter_defers Tryd.func59, Tryd.ntmps59
  go_wp2_with fail
  rw [← hW]
  clear hW hmf
  refine (take_calls w0 R 4 l W HRW.out hBR (by omega) hl).mono ?_
  rintro e w1 ⟨⟨hk1, hp⟩, hs1⟩
  have HK1 := Lib.hid (HKW.out.trans hk1)
  have HX1 := Lib.hid (hk1.box HX.out (by omega))
  have HY1 := Lib.hid (hk1.box HY.out (by omega))
  have HB1 : Hid (Below w0.heap.size w0 w1) := Lib.hid (HBW.out.trans hk1.bel)
  rcases hp with ⟨t, l1, v1, hp1, rfl, ⟨A1, c1, rfl, hC1, hc1⟩, hR1⟩ | ⟨hp1, rfl⟩
  case inr =>
    have HP1 := Lib.hid hp1
    clear hp1 hk1 hs1
    go_wp2_with fail
    exact torn_end hw0 hRl HK1.out HX1.out HY1.out (by unfold readM; rw [if_neg (fun h4 => by have h5 := HP1.out; unfold txtP at h5; rw [if_pos h4] at h5; cases h5)]) rfl rfl
  have h4 : 4 ≤ l.length ∧ l1 = l.drop 4 := by
    unfold txtP at hp1
    split at hp1
    · cases hp1; exact ⟨by assumption, rfl⟩
    · cases hp1
  obtain ⟨h4, rfl⟩ := h4
  obtain ⟨RES, hRES⟩ : ∃ r, r = readM l := ⟨_, rfl⟩
  have HRES := Lib.hid hRES
  have HG1 : Hid (RES = modPs (l.drop 4)) := Lib.hid (by rw [hRES]; unfold readM; rw [if_pos h4])
  have HS1 : Hid (MSt w0 w R (l.drop 4) 0 (.slice none 0 0) (.slice none 0 0) [] [] w.heap.size w.heap.size w.heap.size w1) := Lib.hid ⟨hR1, by rw [List.length_drop]; omega, HBY.out.drop 4, HK1.out, HX1.out, HY1.out, RowO.nil _ _ _ _ (Nat.le_refl _), RowO.nil _ _ _ _ (Nat.le_refl _), HK1.out.size, HK1.out.size, Nat.le_refl _⟩
  clear hp1 hk1 hs1 hC1 hc1 hR1 hRES HX1 HY1 HK1 HX HY HKW HRW HBW
  go_wp2_with fail
  refine (number_calls w0 R 2 (l.drop 4) w1 HS1.out.rd HB1.out hBR (by omega) (by omega) HS1.out.ll HS1.out.bys).mono ?_
  rintro e w2 ⟨hp, hs2⟩
  obtain ⟨hk2, hp⟩ := num_case hp
  rcases hp with ⟨g, l2, hp2, rfl, hR2⟩ | ⟨hp2, rfl⟩
  case inr =>
    have HP2 := Lib.hid hp2
    have HK2 := Lib.hid hk2
    clear hp2 hk2 hs2
    go_wp2_with fail
    exact torn_end hw0 hRl (HS1.out.rk.trans HK2.out) (HK2.out.box HS1.out.xb (by omega)) (HK2.out.box HS1.out.yb (by omega)) (by rw [← HRES.out, HG1.out]; unfold modPs; rw [HP2.out]; rfl) rfl rfl
  have HS2 := Lib.hid (HS1.out.step hk2 hR2 (by have := num_len hp2; have := HS1.out.ll; omega) (num_bys HS1.out.bys hp2) hRl)
  have HG2 : Hid (RES = (numP 2 l2).bind fun r => (repP conPs r.1.toNat r.2).bind fun s => (numP 2 s.2).bind fun t => (repP funPs t.1.toNat t.2).bind fun u => some ⟨s.1, g, u.1⟩) := Lib.hid (by rw [HG1.out]; unfold modPs; rw [hp2]; rfl)
  obtain ⟨x0, x1, x2, xf0, xf1, xf2, xl⟩ := HS2.out.xs
  have HS3 : Hid (MSt w0 w R l2 g (.slice none 0 0) (.slice none 0 0) [] [] w.heap.size w.heap.size w.heap.size (w2.setCell ⟨w.heap.size, 1, none⟩ (.int .i64 g))) := Lib.hid (by
    refine ⟨HS2.out.rd.old (Below.heap_setCell _ _ _ _ (by simp; omega)), HS2.out.ll, HS2.out.bys, HS2.out.rk.set hw0 (Nat.le_refl _) _, ?_, set_far HS2.out.yb (by omega) _, RowO.nil _ _ _ _ (Nat.le_refl _), RowO.nil _ _ _ _ (Nat.le_refl _), by rw [set_size]; exact HS2.out.hc, by rw [set_size]; exact HS2.out.hf, Nat.le_refl _⟩
    have := Go.Joins.block_setCell (i := 1) HS2.out.xb (.int .i64 g)
    simpa using this)
  clear hp2 hk2 hs2 hR2 HS1 HG1 HB1
  go_wp2_with fail
  obtain ⟨W3, hW3⟩ : ∃ W3, W3 = w2.setCell ⟨w.heap.size, 1, none⟩ (.int .i64 g) := ⟨_, rfl⟩
  rw [← hW3] at HS3 ⊢
  clear hW3 x0 x1 x2 xf0 xf1 xf2 xl HS2
  refine (number_calls w0 R 2 l2 W3 HS3.out.rd (HB.out.trans HS3.out.rk.bel) hBR (by omega) (by omega) HS3.out.ll HS3.out.bys).mono ?_
  rintro e w4 ⟨hp, hs4⟩
  obtain ⟨hk4, hp⟩ := num_case hp
  rcases hp with ⟨n, l4, hp4, rfl, hR4⟩ | ⟨hp4, rfl⟩
  case inr =>
    have HP4 := Lib.hid hp4
    have HK4 := Lib.hid hk4
    clear hp4 hk4 hs4
    go_wp2_with fail
    exact torn_end hw0 hRl (HS3.out.rk.trans HK4.out) (HK4.out.box HS3.out.xb (by omega)) (HK4.out.box HS3.out.yb (by omega)) (by rw [← HRES.out, HG2.out, HP4.out]; rfl) rfl rfl
  have HS4 := Lib.hid (HS3.out.step hk4 hR4 (by have := num_len hp4; have := HS3.out.ll; omega) (num_bys HS3.out.bys hp4) hRl)
  have hnb := num2 HS3.out.bys hp4
  obtain ⟨n, rfl⟩ : ∃ m : Nat, n = (m : Int) := ⟨n.toNat, by have := hnb.1; omega⟩
  have hn65 : n ≤ 65535 := by have := hnb.2.1; omega
  have HG4 : Hid (RES = (repP conPs n l4).bind fun s => (fun cs l => (numP 2 l).bind fun t => (repP funPs t.1.toNat t.2).bind fun u => some (⟨cs, g, u.1⟩ : ModP)) ([] ++ s.1) s.2) := Lib.hid (by rw [HG2.out, hp4]; simp)
  clear hp4 hk4 hs4 hR4 hnb HS3 HG2
  go_wp2_with fail
  obtain ⟨K1, hK1⟩ : ∃ K : List (List S57) → List Int → Option ModP, K = fun cs l => (numP 2 l).bind fun t => (repP funPs t.1.toNat t.2).bind fun u => some (⟨cs, g, u.1⟩ : ModP) := ⟨_, rfl⟩
  have HG5 : Hid (RES = (repP conPs n l4).bind fun s => K1 ([] ++ s.1) s.2) := Lib.hid (by rw [hK1]; exact HG4.out)
  have HKE := Lib.hid hK1
  clear hK1 HG4
  have HG4 := HG5
  clear HG5
  go_loopw [13] (fun v13 wr => ∃ i : Nat, i ≤ n ∧ v13 = .int .i64 i ∧ Hid (∃ l' cv cs, MSt w0 w R l' g cv (.slice none 0 0) cs [] wr.heap.size w.heap.size w.heap.size wr ∧ cs.length = i ∧ RES = (repP conPs (n - i) l').bind fun s => K1 (cs ++ s.1) s.2)) (fun v13 _ => n - (RowKit.intOf v13).toNat)
  case atStart => exact ⟨0, Nat.zero_le _, rfl, Lib.hid ⟨l4, _, [], ⟨HS4.out.rd, HS4.out.ll, HS4.out.bys, HS4.out.rk, HS4.out.xb, HS4.out.yb, HS4.out.con.mono (Nat.le_refl _) HS4.out.hc, HS4.out.fun_, Nat.le_refl _, HS4.out.hf, HS4.out.lo⟩, rfl, HG4.out⟩⟩
  case round =>
    clear HS4 HG4
    obtain ⟨i, hi, rfl, HQ⟩ := hrel
    obtain ⟨l5, cv, cs, hS, hcl, hg5⟩ := HQ.out
    clear HQ
    obtain ⟨Ac, nc, rfl, _⟩ := hS.con.form
    have HG5 := Lib.hid hg5
    have HCL := Lib.hid hcl
    have hcl2 : cs.length ≤ 65535 := by omega
    have hwl : w.heap.size < wr.heap.size := blk_lt2 hS.xb
    have hyl : w.heap.size + 1 < wr.heap.size := blk_lt2 hS.yb
    by_cases hlt : i < n
    · obtain ⟨d, hd⟩ : ∃ d, n - i = d + 1 := ⟨n - i - 1, by omega⟩
      obtain ⟨S0, hS0⟩ : ∃ S0, S0 = wr.heap.size := ⟨_, rfl⟩
      obtain ⟨F, hF⟩ : ∃ F : List S57 × List Int → Option ModP, F = fun q => (repP conPs d q.2).bind fun r => K1 ((cs ++ [q.1]) ++ r.1) r.2 := ⟨_, rfl⟩
      have HGX : Hid (RES = (numP 2 l5).bind fun q => (repP datP q.1.toNat q.2).bind F) := Lib.hid (by
        rw [HG5.out, hd, rep_step (K := K1), ← hF]
        unfold conPs
        rw [Option.bind_assoc])
      have HFE := Lib.hid hF
      have HD : Hid (n - (i + 1) = d) := Lib.hid (by omega)
      have hba := (Below.refl wr.heap.size wr).alloc (Nat.le_refl _) (.cells #[] 57)
      have HSA : Hid (MSt w0 w R l5 g (.slice Ac cs.length nc) (.slice none 0 0) cs [] S0 w.heap.size w.heap.size (wr.alloc (.cells #[] 57))) := Lib.hid (by
        have := hS.high (S := wr.heap.size) (fun q hq => hba.block q hq) hba.size (hba.mono (Nat.le_trans hw0 hS.rk.size)) (Nat.le_refl _) hS.hf hyl hRl
        rw [← hS0] at this
        exact this)
      have HR0 : Hid (RowO ekDat S0 (wr.alloc (.cells #[] 57)).heap.size (wr.alloc (.cells #[] 57)) (.slice (some ⟨S0, 0, none⟩) 0 0) []) := Lib.hid (by
        rw [hS0]
        refine ⟨[], fun _ => wr.heap.size, ⟨by simp, .inr ⟨wr.heap.size, 0, #[], rfl, Nat.le_refl _, blk_new2 _ _, Nat.le_refl _, by unfold maxLen; omega, rfl, rfl⟩⟩, fun g hg => by simp [Value.ownBlock] at hg; subst hg; simp, rfl, Nat.le_refl _, fun _ _ _ => Nat.le_refl _, by simp, fun i x c hx => by simp at hx⟩)
      have hSz : S0 ≤ (wr.alloc (.cells #[] 57)).heap.size := by rw [hS0]; simp
      have HSZ := Lib.hid hSz
      have hRS : w.heap.size + 1 < S0 := by omega
      clear hd hF HG5 hS hba hSz hg5 hcl
      go_wp2_with fail
      rw [← hS0]
      obtain ⟨WA, hWA⟩ : ∃ WA, WA = wr.alloc (.cells #[] 57) := ⟨_, rfl⟩
      rw [← hWA] at HSA HR0 HSZ ⊢
      clear hWA hS0 hwl hyl
      refine (number_calls w0 R 2 l5 WA HSA.out.rd (HB.out.trans HSA.out.rk.bel) hBR (by omega) (by omega) HSA.out.ll HSA.out.bys).mono ?_
      rintro e w6 ⟨hp, hs6⟩
      obtain ⟨hk6, hp⟩ := num_case hp
      rcases hp with ⟨k, l6, hp6, rfl, hR6⟩ | ⟨hp6, rfl⟩
      case inr =>
        have HP6 := Lib.hid hp6
        have HK6 := Lib.hid hk6
        clear hp6 hk6 hs6
        go_wp2_with fail
        exact torn_end hw0 hRl (HSA.out.rk.trans HK6.out) (HK6.out.box HSA.out.xb (by omega)) (HK6.out.box HSA.out.yb (by omega)) (by rw [← HRES.out, HGX.out, HP6.out]; rfl) rfl rfl
      have HS6 := Lib.hid (HSA.out.step hk6 hR6 (by have := num_len hp6; have := HSA.out.ll; omega) (num_bys HSA.out.bys hp6) hRl)
      have HR6 : Hid (RowO ekDat S0 w6.heap.size w6 (.slice (some ⟨S0, 0, none⟩) 0 0) []) := Lib.hid ((HR0.out.fx (Fx.rkI hk6 HSA.out.rd (by simp [ekDat]))).mono (Nat.le_refl _) hk6.size)
      have hSz6 : S0 ≤ w6.heap.size := Nat.le_trans HSZ.out hk6.size
      have hkb := num2 HSA.out.bys hp6
      obtain ⟨k, rfl⟩ : ∃ m : Nat, k = (m : Int) := ⟨k.toNat, by have := hkb.1; omega⟩
      have hk65 : k ≤ 65535 := by have := hkb.2.1; omega
      have HG6 : Hid (RES = (repP datP k l6).bind fun q => F ([] ++ q.1, q.2)) := Lib.hid (by rw [HGX.out, hp6]; simp)
      clear hp6 hk6 hs6 hR6 hkb HSA HGX HR0
      go_wp2_with fail
      go_loopw [4, 18] (fun v4 v18 wr => ∃ j : Nat, j ≤ k ∧ v18 = .int .i64 j ∧ Hid (∃ l' data, MSt w0 w R l' g (.slice Ac cs.length nc) (.slice none 0 0) cs [] S0 w.heap.size w.heap.size wr ∧ S0 ≤ wr.heap.size ∧ RowO ekDat S0 wr.heap.size wr v4 data ∧ data.length = j ∧ RES = (repP datP (k - j) l').bind fun q => F (data ++ q.1, q.2))) (fun _ v18 _ => k - (RowKit.intOf v18).toNat)
      case atStart => exact ⟨0, Nat.zero_le _, rfl, Lib.hid ⟨l6, [], HS6.out, hSz6, HR6.out, rfl, HG6.out⟩⟩
      case round =>
        clear HS6 HR6 HG6 hSz6
        obtain ⟨j, hj, rfl, HQ⟩ := hrel
        obtain ⟨l7, data, hS, hSl, hrow, hdl, hg7⟩ := HQ.out
        clear HQ
        obtain ⟨Ad, nd, rfl, _⟩ := hrow.form
        have HS := Lib.hid hS
        have HROW := Lib.hid hrow
        have HDL := Lib.hid hdl
        have HG7 := Lib.hid hg7
        have hdl2 : data.length ≤ 65535 := by omega
        clear hS hrow hdl hg7
        by_cases hlt2 : j < k
        · obtain ⟨d2, hd2⟩ : ∃ d2, k - j = d2 + 1 := ⟨k - j - 1, by omega⟩
          have HGX : Hid (RES = (datP l7).bind fun q => (repP datP d2 q.2).bind fun r => F ((data ++ [q.1]) ++ r.1, r.2)) := Lib.hid (by rw [HG7.out, hd2, rep_step (K := fun a l => F (a, l))])
          have HD2 : Hid (k - (j + 1) = d2) := Lib.hid (by omega)
          clear hd2 HG7
          go_wp2_with fail
          refine (datI_calls w0 R l7 wr HS.out.rd (HB.out.trans HS.out.rk.bel) hBR HS.out.ll HS.out.bys).mono ?_
          rintro e w8 ⟨hk8, ⟨x, l8, v, hp8, rfl, ⟨tv, rfl, ht8⟩, hR8⟩ | ⟨hp8, rfl⟩⟩
          case inr =>
            have HP8 := Lib.hid hp8
            have HK8 := Lib.hid hk8
            clear hp8 hk8
            go_wp2_with fail
            exact torn_end hw0 hRl (HS.out.rk.trans HK8.out) (HK8.out.box HS.out.xb (by omega)) (HK8.out.box HS.out.yb (by omega)) (by rw [← HRES.out, HGX.out, HP8.out]; rfl) rfl rfl
          obtain ⟨At, nt, rfl, _⟩ := ht8.form
          have HROW8 := Lib.hid (HROW.out.fx (Fx.rkI hk8 HS.out.rd (by simp [ekDat])))
          have HE8 : Hid (ekDat.E w8 wr.heap.size w8.heap.size x [.int .i64 x.f0, .int .i64 x.f1, .slice At x.f2.length nt, .int .i64 x.f3]) := Lib.hid ⟨_, rfl, ht8⟩
          have hz8 : wr.heap.size ≤ w8.heap.size := hk8.size
          have HP8 := Lib.hid hp8
          have HK8 := Lib.hid hk8
          have HR8 := Lib.hid hR8
          clear hp8 hk8 ht8 hR8 HROW
          go_wp2_with (at_builtin; refine app_elem ekDat 25 Tryd.underlying25 info_dat rfl (by omega) (by simp [ekDat]) rfl _ _ rfl rfl rfl HROW8.out HE8.out hz8 (by omega) (by omega) ?_; intro v1 w9 HO1 HG1)
          obtain ⟨Ae, ne, rfl, _⟩ := HO1.out.form
          have HG9 : Hid (w8.grownBy w9 (Value.slice Ad data.length nd).ownBlock) := Lib.hid HG1.out
          have HS8 := Lib.hid (HS.out.step HK8.out HR8.out (by have := dat_len HP8.out; have := HS.out.ll; omega) (dat_ok HS.out.bys HP8.out).2 hRl)
          have HN : Hid (∃ l' dt, MSt w0 w R l' g (.slice Ac cs.length nc) (.slice none 0 0) cs [] S0 w.heap.size w.heap.size w9 ∧ S0 ≤ w9.heap.size ∧ RowO ekDat S0 w9.heap.size w9 (.slice Ae (data ++ [x]).length ne) dt ∧ dt.length = j + 1 ∧ RES = (repP datP (k - (j + 1)) l').bind fun q => F (dt ++ q.1, q.2)) := Lib.hid (by
            refine ⟨l8, data ++ [x], HS8.out.high (S := S0) (fun q hq => HG9.out.block q (by omega) (fun e => by have := (HROW8.out.lt q e.symm).1; omega)) HG9.out.size ((Below.refl _ _).grown HG9.out (Nat.le_trans hw0 HS8.out.rk.size) (fun q hq => by have := (HROW8.out.lt q hq).1; omega)) (Nat.le_refl _) (by omega) hRS hRl, by have := HG9.out.size; omega, HO1.out, by simp [HDL.out], ?_⟩
            rw [HGX.out, HP8.out, HD2.out]
            rfl)
          obtain ⟨n7, hn7⟩ : ∃ q, q = (data ++ [x]).length := ⟨_, rfl⟩
          rw [← hn7] at HN ⊢
          clear HO1 HG1 HG9 hn7 HS8 HROW8 HE8 HP8 HK8 HR8 HS HGX
          refine Lib.hid ?_
          go_wp2_with fail
          go_roundw
          case rel => exact ⟨j + 1, by omega, by go_num, HN⟩
          case measure => simp [RowKit.intOf]; omega
        · have HRF : Hid (RES = F (data, l7)) := Lib.hid (by
            have hjk : k - j = 0 := by omega
            rw [HG7.out, hjk]
            simp [repP])
          have HE7 : Hid (ekDats.E wr S0 wr.heap.size data [.slice Ad data.length nd]) := Lib.hid ⟨_, rfl, HROW.out⟩
          have hwl : w.heap.size ≤ wr.heap.size := HS.out.rk.size
          have hge : ¬ (j : Int) < (k : Int) := by omega
          obtain ⟨x0, x1, x2, xf0, xf1, xf2, xl⟩ := HS.out.xs
          clear HG7 HROW
          go_wp2_with (at_builtin; refine app_elem ekDats 35 Tryd.underlying35 info_dats rfl (by omega) (by simp [ekDats]) rfl _ _ rfl rfl rfl HS.out.con HE7.out hSl hwl (by omega) ?_; intro v1 w9 HO1 HG1)
          obtain ⟨Ae, ne, rfl, _⟩ := HO1.out.form
          have HS9 := Lib.hid (HS.out.setC hRl hw0 HO1.out HG1.out)
          have hM9 : w9.heap[w.heap.size]? = some (.cells #[.slice Ac cs.length nc, .int .i64 g, .slice none 0 0] 38 (0, 0)) := Fx.grown (ts := [38]) HG1.out HS.out.con.typed (by simp [ekDats]) _ _ _ (by simp) HS.out.xb
          have m9 : w9.cell? ⟨w.heap.size, 0, none⟩ = some (.slice Ac cs.length nc) := by simp [World.cell?, hM9]
          have f9 : w9.frozen? ⟨w.heap.size, 0, none⟩ = false := by simp [World.frozen?, hM9]
          have l9 : w.heap.size < w9.heap.size := blk_lt2 hM9
          have HN : Hid (∃ l' cv cs', MSt w0 w R l' g cv (.slice none 0 0) cs' [] (w9.setCell ⟨w.heap.size, 0, none⟩ (.slice Ae (cs ++ [data]).length ne)).heap.size w.heap.size w.heap.size (w9.setCell ⟨w.heap.size, 0, none⟩ (.slice Ae (cs ++ [data]).length ne)) ∧ cs'.length = i + 1 ∧ RES = (repP conPs (n - (i + 1)) l').bind fun s => K1 (cs' ++ s.1) s.2) := Lib.hid (by
            rw [set_size]
            refine ⟨l7, _, cs ++ [data], HS9.out, by simp [HCL.out], ?_⟩
            rw [HRF.out, HFE.out, HD.out])
          obtain ⟨n7, hn7⟩ : ∃ q, q = (cs ++ [data]).length := ⟨_, rfl⟩
          rw [← hn7] at HN ⊢
          clear HO1 HG1 HS9 hM9 hn7 HE7 HRF x0 x1 x2 xf0 xf1 xf2 xl HS
          refine Lib.hid ?_
          go_wp2_with fail
          go_roundw
          case rel => exact ⟨i + 1, by omega, by go_num, HN⟩
          case measure => simp [RowKit.intOf]; omega
    · have hin : n - i = 0 := by omega
      have HRF : Hid (RES = K1 cs l5) := Lib.hid (by rw [HG5.out, hin]; simp [repP])
      have HS := Lib.hid hS
      have HBr : Hid (Below w0.heap.size w0 wr) := Lib.hid (HB.out.trans hS.rk.bel)
      have hge : ¬ (i : Int) < (n : Int) := by omega
      clear hin HG5 hS hg5 hcl
      go_wp2_with fail
      refine (number_calls w0 R 2 l5 wr HS.out.rd HBr.out hBR (by omega) (by omega) HS.out.ll HS.out.bys).mono ?_
      rintro e w4 ⟨hp, hs4⟩
      obtain ⟨hk4, hp⟩ := num_case hp
      rcases hp with ⟨m, l6, hp4, rfl, hR4⟩ | ⟨hp4, rfl⟩
      case inr =>
        have HP4 := Lib.hid hp4
        have HK4 := Lib.hid hk4
        clear hp4 hk4 hs4
        go_wp2_with fail
        exact torn_end hw0 hRl (HS.out.rk.trans HK4.out) (HK4.out.box HS.out.xb (by omega)) (HK4.out.box HS.out.yb (by omega)) (by rw [← HRES.out, HRF.out, HKE.out]; simp only; rw [HP4.out]; rfl) rfl rfl
      have HS4 := Lib.hid (HS.out.step hk4 hR4 (by have := num_len hp4; have := HS.out.ll; omega) (num_bys HS.out.bys hp4) hRl)
      have hmb := num2 HS.out.bys hp4
      obtain ⟨m, rfl⟩ : ∃ q : Nat, m = (q : Int) := ⟨m.toNat, by have := hmb.1; omega⟩
      have hm65 : m ≤ 65535 := by have := hmb.2.1; omega
      have HG7 : Hid (RES = (repP funPs m l6).bind fun u => some (⟨cs, g, [] ++ u.1⟩ : ModP)) := Lib.hid (by rw [HRF.out, HKE.out]; simp only; rw [hp4]; simp)
      obtain ⟨mid, hmid⟩ : ∃ q, q = w4.heap.size := ⟨_, rfl⟩
      have HS5 : Hid (MSt w0 w R l6 g (.slice Ac cs.length nc) (.slice none 0 0) cs [] mid mid mid w4) := Lib.hid (by
        have h4 := HS4.out
        have hz := hk4.size
        rw [hmid]
        exact ⟨h4.rd, h4.ll, h4.bys, h4.rk, h4.xb, h4.yb, h4.con.mono (Nat.le_refl _) hz, RowO.nil _ _ _ _ (Nat.le_refl _), Nat.le_refl _, Nat.le_refl _, h4.rk.size⟩)
      have hml : mid ≤ w4.heap.size := by omega
      have hwm : w.heap.size + 1 < mid := by rw [hmid]; exact blk_lt2 HS4.out.yb
      clear hp4 hk4 hs4 hR4 hmb hmid HS HRF HS4 HBr HKE HCL hcl2 hge hwl hyl
      go_wp2_with fail
      go_loopw [35] (fun v35 wr => ∃ q : Nat, q ≤ m ∧ v35 = .int .i64 q ∧ Hid (∃ l' fv fs, MSt w0 w R l' g (.slice Ac cs.length nc) fv cs fs mid mid wr.heap.size wr ∧ mid ≤ wr.heap.size ∧ fs.length = q ∧ RES = (repP funPs (m - q) l').bind fun u => some (⟨cs, g, fs ++ u.1⟩ : ModP))) (fun v35 _ => m - (RowKit.intOf v35).toNat)
      case atStart => exact ⟨0, Nat.zero_le _, rfl, Lib.hid ⟨l6, _, [], ⟨HS5.out.rd, HS5.out.ll, HS5.out.bys, HS5.out.rk, HS5.out.xb, HS5.out.yb, HS5.out.con, HS5.out.fun_.mono (Nat.le_refl _) HS5.out.hf, HS5.out.hc, Nat.le_refl _, HS5.out.lo⟩, hml, rfl, HG7.out⟩⟩
      case round =>
        clear HS5 HG7 hml
        obtain ⟨q, hq, rfl, HQ⟩ := hrel
        obtain ⟨l7, fv, fs, hS, hml, hfl, hg7⟩ := HQ.out
        clear HQ
        obtain ⟨Af, nf, rfl, _⟩ := hS.fun_.form
        have HS := Lib.hid hS
        have HFL := Lib.hid hfl
        have HG7 := Lib.hid hg7
        have hfl2 : fs.length ≤ 65535 := by omega
        have HBr : Hid (Below w0.heap.size w0 wr) := Lib.hid (HB.out.trans hS.rk.bel)
        obtain ⟨x0, x1, x2, xf0, xf1, xf2, xl⟩ := hS.xs
        have hyl : w.heap.size + 1 < wr.heap.size := blk_lt2 hS.yb
        clear hS hfl hg7
        by_cases hlt : q < m
        · obtain ⟨d3, hd3⟩ : ∃ d, m - q = d + 1 := ⟨m - q - 1, by omega⟩
          have HGX : Hid (RES = (funPs l7).bind fun a => (repP funPs d3 a.2).bind fun u => some (⟨cs, g, (fs ++ [a.1]) ++ u.1⟩ : ModP)) := Lib.hid (by rw [HG7.out, hd3, rep_step (p := funPs) (K := fun s _ => some (⟨cs, g, s⟩ : ModP))])
          have HD3 : Hid (m - (q + 1) = d3) := Lib.hid (by omega)
          clear hd3 HG7
          go_wp2_with fail
          first
            | go_region_law
               (first
              | (go_simp; go_at_call 89; refine (funI_calls w0 R l7 _ (HS.out.rd.old (w' := wr.drew) rfl) (by exact HBr.out.drew) hBR HS.out.ll HS.out.bys).mono ?_; rintro e w5 ⟨hk5, hp⟩; have hkk := (Rk.below (R := R) HBr.out.size (Below.refl wr.heap.size wr).drew).trans hk5; rcases hp with ⟨x, l8, vv, hp5, rfl, ⟨bv, iv, rfl, hb5, hi5⟩, hR5⟩ | ⟨hp5, rfl⟩; (case inr => (have HP5 := Lib.hid hp5; have HK5 := Lib.hid hkk; clear hp5 hkk hk5 x0 x1 x2 xf0 xf1 xf2; go_wp2_with fail; exact torn_end hw0 hRl (HS.out.rk.trans HK5.out) (HK5.out.box HS.out.xb (by omega)) (HK5.out.box HS.out.yb (by omega)) (by rw [← HRES.out, HGX.out, HP5.out]; rfl) rfl rfl));
                 have HP5 := Lib.hid hp5; have HS5 := Lib.hid (HS.out.step hkk hR5 (by have := fun_len hp5; have := HS.out.ll; omega) (fun_ok HS.out.bys hp5).2 hRl); have hz5 : wr.heap.size ≤ w5.heap.size := hkk.size; have HE5 : Hid (ekFun.E w5 wr.heap.size w5.heap.size x [.int .i64 x.f0, bv, iv]) := Lib.hid ⟨bv, iv, rfl, hb5, hi5⟩; have hlo5 : mid ≤ w5.heap.size := by omega;
                 obtain ⟨Ab, nb, rfl, _⟩ := hb5.form; obtain ⟨Ai, ni, rfl, _⟩ := hi5.form; clear hp5 hkk hk5 hR5 hb5 hi5 x0 x1 x2 xf0 xf1 xf2; obtain ⟨x0, x1, x2, xf0, xf1, xf2, xl5⟩ := HS5.out.xs)
              | (refine step_elem ekFun 36 Tryd.underlying36 info_fun rfl (by omega) (by simp [ekFun]) (by rfl) _ _ (by rfl) (by rfl) (by rfl) HS5.out.fun_ HE5.out hz5 hlo5 (by omega) ?_; intro gg cap w6 HO1 HG1;
                 have HG6 : Hid (w5.grownBy w6 (Value.slice Af fs.length nf).ownBlock) := Lib.hid HG1.out; have HS6 := Lib.hid (HS5.out.setF hRl hw0 HO1.out HG6.out); have HX6 := Lib.hid (Fx.grown (ts := [38]) HG6.out HS5.out.fun_.typed (by simp [ekFun]) _ _ _ (by simp) HS5.out.xb); clear x0 x1 x2 xf0 xf1 xf2 xl5; obtain ⟨x0, x1, x2, xf0, xf1, xf2, xl6⟩ := boxF HX6.out))
            | fail
          all_goals
            have HN : Hid (∃ l' fv fs', MSt w0 w R l' g (.slice Ac cs.length nc) fv cs fs' mid mid (w6.setCell ⟨w.heap.size, 2, none⟩ (.slice (some ⟨gg, 0, none⟩) (fs.length + 1) cap)).heap.size (w6.setCell ⟨w.heap.size, 2, none⟩ (.slice (some ⟨gg, 0, none⟩) (fs.length + 1) cap)) ∧ mid ≤ (w6.setCell ⟨w.heap.size, 2, none⟩ (.slice (some ⟨gg, 0, none⟩) (fs.length + 1) cap)).heap.size ∧ fs'.length = q + 1 ∧ RES = (repP funPs (m - (q + 1)) l').bind fun u => some (⟨cs, g, fs' ++ u.1⟩ : ModP)) := Lib.hid (by
              rw [set_size]
              refine ⟨l8, _, fs ++ [x], HS6.out, by have := HG6.out.size; omega, by simp [HFL.out], ?_⟩
              rw [HGX.out, HP5.out, HD3.out]
              rfl)
            clear HO1 HG1 HG6 HS6 HX6 HS5 HE5 HP5 HS HGX x0 x1 x2 xf0 xf1 xf2 xl6
            go_wp2_with fail
            go_roundw
            case rel => exact ⟨q + 1, by omega, by go_num, HN⟩
            case measure => simp [RowKit.intOf]; omega
        · have hin : m - q = 0 := by omega
          have HRF : Hid (RES = some (⟨cs, g, fs⟩ : ModP)) := Lib.hid (by rw [HG7.out, hin]; simp [repP])
          have hge : ¬ (q : Int) < (m : Int) := by omega
          have y0 : wr.cell? ⟨w.heap.size + 1, 0, none⟩ = some (.bool false) := by simp [World.cell?, HS.out.yb]
          have yf : wr.frozen? ⟨w.heap.size + 1, 0, none⟩ = false := by simp [World.frozen?, HS.out.yb]
          clear hin HG7
          go_wp2_with fail
          have hXb := HS.out.xb
          have hYb := HS.out.yb
          obtain ⟨wE, hwE⟩ : ∃ wE, wE = (((wr.setCell ⟨w.heap.size, 0, none⟩ (.slice Ac cs.length nc)).setCell ⟨w.heap.size, 1, none⟩ (.int .i64 g)).setCell ⟨w.heap.size, 2, none⟩ (.slice Af fs.length nf)).setCell ⟨w.heap.size + 1, 0, none⟩ (.bool true) := ⟨_, rfl⟩
          rw [← hwE]
          have hY3 : (((wr.setCell ⟨w.heap.size, 0, none⟩ (.slice Ac cs.length nc)).setCell ⟨w.heap.size, 1, none⟩ (.int .i64 g)).setCell ⟨w.heap.size, 2, none⟩ (.slice Af fs.length nf)).heap[w.heap.size + 1]? = some (.cells #[.bool false] 4 (0, 0)) := set_far (set_far (set_far hYb (by omega) _) (by omega) _) (by omega) _
          have hXE : wE.heap[w.heap.size]? = some (.cells #[.slice Ac cs.length nc, .int .i64 g, .slice Af fs.length nf] 38 (0, 0)) := by rw [hwE]; exact set_far (put3_box hXb) (by omega) _
          have hYE : wE.heap[w.heap.size + 1]? = some (.cells #[.bool true] 4 (0, 0)) := by
            rw [hwE]
            have := Go.Joins.block_setCell (i := 0) hY3 (.bool true)
            simpa using this
          have hzE : wE.heap.size = wr.heap.size := by rw [hwE, set_size, set_size, set_size, set_size]
          have hRC : RowO ekDats w.heap.size mid wE (.slice Ac cs.length nc) cs := by
            rw [hwE]
            exact (HS.out.con.fx (Fx.put3 (q0 := .slice Ac cs.length nc) (q1 := .int .i64 g) (q2 := .slice Af fs.length nf) hXb (by decide))).fx (Fx.box hY3 _ (by decide))
          have hRF : RowO ekFun mid wE.heap.size wE (.slice Af fs.length nf) fs := by
            rw [hzE, hwE]
            refine (HS.out.fun_.fx (Fx.put3 (q0 := .slice Ac cs.length nc) (q1 := .int .i64 g) (q2 := .slice Af fs.length nf) hXb (by decide))).high fun_high (fun q hq => ?_)
            have : q ≠ w.heap.size + 1 := by omega
            exact Below.heap_setCell _ _ _ _ this
          have hKE : Rk w0 R w wE := by
            rw [hwE]
            exact (((HS.out.rk.set hw0 (Nat.le_refl _) _).set hw0 (Nat.le_refl _) _).set hw0 (Nat.le_refl _) _).set hw0 (by simp) _
          have hRR : readM l = some (⟨cs, g, fs⟩ : ModP) := HRES.out.symm.trans HRF.out
          clear hwE
          refine leaves_cons (f := 85) (args := #[.pointer (some ⟨w.heap.size, 0, none⟩), .pointer (some ⟨w.heap.size + 1, 0, none⟩)]) (by simp) (by simp [go_sem]) ?_
          refine (idle_calls w.heap.size (w.heap.size + 1) wE).mono ?_
          rintro e u' w'' ⟨rfl, rfl, k, rfl⟩
          have hdH : (wE.drewN k).heap = wE.heap := rfl
          refine ⟨.tuple #[.agg #[.slice Ac cs.length nc, .int .i64 g, .slice Af fs.length nf], .bool true], ?_, ?_, Or.inl ⟨⟨cs, g, fs⟩, _, _, mid, hRR, rfl, hRC.low (fun q _ => by rw [hdH]), ?_⟩⟩
          · exact results_two Tryd.results59 _ (wE.drewN k) w.heap.size (w.heap.size + 1) _ _ _ _ (.bool true) rfl (by rw [hdH]; exact hXE) Tryd.underlying38 rfl (by kernel_rfl) rfl (load_bool _ _ true (by rw [hdH]; exact hYE))
          · exact hKE.trans (Rk.below (R := R) (Nat.le_trans hw0 hKE.size) (below_drewN (Below.refl _ wE) k))
          · rw [hdH]
            exact hRF.low (fun q _ => by rw [hdH])
end Go.Proofs.YtogmphjhdkgdjaaDoor
/- The program's DecodeImage. -/
namespace Go.Proofs.YtogmphjhdkgdjaaDoor
open Go.RowKit Go.Proofs.YtogmphjhdkgdjaaDoorW.PrintWords Go.Proofs.YtogmphjhdkgdjaaDoor.QFnExactValidModule
open Go.Proofs.YtogmphjhdkgdjaaDoor.SpecMM (FitsM conP funP)
set_option linter.unusedVariables false
set_option linter.unusedSimpArgs false
theorem bytesEq_calls (A A' : Option Addr) (c c' : Nat) (E b : List Int) (w : World) (hE : Kd.C (Kd.int .u8) w A E.length E) (hb : Kd.C (Kd.int .u8) w A' b.length b) (hbE : Bys E) (hbb : Bys b) :
    Calls Tryd.prog 60 #[.slice A E.length c, .slice A' b.length c'] w fun e w' => e = .returned (.bool (decide (E = b))) ∧ w' = w := by
  have h1 : (convert 42 9 (.slice A E.length c)).run Tryd.prog w = .ok (.string (strOfNums E)) w := Kd.C_string Tryd.underlying42 Tryd.underlying5 Tryd.underlying9 hE
  have h2 : (convert 42 9 (.slice A' b.length c')).run Tryd.prog w = .ok (.string (strOfNums b)) w := Kd.C_string Tryd.underlying42 Tryd.underlying5 Tryd.underlying9 hb
  by_cases h : E = b
  · have hs : strOfNums E = strOfNums b := by rw [h]
    have hd : decide (E = b) = true := decide_eq_true h
    rw [hd]
    clear h hd hE hb hbE hbb
    go_enter Tryd.func60, Tryd.ntmps60
    go_wp2_with fail
    exact ⟨rfl, _, by simp [results, Tryd.results60, go_sem], rfl, rfl⟩
  · have hs := str_ne (fun q => h (str_inj hbE hbb q))
    have hd : decide (E = b) = false := decide_eq_false h
    rw [hd]
    clear h hd hE hb hbE hbb
    go_enter Tryd.func60, Tryd.ntmps60
    go_wp2_with fail
    exact ⟨rfl, _, by simp [results, Tryd.results60, go_sem], rfl, rfl⟩
theorem enc_bys {m : ModP} (h : ModOk m) : Bys (encM m) := by
  unfold encM encT
  split
  · rename_i hv
    have hsm := valid_small hv
    unfold imageT
    intro x hx
    rcases List.mem_append.1 hx with hx | hx
    · refine body_byte hsm (fun cc hcc d hd z hz => ?_) x hx
      obtain ⟨c', hc', rfl⟩ := List.mem_map.1 hcc
      obtain ⟨y, hy, rfl⟩ := List.mem_map.1 hd
      exact ((h.con c' hc').2 y hy).byt z hz
    · exact leI_byte _ _ x hx
  · intro x hx; cases hx
/-- What the program's DecodeImage answers, with the bounds of its rows. -/
def DecPost2 (b : List Int) (w : World) (e : Ending) (w' : World) : Prop :=
  ∃ (v0 v2 : Value) (mid : Nat), e = .returned (.tuple #[.agg #[v0, .int .i64 (decT b).1.g, v2], .int .i64 (decT b).2]) ∧ RowO ekDats w.heap.size mid w' v0 (decT b).1.cs ∧ RowO ekFun mid w'.heap.size w' v2 (decT b).1.fs ∧ Below w.heap.size w w'
set_option maxHeartbeats 8000000 in
set_option maxRecDepth 100000 in
theorem implDecode_calls (A : Option Addr) (c : Nat) (b : List Int) (w : World) (hC : Kd.C (Kd.int .u8) w A b.length b) (hc : b.length ≤ c) (hlen : b.length ≤ 1048576) (hby : Bys b) :
    Calls Tryd.prog 29 #[.slice A b.length c] w (DecPost2 b w) := by
  have HC := Lib.hid hC
  have HBY := Lib.hid hby
  have hu := Tryd.underlying38
  clear hC hby
  obtain ⟨W, hW⟩ : ∃ W, W = (w.alloc (.cells #[.slice none 0 0, .int .i64 0, .slice none 0 0] 38)).alloc (.cells #[.slice A b.length c] 104) := ⟨_, rfl⟩
  have hbW : Below w.heap.size w W := by rw [hW]; exact ((Below.refl _ _).alloc (Nat.le_refl _) _).alloc (by simp) _
  have hX : W.heap[w.heap.size]? = some (.cells #[.slice none 0 0, .int .i64 0, .slice none 0 0] 38 (0, 0)) := by rw [hW]; exact blk_old2 (blk_new2 _ _) _
  have hR : W.heap[w.heap.size + 1]? = some (.cells #[.slice A b.length c] 104 (0, 0)) := by
    have := blk_new2 (w.alloc (.cells #[.slice none 0 0, .int .i64 0, .slice none 0 0] 38)) (.cells #[.slice A b.length c] 104)
    rw [← hW, show (w.alloc (.cells #[.slice none 0 0, .int .i64 0, .slice none 0 0] 38)).heap.size = w.heap.size + 1 by simp] at this
    exact this
  have HX := Lib.hid hX
  have HRd : Hid (RdI w (w.heap.size + 1) b W) := Lib.hid ⟨A, c, hR, HC.out, hc⟩
  have HBW := Lib.hid hbW
  have hzW : w.heap.size + 1 < W.heap.size := blk_lt2 hR
  have HWZ : Hid (w.heap.size ≤ W.heap.size) := Lib.hid (by omega)
  clear hbW hX hR
  go_enter Tryd.func29, Tryd.ntmps29
  go_wp2_with fail
  rw [← hW]
  clear hW
  refine (modI_calls w (w.heap.size + 1) b W HRd.out HBW.out (by omega) hlen HBY.out).mono ?_
  rintro e w1 ⟨hk1, ⟨m, v0, v2, mid, hr1, rfl, hc1, hf1⟩ | ⟨hr1, rfl⟩⟩
  case inr =>
    have HX1 := Lib.hid (hk1.box HX.out (by omega))
    have HB1 := Lib.hid (HBW.out.trans hk1.bel)
    have HDT : Hid (decT b = (⟨[], 0, []⟩, 5)) := Lib.hid (by unfold decT; rw [hr1])
    obtain ⟨x0, x1, x2, xf0, xf1, xf2, xl⟩ := boxF HX1.out
    clear hk1 hr1 HX HRd HBW
    go_wp2_with fail
    have hBL : Below w.heap.size w ((((w1.setCell ⟨w.heap.size, 0, none⟩ (.slice none 0 0)).setCell ⟨w.heap.size, 1, none⟩ (.int .i64 0)).setCell ⟨w.heap.size, 2, none⟩ (.slice none 0 0)).alloc (.cells #[.slice none 0 0, .int .i64 0, .slice none 0 0] 38)) := (((HB1.out.setCell (p := ⟨w.heap.size, 0, none⟩) (Nat.le_refl _) _).setCell (p := ⟨w.heap.size, 1, none⟩) (Nat.le_refl _) _).setCell (p := ⟨w.heap.size, 2, none⟩) (Nat.le_refl _) _).alloc (by rw [set_size, set_size, set_size]; exact HB1.out.size) _
    refine bodyPost_ret (results_cell_tup rfl _ _ w.heap.size 38 #[.slice none 0 0, .int .i64 0, .slice none 0 0] (0, 0) _ rfl (blk_old2 (put3_box HX1.out) _) Tryd.underlying38 rfl (by kernel_rfl)) rfl ?_
    unfold DecPost2
    rw [HDT.out]
    exact ⟨_, _, w.heap.size, rfl, RowO.nil _ _ _ _ (Nat.le_refl _), RowO.nil _ _ _ _ hBL.size, hBL⟩
  obtain ⟨A0, c0, rfl, hl0⟩ := hc1.form
  obtain ⟨A2, c2, rfl, hl2⟩ := hf1.form
  have hz1 : W.heap.size ≤ w1.heap.size := hk1.size
  have HX1 := Lib.hid (hk1.box HX.out (by omega))
  have HB1 := Lib.hid (HBW.out.trans hk1.bel)
  have HC1 := Lib.hid hc1
  have HF1 := Lib.hid hf1
  have HM := Lib.hid (mod_ok HBY.out hr1)
  have HR1 := Lib.hid hr1
  clear hk1 hr1 HX HRd HBW hc1 hf1
  go_wp2_with fail
  obtain ⟨wM, hwM⟩ : ∃ wM, wM = w1.alloc (.cells #[.slice A0 m.cs.length c0, .int .i64 m.g, .slice A2 m.fs.length c2] 38) := ⟨_, rfl⟩
  have hbM : Below w1.heap.size w1 wM := by rw [hwM]; exact (Below.refl _ _).alloc (Nat.le_refl _) _
  have HXM := Lib.hid ((hbM.block _ (blk_lt2 HX1.out)).trans HX1.out)
  have HMM : Hid (wM.heap[w1.heap.size]? = some (.cells #[.slice A0 m.cs.length c0, .int .i64 m.g, .slice A2 m.fs.length c2] 38 (0, 0))) := Lib.hid (by rw [hwM]; exact blk_new2 _ _)
  have HBM := Lib.hid (HB1.out.trans (hbM.mono HB1.out.size))
  have HCM := Lib.hid (HC1.out.below hbM)
  have HFM := Lib.hid ((HF1.out.below hbM).mono (Nat.le_refl _) hbM.size)
  rw [← hwM]
  have hz2 : w1.heap.size < wM.heap.size := blk_lt2 HMM.out
  obtain ⟨M, hM⟩ : ∃ M, M = w1.heap.size := ⟨_, rfl⟩
  rw [← hM] at HMM hz2 ⊢
  have hMw : w.heap.size + 1 < M := by omega
  clear hwM hbM HX1 HB1 HC1 HF1 hM hz1 hzW
  obtain ⟨_, l1, C1⟩ := dats_E HCM.out
  obtain ⟨_, l2, C2⟩ := fun_E HFM.out
  refine (EncodeImage_calls A0 A2 c0 c2 m.cs m.g m.fs wM C1 l1 C2 l2 HM.out.fits HM.out.g (fun c hc x hx => ⟨((HM.out.con c hc).2 x hx).i0, ((HM.out.con c hc).2 x hx).i1, ((HM.out.con c hc).2 x hx).i3⟩) (fun f hf => ⟨(HM.out.fn f hf).i0, fun x hx => (HM.out.fn f hf).ins x hx⟩)).mono ?_
  rintro e w3 ⟨v3, rfl, ho3, hb3⟩
  obtain ⟨E, hE⟩ : ∃ E, E = encM m := ⟨_, rfl⟩
  rw [show encT (conP m.cs) m.g (m.fs.map funP) = E from hE.symm] at ho3
  obtain ⟨A3, c3, rfl, _, _⟩ := ho3.reads
  have HO3 := Lib.hid ho3
  have HEB : Hid (Bys E) := Lib.hid (by rw [hE]; exact enc_bys HM.out)
  have HEE := Lib.hid hE
  have HX3 := Lib.hid ((hb3.block _ (blk_lt2 HXM.out)).trans HXM.out)
  have HM3 := Lib.hid ((hb3.block _ (blk_lt2 HMM.out)).trans HMM.out)
  have HB3 := Lib.hid (HBM.out.trans (hb3.mono HBM.out.size))
  have HC3 := Lib.hid (HCM.out.below hb3)
  have HF3 := Lib.hid ((HFM.out.below hb3).mono (Nat.le_refl _) hb3.size)
  have hz3 : M < w3.heap.size := blk_lt2 HM3.out
  clear ho3 hb3 hE C1 C2 l1 l2 HXM HMM HBM HCM HFM hz2
  obtain ⟨x0, x1, x2, xf0, xf1, xf2, xl⟩ := boxF HX3.out
  obtain ⟨m0, m1, m2, mf0, mf1, mf2, ml⟩ := boxF HM3.out
  have hb4 : 4 ≤ b.length := by
    by_cases h4 : 4 ≤ b.length
    · exact h4
    · have := HR1.out
      unfold readM at this
      rw [if_neg h4] at this
      cases this
  have hEQ := bytesEq_calls A3 A c3 c E b w3 (own_C HO3.out).2.2 (Kd.C_below HC.out HB3.out) HEB.out HBY.out
  have HEQ := Lib.hid hEQ
  have HDT : Hid (decT b = if E = b then (m, 0) else (⟨[], 0, []⟩, 5)) := Lib.hid (by unfold decT; rw [HR1.out, HEE.out])
  clear hEQ
  by_cases h0 : E.length = 0
  · have HN : Hid (decT b = (⟨[], 0, []⟩, 5)) := Lib.hid (by rw [HDT.out, if_neg (fun h => by rw [h] at h0; omega)])
    have h00 : (E.length : Int) = 0 := by omega
    go_wp2_with fail
    have hBL : Below w.heap.size w (((w3.setCell ⟨w.heap.size, 0, none⟩ (.slice none 0 0)).setCell ⟨w.heap.size, 1, none⟩ (.int .i64 0)).setCell ⟨w.heap.size, 2, none⟩ (.slice none 0 0)) := ((HB3.out.setCell (p := ⟨w.heap.size, 0, none⟩) (Nat.le_refl _) _).setCell (p := ⟨w.heap.size, 1, none⟩) (Nat.le_refl _) _).setCell (p := ⟨w.heap.size, 2, none⟩) (Nat.le_refl _) _
    refine bodyPost_ret (results_cell_tup rfl _ _ w.heap.size 38 #[.slice none 0 0, .int .i64 0, .slice none 0 0] (0, 0) _ rfl (put3_box HX3.out) Tryd.underlying38 rfl (by kernel_rfl)) rfl ?_
    unfold DecPost2
    rw [HN.out]
    exact ⟨_, _, w.heap.size, rfl, RowO.nil _ _ _ _ (Nat.le_refl _), RowO.nil _ _ _ _ hBL.size, hBL⟩
  · have h00 : ¬ (E.length : Int) = 0 := by omega
    by_cases hq : E = b
    · have HN : Hid (decT b = (m, 0)) := Lib.hid (by rw [HDT.out, if_pos hq])
      have hd : decide (E = b) = true := decide_eq_true hq
      rw [hd] at HEQ
      clear hq hd
      go_wp2_with fail
      refine HEQ.out.mono ?_
      rintro e w4 ⟨rfl, hw4⟩
      subst hw4
      clear HEQ
      go_wp2_with fail
      have hBL : Below w.heap.size w (((w4.setCell ⟨w.heap.size, 0, none⟩ (.slice A0 m.cs.length c0)).setCell ⟨w.heap.size, 1, none⟩ (.int .i64 m.g)).setCell ⟨w.heap.size, 2, none⟩ (.slice A2 m.fs.length c2)) := ((HB3.out.setCell (p := ⟨w.heap.size, 0, none⟩) (Nat.le_refl _) _).setCell (p := ⟨w.heap.size, 1, none⟩) (Nat.le_refl _) _).setCell (p := ⟨w.heap.size, 2, none⟩) (Nat.le_refl _) _
      refine bodyPost_ret (results_cell_tup rfl _ _ w.heap.size 38 #[.slice A0 m.cs.length c0, .int .i64 m.g, .slice A2 m.fs.length c2] (0, 0) _ rfl (put3_box HX3.out) Tryd.underlying38 rfl (by kernel_rfl)) rfl ?_
      unfold DecPost2
      rw [HN.out]
      have hf0 : Fx [25, 57, 5, 68, 4, 71] w4 (((w4.setCell ⟨w.heap.size, 0, none⟩ (.slice A0 m.cs.length c0)).setCell ⟨w.heap.size, 1, none⟩ (.int .i64 m.g)).setCell ⟨w.heap.size, 2, none⟩ (.slice A2 m.fs.length c2)) := Fx.put3 HX3.out (by decide)
      refine ⟨_, _, mid, rfl, (HC3.out.fx (hf0.sub (by simp [ekDats]))).mono HWZ.out (Nat.le_refl _), ?_, hBL⟩
      rw [set_size, set_size, set_size]
      exact HF3.out.fx (hf0.sub (by simp [ekFun]))
    · have HN : Hid (decT b = (⟨[], 0, []⟩, 5)) := Lib.hid (by rw [HDT.out, if_neg hq])
      have hd : decide (E = b) = false := decide_eq_false hq
      rw [hd] at HEQ
      clear hq hd
      go_wp2_with fail
      refine HEQ.out.mono ?_
      rintro e w4 ⟨rfl, hw4⟩
      subst hw4
      clear HEQ
      go_wp2_with fail
      have hBL : Below w.heap.size w (((w4.setCell ⟨w.heap.size, 0, none⟩ (.slice none 0 0)).setCell ⟨w.heap.size, 1, none⟩ (.int .i64 0)).setCell ⟨w.heap.size, 2, none⟩ (.slice none 0 0)) := ((HB3.out.setCell (p := ⟨w.heap.size, 0, none⟩) (Nat.le_refl _) _).setCell (p := ⟨w.heap.size, 1, none⟩) (Nat.le_refl _) _).setCell (p := ⟨w.heap.size, 2, none⟩) (Nat.le_refl _) _
      refine bodyPost_ret (results_cell_tup rfl _ _ w.heap.size 38 #[.slice none 0 0, .int .i64 0, .slice none 0 0] (0, 0) _ rfl (put3_box HX3.out) Tryd.underlying38 rfl (by kernel_rfl)) rfl ?_
      unfold DecPost2
      rw [HN.out]
      exact ⟨_, _, w.heap.size, rfl, RowO.nil _ _ _ _ (Nat.le_refl _), RowO.nil _ _ _ _ hBL.size, hBL⟩
end Go.Proofs.YtogmphjhdkgdjaaDoor
