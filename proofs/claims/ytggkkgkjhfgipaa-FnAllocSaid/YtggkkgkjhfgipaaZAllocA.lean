/- slices.Clone at []int, and the block that it gives. -/
import Derived.Test.YtggkkgkjhfgipaaZHandValidHeap
import Derived.Lib.SliceRun
import Derived.Laws.CopyOwn
import Derived.Deep.RegionHeld3
import Derived.IntWalk
namespace Go.Proofs.Ytggkkgkjhfgipaa
open Go.RowKit Go.Proofs.YtggkkgkjhfgipaaW.PrintWords Go.Proofs.YtggkkgkjhfgipaaW.PrintLast Go.Proofs.YtggkkgkjhfgipaaW.PrintMore
set_option linter.unusedVariables false
set_option linter.unusedSimpArgs false
def ints (xs : List Int) : List Value := xs.map (Value.int .i64)
theorem ints_length (xs : List Int) : (ints xs).length = xs.length := by simp [ints]
theorem reads_ints {w : World} {ad : Addr} {xs : List Int} (hr : Kd.C (Kd.int .i64) w (some ad) xs.length xs) : ∀ j u, (ints xs)[j]? = some u → w.cell? (ad.add j) = some u := by
 intro j u hj
 have hl : j < xs.length := by
  have := (List.getElem?_eq_some_iff.1 hj).1
  simpa [ints] using this
 obtain ⟨ad', ha, hc⟩ := Kd.at_int hr (j : Int) (by omega) (by omega)
 cases ha
 rw [Int.toNat_natCast] at hc
 rw [hc]
 have e : (ints xs)[j]? = some (Value.int .i64 (xs.getD j 0)) := by simp [ints, List.getD, List.getElem?_eq_getElem hl]
 rw [e] at hj
 exact hj
set_option maxHeartbeats 2000000 in
theorem Clone_calls (ad : Addr) (c : Nat) (xs : List Int) (w : World) (hr : Kd.C (Kd.int .i64) w (some ad) xs.length xs) (hl : xs.length ≤ 20000) :
  Calls Try.prog 43 #[.slice (some ad) xs.length c] w fun e w' => ∃ v', e = .returned v' ∧ w'.ownsRow w.heap.size 3 1 v' xs.length (ints xs) ∧ Below w.heap.size w w' := by
 have q29 : ∀ (w : World) (a : Option Addr) (n c n' c' : Nat), (binOp .eql 29 (.slice a n c) (.slice none n' c')).run Try.prog w = .ok (.bool a.isNone) w := fun w a n c n' c' => Lib.run_eql_slice_nil w _ _ a n c n' c' Try.underlying29
 have u29 : ∀ w, Sem.run Try.prog (underlying 29) w = .ok (TypeDesc.slice 3) w := run_underlying Try.underlying29
 obtain ⟨i0, hi, hzz⟩ := Option.map_eq_some_iff.1 Base.info3
 simp only [Prod.mk.injEq] at hzz
 obtain ⟨hz0, hz1, hz2⟩ := hzz
 have HR := Lib.hid hr
 clear hr
 go_enter Try.func43, Try.ntmps43
 go_wp2_with (at_builtin; refine wpList_append_own _ rfl _ _ 29 rfl w.heap.size 3 i0 (.int .i64 0) 1 8 Try.underlying29 hi hz0 hz1 hz2 rfl (by decide) _ _ _ rfl (World.ownsRow_made w #[] 0 (Nat.le_refl _) (Nat.zero_le _) rfl) ad xs.length c (ints xs) rfl ?qc1 ?qc2 ?qc3 ?qc4 ?qc5 ?qc6 ?_)
 case qc1 => simp [ints]
 case qc2 => exact reads_ints (Kd.C_alloc HR.out _)
 case qc3 => intro u hu; obtain ⟨x, _, rfl⟩ := List.mem_map.1 hu; rfl
 case qc4 => unfold maxLen; omega
 case qc5 => omega
 case qc6 => simp
 intro v' w1 hown hgrow hnil
 go_wp2
 go_ret
 refine ⟨v', rfl, by simpa using hown, ?_⟩
 exact ((Below.refl _ w).alloc (Nat.le_refl _) _).grown hgrow (by simp) (by intro k hk; simp [Value.ownBlock] at hk; omega)
theorem Clone_block (ad : Addr) (c : Nat) (xs : List Int) (w : World) (hr : Kd.C (Kd.int .i64) w (some ad) xs.length xs) (hl : xs.length ≤ 20000) (hp : 0 < xs.length) :
  Calls Try.prog 43 #[.slice (some ad) xs.length c] w fun e w' => ∃ (g cap : Nat) (tail : List Value), e = .returned (.slice (some ⟨g, 0, none⟩) xs.length cap) ∧ w.heap.size ≤ g ∧
   w'.heap[g]? = some (.cells (ints xs ++ tail).toArray 3 (0, 0)) ∧ cap = xs.length + tail.length ∧ cap ≤ maxLen ∧ Below w.heap.size w w' := by
 refine (Clone_calls ad c xs w hr hl).mono ?_
 rintro e w' ⟨v', rfl, ho, hb⟩
 rcases ho.2 with ⟨_, h0⟩ | ⟨g, cap, cur, rfl, hg, hh, hle, hm, hsz, htk⟩
 ·omega
 ·rw [Nat.mul_one] at hsz htk
  refine ⟨g, cap, cur.toList.drop xs.length, rfl, hg, ?_, ?_, hm, hb⟩
  ·rw [← htk, List.take_append_drop]
   simpa using hh
  ·simp
   omega
theorem pointer_calls (x : Int) (h0 : 0 ≤ x) (h1 : x ≤ 20000) (w : World) : Calls Try.prog 44 #[.int .i64 x] w fun e w' => e = .returned (.int .i64 (4 * x + 1)) ∧ w = w' := by
 have e1 : IntKind.i64.wrap (4 * x) = 4 * x := IntWalk.i64_in _ (by omega)
 have e2 : IntKind.i64.wrap (4 * x + 1) = 4 * x + 1 := IntWalk.i64_in _ (by omega)
 go_enter Try.func44, Try.ntmps44
 go_wp2
 go_ret
 simp
/-- copy into a row that is known whole; only that row's block may have turned. -/
theorem wpList_copy_here {P : Program} {w : World} {ops : Array Oper} {rest : List Oper} {o : Oper} {a : Act} {Q : Exit → Act → World → Prop} (hgd : o.guard = none) (d s : Operand) (dT sT : TypeId)
  (ho : o.op = .call { callee := .builtin .copy, args := #[d, s], argTypes := #[dT, sT] }) (elem : TypeId) (hu : P.underlying dT = some (.slice elem)) (hsz : (P.info? elem).map (·.size) = some 1)
  (dp sp : Option Addr) (dLen dCap sLen sCap : Nat) (hd : a.eval d = .slice dp dLen dCap) (hs : a.eval s = .slice sp sLen sCap)
  (g off : Nat) (cur : List Value) (t : TypeId) (hg : w.heap[g]? = some (.cells cur.toArray t (0, 0))) (cs : List Value) (hn : cs.length = Nat.min sLen dLen)
  (hpos : 0 < cs.length → dp = some ⟨g, off, none⟩ ∧ ∃ ad, sp = some ad ∧ ∀ j v, cs[j]? = some v → w.cell? (ad.add j) = some v)
  (hfit : off + cs.length ≤ cur.length) (h1 : ∀ v ∈ cs, v.oneCell' = true)
  (h : ∀ w', Hid (w'.heap[g]? = some (.cells (splice cur off cs).toArray t (0, 0))) → Hid (∀ k, k ≠ g → w'.heap[k]? = w.heap[k]?) → Hid (∀ B w0, Below B w0 w → B ≤ g → Below B w0 w') → wpList P ops Q rest (a.put o.dst (goInt cs.length)) w') :
  wpList P ops Q (o :: rest) a w := by
 by_cases h0 : cs.length = 0
 ·obtain rfl : cs = [] := List.eq_nil_of_length_eq_zero h0
  refine wpList_copy_nothing hgd d s dT sT ho elem hu hsz dp sp dLen dCap sLen sCap hd hs (by simpa using hn.symm) ?_
  exact h w (Lib.hid (by simpa [splice] using hg)) (Lib.hid fun _ _ => rfl) (Lib.hid fun _ _ hb _ => hb)
 ·obtain ⟨rfl, ad, rfl, hsrc⟩ := hpos (by omega)
  refine wpList_copy_own hgd d s dT sT ho elem hu hsz g off dLen dCap ad sLen sCap hd hs cur.toArray t hg cs hn hsrc (by simpa using hfit) h1 ?_
  exact h _ (Lib.hid (by simpa [splice] using setRow_heap w g _ _ t _ hg)) (Lib.hid fun k hk => setRow_other w g k _ hk) (Lib.hid fun B w0 hb hB => below_setRow hb hB _)
/-- What lies in memory behind the clone and the new heap's variable. -/
structure Tail (w wx : World) (gh g n c cap : Nat) (tail : List Value) (ws : List Int) (top nt : Int) (A : Option Addr) : Prop where
 below : Below w.heap.size w wx
 box : wx.heap[w.heap.size]? = some (.cells #[.slice A n c, .int .i64 top] 31 (0, 0))
 res : wx.heap[w.heap.size + 1]? = some (.cells #[.slice none 0 0, .int .i64 0] 31 (0, 0))
 new : wx.heap[gh]? = some (.cells #[.slice (some ⟨g, 0, none⟩) n cap, .int .i64 nt] 31 (0, 0))
 row : wx.heap[g]? = some (.cells (ints ws ++ tail).toArray 3 (0, 0))
 lt1 : w.heap.size + 1 < gh
 lt2 : w.heap.size + 1 < g
 ne : gh ≠ g
theorem tail_a {w W w5 : World} {g n c cap : Nat} {tail : List Value} {ws : List Int} {top nt : Int} {A : Option Addr} (hB : Below w.heap.size w W) (hbox : W.heap[w.heap.size]? = some (.cells #[.slice A n c, .int .i64 top] 31 (0, 0)))
  (hres : W.heap[w.heap.size + 1]? = some (.cells #[.slice none 0 0, .int .i64 0] 31 (0, 0))) (hb5 : Below W.heap.size W w5) (hg : W.heap.size ≤ g) (hh : w5.heap[g]? = some (.cells (ints ws ++ tail).toArray 3 (0, 0))) :
  Tail w (w5.alloc (.cells #[.slice (some ⟨g, 0, none⟩) n cap, .int .i64 nt] 31 (0, 0))) w5.heap.size g n c cap tail ws top nt A := by
 have h1 := blk_lt hres
 have h2 := hb5.size
 have h3 := blk_lt hh
 have hw : Below w.heap.size w w5 := hB.trans (hb5.mono hB.size)
 exact ⟨hw.alloc hw.size _, blk_alloc (blk_below hbox hb5) _, blk_alloc (blk_below hres hb5) _, blk_new _ _, blk_alloc hh _, by omega, by omega, by omega⟩
theorem tail_b {w W w5 : World} {g n c cap : Nat} {tail : List Value} {ws : List Int} {top nt : Int} {A : Option Addr} (hB : Below w.heap.size w W) (hbox : W.heap[w.heap.size]? = some (.cells #[.slice A n c, .int .i64 top] 31 (0, 0)))
  (hres : W.heap[w.heap.size + 1]? = some (.cells #[.slice none 0 0, .int .i64 0] 31 (0, 0))) (hb5 : Below W.heap.size W w5) (hn : w5.heap[W.heap.size]? = some (.cells #[.slice none 0 0, .int .i64 0] 31 (0, 0)))
  (hg : W.heap.size + 1 ≤ g) (hh : w5.heap[g]? = some (.cells (ints ws ++ tail).toArray 3 (0, 0))) :
  Tail w ((w5.setCell ⟨W.heap.size, 0, none⟩ (.slice (some ⟨g, 0, none⟩) n cap)).setCell ⟨W.heap.size, 1, none⟩ (.int .i64 nt)) W.heap.size g n c cap tail ws top nt A := by
 have h1 := blk_lt hres
 have h3 := blk_lt hh
 have hw : Below w.heap.size w w5 := hB.trans (hb5.mono hB.size)
 have hx := hB.size
 exact ⟨below_set (below_set hw hx) hx, blk_far (blk_far (blk_below hbox hb5) (by simp; omega) _) (by simp; omega) _, blk_far (blk_far (blk_below hres hb5) (by simp; omega) _) (by simp; omega) _,
  blk_put (cs := #[.slice (some ⟨g, 0, none⟩) n cap, .int .i64 0]) (blk_put (cs := #[.slice none 0 0, .int .i64 0]) hn 0 _ rfl) 1 _ rfl, blk_far (blk_far hh (by simp; omega) _) (by simp; omega) _, by omega, by omega, by omega⟩
end Go.Proofs.Ytggkkgkjhfgipaa
