/- The specification's l2show: what is written behind a row of the call's own. -/
import Derived.Test.YtggkkgkjhfgipaaDoorSwImplA
import Derived.Test.YtggkkgkjhfgipaaDoorQFnExactShowWordx3
import Derived.Lib.ItoaMem
import Derived.Lib.ItoaLen
import Derived.Test.YtggkkgkjhfgipaaDoorSwHeap
import Derived.StillTailTactics
import Derived.IntWalk
import Derived.Test.YtggkkgkjhfgipaaDoorSwImplB
namespace Go.Proofs.YtggkkgkjhfgipaaDoor
open Go.RowKit Go.Proofs.YtggkkgkjhfgipaaDoor.QFnExactShowWord Go.Proofs.YtggkkgkjhfgipaaDoorW.PrintWords Go.Proofs.YtggkkgkjhfgipaaDoorW.PrintLast Go.Proofs.YtggkkgkjhfgipaaDoorW.PrintMore
set_option linter.unusedVariables false
set_option linter.unusedSimpArgs false
/-- The text o in a row of the call's own. -/
structure OutS (B : Nat) (o : List Int) (W w : World) (v : Value) : Prop where
  row : w.ownsRow B 5 1 v o.length (nums .u8 o)
  below : Below B W w
  kp : Kp W w
  size : B ≤ w.heap.size
theorem slice_form {w : World} {B e n : Nat} {v : Value} {xs : List Value} (h : w.ownsRow B e 1 v n xs) : ∃ (ao : Option Addr) (cap : Nat), v = .slice ao n cap ∧ n ≤ cap := by
  rcases h.2 with ⟨rfl, rfl⟩ | ⟨g, cap, cur, rfl, _, _, hc, _⟩
  · exact ⟨none, 0, rfl, Nat.le_refl _⟩
  · exact ⟨_, cap, rfl, hc⟩
theorem OutS.more {B : Nat} {o : List Int} {W w w' : World} {v : Value} (h : OutS B o W w v) (hb : Below w.heap.size w w') : OutS B o W w' v :=
  ⟨h.row.kept (row := none) ⟨hb.os, hb.tape, hb.output, hb.size, fun k hk _ => hb.block k hk⟩ (by cases v.ownBlock <;> simp), h.below.trans (hb.mono h.size), h.kp.trans (Kp.of_below hb), Nat.le_trans h.size hb.size⟩
theorem OutS.trans {B : Nat} {o o' : List Int} {W w w' : World} {v v' : Value} (h : OutS B o W w v) (k : OutS B o' w w' v') : OutS B o' W w' v' := ⟨k.row, h.below.trans k.below, h.kp.trans k.kp, k.size⟩
theorem OutS.self {B : Nat} {o : List Int} {W w : World} {v : Value} (h : OutS B o W w v) : OutS B o w w v := ⟨h.row, Below.refl _ _, Kp.refl _, h.size⟩
theorem OutS.put {B : Nat} {o o' : List Int} {W w w1 : World} {v v1 : Value} (h : OutS B o W w v) (hr : w1.ownsRow B 5 1 v1 o'.length (nums .u8 o')) (hb : Below B W w1) (hg : w.grownBy w1 v.ownBlock) : OutS B o' W w1 v1 := by
  refine ⟨hr, hb, h.kp.trans fun k cs t fz hk h1 h2 => ?_, Nat.le_trans h.size hg.size⟩
  refine (hg.block k (blk_lt hk) ?_).trans hk
  intro e
  obtain ⟨c, fz', hc⟩ := Lib.ownsRow_kind h.row k e.symm
  rw [hk] at hc
  cases hc
  exact h1 rfl
section
variable {ops : Array Oper} {rest : List Oper} {o : Oper} {a : Act} {Q : Exit → Act → World → Prop}
theorem app_str {B : Nat} {out t : List Int} {W w : World} {v : Value} {s : ByteArray} (hgd : o.guard = none) (sl x : Operand) (ho : o.op = .call { callee := .builtin .append, args := #[sl, x], argTypes := #[28, 9] }) (hs : a.eval sl = v) (hx : a.eval x = .string s)
    (H : OutS B out W w v) (ht : bytesOf s = t) (hl : out.length + s.size ≤ 140737488355328)
    (h : ∀ (fin : List Int) (ao : Option Addr) (cap : Nat) (w1 : World), Hid (fin = out ++ t) → Hid (OutS B fin W w1 (.slice ao fin.length cap)) → fin.length ≤ cap → Hid (wpList Tryd.prog ops Q rest (a.put o.dst (.slice ao fin.length cap)) w1)) : wpList Tryd.prog ops Q (o :: rest) a w := by
  subst ht
  refine print_append_str (w0 := W) B hgd sl x 28 9 5 ho Tryd.underlying28 Tryd.underlying9 byteInfo v out s hs hx H.row H.below H.size hl ?_
  intro v1 w1 h1 h2 h3
  obtain ⟨ao, cap, rfl, hc⟩ := slice_form h1
  exact h _ ao cap w1 (Lib.hid rfl) (Lib.hid (H.put h1 h2 h3)) hc
theorem app_row {B : Nat} {out t : List Int} {W w : World} {v : Value} {A : Option Addr} {c : Nat} (hgd : o.guard = none) (sl x : Operand) (ho : o.op = .call { callee := .builtin .append, args := #[sl, x], argTypes := #[28, 28] }) (hs : a.eval sl = v) (hx : a.eval x = .slice A t.length c)
    (H : OutS B out W w v) (hr : Kd.C (Kd.int .u8) w A t.length t) (hl : out.length + t.length ≤ 140737488355328)
    (h : ∀ (fin : List Int) (ao : Option Addr) (cap : Nat) (w1 : World), Hid (fin = out ++ t) → Hid (OutS B fin W w1 (.slice ao fin.length cap)) → fin.length ≤ cap → Hid (wpList Tryd.prog ops Q rest (a.put o.dst (.slice ao fin.length cap)) w1)) : wpList Tryd.prog ops Q (o :: rest) a w := by
  refine print_append_row_of (w0 := W) (Value.int .u8) (0 : Int) B hgd sl x 28 5 (.int .u8 0) 1 ho Tryd.underlying28 byteInfo rfl (by decide) (fun _ => rfl) v out t A t.length c hs hx H.row (Kd.reads_of_C (enc := Value.int .u8) (d := (0 : Int)) (h1 := fun _ => rfl) hr) H.below H.size (by omega) ?_
  intro v1 w1 h1 h2 h3 _
  obtain ⟨ao, cap, rfl, hc⟩ := slice_form h1
  exact h _ ao cap w1 (Lib.hid rfl) (Lib.hid (H.put h1 h2 h3)) hc
theorem app_byte {B : Nat} {out : List Int} {y : Int} {W w : World} {v : Value} (hgd : o.guard = none) (sl x : Operand) (ho : o.op = .call { callee := .builtin .append, args := #[sl, x], argTypes := #[28, 28] }) (hs : a.eval sl = v) (hx : a.eval x = .slice (some ⟨w.heap.size, 0, none⟩) 1 1)
    (H : OutS B out W w v) (hl : out.length + 1 ≤ 140737488355328)
    (h : ∀ (fin : List Int) (ao : Option Addr) (cap : Nat) (w1 : World), Hid (fin = out ++ [y]) → Hid (OutS B fin W w1 (.slice ao fin.length cap)) → fin.length ≤ cap → Hid (wpList Tryd.prog ops Q rest (a.put o.dst (.slice ao fin.length cap)) w1)) : wpList Tryd.prog ops Q (o :: rest) a (w.alloc (.cells #[.int .u8 y] 5)) := by
  refine print_append_of (w0 := W) (Value.int .u8) B hgd sl x 28 5 (.int .u8 0) 1 ho Tryd.underlying28 byteInfo rfl (by decide) v out y hs hx rfl H.row H.below H.size (by omega) ?_
  intro v1 w1 h1 h2 h3 _
  obtain ⟨ao, cap, rfl, hc⟩ := slice_form h1
  exact h _ ao cap w1 (Lib.hid rfl) (Lib.hid (H.put h1 h2 h3)) hc
end
end Go.Proofs.YtggkkgkjhfgipaaDoor
/- The specification's decimal numerals: l1dec comes to decI. -/
namespace Go.Proofs.YtggkkgkjhfgipaaDoor.DecSW
open Go.RowKit Go.Lib Go.Proofs.YtggkkgkjhfgipaaDoor.QFnExactShowWord Go.Proofs.YtggkkgkjhfgipaaDoorW.PrintWords Go.Proofs.YtggkkgkjhfgipaaDoorW.PrintLast
set_option linter.unusedVariables false
set_option linter.unusedSimpArgs false
theorem wrapu (x : Int) : IntKind.u64.wrap x = x % 18446744073709551616 := by
  simp [IntKind.wrap, IntKind.bits, IntKind.signed, IntKind.min]
/-! ### numerals -/
def digI (u : Nat) : List Int := (decDigits u).map fun b => (b.toNat : Int)
theorem digits_ev : ∀ (u : Nat), u < 18446744073709551616 → Ev (fun k => spec_l1digits.f k (u : Int)) (digI u) := by
  intro u
  induction u using Nat.strongRecOn with
  | _ u ih =>
    intro hu
    by_cases h : u < 10
    · have e : digI u = [48 + (u : Int)] := by
        unfold digI
        rw [decDigits, dif_pos h]
        simp
        omega
      refine Ev.step (f := fun _ => some [48 + (u : Int)]) (fun k => ?_) (by rw [e]; exact Ev.now _)
      simp only [spec_l1digits.f]
      rw [if_pos (by omega), wrapu, show (48 + (u : Int)) % 18446744073709551616 % 256 = 48 + (u : Int) by omega]
    · have e : digI u = digI (u / 10) ++ [48 + ((u % 10 : Nat) : Int)] := by
        unfold digI
        rw [decDigits, dif_neg h, List.map_append]
        simp
        omega
      have hlen : (digI (u / 10)).length < 140737488355328 := by
        unfold digI
        rw [List.length_map, decDigits_length]
        have := nDigits_le20 (u / 10) (by omega)
        omega
      refine Ev.step (f := fun k => (spec_l1digits.f k ((u / 10 : Nat) : Int)).bind fun t => if t.length < 140737488355328 then some (t ++ [48 + ((u % 10 : Nat) : Int)]) else none) (fun k => ?_) ?_
      · simp only [spec_l1digits.f]
        rw [if_neg (by omega), wrapu, wrapu, show Int.tdiv (u : Int) 10 % 18446744073709551616 = ((u / 10 : Nat) : Int) by rw [Int.tdiv_eq_ediv_of_nonneg (by omega)]; omega,
          show (48 + Int.tmod (u : Int) 10) % 18446744073709551616 % 256 = 48 + ((u % 10 : Nat) : Int) by rw [Int.tmod_eq_emod_of_nonneg (by omega)]; omega]
      · refine Ev.bind (ih (u / 10) (by omega) (by omega)) ?_
        simp only [if_pos hlen]
        rw [e]
        exact Ev.now _
theorem dec_ev (n : Int) (h0 : -2305843009213693952 ≤ n) (h1 : n ≤ 2305843009213693951) : Ev (fun k => spec_l1dec.f k n) (decI n) := by
  by_cases h : n < 0
  · have e : decI n = [45] ++ digI n.natAbs := by
      unfold decI digI Lib.itoa
      rw [if_pos h]
      simp
    have hlen : (digI n.natAbs).length < 140737488355327 := by
      unfold digI
      rw [List.length_map, decDigits_length]
      have := nDigits_le20 n.natAbs (by omega)
      omega
    refine Ev.congr (f := fun k => (spec_l1digits.f k ((n.natAbs : Nat) : Int)).bind fun t => if ([45] : List Int).length + t.length < 140737488355328 then some ([45] ++ t) else none) (fun k => ?_) ?_
    · unfold spec_l1dec.f
      rw [if_pos h, wrapu, wrapu, show -(n % 18446744073709551616) % 18446744073709551616 = ((n.natAbs : Nat) : Int) by omega]
      rfl
    · refine Ev.bind (digits_ev n.natAbs (by omega)) ?_
      simp only [List.length_cons, List.length_nil]
      rw [e]
      refine Ev.congr (fun k => ?_) (Ev.now _)
      rw [if_pos (by omega)]
  · have e : decI n = digI n.toNat := by
      unfold decI digI Lib.itoa
      rw [if_neg h]
    refine Ev.congr (f := fun k => (spec_l1digits.f k ((n.toNat : Nat) : Int)).bind fun t => some t) (fun k => ?_) ?_
    · unfold spec_l1dec.f
      rw [if_neg h, wrapu, show n % 18446744073709551616 = ((n.toNat : Nat) : Int) by omega]
    · refine Ev.bind (digits_ev n.toNat (by omega)) ?_
      rw [e]
      exact Ev.now _
end Go.Proofs.YtggkkgkjhfgipaaDoor.DecSW
/- What the specification's functions on heaps (l2word, l2starts, l2valid, ValidHeap) come to, in plain Lean, and that it is 'validF'. -/
namespace Go.Proofs.YtggkkgkjhfgipaaDoor.SpecVSW
open Go.RowKit Go.Proofs.YtggkkgkjhfgipaaDoor.QFnExactShowWord Go.Proofs.YtggkkgkjhfgipaaDoorW.PrintWords Go.Proofs.YtggkkgkjhfgipaaDoorW.PrintLast
set_option linter.unusedVariables false
set_option linter.unusedSimpArgs false
theorem wrap_in {x : Int} (h1 : -9223372036854775808 ≤ x) (h2 : x ≤ 9223372036854775807) : wrap64 x = x := by unfold wrap64; omega
theorem rd_nat (xs : List Int) (n : Nat) : rd xs (n : Int) = xs.getD n 0 := rfl
theorem tag_ev (x : Int) : spec_l2tag.f x = some (x % 4) := by
  unfold spec_l2tag.f
  have h : Int.tmod x 4 = x % 4 ∨ Int.tmod x 4 = x % 4 - 4 ∧ x % 4 ≠ 0 := by
    by_cases h0 : 0 ≤ x
    · left; exact Int.tmod_eq_emod_of_nonneg h0
    · have := Int.tmod_eq_emod (a := x) (b := 4)
      split at this <;> simp at this <;> omega
  have hb := Int.emod_nonneg x (show (4 : Int) ≠ 0 by omega)
  have hc := Int.emod_lt_of_pos x (show (0 : Int) < 4 by omega)
  rcases h with h | ⟨h, h'⟩
  · rw [h, wrap_in (by omega) (by omega), Int.tmod_eq_emod_of_nonneg (by omega)]
    congr 1
    omega
  · rw [h, wrap_in (by omega) (by omega), Int.tmod_eq_emod_of_nonneg (by omega)]
    congr 1
    omega
theorem word_ev (x : Int) (S : List Bool) (hx : InI64 x) : spec_l2word.f x S = some (wordF (startAt S) x) := by
  obtain ⟨h1, h2⟩ := hx
  unfold spec_l2word.f
  rw [tag_ev]
  simp only [Option.bind_some]
  unfold wordF
  have hc : x % 4 = 0 ∨ x % 4 = 1 ∨ x % 4 = 2 ∨ x % 4 = 3 := by omega
  rcases hc with h | h | h | h
  · simp only [h, if_true]
  · have e0 : ¬ (1 : Int) = 0 := by decide
    have e2 : ¬ (1 : Int) = 2 := by decide
    simp only [h, e0, e2, if_true, if_false]
    by_cases h0 : x ≥ 0
    · have hd : wrap64 (Int.tdiv x 4) = x / 4 := by rw [Int.tdiv_eq_ediv_of_nonneg h0]; exact wrap_in (by omega) (by omega)
      have he : (x - 1) / 4 = x / 4 := by omega
      rw [if_pos h0, hd, he, decide_eq_true h0, Bool.true_and]
      unfold startAt
      by_cases hl : x / 4 < (S.length : Int)
      · rw [if_pos hl, if_pos (by omega), decide_eq_true (show 0 ≤ x / 4 by omega), Bool.true_and]
        rfl
      · rw [if_neg hl]
        have : S.getD (x / 4).toNat false = false := by
          rw [List.getD_eq_getElem?_getD, List.getElem?_eq_none (by omega)]
          rfl
        rw [this, Bool.and_false]
    · rw [if_neg h0, decide_eq_false h0, Bool.false_and]
  · have e0 : ¬ (2 : Int) = 0 := by decide
    have e1 : ¬ (2 : Int) = 1 := by decide
    simp only [h, e0, e1, if_true, if_false]
  · have e0 : ¬ (3 : Int) = 0 := by decide
    have e1 : ¬ (3 : Int) = 1 := by decide
    have e2 : ¬ (3 : Int) = 2 := by decide
    simp only [h, e0, e1, e2, if_false]
    by_cases h3 : x ≥ 3
    · rw [if_pos h3]
      congr 1
      rw [Bool.eq_iff_iff]
      simp
      omega
    · rw [if_neg h3]
      congr 1
      symm
      rw [Bool.eq_false_iff]
      intro hh
      simp at hh
      omega
theorem headF_big {k n : Int} (h : 1000 < n) : headF k n = false := by
  rw [Bool.eq_false_iff]
  intro hh
  have := headF_le hh (by omega)
  omega
theorem j2_step (k : Nat) (S : List Bool) (x5 q n : Int) (ws : List Int) (top : Int) (hn : n ≤ 1000) (hq : q = 0 ∨ q = 1 ∨ q = 2 ∨ q = 3) :
    spec_l2starts.j2 (k + 1) S x5 q n false ws top = spec_l2starts.j3 k S x5 q n (!headF q n) ws top := by
  simp only [spec_l2starts.j2, Bool.false_eq_true, if_false]
  rcases hq with rfl | rfl | rfl | rfl
  · by_cases h : n = 2
    · simp [headF, h]
    · have hb : (n == 2) = false := by simpa using h
      simp [headF, h, hb]
  · simp [headF, hn]
  · by_cases h : n < 1
    · have h' : ¬ 1 ≤ n := by omega
      simp [headF, h, h']
    · have h' : 1 ≤ n := by omega
      simp [headF, h, h', hn]
  · by_cases h : n = 1
    · simp [headF, h]
    · have hb : (n == 1) = false := by simpa using h
      simp [headF, h, hb]
theorem specHead_no {ws : List Int} {top p : Nat} (h : headAt ws top p = false) : specHead ws top p = false := by
  unfold specHead
  rw [h, Bool.false_and]
theorem getD_in {ws : List Int} (hx : ∀ x ∈ ws, InI64 x) (p : Nat) : InI64 (ws.getD p 0) := by
  by_cases h : p < ws.length
  · exact hx _ (getD_mem h)
  · rw [List.getD_eq_getElem?_getD, List.getElem?_eq_none (by omega)]
    show InI64 0
    unfold InI64
    omega
section
variable (ws : List Int) (top p : Nat) (S : List Bool) (h : Int)
theorem l0_neg (k : Nat) (hp : p < top) (ht : top ≤ ws.length) (hh : ws.getD p 0 = h) (hneg : h < 0) : spec_l2starts.l0 (k + 1) S (p : Int) ws (top : Int) = some ([], false) := by
  have hrd : rd ws (p : Int) = h := (rd_nat ws p).trans hh
  have g1 : (p : Int) < (top : Int) := by omega
  have g2 : (0 : Int) ≤ (p : Int) := by omega
  have g3 : (p : Int) < (ws.length : Int) := by omega
  simp only [spec_l2starts.l0]
  rw [if_pos g1, if_pos g2, if_pos g3, hrd, if_pos hneg]
theorem l0_end (k : Nat) (hp : ¬ p < top) : spec_l2starts.l0 (k + 1) S (p : Int) ws (top : Int) = some (S, true) := by
  have g1 : ¬ (p : Int) < (top : Int) := by omega
  simp only [spec_l2starts.l0]
  rw [if_neg g1]
theorem l0_go (k : Nat) (hp : p < top) (ht : top ≤ ws.length) (hl : ws.length ≤ 20000) (hh : ws.getD p 0 = h) (hneg : ¬ h < 0) (hb : h ≤ 9223372036854775807) :
    spec_l2starts.l0 (k + 1) S (p : Int) ws (top : Int) = spec_l2starts.j2 k S (p : Int) (h % 4) (h / 4) (decide (h / 4 > 1000) || decide ((p : Int) + 1 + h / 4 > (top : Int))) ws (top : Int) := by
  have hrd : rd ws (p : Int) = h := (rd_nat ws p).trans hh
  have g1 : (p : Int) < (top : Int) := by omega
  have g2 : (0 : Int) ≤ (p : Int) := by omega
  have g3 : (p : Int) < (ws.length : Int) := by omega
  have hd : wrap64 (Int.tdiv h 4) = h / 4 := by rw [Int.tdiv_eq_ediv_of_nonneg (by omega)]; exact wrap_in (by omega) (by omega)
  have hm : Int.tmod h 4 = h % 4 := Int.tmod_eq_emod_of_nonneg (by omega)
  simp only [spec_l2starts.l0]
  rw [if_pos g1, if_pos g2, if_pos g3, hrd, if_neg hneg, hd, hm]
  by_cases hbig : h / 4 > 1000
  · rw [if_pos hbig, decide_eq_true hbig, Bool.true_or]
  · have hw1 : wrap64 ((p : Int) + 1) = (p : Int) + 1 := wrap_in (by omega) (by omega)
    have hw : wrap64 ((p : Int) + 1 + h / 4) = (p : Int) + 1 + h / 4 := wrap_in (by omega) (by omega)
    rw [if_neg hbig, decide_eq_false hbig, Bool.false_or, hw1, hw]
theorem j2_bad (k : Nat) (q n x : Int) : spec_l2starts.j2 (k + 1) S x q n true ws (top : Int) = some ([], false) := by
  simp only [spec_l2starts.j2, if_true]
theorem j3_bad (k : Nat) (q n x : Int) : spec_l2starts.j3 (k + 1) S x q n true ws (top : Int) = some ([], false) := by
  simp only [spec_l2starts.j3, if_true]
theorem j3_plain (k : Nat) (q n : Int) (hq : ¬ q = 2) (hS : S.length = top) (hp : p < top) (m : Nat) (hm : n = m) (hm1 : m ≤ 1000) (ht : top ≤ 20000) :
    spec_l2starts.j3 (k + 1) S (p : Int) q n false ws (top : Int) = spec_l2starts.l0 k (S.set p true) ((p + 1 + m : Nat) : Int) ws (top : Int) := by
  have g4 : (p : Int) < (S.length : Int) := by omega
  have g2 : (0 : Int) ≤ (p : Int) := by omega
  have hw1 : wrap64 (1 + n) = 1 + n := wrap_in (by omega) (by omega)
  have hw : wrap64 ((p : Int) + (1 + n)) = ((p + 1 + m : Nat) : Int) := by rw [wrap_in (by omega) (by omega)]; omega
  simp only [spec_l2starts.j3, Bool.false_eq_true, if_false]
  rw [if_neg hq, if_pos g2, if_pos g4, hw1, hw, Int.toNat_natCast]
theorem j3_proc (k : Nat) (n : Int) (hS : S.length = top) (hp : p + 1 < top) (m : Nat) (hm : n = m) (hm1 : m ≤ 1000) (ht : top ≤ ws.length) (hl : ws.length ≤ 20000) (y : Int) (hy : ws.getD (p + 1) 0 = y) :
    spec_l2starts.j3 (k + 1) S (p : Int) 2 n false ws (top : Int) = if (decide (0 ≤ y) && y % 4 == 0) = true then spec_l2starts.l0 k (S.set p true) ((p + 1 + m : Nat) : Int) ws (top : Int) else some ([], false) := by
  have g4 : (p : Int) < (S.length : Int) := by omega
  have g2 : (0 : Int) ≤ (p : Int) := by omega
  have g5 : (0 : Int) ≤ ((p + 1 : Nat) : Int) := by omega
  have g6 : ((p + 1 : Nat) : Int) < (ws.length : Int) := by omega
  have hw1 : wrap64 (1 + n) = 1 + n := wrap_in (by omega) (by omega)
  have hw : wrap64 ((p : Int) + (1 + n)) = ((p + 1 + m : Nat) : Int) := by rw [wrap_in (by omega) (by omega)]; omega
  have hw2 : wrap64 ((p : Int) + 1) = ((p + 1 : Nat) : Int) := wrap_in (x := ((p + 1 : Nat) : Int)) (by clear hw hw1; omega) (by clear hw hw1; omega)
  simp only [spec_l2starts.j3, Bool.false_eq_true, if_false, if_true]
  rw [hw2, if_pos g5, if_pos g6, (rd_nat ws (p + 1)).trans hy]
  clear hy hw2
  by_cases hyn : y < 0
  · have d0 : ¬ 0 ≤ y := by clear hw hw1; omega
    rw [if_pos hyn, decide_eq_false d0, Bool.false_and, if_neg (by decide)]
  · have d0 : 0 ≤ y := by clear hw hw1; omega
    have hym : Int.tmod y 4 = y % 4 := Int.tmod_eq_emod_of_nonneg d0
    rw [if_neg hyn, hym, decide_eq_true d0, Bool.true_and]
    by_cases hy0 : y % 4 = 0
    · have hb0 : (y % 4 == 0) = true := by simpa using hy0
      rw [if_pos hy0, if_pos g2, if_pos g4, hw1, hw, Int.toNat_natCast, hb0, if_pos rfl]
    · rw [if_neg hy0, if_neg (by simpa using hy0)]
end
theorem Ev.const {α : Type} {g : Nat → Option α} {r : α} (h : ∀ k, g (k + 1) = some r) : Ev g r := Ev.step (f := fun _ => some r) h (Ev.now r)
theorem starts_ev (ws : List Int) (top : Nat) (hx : ∀ x ∈ ws, InI64 x) (ht : top ≤ ws.length) (hl : ws.length ≤ 20000) : ∀ (K p : Nat) (S : List Bool), top - p < K → S.length = top →
    Ev (fun k => spec_l2starts.l0 k S (p : Int) ws (top : Int)) (scanned (specScan ws top K p S)) := by
  intro K
  induction K with
  | zero => intro p S h; omega
  | succ K ih =>
    intro p S hK hS
    by_cases hp : p < top
    · have hin := getD_in hx p
      obtain ⟨h, hh0⟩ : ∃ h, ws.getD p 0 = h := ⟨_, rfl⟩
      rw [hh0] at hin
      have hi2 := hin.2
      have hh := Lib.hid hh0
      clear hh0
      by_cases hneg : h < 0
      · rw [specScan_no hp (specHead_no (headAt_neg (by rw [hh.out]; exact hneg)))]
        exact Ev.const fun k => l0_neg ws top p S h k hp ht hh.out hneg
      · have hq : h % 4 = 0 ∨ h % 4 = 1 ∨ h % 4 = 2 ∨ h % 4 = 3 := by omega
        refine Ev.step (fun k => l0_go ws top p S h k hp ht hl hh.out hneg hi2) ?_
        by_cases hbig : h / 4 > 1000
        · rw [specScan_no hp (specHead_no (headAt_bad (by rw [hh.out]; exact headF_big hbig))), decide_eq_true hbig, Bool.true_or]
          exact Ev.const fun k => j2_bad ws top S k _ _ _
        · rw [decide_eq_false hbig, Bool.false_or]
          by_cases hfit : p + 1 + (h / 4).toNat ≤ top
          · have d1 : ¬ (p : Int) + 1 + h / 4 > (top : Int) := by omega
            rw [decide_eq_false d1]
            refine Ev.step (fun k => j2_step k S _ _ _ ws _ (by omega) hq) ?_
            cases hv : headF (h % 4) (h / 4) with
            | false =>
              rw [specScan_no hp (specHead_no (headAt_bad (by rw [hh.out]; exact hv)))]
              exact Ev.const fun k => j3_bad ws top S k _ _ _
            | true =>
              have hat : headAt ws top p = true := headAt_ok (by rw [hh.out]; omega) (by rw [hh.out]; exact hv) (by rw [hh.out]; exact hfit)
              obtain ⟨m, hsz0⟩ : ∃ m, m = sizeAt ws p := ⟨_, rfl⟩
              have hsz : m = (h / 4).toNat := by rw [hsz0]; unfold sizeAt; rw [hh.out]
              have HSZ := Lib.hid hsz0
              clear hsz0
              have hgo := ih (p + 1 + m) (S.set p true) (by omega) (by simpa using hS)
              have hm1 : m ≤ 1000 := by omega
              have hm2 : h / 4 = ((m : Nat) : Int) := by omega
              simp only [Bool.not_true]
              by_cases hk2 : h % 4 = 2
              · obtain ⟨y, hy0⟩ : ∃ y, ws.getD (p + 1) 0 = y := ⟨_, rfl⟩
                have hy := Lib.hid hy0
                clear hy0
                have hsp : specHead ws top p = (decide (0 ≤ y) && y % 4 == 0) := by
                  unfold specHead
                  rw [hat, hh.out, hk2, hy.out]
                  rfl
                have hn1 : 1 ≤ h / 4 := by
                  rw [hk2] at hv
                  simp [headF] at hv
                  exact hv.1
                rw [hk2]
                cases hb : (decide (0 ≤ y) && y % 4 == 0) with
                | false =>
                  rw [specScan_no hp (by rw [hsp, hb])]
                  refine Ev.const fun k => ?_
                  rw [j3_proc ws top p S k _ hS (by omega) _ hm2 hm1 ht hl y hy.out, hb, if_neg (by decide)]
                  rfl
                | true =>
                  rw [specScan_yes hp (by rw [hsp, hb]), ← HSZ.out]
                  refine Ev.step (fun k => ?_) hgo
                  rw [j3_proc ws top p S k _ hS (by omega) _ hm2 hm1 ht hl y hy.out, hb, if_pos rfl]
              · have hsp : specHead ws top p = true := by
                  unfold specHead
                  rw [hat, hh.out]
                  simp [hk2]
                rw [specScan_yes hp hsp, ← HSZ.out]
                exact Ev.step (fun k => j3_plain ws top p S k _ _ hk2 hS hp _ hm2 hm1 (by omega)) hgo
          · have d1 : (p : Int) + 1 + h / 4 > (top : Int) := by omega
            rw [specScan_no hp (specHead_no (headAt_big (by rw [hh.out]; exact hfit))), decide_eq_true d1]
            exact Ev.const fun k => j2_bad ws top S k _ _ _
    · rw [specScan_end hp]
      exact Ev.const fun k => l0_end ws top p S k hp
theorem l2starts_ev (ws : List Int) (top : Int) (hx : ∀ x ∈ ws, InI64 x) : Ev (fun k => spec_l2starts.f k ws top) (scanned (specStarts ws top)) := by
  unfold spec_l2starts.f specStarts
  have hfalse : Ev (fun k => spec_l2starts.j0 k true ws top) (scanned none) := by
    refine Ev.step (f := fun _ => some (([] : List Bool), false)) (fun k => ?_) (Ev.now _)
    simp only [spec_l2starts.j0, if_true]
  by_cases h1 : ws.length > 20000
  · rw [if_pos h1]
    simp only [if_pos (show (ws.length : Int) > 20000 by omega)]
    exact hfalse
  · rw [if_neg h1]
    simp only [if_neg (show ¬ (ws.length : Int) > 20000 by omega)]
    by_cases h2 : top < 0
    · simp only [if_pos h2]
      exact hfalse
    · simp only [if_neg h2]
      by_cases h3 : top > (ws.length : Int)
      · rw [if_pos h3, decide_eq_true h3]
        exact hfalse
      · rw [if_neg h3, decide_eq_false h3]
        obtain ⟨t, rfl⟩ := Int.eq_ofNat_of_zero_le (show 0 ≤ top by omega)
        refine Ev.step (f := fun k => spec_l2starts.l0 k (List.replicate t false) ((0 : Nat) : Int) ws (t : Int)) (fun k => ?_) (starts_ev ws t hx (by omega) (by omega) (t + 1) 0 _ (by omega) (by simp))
        simp only [spec_l2starts.j0, Bool.false_eq_true, if_false]
        rw [if_pos (show (0 : Int) ≤ (t : Int) by omega), if_pos (show (t : Int).toNat ≤ 281474976710656 by omega), Int.toNat_natCast]
        rfl
/-! ### l2valid and ValidHeap -/
theorem wrap_up (i : Nat) (h : i ≤ 20000) : wrap64 ((i : Int) + 1) = ((i + 1 : Nat) : Int) := wrap_in (x := ((i + 1 : Nat) : Int)) (by omega) (by omega)
section
variable (ws : List Int) (top i : Nat) (S : List Bool)
theorem vl0_end (k : Nat) (h : ¬ i < ws.length) : spec_l2valid.l0 (k + 1) S (i : Int) ws (top : Int) = some (S, true) := by
  have g1 : ¬ (i : Int) < (ws.length : Int) := by omega
  simp only [spec_l2valid.l0]
  rw [if_neg g1]
theorem vl0_tail (k : Nat) (h : i < ws.length) (ht : ¬ i < top) : spec_l2valid.l0 (k + 1) S (i : Int) ws (top : Int) = spec_l2valid.j1 k S (i : Int) (ws.getD i 0 != 0) ws (top : Int) := by
  have g1 : (i : Int) < (ws.length : Int) := by omega
  have g2 : (i : Int) ≥ (top : Int) := by omega
  have g3 : (0 : Int) ≤ (i : Int) := by omega
  simp only [spec_l2valid.l0]
  rw [if_pos g1, if_pos g2, if_pos g3, rd_nat]
theorem vl0_head (k : Nat) (h : i < ws.length) (ht : i < top) : spec_l2valid.l0 (k + 1) S (i : Int) ws (top : Int) = spec_l2valid.j1 k S (i : Int) false ws (top : Int) := by
  have g1 : (i : Int) < (ws.length : Int) := by omega
  have g2 : ¬ (i : Int) ≥ (top : Int) := by omega
  simp only [spec_l2valid.l0]
  rw [if_pos g1, if_neg g2]
theorem vj1_bad (k : Nat) : spec_l2valid.j1 (k + 1) S (i : Int) true ws (top : Int) = some ([], false) := by
  simp only [spec_l2valid.j1, if_true]
theorem vj1_tail (k : Nat) (hi : i ≤ 20000) (ht : ¬ i < top) : spec_l2valid.j1 (k + 1) S (i : Int) false ws (top : Int) = spec_l2valid.l0 k S ((i + 1 : Nat) : Int) ws (top : Int) := by
  have g2 : ¬ (i : Int) < (top : Int) := by omega
  have hw := wrap_up i hi
  simp only [spec_l2valid.j1, Bool.false_eq_true, if_false]
  rw [if_neg g2, hw]
theorem vj1_head (k : Nat) (hi : i ≤ 20000) (h : i < ws.length) (ht : i < top) (hS : S.length = top) (hx : InI64 (ws.getD i 0)) :
    spec_l2valid.j1 (k + 1) S (i : Int) false ws (top : Int) = if wordAt ws top S i = true then spec_l2valid.l0 k S ((i + 1 : Nat) : Int) ws (top : Int) else some ([], false) := by
  have g1 : (i : Int) < (ws.length : Int) := by omega
  have g2 : (i : Int) < (top : Int) := by omega
  have g3 : (0 : Int) ≤ (i : Int) := by omega
  have g4 : (i : Int) < (S.length : Int) := by omega
  have hw := wrap_up i hi
  have hrd : rdOf false S (i : Int) = S.getD i false := rfl
  simp only [spec_l2valid.j1, Bool.false_eq_true, if_false]
  rw [if_pos g2, if_pos g3, if_pos g4, hrd, hw, if_pos g1, rd_nat, word_ev _ S hx]
  simp only [Option.bind_some]
  unfold wordAt
  rw [if_pos ht]
  cases S.getD i false with
  | true => rw [if_pos rfl, Bool.true_or, if_pos rfl]
  | false =>
    rw [if_neg (by decide), Bool.false_or]
end
theorem l2valid_l0 (ws : List Int) (top : Nat) (S : List Bool) (hx : ∀ x ∈ ws, InI64 x) (hl : ws.length ≤ 20000) (hS : S.length = top) (d : Nat) : ∀ i, ws.length - i = d → i ≤ ws.length →
    Ev (fun k => spec_l2valid.l0 k S (i : Int) ws (top : Int)) (okPair (wordsOk ws top S d i) S) := by
  induction d with
  | zero =>
    intro i hd hi
    exact Ev.const fun k => vl0_end ws top i S k (by omega)
  | succ d ih =>
    intro i hd hi
    have hlt : i < ws.length := by omega
    have hgo := ih (i + 1) (by omega) (by omega)
    simp only [wordsOk]
    by_cases ht : i < top
    · refine Ev.step (fun k => vl0_head ws top i S k hlt ht) ?_
      cases hw : wordAt ws top S i with
      | true =>
        rw [Bool.true_and]
        refine Ev.step (fun k => ?_) hgo
        rw [vj1_head ws top i S k (by omega) hlt ht hS (getD_in hx i), hw, if_pos rfl]
      | false =>
        rw [Bool.false_and]
        refine Ev.const fun k => ?_
        rw [vj1_head ws top i S k (by omega) hlt ht hS (getD_in hx i), hw, if_neg (by decide)]
        rfl
    · have hwa : wordAt ws top S i = (ws.getD i 0 == 0) := by unfold wordAt; rw [if_neg ht]
      refine Ev.step (fun k => vl0_tail ws top i S k hlt ht) ?_
      rw [hwa]
      cases hb : (ws.getD i 0 == 0) with
      | true =>
        rw [bne, hb, Bool.true_and]
        exact Ev.step (fun k => vj1_tail ws top i S k (by omega) ht) hgo
      | false =>
        rw [bne, hb, Bool.false_and]
        exact Ev.const fun k => vj1_bad ws top i S k
theorem l2valid_ev (ws : List Int) (top : Int) (hx : ∀ x ∈ ws, InI64 x) : Ev (fun k => spec_l2valid.f k ws top) (specValid ws top) := by
  unfold spec_l2valid.f specValid
  refine Ev.bind (l2starts_ev ws top hx) ?_
  cases hs : specStarts ws top with
  | none =>
    simp only [scanned, Bool.false_eq_true, if_false]
    exact Ev.now _
  | some S =>
    obtain ⟨h1, h2, h3, h4, _⟩ := specStarts_facts hs
    simp only [scanned, if_true]
    obtain ⟨t, rfl⟩ := Int.eq_ofNat_of_zero_le h2
    exact l2valid_l0 ws t S hx h1 h4 ws.length 0 (by omega) (by omega)
theorem roots_l0 (roots : List Int) (S : List Bool) (hx : ∀ x ∈ roots, InI64 x) (hl : roots.length ≤ 20000) (d : Nat) : ∀ i, roots.length - i = d → i ≤ roots.length →
    Ev (fun k => spec_ValidHeap.l0 k roots S (i : Int)) ((roots.drop i).all (wordF (startAt S))) := by
  induction d with
  | zero =>
    intro i hd hi
    have hn : roots.drop i = [] := List.drop_eq_nil_of_le (by omega)
    rw [hn]
    refine Ev.const fun k => ?_
    simp only [spec_ValidHeap.l0]
    rw [if_neg (show ¬ (i : Int) < (roots.length : Int) by omega)]
    rfl
  | succ d ih =>
    intro i hd hi
    have hlt : i < roots.length := by omega
    have hgo := ih (i + 1) (by omega) (by omega)
    have hdr : (roots.drop i).all (wordF (startAt S)) = (wordF (startAt S) (roots.getD i 0) && (roots.drop (i + 1)).all (wordF (startAt S))) := by
      rw [List.drop_eq_getElem_cons hlt, List.all_cons, List.getD_eq_getElem?_getD, List.getElem?_eq_getElem hlt]
      rfl
    have hstep : ∀ k, spec_ValidHeap.l0 (k + 1) roots S (i : Int) = if wordF (startAt S) (roots.getD i 0) = true then spec_ValidHeap.l0 k roots S ((i + 1 : Nat) : Int) else some false := by
      intro k
      have g1 : (i : Int) < (roots.length : Int) := by omega
      have g2 : (0 : Int) ≤ (i : Int) := by omega
      have hw := wrap_up i (by omega)
      simp only [spec_ValidHeap.l0]
      rw [if_pos g1, if_pos g2, rd_nat, word_ev _ S (getD_in hx i), hw]
      rfl
    rw [hdr]
    cases hv : wordF (startAt S) (roots.getD i 0) with
    | true =>
      rw [Bool.true_and]
      refine Ev.step (fun k => ?_) hgo
      rw [hstep, hv, if_pos rfl]
    | false =>
      rw [Bool.false_and]
      refine Ev.const fun k => ?_
      rw [hstep, hv, if_neg (by decide)]
theorem ValidHeap_ev (ws : List Int) (top : Int) (roots : List Int) (hx : ∀ x ∈ ws, InI64 x) (hx2 : ∀ x ∈ roots, InI64 x) : Ev (fun k => spec_ValidHeap.f k ws top roots) (specValidHeap ws top roots) := by
  unfold spec_ValidHeap.f specValidHeap
  refine Ev.bind (l2valid_ev ws top hx) ?_
  have hno : ∀ S, Ev (fun k => spec_ValidHeap.j0 k roots S true) false := fun S => Ev.const fun k => by simp only [spec_ValidHeap.j0, if_true]
  cases hv : (specValid ws top).2 with
  | false =>
    simp only [Bool.false_eq_true, if_false, Bool.false_and]
    exact hno _
  | true =>
    simp only [if_true, Bool.true_and]
    by_cases hl : roots.length ≤ 20000
    · have d1 : ¬ (roots.length : Int) > 20000 := by omega
      rw [decide_eq_true hl, Bool.true_and, decide_eq_false d1]
      refine Ev.step (f := fun k => spec_ValidHeap.l0 k roots (specValid ws top).1 ((0 : Nat) : Int)) (fun k => ?_) (roots_l0 roots _ hx2 hl roots.length 0 (by omega) (by omega))
      simp only [spec_ValidHeap.j0, Bool.false_eq_true, if_false]
      rfl
    · have d1 : (roots.length : Int) > 20000 := by omega
      rw [decide_eq_false hl, Bool.false_and, decide_eq_true d1]
      exact hno _
end Go.Proofs.YtggkkgkjhfgipaaDoor.SpecVSW
/- The specification's l2show at words that show as one text. -/
namespace Go.Proofs.YtggkkgkjhfgipaaDoor
open Go.RowKit Go.Proofs.YtggkkgkjhfgipaaDoor.QFnExactShowWord Go.Proofs.YtggkkgkjhfgipaaDoorW.PrintWords Go.Proofs.YtggkkgkjhfgipaaDoorW.PrintLast Go.Proofs.YtggkkgkjhfgipaaDoorW.PrintMore
set_option linter.unusedVariables false
set_option linter.unusedSimpArgs false
/-- The world in which the heap's words and the names lie. -/
structure Cs (w0 : World) (ws : List Int) (top : Int) (L : List (Nat × Nat)) (A : Option Addr) (c : Nat) (names : List (List Int)) (NA : Option Addr) (nc : Nat) : Prop where
  hr : Kd.C (Kd.int .i64) w0 A ws.length ws
  hc : ws.length ≤ c
  nm : Kd.C (Kd.slice 5 (Kd.int .u8)) w0 NA names.length names
  ncap : names.length ≤ nc
  short : ∀ t ∈ names, t.length ≤ 1099511627776
  objs : objsF ws top = some L
  valid : ∀ q ∈ L, objectAt ws L q = true
  i64 : ∀ x ∈ ws, InI64 x
def SPost (B : Nat) (fin : List Int) (w : World) (e : Ending) (w' : World) : Prop :=
  ∃ (ao : Option Addr) (cap : Nat), e = .returned (.slice ao fin.length cap) ∧ OutS B fin w w' (.slice ao fin.length cap) ∧ fin.length ≤ cap
theorem tdiv4 {x : Int} (h : x % 4 = 0) : x.tdiv 4 = x / 4 := Int.tdiv_eq_ediv_of_dvd (Int.dvd_of_emod_eq_zero h)
theorem tag_calls (x t : Int) (h : x % 4 = t) (w : World) : Calls Tryd.prog 52 #[.int .i64 x] w fun e w' => e = .returned (.int .i64 t) ∧ ∃ n, w' = w.drewN n := by
  refine (spec_l2tag.calls x t w (by rw [SpecVSW.tag_ev, h])).mono ?_
  rintro e w' ⟨rfl, n, rfl⟩
  exact ⟨rfl, n, rfl⟩
theorem dec_calls (x : Int) (h0 : -2305843009213693952 ≤ x) (h1 : x ≤ 2305843009213693951) (w : World) : Calls Tryd.prog 53 #[.int .i64 x] w fun e w' => ∃ (A : Option Addr) (c : Nat), e = .returned (.slice A (decI x).length c) ∧ Kd.C (Kd.int .u8) w' A (decI x).length (decI x) ∧ Below w.heap.size w w' := by
  obtain ⟨k, hk⟩ := DecSW.dec_ev x h0 h1
  refine (spec_l1dec.calls k x (decI x) w (hk k (Nat.le_refl _))).mono ?_
  rintro e w' ⟨v, rfl, hr, hb⟩
  obtain ⟨A, c, rfl, _, hC⟩ := Kd.R_reads hr
  exact ⟨A, c, rfl, hC, hb⟩
set_option maxHeartbeats 1000000 in
set_option maxRecDepth 100000 in
theorem l2show_full {w0 : World} {B : Nat} (x : Int) (hv : Value) (NA : Option Addr) (n nc : Nat) (out : List Int) (ao : Option Addr) (cap : Nat) (w : World) (A : Option Addr) (m c : Nat) (top : Int) (H : OutS B out w w (.slice ao out.length cap)) (hc : out.length ≤ cap) (hl : 1000 ≤ out.length) :
    Calls Tryd.prog 28 #[.agg #[.slice A m c, .int .i64 top], .int .i64 x, .slice NA n nc, .slice ao out.length cap] w (SPost B out w) := by
  have HO := Lib.hid H
  have hu := Tryd.underlying30
  have d0 : decide ((out.length : Int) ≥ 1000) = true := decide_eq_true (by omega)
  clear H
  go_enter Tryd.func28, Tryd.ntmps28
  go_wp2_with fail
  go_ret
  exact ⟨ao, cap, rfl, HO.out.more ((Below.refl _ _).alloc (Nat.le_refl _) _), hc⟩
set_option maxHeartbeats 1000000 in
set_option maxRecDepth 100000 in
theorem l2show_int {w0 : World} {B : Nat} (x : Int) (hx : InI64 x) (h4 : x % 4 = 0) (NA : Option Addr) (n nc : Nat) (out : List Int) (ao : Option Addr) (cap : Nat) (w : World) (A : Option Addr) (m c : Nat) (top : Int) (H : OutS B out w w (.slice ao out.length cap)) (hl : out.length < 1000) :
    Calls Tryd.prog 28 #[.agg #[.slice A m c, .int .i64 top], .int .i64 x, .slice NA n nc, .slice ao out.length cap] w (SPost B (out ++ decI (x / 4)) w) := by
  have HO := Lib.hid H
  have hx0 := hx.1
  have hx1 := hx.2
  have hdl := decI_len (x / 4) (by omega) (by omega)
  have HD := Lib.hid (dec_calls (x / 4) (by omega) (by omega))
  have H4 := Lib.hid h4
  have HQ := Lib.hid (tdiv4 h4)
  have hu := Tryd.underlying30
  have d0 : decide ((out.length : Int) ≥ 1000) = false := decide_eq_false (by omega)
  clear H hx h4
  go_enter Tryd.func28, Tryd.ntmps28
  go_wp2_with fail
  refine (tag_calls x 0 H4.out _).mono ?_
  rintro e w1 ⟨rfl, n1, rfl⟩
  go_wp2_with fail
  rw [HQ.out]
  refine (HD.out _).mono ?_
  rintro e w2 ⟨A2, c2, rfl, hC2, hb2⟩
  have HC2 := Lib.hid hC2
  have hb0 := pw_below_drewN ((Below.refl w.heap.size w).alloc (Nat.le_refl _) (.cells #[.slice A m c, .int .i64 top] 30)) n1
  have HO2 : Hid (OutS B out w w2 (.slice ao out.length cap)) := Lib.hid (HO.out.more (hb0.trans (hb2.mono hb0.size)))
  clear hC2 hb2 hb0
  go_wp2_with (at_builtin; refine app_row rfl _ _ rfl rfl rfl HO2.out HC2.out (by omega) ?_; intro fin a1 p1 w3 HF HO3 l3)
  refine Lib.hid ?_
  go_wp2_with fail
  go_ret
  rw [← HF.out]
  exact ⟨a1, p1, rfl, HO3.out, l3⟩
set_option maxHeartbeats 2000000 in
set_option maxRecDepth 100000 in
theorem l2show_sym {w0 : World} {ws : List Int} {top : Int} {L : List (Nat × Nat)} {A : Option Addr} {c : Nat} {names : List (List Int)} {NA : Option Addr} {nc B : Nat} (h : Cs w0 ws top L A c names NA nc) (x : Int) (hx : InI64 x) (h0 : 0 ≤ x) (h4 : x % 4 = 2) (out : List Int) (ao : Option Addr) (cap : Nat) (w : World) (hB : Below w0.heap.size w0 w) (H : OutS B out w w (.slice ao out.length cap)) (hl : out.length < 1000) :
    Calls Tryd.prog 28 #[.agg #[.slice A ws.length c, .int .i64 top], .int .i64 x, .slice NA names.length nc, .slice ao out.length cap] w (SPost B (out ++ symT names (x / 4)) w) := by
  have HO := Lib.hid H
  have hx1 := hx.2
  have H4 := Lib.hid h4
  have hu := Tryd.underlying30
  have d0 : decide ((out.length : Int) ≥ 1000) = false := decide_eq_false (by omega)
  have hdl := decI_len (x / 4) (by omega) (by omega)
  have HD := Lib.hid (dec_calls (x / 4) (by omega) (by omega))
  unfold symT
  by_cases hlt : x / 4 < (names.length : Int)
  · rw [if_pos hlt]
    obtain ⟨ad, A0, c0, rfl, k0, k1, k2⟩ := at_L2 h.nm (x / 4) (by omega) hlt
    have k3 := h.short (rd_L2 names (x / 4)) (by unfold rd_L2; rw [List.getD_eq_getElem?_getD, List.getElem?_eq_getElem (by omega)]; exact List.getElem_mem _)
    obtain ⟨t, ht⟩ : ∃ t, t = rd_L2 names (x / 4) := ⟨_, rfl⟩
    have HT : Hid (names.getD (x / 4).toNat [] = t) := Lib.hid ht.symm
    rw [← ht] at k0 k1 k2 k3
    have HBW : Hid (∀ W, Below w.heap.size w W → W.cell? (ad.add (x / 4).toNat) = some (.slice A0 t.length c0) ∧ Kd.C (Kd.int .u8) W A0 t.length t) := Lib.hid (fun W hb => by
      have hb2 : Below w0.heap.size w0 W := hB.trans (hb.mono hB.size)
      exact ⟨(hb2.cell (World.block_lt_of_cell? w0 _ k0)).trans k0, Kd.C_below k2 hb2⟩)
    have hq0 : 0 ≤ x / 4 := by omega
    clear H h hx h4 hB k0 k1 k2 ht
    go_enter Tryd.func28, Tryd.ntmps28
    go_wp2_with fail
    refine (tag_calls x 2 H4.out _).mono ?_
    rintro e w1 ⟨rfl, n1, rfl⟩
    have hb0 := pw_below_drewN ((Below.refl w.heap.size w).alloc (Nat.le_refl _) (.cells #[.slice A ws.length c, .int .i64 top] 30)) n1
    obtain ⟨W, hW⟩ : ∃ W, W = (w.alloc (.cells #[.slice A ws.length c, .int .i64 top] 30)).drewN n1 := ⟨_, rfl⟩
    rw [← hW] at hb0 ⊢
    obtain ⟨cc, hC2⟩ := HBW.out W hb0
    have HC2 := Lib.hid hC2
    have HO2 : Hid (OutS B out w W (.slice ao out.length cap)) := Lib.hid (HO.out.more hb0)
    clear hW hb0 hC2
    go_wp2_with (at_builtin; refine app_row rfl _ _ rfl rfl rfl HO2.out HC2.out (by omega) ?_; intro fin a1 p1 w3 HF HO3 l3)
    refine Lib.hid ?_
    go_wp2_with fail
    go_ret
    rw [HT.out, ← HF.out]
    exact ⟨a1, p1, rfl, HO3.out, l3⟩
  · rw [if_neg hlt]
    clear H h hx h4 hB
    go_enter Tryd.func28, Tryd.ntmps28
    go_wp2_with fail
    refine (tag_calls x 2 H4.out _).mono ?_
    rintro e w1 ⟨rfl, n1, rfl⟩
    have hb0 := pw_below_drewN ((Below.refl w.heap.size w).alloc (Nat.le_refl _) (.cells #[.slice A ws.length c, .int .i64 top] 30)) n1
    obtain ⟨W, hW⟩ : ∃ W, W = (w.alloc (.cells #[.slice A ws.length c, .int .i64 top] 30)).drewN n1 := ⟨_, rfl⟩
    rw [← hW] at hb0 ⊢
    have HO2 : Hid (OutS B out w W (.slice ao out.length cap)) := Lib.hid (HO.out.more hb0)
    clear hW hb0
    go_wp2_with (at_builtin; refine app_str (s := ⟨#[115, 121, 109]⟩) (t := [115, 121, 109]) rfl _ _ rfl rfl rfl HO2.out (by kernel_rfl) (by simp [ByteArray.size]; omega) ?_; intro fin a1 p1 w3 HF HO3 l3)
    refine Lib.hid ?_
    have hfl : fin.length = out.length + 3 := by rw [HF.out]; simp
    have HFL : Hid (fin.length ≤ 1003) := Lib.hid (by omega)
    clear hfl
    go_wp2_with fail
    refine (HD.out _).mono ?_
    rintro e w2 ⟨A2, c2, rfl, hC2, hb2⟩
    have HC2 := Lib.hid hC2
    have HO4 : Hid (OutS B fin w w2 (.slice a1 fin.length p1)) := Lib.hid (HO3.out.more hb2)
    clear hC2 hb2
    go_wp2_with (at_builtin; refine app_row rfl _ _ rfl rfl rfl HO4.out HC2.out (by have := HFL.out; omega) ?_; intro fin2 a2 p2 w4 HF2 HO5 l5)
    refine Lib.hid ?_
    go_wp2_with fail
    go_ret
    rw [show out ++ 115 :: 121 :: 109 :: decI (x / 4) = fin2 from by rw [HF2.out, HF.out]; simp]
    exact ⟨a2, p2, rfl, HO5.out, l5⟩
set_option maxHeartbeats 2000000 in
set_option maxRecDepth 100000 in
theorem l2show_rare {ws : List Int} {top : Int} {A : Option Addr} {c : Nat} {NA : Option Addr} {n nc B : Nat} (x : Int) (j : Nat) (hj : j < 5) (hx : x = 4 * j + 3) (out : List Int) (ao : Option Addr) (cap : Nat) (w : World) (H : OutS B out w w (.slice ao out.length cap)) (hl : out.length < 1000) :
    Calls Tryd.prog 28 #[.agg #[.slice A ws.length c, .int .i64 top], .int .i64 x, .slice NA n nc, .slice ao out.length cap] w (SPost B (out ++ rareT x) w) := by
  have HO := Lib.hid H
  have hu := Tryd.underlying30
  have d0 : decide ((out.length : Int) ≥ 1000) = false := decide_eq_false (by omega)
  obtain ⟨F, hF⟩ : ∃ F, F = out ++ rareT x := ⟨_, rfl⟩
  rw [← hF]
  have HF := Lib.hid hF
  have H4 : Hid (x % 4 = 3) := Lib.hid (by omega)
  clear H hF
  have hxx : x = 3 ∨ x = 7 ∨ x = 11 ∨ x = 15 ∨ x = 19 := by omega
  clear hx hj
  rcases hxx with rfl | rfl | rfl | rfl | rfl
  all_goals
    go_enter Tryd.func28, Tryd.ntmps28
    go_wp2_with fail
    refine (tag_calls _ 3 H4.out _).mono ?_
    rintro e w1 ⟨rfl, n1, rfl⟩
    have hb0 := pw_below_drewN ((Below.refl w.heap.size w).alloc (Nat.le_refl _) (.cells #[.slice A ws.length c, .int .i64 top] 30)) n1
    obtain ⟨W, hW⟩ : ∃ W, W = (w.alloc (.cells #[.slice A ws.length c, .int .i64 top] 30)).drewN n1 := ⟨_, rfl⟩
    rw [← hW] at hb0 ⊢
    have HO2 : Hid (OutS B out w (W.alloc (.cells #[.string ⟨#[40, 41]⟩, .string ⟨#[35, 102]⟩, .string ⟨#[35, 116]⟩, .string ⟨#[35, 118, 111, 105, 100]⟩, .string ⟨#[35, 117, 110, 115, 101, 116]⟩] 9)) (.slice ao out.length cap)) := Lib.hid (HO.out.more (hb0.alloc hb0.size _))
    clear hW hb0
    go_wp2_with (at_builtin; refine app_str rfl _ _ rfl rfl rfl HO2.out rfl (by simp [ByteArray.size]; omega) ?_; intro fin a1 p1 w3 HFF HO3 l3)
    refine Lib.hid ?_
    go_wp2_with fail
    go_ret
    rw [show F = fin from by rw [HF.out, HFF.out]; exact congrArg (out ++ ·) (by kernel_rfl)]
    exact ⟨a1, p1, rfl, HO3.out, l3⟩
set_option maxHeartbeats 2000000 in
set_option maxRecDepth 100000 in
theorem l2show_flat {w0 : World} {ws : List Int} {top : Int} {L : List (Nat × Nat)} {A : Option Addr} {c : Nat} {names : List (List Int)} {NA : Option Addr} {nc B : Nat} (h : Cs w0 ws top L A c names NA nc) (x : Int) (hw : wordF (isPlace L) x = true) (hx : InI64 x) (h4 : x % 4 = 1) (t : Bool) (hk2 : (ws.getD (x / 4).toNat 0 % 4 == 2) = t) (hk3 : t = false → ws.getD (x / 4).toNat 0 % 4 = 3) (out : List Int) (ao : Option Addr) (cap : Nat) (w : World) (hB : Below w0.heap.size w0 w) (H : OutS B out w w (.slice ao out.length cap)) (hl : out.length < 1000) :
    Calls Tryd.prog 28 #[.agg #[.slice A ws.length c, .int .i64 top], .int .i64 x, .slice NA names.length nc, .slice ao out.length cap] w (SPost B (out ++ cond t procT boxT) w) := by
  have HO := Lib.hid H
  have hu := Tryd.underlying30
  have d0 : decide ((out.length : Int) ≥ 1000) = false := decide_eq_false (by omega)
  obtain ⟨n, hn⟩ := obj_of h.objs h.valid h.i64 hw h4
  have h0 := hn.pos
  have hx1 := hx.2
  have hfit := hn.fits
  have hnn := hn.nn
  have hlen : ws.length ≤ 20000 := (objsF_mem h.objs).1
  obtain ⟨ad, rfl, hcell⟩ := Kd.at_int h.hr (x / 4) (by omega) (by omega)
  obtain ⟨hd, hhd⟩ : ∃ hd, hd = ws.getD (x / 4).toNat 0 := ⟨_, rfl⟩
  rw [show rd ws (x / 4) = hd from hhd.symm] at hcell
  rw [← hhd] at hnn hk2 hk3
  have HBW : Hid (∀ W, Below w.heap.size w W → W.cell? (ad.add (x / 4).toNat) = some (.int .i64 hd)) := Lib.hid (fun W hb => by
    have hb2 : Below w0.heap.size w0 W := hB.trans (hb.mono hB.size)
    exact (hb2.cell (World.block_lt_of_cell? w0 _ hcell)).trans hcell)
  have H4 := Lib.hid h4
  have hq0 : 0 ≤ x / 4 := by omega
  have hq1 : x / 4 < (ws.length : Int) := by omega
  have hk3' : t = false → (hd % 4 == 3) = true := fun e => by rw [hk3 e]; rfl
  clear H hcell hhd h hx h4 hB hn hfit hw hk3
  go_enter Tryd.func28, Tryd.ntmps28
  go_wp2_with fail
  refine (tag_calls x 1 H4.out _).mono ?_
  rintro e w1 ⟨rfl, n1, rfl⟩
  have hb0 := pw_below_drewN ((Below.refl w.heap.size w).alloc (Nat.le_refl _) (.cells #[.slice (some ad) ws.length c, .int .i64 top] 30)) n1
  obtain ⟨W, hW⟩ : ∃ W, W = (w.alloc (.cells #[.slice (some ad) ws.length c, .int .i64 top] 30)).drewN n1 := ⟨_, rfl⟩
  have b0 : W.heap[w.heap.size]? = some (.cells #[.slice (some ad) ws.length c, .int .i64 top] 30 (0, 0)) := by rw [hW]; exact blk_new w _
  rw [← hW] at hb0 ⊢
  have c0 : W.cell? ⟨w.heap.size, 0, none⟩ = some (.slice (some ad) ws.length c) := blk_cell b0 0
  have cc := HBW.out W hb0
  have HO2 : Hid (OutS B out w W (.slice ao out.length cap)) := Lib.hid (HO.out.more hb0)
  clear hW hb0 b0
  cases t with
  | true =>
    clear hk3'
    go_wp2_with (at_builtin; refine app_str (s := ⟨#[35, 112, 114, 111, 99]⟩) (t := procT) rfl _ _ rfl rfl rfl HO2.out (by kernel_rfl) (by simp [ByteArray.size]; omega) ?_; intro fin a1 p1 w3 HF HO3 l3)
    refine Lib.hid ?_
    go_wp2_with fail
    go_ret
    rw [show out ++ cond true procT boxT = fin from HF.out.symm]
    exact ⟨a1, p1, rfl, HO3.out, l3⟩
  | false =>
    have hk4 := hk3' rfl
    clear hk3'
    go_wp2_with (at_builtin; refine app_str (s := ⟨#[35, 98, 111, 120]⟩) (t := boxT) rfl _ _ rfl rfl rfl HO2.out (by kernel_rfl) (by simp [ByteArray.size]; omega) ?_; intro fin a1 p1 w3 HF HO3 l3)
    refine Lib.hid ?_
    go_wp2_with fail
    go_ret
    rw [show out ++ cond false procT boxT = fin from HF.out.symm]
    exact ⟨a1, p1, rfl, HO3.out, l3⟩
end Go.Proofs.YtggkkgkjhfgipaaDoor
/- The specification's l2show at pairs. -/
namespace Go.Proofs.YtggkkgkjhfgipaaDoor
open Go.RowKit Go.Proofs.YtggkkgkjhfgipaaDoor.QFnExactShowWord Go.Proofs.YtggkkgkjhfgipaaDoorW.PrintWords Go.Proofs.YtggkkgkjhfgipaaDoorW.PrintLast Go.Proofs.YtggkkgkjhfgipaaDoorW.PrintMore
set_option linter.unusedVariables false
set_option linter.unusedSimpArgs false
/-- What l2show does, at words with k to go. -/
def ShowIs (w0 : World) (ws : List Int) (top : Int) (L : List (Nat × Nat)) (A : Option Addr) (c : Nat) (names : List (List Int)) (NA : Option Addr) (nc B k : Nat) : Prop :=
  ∀ (x : Int) (out : List Int) (ao : Option Addr) (cap : Nat) (w : World), wordF (isPlace L) x = true → InI64 x → Below w0.heap.size w0 w → OutS B out w w (.slice ao out.length cap) → out.length ≤ cap → 1000 ≤ out.length + k → out.length ≤ 2000000000000 →
    Calls Tryd.prog 28 #[.agg #[.slice A ws.length c, .int .i64 top], .int .i64 x, .slice NA names.length nc, .slice ao out.length cap] w (SPost B (showW ws names k x out) w)
/-- A field's cell. -/
theorem Cs.cell {w0 : World} {ws : List Int} {top : Int} {L : List (Nat × Nat)} {A : Option Addr} {c : Nat} {names : List (List Int)} {NA : Option Addr} {nc : Nat} (h : Cs w0 ws top L A c names NA nc) {w : World} (hB : Below w0.heap.size w0 w) (i : Int) (h0 : 0 ≤ i) (h1 : i < ws.length) : ∃ ad, A = some ad ∧ w.cell? (ad.add i.toNat) = some (.int .i64 (ws.getD i.toNat 0)) := by
  obtain ⟨ad, ha, hcell⟩ := Kd.at_int h.hr i h0 h1
  exact ⟨ad, ha, (hB.cell (World.block_lt_of_cell? w0 _ hcell)).trans hcell⟩
/-- The loop over a list's rest. -/
def SLt (w0 : World) (ws : List Int) (names : List (List Int)) (L : List (Nat × Nat)) (B k : Nat) (FIN : List Int) (W : World) (v3 v15 : Value) (wr : World) : Prop :=
  ∃ (x : Int) (j : Nat) (o : List Int) (ao : Option Addr) (cap : Nat), v3 = .slice ao o.length cap ∧ v15 = .int .i64 x ∧ wordF (isPlace L) x = true ∧ InI64 x ∧ OutS B o W wr (.slice ao o.length cap) ∧ o.length ≤ cap ∧ 1000 ≤ o.length + j ∧ 1000 ≤ o.length + k ∧ o.length ≤ 1200000000000 ∧ showL (showW ws names k) ws j x o ++ [41] = FIN
set_option maxHeartbeats 4000000 in
set_option maxRecDepth 100000 in
theorem l2show_pair {w0 : World} {ws : List Int} {top : Int} {L : List (Nat × Nat)} {A : Option Addr} {c : Nat} {names : List (List Int)} {NA : Option Addr} {nc B k : Nat} (h : Cs w0 ws top L A c names NA nc) (hw0 : w0.heap.size ≤ B) (hk9 : k ≤ 1001) (ih : ShowIs w0 ws top L A c names NA nc B k) (x : Int) (hw : wordF (isPlace L) x = true) (hx : InI64 x) (hp : isPairW ws x = true) (out : List Int) (ao : Option Addr) (cap : Nat) (w : World) (hB : Below w0.heap.size w0 w) (H : OutS B out w w (.slice ao out.length cap)) (hl : out.length < 1000) (hk : 1000 ≤ out.length + (k + 1)) :
    Calls Tryd.prog 28 #[.agg #[.slice A ws.length c, .int .i64 top], .int .i64 x, .slice NA names.length nc, .slice ao out.length cap] w (SPost B (showW ws names (k + 1) x out) w) := by
  have h4 : x % 4 = 1 ∧ ws.getD (x / 4).toNat 0 % 4 = 0 := by
    unfold isPairW at hp
    rw [Bool.and_eq_true] at hp
    exact ⟨eq_of_beq hp.1, eq_of_beq hp.2⟩
  rw [showW_pair hl h4.1 h4.2]
  obtain ⟨n, hn⟩ := obj_of h.objs h.valid h.i64 hw h4.1
  have hn2 := hn.pair h4.2
  have g0 := hn.good 0 (by omega)
  have g1 := hn.good 1 (by omega)
  have hx0 := hn.pos
  have hx1 := hx.2
  have hfit := hn.fits
  have hnn := hn.nn
  have hlen : ws.length ≤ 20000 := (objsF_mem h.objs).1
  have hE : Ext (showW ws names k) := showW_pre ws names k
  have hLn := showW_len h.objs h.valid h.i64 h.short k
  obtain ⟨x0, hx0e⟩ : ∃ y, y = fld ws (x / 4).toNat 0 := ⟨_, rfl⟩
  obtain ⟨x1, hx1e⟩ : ∃ y, y = fld ws (x / 4).toNat 1 := ⟨_, rfl⟩
  rw [← hx0e] at g0 ⊢
  rw [← hx1e] at g1 ⊢
  obtain ⟨FIN, hF⟩ : ∃ F, F = showL (showW ws names k) ws 1000 x1 (showW ws names k x0 (out ++ [40])) ++ [41] := ⟨_, rfl⟩
  rw [← hF]
  have HF := Lib.hid hF
  have IH := Lib.hid ih
  have HX := Lib.hid h
  have HG0 := Lib.hid g0
  have HG1 := Lib.hid g1
  have HE := Lib.hid hE
  have HL := Lib.hid hLn
  have HO := Lib.hid H
  have HB := Lib.hid hB
  have H4 := Lib.hid h4.1
  obtain ⟨hd, hhd⟩ : ∃ hd, hd = ws.getD (x / 4).toNat 0 := ⟨_, rfl⟩
  rw [← hhd] at hnn
  have k2 : (hd % 4 == 2) = false := by rw [hhd, h4.2]; rfl
  have k3 : (hd % 4 == 3) = false := by rw [hhd, h4.2]; rfl
  have k1 : (hd % 4 == 1) = false := by rw [hhd, h4.2]; rfl
  have HC : Hid (∀ W, Below w0.heap.size w0 W → ∃ ad, A = some ad ∧ W.cell? (ad.add (x / 4).toNat) = some (.int .i64 hd) ∧ W.cell? (ad.add (x / 4 + 1).toNat) = some (.int .i64 x0) ∧ W.cell? (ad.add (x / 4 + 2).toNat) = some (.int .i64 x1)) := by
    refine Lib.hid fun W hb => ?_
    obtain ⟨ad, e0, e1⟩ := h.cell hb (x / 4) (by omega) (by omega)
    obtain ⟨ad', e2, e3⟩ := h.cell hb (x / 4 + 1) (by omega) (by omega)
    obtain ⟨ad2, e4, e5⟩ := h.cell hb (x / 4 + 2) (by omega) (by omega)
    rw [e0] at e2 e4
    cases e2
    cases e4
    refine ⟨ad, e0, by rw [hhd]; exact e1, ?_, ?_⟩
    · rw [e3, hx0e]; unfold fld; rw [show (x / 4 + 1).toNat = (x / 4).toNat + 1 + 0 by omega]
    · rw [e5, hx1e]; unfold fld; rw [show (x / 4 + 2).toNat = (x / 4).toNat + 1 + 1 by omega]
  obtain ⟨ad, hA, _⟩ := HC.out w hB
  subst hA
  have hu := Tryd.underlying30
  have d0 : decide ((out.length : Int) ≥ 1000) = false := decide_eq_false (by omega)
  have q0 : 0 ≤ x / 4 := by omega
  have q1 : x / 4 + 2 < (ws.length : Int) := by omega
  have wr1 : IntKind.i64.wrap (x / 4 + 1) = x / 4 + 1 := IntWalk.i64_in _ (by omega)
  have wr2 : IntKind.i64.wrap (x / 4 + 2) = x / 4 + 2 := IntWalk.i64_in _ (by omega)
  have WR1 := Lib.hid wr1
  have WR2 := Lib.hid wr2
  clear h ih g0 g1 hE hLn H hB h4 hF hw hx hp hn hn2 hfit hx0e hx1e hhd wr1 wr2
  go_enter Tryd.func28, Tryd.ntmps28
  go_wp2_with fail
  refine (tag_calls x 1 H4.out _).mono ?_
  rintro e w1 ⟨rfl, n1, rfl⟩
  have hb0 := pw_below_drewN ((Below.refl w.heap.size w).alloc (Nat.le_refl _) (.cells #[.slice (some ad) ws.length c, .int .i64 top] 30)) n1
  obtain ⟨W, hW⟩ : ∃ W, W = (w.alloc (.cells #[.slice (some ad) ws.length c, .int .i64 top] 30)).drewN n1 := ⟨_, rfl⟩
  have b0 : W.heap[w.heap.size]? = some (.cells #[.slice (some ad) ws.length c, .int .i64 top] 30 (0, 0)) := by rw [hW]; exact blk_new w _
  rw [← hW] at hb0 ⊢
  clear hW
  obtain ⟨hb, hhb⟩ : ∃ hb, hb = w.heap.size := ⟨_, rfl⟩
  rw [← hhb] at b0 ⊢
  have HBX := Lib.hid b0
  have HO2 : Hid (OutS B out w W (.slice ao out.length cap)) := Lib.hid (HO.out.more hb0)
  have HBW : Hid (Below w0.heap.size w0 W) := Lib.hid (HB.out.trans (hb0.mono HB.out.size))
  have c0 : W.cell? ⟨hb, 0, none⟩ = some (.slice (some ad) ws.length c) := blk_cell b0 0
  obtain ⟨_, e0, c1, _, _⟩ := HC.out W HBW.out
  cases e0
  clear hb0 b0 hhb
  have HO3 : Hid (OutS B out W W (.slice ao out.length cap)) := Lib.hid HO2.out.self
  go_wp2_with (at_builtin; refine app_byte rfl _ _ rfl rfl rfl HO3.out (by omega) ?_; intro o1 a1 p1 w3 HF1 HO4 l4)
  refine Lib.hid ?_
  clear c0 c1
  have h1l : o1.length = out.length + 1 := by rw [HF1.out]; simp
  have H1L : Hid (o1.length = out.length + 1) := Lib.hid h1l
  have hlb1 : o1.length ≤ 1000 := by omega
  have HB3 : Hid (Below w0.heap.size w0 w3) := Lib.hid (HBW.out.trans (HO4.out.below.mono hw0))
  have b3 := HO4.out.kp _ _ _ _ HBX.out (by decide) (by decide)
  have c0 : w3.cell? ⟨hb, 0, none⟩ = some (.slice (some ad) ws.length c) := blk_cell b3 0
  have c2 : w3.cell? ⟨hb, 1, none⟩ = some (.int .i64 top) := blk_cell b3 1
  obtain ⟨_, e0, _, c1, _⟩ := HC.out w3 HB3.out
  cases e0
  clear b3 h1l
  have q2 : 0 ≤ x / 4 + 1 := by omega
  have q3 : x / 4 + 1 < (ws.length : Int) := by omega
  go_wp2_with fail
  have wr1 := WR1.out
  go_still_tail 9, (by kernel_rfl)
  change wpList _ _ _ _ _ w3.drew
  clear wr1 c0 c1 c2
  go_wp2_with fail
  refine (IH.out x0 o1 a1 p1 w3.drew HG0.out.1 HG0.out.2 HB3.out.drew (HO4.out.self.more (Below.refl _ _).drew).self l4 (by have := H1L.out; omega) (by omega)).mono ?_
  rintro e w4 ⟨a4, p4, rfl, hs4, l4'⟩
  obtain ⟨o2, ho2⟩ : ∃ o, o = showW ws names k x0 o1 := ⟨_, rfl⟩
  rw [← ho2] at hs4 l4' ⊢
  have HO5 : Hid (OutS B o2 W w4 (.slice a4 o2.length p4)) := Lib.hid ((HO4.out.more (Below.refl w3.heap.size w3).drew).trans hs4)
  have HLE : Hid (o1.length ≤ o2.length ∧ o2.length ≤ 1200000000000) := Lib.hid (by
    rw [ho2]
    refine ⟨(HE.out x0 o1).length_le, ?_⟩
    have := HL.out x0 o1 HG0.out
    unfold Cmax at this
    omega)
  have HFN : Hid (showL (showW ws names k) ws 1000 x1 o2 ++ [41] = FIN) := Lib.hid (by rw [ho2, HF1.out]; exact HF.out.symm)
  clear ho2 hs4
  have HB4 : Hid (Below w0.heap.size w0 w4) := Lib.hid (HBW.out.trans (HO5.out.below.mono hw0))
  have b4 := HO5.out.kp _ _ _ _ HBX.out (by decide) (by decide)
  have c0 : w4.cell? ⟨hb, 0, none⟩ = some (.slice (some ad) ws.length c) := blk_cell b4 0
  obtain ⟨_, e0, _, _, c1⟩ := HC.out w4 HB4.out
  cases e0
  have q4 : 0 ≤ x / 4 + 2 := by omega
  have wr2 := WR2.out
  have HL0 : Hid (SLt w0 ws names L B k FIN W (.slice a4 o2.length p4) (.int .i64 x1) w4) := Lib.hid ⟨x1, 1000, o2, a4, p4, rfl, rfl, HG1.out.1, HG1.out.2, HO5.out, l4', by omega, by have := HLE.out; have := H1L.out; omega, HLE.out.2, HFN.out⟩
  clear b4
  go_wp2_with fail
  clear wr2 c0 c1 q2 q3 q4
  go_loopw [3, 15] (fun v3 v15 wr => Hid (SLt w0 ws names L B k FIN W v3 v15 wr)) (fun v3 _ _ => 1000 - (match v3 with | .slice _ n _ => n | _ => 0))
  case atStart => exact HL0
  case round =>
    clear HL0 HLE HFN HB4 HO5 HB3 HO4 H1L HF1 l4 l4' HF HG0 HG1
    obtain ⟨r, j, o, a5, p5, rfl, rfl, r1, r2, r3, r4, r5, r6, r7, r8⟩ := hrel.out
    clear hrel
    have HB5 : Hid (Below w0.heap.size w0 wr) := Lib.hid (HBW.out.trans (r3.below.mono hw0))
    have b5 := r3.kp _ _ _ _ HBX.out (by decide) (by decide)
    have c0 : wr.cell? ⟨hb, 0, none⟩ = some (.slice (some ad) ws.length c) := blk_cell b5 0
    have c2 : wr.cell? ⟨hb, 1, none⟩ = some (.int .i64 top) := blk_cell b5 1
    have HR3 := Lib.hid r3
    have HG := Lib.hid (And.intro r1 r2)
    clear b5 r3
    by_cases hl5 : o.length < 1000
    · have d1 : decide (o.length < 1000) = true := decide_eq_true hl5
      by_cases h41 : r % 4 = 1
      · obtain ⟨m, hm⟩ := obj_of HX.out.objs HX.out.valid HX.out.i64 r1 h41
        have m0 := hm.pos
        have m1 := hm.fits
        have m2 := hm.nn
        have m3 := r2.2
        obtain ⟨hr, hhr⟩ : ∃ hr, hr = ws.getD (r / 4).toNat 0 := ⟨_, rfl⟩
        rw [← hhr] at m2
        have HCR : Hid (∀ W', Below w0.heap.size w0 W' → W'.cell? (ad.add (r / 4).toNat) = some (.int .i64 hr)) := Lib.hid (fun W' hb => by
          obtain ⟨ad', e1, e2⟩ := HX.out.cell hb (r / 4) (by omega) (by omega)
          cases e1
          rw [hhr]
          exact e2)
        have H41 := Lib.hid h41
        have t0 : 0 ≤ r / 4 := by omega
        have t1 : r / 4 < (ws.length : Int) := by omega
        by_cases hp5 : isPairW ws r = true
        · have hkz : ws.getD (r / 4).toNat 0 % 4 = 0 := by
            unfold isPairW at hp5
            rw [Bool.and_eq_true] at hp5
            exact eq_of_beq hp5.2
          have hz : (hr % 4 == 0) = true := by rw [hhr, hkz]; rfl
          have hm2 := hm.pair hkz
          have g0 := hm.good 0 (by omega)
          have g1 := hm.good 1 (by omega)
          rw [showL_pair (by omega) hl5 hp5] at r8
          obtain ⟨y0, hy0⟩ : ∃ y, y = fld ws (r / 4).toNat 0 := ⟨_, rfl⟩
          obtain ⟨y1, hy1⟩ : ∃ y, y = fld ws (r / 4).toNat 1 := ⟨_, rfl⟩
          rw [← hy0] at g0 r8
          rw [← hy1] at g1 r8
          have HCS : Hid (∀ W', Below w0.heap.size w0 W' → W'.cell? (ad.add (r / 4 + 1).toNat) = some (.int .i64 y0) ∧ W'.cell? (ad.add (r / 4 + 2).toNat) = some (.int .i64 y1)) := Lib.hid (fun W' hb => by
            obtain ⟨ad', e1, e2⟩ := HX.out.cell hb (r / 4 + 1) (by omega) (by omega)
            obtain ⟨ad2, e3, e4⟩ := HX.out.cell hb (r / 4 + 2) (by omega) (by omega)
            cases e1
            cases e3
            refine ⟨?_, ?_⟩
            · rw [e2, hy0]; unfold fld; rw [show (r / 4 + 1).toNat = (r / 4).toNat + 1 + 0 by omega]
            · rw [e4, hy1]; unfold fld; rw [show (r / 4 + 2).toNat = (r / 4).toNat + 1 + 1 by omega])
          have HGA := Lib.hid g0
          have HGB := Lib.hid g1
          have HR8 := Lib.hid r8
          have t2 : 0 ≤ r / 4 + 1 := by omega
          have t3 : r / 4 + 1 < (ws.length : Int) := by omega
          have t4 : 0 ≤ r / 4 + 2 := by omega
          have t5 : r / 4 + 2 < (ws.length : Int) := by omega
          have WA : Hid (IntKind.i64.wrap (r / 4 + 1) = r / 4 + 1) := Lib.hid (IntWalk.i64_in _ (by omega))
          have WQ : Hid (IntKind.i64.wrap (r.tdiv 4) = r / 4) := Lib.hid (IntWalk.i64_quo r 4 (by omega))
          have WB : Hid (IntKind.i64.wrap (r / 4 + 2) = r / 4 + 2) := Lib.hid (IntWalk.i64_in _ (by omega))
          clear hp5 hkz hm hm2 g0 g1 hy0 hy1 r8 hhr h41 r1 r2 m1
          go_wp2_with fail
          refine (tag_calls r 1 H41.out _).mono ?_
          rintro e w5 ⟨rfl, n2, rfl⟩
          obtain ⟨W5, hW5⟩ : ∃ W5, W5 = wr.drewN n2 := ⟨_, rfl⟩
          have HOX : Hid (OutS B o W W5 (.slice a5 o.length p5)) := Lib.hid (by rw [hW5]; exact HR3.out.more (pw_below_drewN (Below.refl _ _) n2))
          have HBY : Hid (Below w0.heap.size w0 W5) := Lib.hid (by rw [hW5]; exact pw_below_drewN HB5.out n2)
          rw [← hW5]
          clear hW5 c0 c2
          have b6 := HOX.out.kp _ _ _ _ HBX.out (by decide) (by decide)
          have c0 : W5.cell? ⟨hb, 0, none⟩ = some (.slice (some ad) ws.length c) := blk_cell b6 0
          have cr := HCR.out W5 HBY.out
          clear b6
          go_wp2_with (at_builtin; refine app_byte rfl _ _ rfl rfl rfl HOX.out (by omega) ?_; intro o6 a6 p6 w6 HF6 HO6 l6)
          refine Lib.hid ?_
          clear c0 cr
          have h6l : o6.length = o.length + 1 := by rw [HF6.out]; simp
          have H6L : Hid (o6.length = o.length + 1) := Lib.hid h6l
          have h6b : o6.length ≤ 1000 := by omega
          have HB6 : Hid (Below w0.heap.size w0 w6) := Lib.hid (HBW.out.trans (HO6.out.below.mono hw0))
          have b7 := HO6.out.kp _ _ _ _ HBX.out (by decide) (by decide)
          have c0 : w6.cell? ⟨hb, 0, none⟩ = some (.slice (some ad) ws.length c) := blk_cell b7 0
          have c2 : w6.cell? ⟨hb, 1, none⟩ = some (.int .i64 top) := blk_cell b7 1
          have c1 := (HCS.out w6 HB6.out).1
          clear b7 h6l
          go_wp2_with fail
          have wa := WA.out
          have wq := WQ.out
          go_still_tail 10, (by kernel_rfl)
          change wpList _ _ _ _ _ w6.drew
          clear wa wq c0 c1 c2
          go_wp2_with fail
          refine (IH.out y0 o6 a6 p6 w6.drew HGA.out.1 HGA.out.2 HB6.out.drew (HO6.out.self.more (Below.refl _ _).drew).self l6 (by have := H6L.out; omega) (by omega)).mono ?_
          rintro e w7 ⟨a7, p7, rfl, hs7, l7⟩
          obtain ⟨o7, ho7⟩ : ∃ o, o = showW ws names k y0 o6 := ⟨_, rfl⟩
          rw [← ho7] at hs7 l7 ⊢
          have HO7 : Hid (OutS B o7 W w7 (.slice a7 o7.length p7)) := Lib.hid ((HO6.out.more (Below.refl w6.heap.size w6).drew).trans hs7)
          have HLE : Hid (o6.length ≤ o7.length ∧ o7.length ≤ 1200000000000) := Lib.hid (by
            rw [ho7]
            refine ⟨(HE.out y0 o6).length_le, ?_⟩
            have := HL.out y0 o6 HGA.out
            unfold Cmax at this
            omega)
          have HFN : Hid (showL (showW ws names k) ws (j - 1) y1 o7 ++ [41] = FIN) := Lib.hid (by rw [ho7, HF6.out]; exact HR8.out)
          clear ho7 hs7
          have HB7 : Hid (Below w0.heap.size w0 w7) := Lib.hid (HBW.out.trans (HO7.out.below.mono hw0))
          have b8 := HO7.out.kp _ _ _ _ HBX.out (by decide) (by decide)
          have c0 : w7.cell? ⟨hb, 0, none⟩ = some (.slice (some ad) ws.length c) := blk_cell b8 0
          have c1 := (HCS.out w7 HB7.out).2
          have wb := WB.out
          have HLN : Hid (SLt w0 ws names L B k FIN W (.slice a7 o7.length p7) (.int .i64 y1) w7) := Lib.hid ⟨y1, j - 1, o7, a7, p7, rfl, rfl, HGB.out.1, HGB.out.2, HO7.out, l7, by have := HLE.out; have := H6L.out; omega, by have := HLE.out; have := H6L.out; omega, HLE.out.2, HFN.out⟩
          clear b8
          go_wp2_with fail
          clear wb c0 c1
          go_roundw
          case rel => exact HLN
          case measure => have := HLE.out; have := H6L.out; simp; omega
        · have hpf : isPairW ws r = false := by simpa using hp5
          have HSE : Hid (showL (showW ws names k) ws j r o = showE (showW ws names k) r o) := Lib.hid (showL_other hpf)
          have hz : (hr % 4 == 0) = false := by
            unfold isPairW at hpf
            rw [h41, ← hhr] at hpf
            simpa using hpf
          clear hp5 hpf hm h41 hhr m1
          go_wp2_with fail
          refine (tag_calls r 1 H41.out _).mono ?_
          rintro e w5 ⟨rfl, n2, rfl⟩
          obtain ⟨W5, hW5⟩ : ∃ W5, W5 = wr.drewN n2 := ⟨_, rfl⟩
          have HOX : Hid (OutS B o W W5 (.slice a5 o.length p5)) := Lib.hid (by rw [hW5]; exact HR3.out.more (pw_below_drewN (Below.refl _ _) n2))
          have HBY : Hid (Below w0.heap.size w0 W5) := Lib.hid (by rw [hW5]; exact pw_below_drewN HB5.out n2)
          rw [← hW5]
          clear hW5 c0 c2
          have b6 := HOX.out.kp _ _ _ _ HBX.out (by decide) (by decide)
          have c0 : W5.cell? ⟨hb, 0, none⟩ = some (.slice (some ad) ws.length c) := blk_cell b6 0
          have c2 : W5.cell? ⟨hb, 1, none⟩ = some (.int .i64 top) := blk_cell b6 1
          have cr := HCR.out W5 HBY.out
          clear b6
          by_cases hx3 : r = 3
          · have hb3 : (r != 3) = false := by rw [hx3]; rfl
            have HFX : Hid (o ++ [41] = FIN) := Lib.hid (by rw [← r8]; congr 1; rw [HSE.out]; unfold showE; rw [if_pos hx3])
            clear hx3 r8
            go_wp2_with (at_builtin; refine app_byte rfl _ _ rfl rfl rfl HOX.out (by omega) ?_; intro o9 a9 p9 w9 HF9 HO9 l9)
            refine Lib.hid ?_
            go_wp2_with fail
            go_ret
            rw [show FIN = o9 from by rw [HF9.out]; exact HFX.out.symm]
            exact ⟨a9, p9, rfl, HO2.out.trans HO9.out, l9⟩
          · have hb3 : (r != 3) = true := by simpa using hx3
            have HFX : Hid (showW ws names k r (o ++ [32, 46, 32]) ++ [41] = FIN) := Lib.hid (by rw [← r8]; congr 1; rw [HSE.out]; unfold showE; rw [if_neg hx3])
            clear hx3 r8
            go_wp2_with (at_builtin; refine app_str (s := ⟨#[32, 46, 32]⟩) (t := [32, 46, 32]) rfl _ _ rfl rfl rfl HOX.out (by kernel_rfl) (by simp [ByteArray.size]; omega) ?_; intro o7 a7 p7 w7 HF7 HO7 l7)
            refine Lib.hid ?_
            clear c0 c2
            have h7l : o7.length = o.length + 3 := by rw [HF7.out]; simp
            have H7L : Hid (o7.length = o.length + 3) := Lib.hid h7l
            have h7b : o7.length ≤ 1300000000000 := by omega
            have HB7 : Hid (Below w0.heap.size w0 w7) := Lib.hid (HBW.out.trans (HO7.out.below.mono hw0))
            have b7 := HO7.out.kp _ _ _ _ HBX.out (by decide) (by decide)
            have c0 : w7.cell? ⟨hb, 0, none⟩ = some (.slice (some ad) ws.length c) := blk_cell b7 0
            have c2 : w7.cell? ⟨hb, 1, none⟩ = some (.int .i64 top) := blk_cell b7 1
            clear b7 h7l
            go_wp2_with fail
            clear c0 c2
            refine (IH.out r o7 a7 p7 w7 HG.out.1 HG.out.2 HB7.out HO7.out.self l7 (by have := H7L.out; omega) (by omega)).mono ?_
            rintro e w8 ⟨a8, p8, rfl, hs8, l8⟩
            obtain ⟨o8, ho8⟩ : ∃ o, o = showW ws names k r o7 := ⟨_, rfl⟩
            rw [← ho8] at hs8 l8 ⊢
            have HO8 : Hid (OutS B o8 W w8 (.slice a8 o8.length p8)) := Lib.hid (HO7.out.trans hs8)
            have h8b : o8.length ≤ 3000000000000 := by
              have := HL.out r o7 HG.out
              rw [ho8]
              unfold Cmax at this
              omega
            have HFY : Hid (o8 ++ [41] = FIN) := Lib.hid (by rw [ho8, HF7.out]; exact HFX.out)
            clear ho8 hs8
            go_wp2_with (at_builtin; refine app_byte rfl _ _ rfl rfl rfl HO8.out (by omega) ?_; intro o9 a9 p9 w9 HF9 HO9 l9)
            refine Lib.hid ?_
            go_wp2_with fail
            go_ret
            rw [show FIN = o9 from by rw [HF9.out]; exact HFY.out.symm]
            exact ⟨a9, p9, rfl, HO2.out.trans HO9.out, l9⟩
      · have hpf : isPairW ws r = false := by unfold isPairW; simp [h41]
        have HSE : Hid (showL (showW ws names k) ws j r o = showE (showW ws names k) r o) := Lib.hid (showL_other hpf)
        obtain ⟨tg, htg⟩ : ∃ tg, r % 4 = tg := ⟨_, rfl⟩
        have htb : (tg == 1) = false := by rw [← htg]; simpa using h41
        have HTG := Lib.hid htg
        clear hpf h41 htg
        go_wp2_with fail
        refine (tag_calls r tg HTG.out _).mono ?_
        rintro e w5 ⟨rfl, n2, rfl⟩
        obtain ⟨W5, hW5⟩ : ∃ W5, W5 = wr.drewN n2 := ⟨_, rfl⟩
        have HOX : Hid (OutS B o W W5 (.slice a5 o.length p5)) := Lib.hid (by rw [hW5]; exact HR3.out.more (pw_below_drewN (Below.refl _ _) n2))
        rw [← hW5]
        clear hW5 c0 c2
        have b6 := HOX.out.kp _ _ _ _ HBX.out (by decide) (by decide)
        have c0 : W5.cell? ⟨hb, 0, none⟩ = some (.slice (some ad) ws.length c) := blk_cell b6 0
        have c2 : W5.cell? ⟨hb, 1, none⟩ = some (.int .i64 top) := blk_cell b6 1
        clear b6
        by_cases hx3 : r = 3
        · have hb3 : (r != 3) = false := by rw [hx3]; rfl
          have HFX : Hid (o ++ [41] = FIN) := Lib.hid (by rw [← r8]; congr 1; rw [HSE.out]; unfold showE; rw [if_pos hx3])
          clear hx3 r8
          go_wp2_with (at_builtin; refine app_byte rfl _ _ rfl rfl rfl HOX.out (by omega) ?_; intro o9 a9 p9 w9 HF9 HO9 l9)
          refine Lib.hid ?_
          go_wp2_with fail
          go_ret
          rw [show FIN = o9 from by rw [HF9.out]; exact HFX.out.symm]
          exact ⟨a9, p9, rfl, HO2.out.trans HO9.out, l9⟩
        · have hb3 : (r != 3) = true := by simpa using hx3
          have HFX : Hid (showW ws names k r (o ++ [32, 46, 32]) ++ [41] = FIN) := Lib.hid (by rw [← r8]; congr 1; rw [HSE.out]; unfold showE; rw [if_neg hx3])
          clear hx3 r8
          go_wp2_with (at_builtin; refine app_str (s := ⟨#[32, 46, 32]⟩) (t := [32, 46, 32]) rfl _ _ rfl rfl rfl HOX.out (by kernel_rfl) (by simp [ByteArray.size]; omega) ?_; intro o7 a7 p7 w7 HF7 HO7 l7)
          refine Lib.hid ?_
          clear c0 c2
          have h7l : o7.length = o.length + 3 := by rw [HF7.out]; simp
          have H7L : Hid (o7.length = o.length + 3) := Lib.hid h7l
          have h7b : o7.length ≤ 1300000000000 := by omega
          have HB7 : Hid (Below w0.heap.size w0 w7) := Lib.hid (HBW.out.trans (HO7.out.below.mono hw0))
          have b7 := HO7.out.kp _ _ _ _ HBX.out (by decide) (by decide)
          have c0 : w7.cell? ⟨hb, 0, none⟩ = some (.slice (some ad) ws.length c) := blk_cell b7 0
          have c2 : w7.cell? ⟨hb, 1, none⟩ = some (.int .i64 top) := blk_cell b7 1
          clear b7 h7l
          go_wp2_with fail
          clear c0 c2
          refine (IH.out r o7 a7 p7 w7 HG.out.1 HG.out.2 HB7.out HO7.out.self l7 (by have := H7L.out; omega) (by omega)).mono ?_
          rintro e w8 ⟨a8, p8, rfl, hs8, l8⟩
          obtain ⟨o8, ho8⟩ : ∃ o, o = showW ws names k r o7 := ⟨_, rfl⟩
          rw [← ho8] at hs8 l8 ⊢
          have HO8 : Hid (OutS B o8 W w8 (.slice a8 o8.length p8)) := Lib.hid (HO7.out.trans hs8)
          have h8b : o8.length ≤ 3000000000000 := by
            have := HL.out r o7 HG.out
            rw [ho8]
            unfold Cmax at this
            omega
          have HFY : Hid (o8 ++ [41] = FIN) := Lib.hid (by rw [ho8, HF7.out]; exact HFX.out)
          clear ho8 hs8
          go_wp2_with (at_builtin; refine app_byte rfl _ _ rfl rfl rfl HO8.out (by omega) ?_; intro o9 a9 p9 w9 HF9 HO9 l9)
          refine Lib.hid ?_
          go_wp2_with fail
          go_ret
          rw [show FIN = o9 from by rw [HF9.out]; exact HFY.out.symm]
          exact ⟨a9, p9, rfl, HO2.out.trans HO9.out, l9⟩
    · have d1 : decide (o.length < 1000) = false := decide_eq_false hl5
      have d2 : decide ((o.length : Int) < 1000) = false := decide_eq_false (by omega)
      have HSE : Hid (showL (showW ws names k) ws j r o = showE (showW ws names k) r o) := Lib.hid (by
        cases j with
        | zero => rfl
        | succ j => rw [showL, if_neg hl5])
      have HOX := HR3
      have hl6 : 1000 ≤ o.length := by omega
      clear hl5
      by_cases hx3 : r = 3
      · have hb3 : (r != 3) = false := by rw [hx3]; rfl
        have HFX : Hid (o ++ [41] = FIN) := Lib.hid (by rw [← r8]; congr 1; rw [HSE.out]; unfold showE; rw [if_pos hx3])
        clear hx3 r8
        go_wp2_with (at_builtin; refine app_byte rfl _ _ rfl rfl rfl HOX.out (by omega) ?_; intro o9 a9 p9 w9 HF9 HO9 l9)
        refine Lib.hid ?_
        go_wp2_with fail
        go_ret
        rw [show FIN = o9 from by rw [HF9.out]; exact HFX.out.symm]
        exact ⟨a9, p9, rfl, HO2.out.trans HO9.out, l9⟩
      · have hb3 : (r != 3) = true := by simpa using hx3
        have HFX : Hid (showW ws names k r (o ++ [32, 46, 32]) ++ [41] = FIN) := Lib.hid (by rw [← r8]; congr 1; rw [HSE.out]; unfold showE; rw [if_neg hx3])
        clear hx3 r8
        go_wp2_with (at_builtin; refine app_str (s := ⟨#[32, 46, 32]⟩) (t := [32, 46, 32]) rfl _ _ rfl rfl rfl HOX.out (by kernel_rfl) (by simp [ByteArray.size]; omega) ?_; intro o7 a7 p7 w7 HF7 HO7 l7)
        refine Lib.hid ?_
        clear c0 c2
        have h7l : o7.length = o.length + 3 := by rw [HF7.out]; simp
        have H7L : Hid (o7.length = o.length + 3) := Lib.hid h7l
        have h7b : o7.length ≤ 1300000000000 := by omega
        have HB7 : Hid (Below w0.heap.size w0 w7) := Lib.hid (HBW.out.trans (HO7.out.below.mono hw0))
        have b7 := HO7.out.kp _ _ _ _ HBX.out (by decide) (by decide)
        have c0 : w7.cell? ⟨hb, 0, none⟩ = some (.slice (some ad) ws.length c) := blk_cell b7 0
        have c2 : w7.cell? ⟨hb, 1, none⟩ = some (.int .i64 top) := blk_cell b7 1
        clear b7 h7l
        go_wp2_with fail
        clear c0 c2
        refine (IH.out r o7 a7 p7 w7 HG.out.1 HG.out.2 HB7.out HO7.out.self l7 (by have := H7L.out; omega) (by omega)).mono ?_
        rintro e w8 ⟨a8, p8, rfl, hs8, l8⟩
        obtain ⟨o8, ho8⟩ : ∃ o, o = showW ws names k r o7 := ⟨_, rfl⟩
        rw [← ho8] at hs8 l8 ⊢
        have HO8 : Hid (OutS B o8 W w8 (.slice a8 o8.length p8)) := Lib.hid (HO7.out.trans hs8)
        have h8b : o8.length ≤ 3000000000000 := by
          have := HL.out r o7 HG.out
          rw [ho8]
          unfold Cmax at this
          omega
        have HFY : Hid (o8 ++ [41] = FIN) := Lib.hid (by rw [ho8, HF7.out]; exact HFX.out)
        clear ho8 hs8
        go_wp2_with (at_builtin; refine app_byte rfl _ _ rfl rfl rfl HO8.out (by omega) ?_; intro o9 a9 p9 w9 HF9 HO9 l9)
        refine Lib.hid ?_
        go_wp2_with fail
        go_ret
        rw [show FIN = o9 from by rw [HF9.out]; exact HFY.out.symm]
        exact ⟨a9, p9, rfl, HO2.out.trans HO9.out, l9⟩
end Go.Proofs.YtggkkgkjhfgipaaDoor
/- The specification's l2show at vectors; at any word. -/
namespace Go.Proofs.YtggkkgkjhfgipaaDoor
open Go.RowKit Go.Proofs.YtggkkgkjhfgipaaDoor.QFnExactShowWord Go.Proofs.YtggkkgkjhfgipaaDoorW.PrintWords Go.Proofs.YtggkkgkjhfgipaaDoorW.PrintLast Go.Proofs.YtggkkgkjhfgipaaDoorW.PrintMore
set_option linter.unusedVariables false
set_option linter.unusedSimpArgs false
/-- The loop over a vector's parts. -/
def VLt (w0 : World) (ws : List Int) (names : List (List Int)) (B k p n : Nat) (FIN : List Int) (W : World) (v3 : Value) (i : Nat) (wr : World) : Prop :=
  ∃ (o : List Int) (ao : Option Addr) (cap : Nat), v3 = .slice ao o.length cap ∧ OutS B o W wr (.slice ao o.length cap) ∧ o.length ≤ cap ∧ 1000 ≤ o.length + k ∧ o.length ≤ 1200000000000 ∧ showV (showW ws names k) ws p (n - i) i o ++ [41] = FIN
set_option maxHeartbeats 4000000 in
set_option maxRecDepth 100000 in
theorem l2show_vec {w0 : World} {ws : List Int} {top : Int} {L : List (Nat × Nat)} {A : Option Addr} {c : Nat} {names : List (List Int)} {NA : Option Addr} {nc B k : Nat} (h : Cs w0 ws top L A c names NA nc) (hw0 : w0.heap.size ≤ B) (hk9 : k ≤ 1001) (ih : ShowIs w0 ws top L A c names NA nc B k) (x : Int) (hw : wordF (isPlace L) x = true) (hx : InI64 x) (h41 : x % 4 = 1) (hk1 : ws.getD (x / 4).toNat 0 % 4 = 1) (out : List Int) (ao : Option Addr) (cap : Nat) (w : World) (hB : Below w0.heap.size w0 w) (H : OutS B out w w (.slice ao out.length cap)) (hl : out.length < 1000) (hk : 1000 ≤ out.length + (k + 1)) :
    Calls Tryd.prog 28 #[.agg #[.slice A ws.length c, .int .i64 top], .int .i64 x, .slice NA names.length nc, .slice ao out.length cap] w (SPost B (showW ws names (k + 1) x out) w) := by
  rw [showW_vec hl h41 hk1]
  obtain ⟨n, hn⟩ := obj_of h.objs h.valid h.i64 hw h41
  have hgd := hn.good
  have hn1 := hn.le
  have hhn := hn.head
  have hx0 := hn.pos
  have hx1 := hx.2
  have hfit := hn.fits
  have hnn := hn.nn
  have hlen : ws.length ≤ 20000 := (objsF_mem h.objs).1
  have hE : Ext (showW ws names k) := showW_pre ws names k
  have hLn := showW_len h.objs h.valid h.i64 h.short k
  rw [← hn.size]
  obtain ⟨FIN, hF⟩ : ∃ F, F = showV (showW ws names k) ws (x / 4).toNat n 0 (out ++ [35, 40]) ++ [41] := ⟨_, rfl⟩
  rw [← hF]
  have HF := Lib.hid hF
  have IH := Lib.hid ih
  have HX := Lib.hid h
  have HG := Lib.hid hgd
  have HE := Lib.hid hE
  have HL := Lib.hid hLn
  have HO := Lib.hid H
  have HB := Lib.hid hB
  have H4 := Lib.hid h41
  obtain ⟨hd, hhd⟩ : ∃ hd, hd = ws.getD (x / 4).toNat 0 := ⟨_, rfl⟩
  rw [← hhd] at hnn hhn
  have k2 : (hd % 4 == 2) = false := by rw [hhd, hk1]; rfl
  have k3 : (hd % 4 == 3) = false := by rw [hhd, hk1]; rfl
  have k1 : (hd % 4 == 1) = true := by rw [hhd, hk1]; rfl
  have HC : Hid (∀ W, Below w0.heap.size w0 W → ∃ ad, A = some ad ∧ W.cell? (ad.add (x / 4).toNat) = some (.int .i64 hd) ∧ ∀ i : Nat, i < n → W.cell? (ad.add (x / 4 + 1 + (i : Int)).toNat) = some (.int .i64 (fld ws (x / 4).toNat i))) := by
    refine Lib.hid fun W hb => ?_
    obtain ⟨ad, e0, e1⟩ := h.cell hb (x / 4) (by omega) (by omega)
    refine ⟨ad, e0, by rw [hhd]; exact e1, fun i hi => ?_⟩
    obtain ⟨ad', e2, e3⟩ := h.cell hb (x / 4 + 1 + (i : Int)) (by omega) (by omega)
    rw [e0] at e2
    cases e2
    rw [e3]
    unfold fld
    rw [show (x / 4 + 1 + (i : Int)).toNat = (x / 4).toNat + 1 + i by omega]
  obtain ⟨ad, hA, _⟩ := HC.out w hB
  subst hA
  have hu := Tryd.underlying30
  have d0 : decide ((out.length : Int) ≥ 1000) = false := decide_eq_false (by omega)
  have q0 : 0 ≤ x / 4 := by omega
  have q1 : x / 4 + 1 + (n : Int) ≤ (ws.length : Int) := by omega
  have q5 : x / 4 < (ws.length : Int) := by omega
  have wr1 : IntKind.i64.wrap (x / 4 + 1) = x / 4 + 1 := IntWalk.i64_in _ (by omega)
  have WR1 := Lib.hid wr1
  have HHN := Lib.hid hhn
  have hdb : hd ≤ 4003 := by omega
  clear h ih hgd hE hLn H hB h41 hk1 hF hw hx hn hfit hhd wr1 hhn
  go_enter Tryd.func28, Tryd.ntmps28
  go_wp2_with fail
  refine (tag_calls x 1 H4.out _).mono ?_
  rintro e w1 ⟨rfl, n1, rfl⟩
  have hb0 := pw_below_drewN ((Below.refl w.heap.size w).alloc (Nat.le_refl _) (.cells #[.slice (some ad) ws.length c, .int .i64 top] 30)) n1
  obtain ⟨W, hW⟩ : ∃ W, W = (w.alloc (.cells #[.slice (some ad) ws.length c, .int .i64 top] 30)).drewN n1 := ⟨_, rfl⟩
  have b0 : W.heap[w.heap.size]? = some (.cells #[.slice (some ad) ws.length c, .int .i64 top] 30 (0, 0)) := by rw [hW]; exact blk_new w _
  rw [← hW] at hb0 ⊢
  clear hW
  obtain ⟨hb, hhb⟩ : ∃ hb, hb = w.heap.size := ⟨_, rfl⟩
  rw [← hhb] at b0 ⊢
  have HBX := Lib.hid b0
  have HO2 : Hid (OutS B out w W (.slice ao out.length cap)) := Lib.hid (HO.out.more hb0)
  have HBW : Hid (Below w0.heap.size w0 W) := Lib.hid (HB.out.trans (hb0.mono HB.out.size))
  have c0 : W.cell? ⟨hb, 0, none⟩ = some (.slice (some ad) ws.length c) := blk_cell b0 0
  obtain ⟨_, e0, c1, _⟩ := HC.out W HBW.out
  cases e0
  clear hb0 b0 hhb
  have HO3 : Hid (OutS B out W W (.slice ao out.length cap)) := Lib.hid HO2.out.self
  go_wp2_with (at_builtin; refine app_str (s := ⟨#[35, 40]⟩) (t := [35, 40]) rfl _ _ rfl rfl rfl HO3.out (by kernel_rfl) (by simp [ByteArray.size]; omega) ?_; intro o1 a1 p1 w3 HF1 HO4 l4)
  refine Lib.hid ?_
  clear c0 c1
  have h1l : o1.length = out.length + 2 := by rw [HF1.out]; simp
  have H1L : Hid (o1.length = out.length + 2) := Lib.hid h1l
  have hlb1 : o1.length ≤ 1001 := by omega
  have HB3 : Hid (Below w0.heap.size w0 w3) := Lib.hid (HBW.out.trans (HO4.out.below.mono hw0))
  have b3 := HO4.out.kp _ _ _ _ HBX.out (by decide) (by decide)
  have c0 : w3.cell? ⟨hb, 0, none⟩ = some (.slice (some ad) ws.length c) := blk_cell b3 0
  obtain ⟨_, e0, c1, _⟩ := HC.out w3 HB3.out
  cases e0
  have HL0 : Hid (VLt w0 ws names B k (x / 4).toNat n FIN W (.slice a1 o1.length p1) 0 w3) := Lib.hid ⟨o1, a1, p1, rfl, HO4.out, l4, by omega, by omega, by rw [HF1.out]; exact HF.out.symm⟩
  clear b3 h1l
  go_wp2_with fail
  clear c0 c1
  go_loopw [3, 14] (fun v3 v14 wr => ∃ i : Nat, i ≤ n ∧ v14 = .int .i64 i ∧ Hid (VLt w0 ws names B k (x / 4).toNat n FIN W v3 i wr)) (fun _ v14 _ => n - (intOf v14).toNat)
  case atStart => exact ⟨0, Nat.zero_le _, rfl, HL0⟩
  case round =>
    clear HL0 HB3 HO4 H1L HF1 l4 HF hlb1
    obtain ⟨i, hi, rfl, hrel⟩ := hrel
    obtain ⟨o, a5, p5, rfl, r3, r5, r6, r7, r8⟩ := hrel.out
    clear hrel
    have HB5 : Hid (Below w0.heap.size w0 wr) := Lib.hid (HBW.out.trans (r3.below.mono hw0))
    have HR3 := Lib.hid r3
    clear r3
    by_cases hgo : i < n ∧ o.length < 1000
    · obtain ⟨hlt, hl5⟩ := hgo
      have d1 : decide (o.length < 1000) = true := decide_eq_true hl5
      have d2 : decide ((i : Int) < hd / 4) = true := decide_eq_true (by rw [HHN.out]; omega)
      rw [showV_step hlt hl5] at r8
      obtain ⟨y, hy⟩ : ∃ y, y = fld ws (x / 4).toNat i := ⟨_, rfl⟩
      have hgi := HG.out i hlt
      rw [← hy] at hgi r8
      obtain ⟨o6, ho6⟩ : ∃ o6, o6 = if i = 0 then o else o ++ [32] := ⟨_, rfl⟩
      rw [← ho6] at r8
      have HGI := Lib.hid hgi
      have HR8 := Lib.hid r8
      have HY := Lib.hid hy
      have HO6E := Lib.hid ho6
      have HC6 : Hid (∀ W', Below w0.heap.size w0 W' → W'.cell? (ad.add (x / 4 + 1 + (i : Int)).toNat) = some (.int .i64 y)) := Lib.hid (fun W' hb => by
        obtain ⟨ad', e1, _, e2⟩ := HC.out W' hb
        cases e1
        rw [hy]
        exact e2 i hlt)
      have WA : Hid (IntKind.i64.wrap (x / 4 + 1 + (i : Int)) = x / 4 + 1 + (i : Int)) := Lib.hid (IntWalk.i64_in _ (by omega))
      have t0 : 0 ≤ x / 4 + 1 := by omega
      have t1 : 0 ≤ x / 4 + 1 + (i : Int) := by omega
      have t2 : x / 4 + 1 + (i : Int) < (ws.length : Int) := by omega
      clear hgi r8 hy ho6
      by_cases hz : i = 0
      · have HE6 : Hid (o6 = o) := Lib.hid (by rw [HO6E.out, if_pos hz])
        subst hz
        obtain rfl : o6 = o := HE6.out
        have HO6 := HR3
        have HB6 := HB5
        have h6b : o6.length ≤ 1000 := by omega
        have h6k : 1000 ≤ o6.length + k := r6
        have l6 := r5
        have b7 := HO6.out.kp _ _ _ _ HBX.out (by decide) (by decide)
        have c0 : wr.cell? ⟨hb, 0, none⟩ = some (.slice (some ad) ws.length c) := blk_cell b7 0
        have c2 : wr.cell? ⟨hb, 1, none⟩ = some (.int .i64 top) := blk_cell b7 1
        have c1 : wr.cell? (ad.add (x / 4 + 1).toNat) = some (.int .i64 y) := by have := HC6.out wr HB6.out; rwa [show x / 4 + 1 + ((0 : Nat) : Int) = x / 4 + 1 by omega] at this
        clear b7 HE6 HO6E
        have hpos : decide ((0 : Int) < hd / 4) = true := decide_eq_true (by rw [HHN.out]; omega)
        have hpos2 : 0 < hd / 4 := by rw [HHN.out]; omega
        go_wp2_with fail
        have t5 : x / 4 + 1 < (ws.length : Int) := by omega
        have wb := WR1.out
        go_still_tail 11, (by kernel_rfl)
        change wpList _ _ _ _ _ wr.drew
        clear wb c0 c1 c2
        go_wp2_with fail
        refine (IH.out y o6 a5 p5 wr.drew HGI.out.1 HGI.out.2 HB6.out.drew (HO6.out.self.more (Below.refl _ _).drew).self l6 h6k (by omega)).mono ?_
        rintro e w7 ⟨a7, p7, rfl, hs7, l7⟩
        obtain ⟨o7, ho7⟩ : ∃ o, o = showW ws names k y o6 := ⟨_, rfl⟩
        rw [← ho7] at hs7 l7 ⊢
        have HO7 : Hid (OutS B o7 W w7 (.slice a7 o7.length p7)) := Lib.hid ((HO6.out.more (Below.refl wr.heap.size wr).drew).trans hs7)
        have HLE : Hid (o6.length ≤ o7.length ∧ o7.length ≤ 1200000000000) := Lib.hid (by
          rw [ho7]
          refine ⟨(HE.out y o6).length_le, ?_⟩
          have := HL.out y o6 HGI.out
          unfold Cmax at this
          omega)
        have HLN : Hid (VLt w0 ws names B k (x / 4).toNat n FIN W (.slice a7 o7.length p7) (0 + 1) w7) := Lib.hid ⟨o7, a7, p7, rfl, HO7.out, l7, by have := HLE.out; omega, HLE.out.2, by rw [ho7]; exact HR8.out⟩
        clear ho7 hs7
        go_wp2_with fail
        go_roundw
        case rel => exact ⟨0 + 1, by omega, by go_num, HLN⟩
        case measure => simp [intOf]; omega
      · have hz2 : decide (0 < i) = true := decide_eq_true (by omega)
        have HE6 : Hid (o6 = o ++ [32]) := Lib.hid (by rw [HO6E.out, if_neg hz])
        clear hz
        go_wp2_with (at_builtin; refine app_byte rfl _ _ rfl rfl rfl HR3.out (by omega) ?_; intro o66 a6 p6 w6 HF6 HO6 l6)
        refine Lib.hid ?_
        obtain rfl : o66 = o6 := by rw [HF6.out, HE6.out]
        have h6l : o66.length = o.length + 1 := by rw [HF6.out]; simp
        have h6b : o66.length ≤ 1000 := by omega
        have h6k : 1000 ≤ o66.length + k := by omega
        have HB6 : Hid (Below w0.heap.size w0 w6) := Lib.hid (HBW.out.trans (HO6.out.below.mono hw0))
        clear h6l
        have b7 := HO6.out.kp _ _ _ _ HBX.out (by decide) (by decide)
        have c0 : w6.cell? ⟨hb, 0, none⟩ = some (.slice (some ad) ws.length c) := blk_cell b7 0
        have c2 : w6.cell? ⟨hb, 1, none⟩ = some (.int .i64 top) := blk_cell b7 1
        have c1 := HC6.out w6 HB6.out
        clear b7
        go_wp2_with fail
        have wa := WA.out
        have wb := WR1.out
        go_still_tail 11, (by kernel_rfl)
        change wpList _ _ _ _ _ w6.drew
        clear wa wb c0 c1 c2
        go_wp2_with fail
        refine (IH.out y o66 a6 p6 w6.drew HGI.out.1 HGI.out.2 HB6.out.drew (HO6.out.self.more (Below.refl _ _).drew).self l6 h6k (by omega)).mono ?_
        rintro e w7 ⟨a7, p7, rfl, hs7, l7⟩
        obtain ⟨o7, ho7⟩ : ∃ o, o = showW ws names k y o66 := ⟨_, rfl⟩
        rw [← ho7] at hs7 l7 ⊢
        have HO7 : Hid (OutS B o7 W w7 (.slice a7 o7.length p7)) := Lib.hid ((HO6.out.more (Below.refl w6.heap.size w6).drew).trans hs7)
        have HLE : Hid (o66.length ≤ o7.length ∧ o7.length ≤ 1200000000000) := Lib.hid (by
          rw [ho7]
          refine ⟨(HE.out y o66).length_le, ?_⟩
          have := HL.out y o66 HGI.out
          unfold Cmax at this
          omega)
        have HLN : Hid (VLt w0 ws names B k (x / 4).toNat n FIN W (.slice a7 o7.length p7) (i + 1) w7) := Lib.hid ⟨o7, a7, p7, rfl, HO7.out, l7, by have := HLE.out; omega, HLE.out.2, by rw [ho7]; exact HR8.out⟩
        clear ho7 hs7
        go_wp2_with fail
        go_roundw
        case rel => exact ⟨i + 1, by omega, by go_num, HLN⟩
        case measure => simp [intOf]; omega
    · have HFX : Hid (o ++ [41] = FIN) := Lib.hid (by
        rw [← r8]
        congr 1
        by_cases hlt : i < n
        · obtain ⟨d, hd'⟩ : ∃ d, n - i = d + 1 := ⟨n - i - 1, by omega⟩
          rw [hd', showV, if_pos (by omega)]
        · rw [show n - i = 0 by omega]; rfl)
      by_cases hlt : i < n
      · have d1 : decide (o.length < 1000) = false := decide_eq_false (fun h => hgo ⟨hlt, h⟩)
        have d3 : decide ((o.length : Int) < 1000) = false := decide_eq_false (fun h => hgo ⟨hlt, by omega⟩)
        have d2 : decide ((i : Int) < hd / 4) = true := decide_eq_true (by rw [HHN.out]; omega)
        have hl6 : 1000 ≤ o.length := by
          rcases Nat.lt_or_ge o.length 1000 with h | h
          · exact absurd ⟨hlt, h⟩ hgo
          · exact h
        clear hgo hlt r8
        go_wp2_with (at_builtin; refine app_byte rfl _ _ rfl rfl rfl HR3.out (by omega) ?_; intro o9 a9 p9 w9 HF9 HO9 l9)
        refine Lib.hid ?_
        go_wp2_with fail
        go_ret
        rw [show FIN = o9 from by rw [HF9.out]; exact HFX.out.symm]
        exact ⟨a9, p9, rfl, HO2.out.trans HO9.out, l9⟩
      · have d2 : decide ((i : Int) < hd / 4) = false := decide_eq_false (by rw [HHN.out]; omega)
        clear hgo hlt r8
        go_wp2_with (at_builtin; refine app_byte rfl _ _ rfl rfl rfl HR3.out (by omega) ?_; intro o9 a9 p9 w9 HF9 HO9 l9)
        refine Lib.hid ?_
        go_wp2_with fail
        go_ret
        rw [show FIN = o9 from by rw [HF9.out]; exact HFX.out.symm]
        exact ⟨a9, p9, rfl, HO2.out.trans HO9.out, l9⟩
end Go.Proofs.YtggkkgkjhfgipaaDoor
/- The specification's l2show at any word, and its ShowWord. -/
namespace Go.Proofs.YtggkkgkjhfgipaaDoor
open Go.RowKit Go.Proofs.YtggkkgkjhfgipaaDoor.QFnExactShowWord Go.Proofs.YtggkkgkjhfgipaaDoorW.PrintWords Go.Proofs.YtggkkgkjhfgipaaDoorW.PrintLast Go.Proofs.YtggkkgkjhfgipaaDoorW.PrintMore
set_option linter.unusedVariables false
set_option linter.unusedSimpArgs false
theorem word_sym {L : List (Nat × Nat)} {x : Int} (h : wordF (isPlace L) x = true) (h4 : x % 4 = 2) : 0 ≤ x := by
  unfold wordF at h
  rw [if_neg (by omega), if_neg (by omega), if_pos h4] at h
  exact of_decide_eq_true h
theorem word_rare {L : List (Nat × Nat)} {x : Int} (h : wordF (isPlace L) x = true) (h4 : x % 4 = 3) : ∃ j : Nat, j < 5 ∧ x = 4 * j + 3 := by
  unfold wordF at h
  rw [if_neg (by omega), if_neg (by omega), if_neg (by omega)] at h
  simp only [Bool.or_eq_true, beq_iff_eq] at h
  exact ⟨(x / 4).toNat, by omega, by omega⟩
theorem l2show_any {w0 : World} {ws : List Int} {top : Int} {L : List (Nat × Nat)} {A : Option Addr} {c : Nat} {names : List (List Int)} {NA : Option Addr} {nc B : Nat} (h : Cs w0 ws top L A c names NA nc) (hw0 : w0.heap.size ≤ B) : ∀ k, k ≤ 1001 → ShowIs w0 ws top L A c names NA nc B k
  | 0, _ => fun x out ao cap w hw hx hB H hc hk hl => l2show_full (w0 := w0) x default NA names.length nc out ao cap w A ws.length c top H hc (by omega)
  | k + 1, hk9 => fun x out ao cap w hw hx hB H hc hk hl => by
    have ih := l2show_any h hw0 k (by omega)
    by_cases hl5 : 1000 ≤ out.length
    · rw [showW_idle ws names (k + 1) x out hl5]
      exact l2show_full (w0 := w0) x default NA names.length nc out ao cap w A ws.length c top H hc hl5
    have hl6 : out.length < 1000 := by omega
    have hcs : x % 4 = 0 ∨ x % 4 = 2 ∨ x % 4 = 3 ∨ x % 4 = 1 := by omega
    rcases hcs with h4 | h4 | h4 | h4
    · rw [show showW ws names (k + 1) x out = out ++ decI (x / 4) by unfold showW; rw [if_neg hl5, if_pos h4]]
      exact l2show_int (w0 := w0) x hx h4 NA names.length nc out ao cap w A ws.length c top H hl6
    · rw [show showW ws names (k + 1) x out = out ++ symT names (x / 4) by unfold showW; rw [if_neg hl5, if_neg (by omega), if_pos h4]]
      exact l2show_sym h x hx (word_sym hw h4) h4 out ao cap w hB H hl6
    · rw [show showW ws names (k + 1) x out = out ++ rareT x by unfold showW; rw [if_neg hl5, if_neg (by omega), if_neg (by omega), if_pos h4]]
      obtain ⟨j, hj, he⟩ := word_rare hw h4
      exact l2show_rare x j hj he out ao cap w H hl6
    · have hks : ws.getD (x / 4).toNat 0 % 4 = 0 ∨ ws.getD (x / 4).toNat 0 % 4 = 1 ∨ ws.getD (x / 4).toNat 0 % 4 = 2 ∨ ws.getD (x / 4).toNat 0 % 4 = 3 := by omega
      rcases hks with h5 | h5 | h5 | h5
      · exact l2show_pair h hw0 (by omega) ih x hw hx (by unfold isPairW; rw [h4, h5]; rfl) out ao cap w hB H hl6 hk
      · exact l2show_vec h hw0 (by omega) ih x hw hx h4 h5 out ao cap w hB H hl6 hk
      · rw [show showW ws names (k + 1) x out = out ++ cond true procT boxT by unfold showW; rw [if_neg hl5, if_neg (by omega), if_neg (by omega), if_neg (by omega), if_pos h5]; rfl]
        exact l2show_flat h x hw hx h4 true (by rw [h5]; rfl) (fun e => by cases e) out ao cap w hB H hl6
      · rw [show showW ws names (k + 1) x out = out ++ cond false procT boxT by unfold showW; rw [if_neg hl5, if_neg (by omega), if_neg (by omega), if_neg (by omega), if_neg (by omega), if_pos h5]; rfl]
        exact l2show_flat h x hw hx h4 false (by rw [h5]; rfl) (fun _ => h5) out ao cap w hB H hl6
theorem copy_calls (A : Option Addr) (c : Nat) (xs : List Int) (w : World) (hr : Kd.C (Kd.int .u8) w A xs.length xs) (hc : xs.length ≤ c) (hl : xs.length < 140737488355328) : Calls Tryd.prog 29 #[.slice A xs.length c] w fun e w' => ∃ v, e = .returned v ∧ OwnB w.heap.size w' v xs ∧ Below w.heap.size w w' := by
  refine (spec_l1copy.calls A c xs xs w hr hc ?_).mono ?_
  · unfold spec_l1copy.f
    rw [if_pos (by simpa using hl)]
    rfl
  · rintro e w' ⟨v, rfl, hR, hb⟩
    exact ⟨v, rfl, OwnB.of_R hR, hb⟩
/-- A text of the call's own, cut to a thousand bytes. -/
theorem out_own {B cap : Nat} {ao : Option Addr} {o : List Int} {W w : World} (H : OutS B o W w (.slice ao o.length cap)) : OwnB B w (.slice ao (o.take 1000).length cap) (o.take 1000) := by
  obtain ⟨hl, hr⟩ := H.row
  rw [List.length_take]
  rcases hr with ⟨e, h0⟩ | ⟨g, cap', cur, e, hg, hc, hn, hm, hs, ht⟩
  · have ho : o = [] := List.eq_nil_of_length_eq_zero h0
    subst ho
    cases e
    exact Or.inl ⟨rfl, rfl⟩
  · injection e with e1 _ e3
    subst e1 e3
    refine Or.inr ⟨g, cap, cur, (0, 0), by rw [List.length_take], hg, hc, fun i _ => by simp, by rw [List.length_take]; omega, by rw [List.length_take]; omega, fun j p hp => ?_⟩
    rw [List.getElem?_take] at hp
    split at hp
    · have hj : (nums .u8 o)[j]? = some (.int .u8 p) := by simp [nums, hp]
      rw [← ht, List.getElem?_take] at hj
      split at hj
      · simpa using hj
      · cases hj
    · cases hp
theorem own_C {base cap n : Nat} {w : World} {A : Option Addr} {xs : List Int} (h : OwnB base w (.slice A n cap) xs) : n = xs.length ∧ xs.length ≤ cap ∧ Kd.C (Kd.int .u8) w A xs.length xs := by
  obtain ⟨A', c', e, h1, h2⟩ := h.reads
  cases e
  exact ⟨rfl, h1, h2⟩
set_option maxHeartbeats 4000000 in
set_option maxRecDepth 100000 in
theorem specShow_calls (A : Option Addr) (c : Nat) (ws : List Int) (top x : Int) (NA : Option Addr) (nc : Nat) (names : List (List Int)) (w : World) (hr : Kd.C (Kd.int .i64) w A ws.length ws) (hc : ws.length ≤ c) (hx : ∀ x ∈ ws, InI64 x) (hxx : InI64 x)
    (hn : Kd.C (Kd.slice 5 (Kd.int .u8)) w NA names.length names) (hnc : names.length ≤ nc) (hns : ∀ t ∈ names, t.length ≤ 1099511627776) :
    Calls Tryd.prog 7 #[.agg #[.slice A ws.length c, .int .i64 top], .int .i64 x, .slice NA names.length nc] w fun e w' => ∃ v, e = .returned v ∧ OwnB w.heap.size w' v (showX ws top names x) ∧ Below w.heap.size w w' := by
  obtain ⟨k, hk⟩ := SpecVSW.ValidHeap_ev ws top [x] hx (fun y hy => by rw [List.mem_singleton.1 hy]; exact hxx)
  have hev := hk k (Nat.le_refl _)
  rw [specValidHeap_eq] at hev
  have HEV := Lib.hid hev
  have HR := Lib.hid hr
  have HX := Lib.hid hx
  have HXX := Lib.hid hxx
  have HN := Lib.hid hn
  have HNS := Lib.hid hns
  clear hr hx hxx hn hns hk hev
  have hu := Tryd.underlying30
  go_enter Tryd.func7, Tryd.ntmps7
  go_wp2_with fail
  obtain ⟨W, hW⟩ : ∃ W, W = (w.alloc (.cells #[.slice A ws.length c, .int .i64 top] 30)).alloc (.cells #[.int .i64 x] 3) := ⟨_, rfl⟩
  have hbW : Below w.heap.size w W := by rw [hW]; exact ((Below.refl _ _).alloc (Nat.le_refl _) _).alloc (by simp) _
  have e0 : W.heap[w.heap.size]? = some (.cells #[.slice A ws.length c, .int .i64 top] 30 (0, 0)) := by
    rw [hW]
    exact blk_alloc (blk_new w _) _
  have e3 : W.heap[w.heap.size + 1]? = some (.cells #[.int .i64 x] 3 (0, 0)) := by
    rw [hW]
    have := blk_new (w.alloc (.cells #[.slice A ws.length c, .int .i64 top] 30)) (.cells #[.int .i64 x] 3)
    simpa using this
  rw [← hW]
  have HBW := Lib.hid hbW
  have E0 := Lib.hid e0
  have E3 := Lib.hid (one_C e3)
  clear hW hbW e0 e3
  refine (spec_ValidHeap.calls k A c ws top (some ⟨w.heap.size + 1, 0, none⟩) 1 [x] (validF ws top [x]) W (Kd.C_below HR.out HBW.out) hc E3.out (by simp) HEV.out).mono ?_
  rintro e w1 ⟨rfl, hb1⟩
  have HB1 : Hid (Below w.heap.size w w1) := Lib.hid (HBW.out.trans (hb1.mono HBW.out.size))
  have E1 := Lib.hid (blk_below E0.out hb1)
  cases hv : validF ws top [x] with
  | false =>
    have HV : Hid (showX ws top names x = []) := Lib.hid (by unfold showX; rw [if_neg (by rw [hv]; decide)])
    clear hb1 hv
    go_wp2_with fail
    go_ret
    exact ⟨_, rfl, Or.inl ⟨rfl, HV.out⟩, HB1.out⟩
  | true =>
    have HV : Hid (showX ws top names x = (showW ws names 1000 x []).take 1000) := Lib.hid (by unfold showX; rw [if_pos hv])
    obtain ⟨L, hL, hlr, hall, hroot⟩ : ∃ L, objsF ws top = some L ∧ [x].length ≤ 20000 ∧ (∀ q ∈ L, objectAt ws L q = true) ∧ ∀ y ∈ [x], wordF (isPlace L) y = true := by
      unfold validF at hv
      split at hv
      · cases hv
      · rename_i L hL
        rw [Bool.and_eq_true, Bool.and_eq_true, List.all_eq_true, List.all_eq_true] at hv
        exact ⟨L, hL, of_decide_eq_true hv.1, hv.2.1, hv.2.2⟩
    have HC : Hid (Cs w1 ws top L A c names NA nc) := Lib.hid ⟨Kd.C_below HR.out HB1.out, hc, Kd.C_below HN.out HB1.out, hnc, HNS.out, hL, hall, HX.out⟩
    have HWX : Hid (wordF (isPlace L) x = true) := Lib.hid (hroot x (by simp))
    have c0 : w1.cell? ⟨w.heap.size, 0, none⟩ = some (.slice A ws.length c) := blk_cell E1.out 0
    have c1 : w1.cell? ⟨w.heap.size, 1, none⟩ = some (.int .i64 top) := blk_cell E1.out 1
    have HSH := Lib.hid (l2show_any HC.out (Nat.le_refl _) 1000 (by omega))
    have HLN := Lib.hid (showW_len hL hall HX.out HNS.out 1000 x [] ⟨HWX.out, HXX.out⟩)
    clear hb1 hv hL hlr hall hroot
    go_wp2_with fail
    have HN0 : Hid (OutS w1.heap.size [] w1 w1 (.slice none 0 0)) := Lib.hid ⟨World.ownsRow_nil .., Below.refl _ _, Kp.refl _, Nat.le_refl _⟩
    refine (HSH.out x [] none 0 w1 HWX.out HXX.out (Below.refl _ _) HN0.out (Nat.le_refl _) (by simp) (by simp)).mono ?_
    rintro e w2 ⟨ao, cap, rfl, ho2, hc2⟩
    obtain ⟨o, ho⟩ : ∃ o, o = showW ws names 1000 x [] := ⟨_, rfl⟩
    rw [← ho] at ho2 hc2 ⊢
    have hlo : o.length ≤ 1099511700000 := by
      have := HLN.out
      unfold Cmax at this
      rw [ho]
      simp at this
      omega
    have HO := Lib.hid ho2
    have HX2 : Hid (showX ws top names x = o.take 1000) := Lib.hid (by rw [HV.out, ho])
    have HB2 : Hid (Below w.heap.size w w2) := Lib.hid (HB1.out.trans (ho2.below.mono HB1.out.size))
    have HCC := Lib.hid (own_C (out_own ho2)).2
    clear ho2 ho
    obtain ⟨i, hi, hz0, hz1, hz2⟩ := info_parts byteInfo
    by_cases hn : 1000 < o.length
    · have hsl := cut_to (P := Tryd.prog) 28 5 .i64 Tryd.underlying28 hi ao o.length cap 1000 (by omega) (by omega) hc2
      have hni : (1000 : Int) < (o.length : Int) := by omega
      have hni2 : decide ((o.length : Int) > 1000) = true := decide_eq_true hni
      go_wp2_with fail
      have HLT : Hid ((1000 : Nat) = (o.take 1000).length) := Lib.hid (by rw [List.length_take]; omega)
      rw [HLT.out]
      refine (copy_calls ao cap (o.take 1000) w2 HCC.out.2 HCC.out.1 (by rw [List.length_take]; omega)).mono ?_
      rintro e w3 ⟨v, rfl, ho3, hb3⟩
      have HO3 := Lib.hid ho3
      have HB3 := Lib.hid hb3
      clear ho3 hb3
      go_wp2_with fail
      go_ret
      refine ⟨v, rfl, ?_, HB2.out.trans (HB3.out.mono HB2.out.size)⟩
      rw [HX2.out]
      rcases HO3.out with ⟨e, h⟩ | ⟨g, c', cells, fz, e, hg, r⟩
      · exact Or.inl ⟨e, h⟩
      · exact Or.inr ⟨g, c', cells, fz, e, Nat.le_trans HB2.out.size hg, r⟩
    · have hni : ¬ (1000 : Int) < (o.length : Int) := by omega
      have hni2 : decide ((o.length : Int) > 1000) = false := decide_eq_false hni
      go_wp2_with fail
      have HLT : Hid (o.length = (o.take 1000).length) := Lib.hid (by rw [List.length_take]; omega)
      rw [HLT.out]
      refine (copy_calls ao cap (o.take 1000) w2 HCC.out.2 HCC.out.1 (by rw [List.length_take]; omega)).mono ?_
      rintro e w3 ⟨v, rfl, ho3, hb3⟩
      have HO3 := Lib.hid ho3
      have HB3 := Lib.hid hb3
      clear ho3 hb3
      go_wp2_with fail
      go_ret
      refine ⟨v, rfl, ?_, HB2.out.trans (HB3.out.mono HB2.out.size)⟩
      rw [HX2.out]
      rcases HO3.out with ⟨e, h⟩ | ⟨g, c', cells, fz, e, hg, r⟩
      · exact Or.inl ⟨e, h⟩
      · exact Or.inr ⟨g, c', cells, fz, e, Nat.le_trans HB2.out.size hg, r⟩
end Go.Proofs.YtggkkgkjhfgipaaDoor
