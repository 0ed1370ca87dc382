import Derived.Test.YtggkkgkjhfgipaaZQFnAllocx3
import Derived.Test.YtggkkgkjhfgipaaZHeapG
namespace Go.Proofs.Ytggkkgkjhfgipaa.SpecVF
open Go.RowKit Go.Proofs.Ytggkkgkjhfgipaa.QFnAlloc Go.Proofs.YtggkkgkjhfgipaaW.PrintWords Go.Proofs.YtggkkgkjhfgipaaW.PrintLast
set_option linter.unusedVariables false
set_option linter.unusedSimpArgs false
theorem wrap_in {x : Int} (h1 : -9223372036854775808 ≤ x) (h2 : x ≤ 9223372036854775807) : wrap64 x = x := by unfold wrap64; omega
theorem rd_nat (xs : List Int) (n : Nat) : rd xs (n : Int) = xs.getD n 0 := rfl
theorem tag_ev (x : Int) : spec_l2tag.f x = some (x % 4) := by
 unfold spec_l2tag.f
 have h : Int.tmod x 4 = x % 4 ∨ Int.tmod x 4 = x % 4 - 4 ∧ x % 4 ≠ 0 := by
  by_cases h0 : 0 ≤ x
  ·left; exact Int.tmod_eq_emod_of_nonneg h0
  ·have := Int.tmod_eq_emod (a := x) (b := 4)
   split at this <;> simp at this <;> omega
 have hb := Int.emod_nonneg x (show (4 : Int) ≠ 0 by omega)
 have hc := Int.emod_lt_of_pos x (show (0 : Int) < 4 by omega)
 rcases h with h | ⟨h, h'⟩
 ·rw [h, wrap_in (by omega) (by omega), Int.tmod_eq_emod_of_nonneg (by omega)]
  congr 1
  omega
 ·rw [h, wrap_in (by omega) (by omega), Int.tmod_eq_emod_of_nonneg (by omega)]
  congr 1
  omega
theorem word_ev (x : Int) (S : List Bool) (hx : InI64 x) : spec_l2word.f x S = some (wordF (startAt S) x) := by
 obtain ⟨h1, h2⟩ := hx
 unfold spec_l2word.f
 rw [tag_ev]
 simp only [Option.bind_some]
 unfold wordF
 have hc : x % 4 = 0 ∨ x % 4 = 1 ∨ x % 4 = 2 ∨ x % 4 = 3 := by omega
 rcases hc with h | h | h | h
 ·simp only [h, if_true]
 ·have e0 : ¬ (1 : Int) = 0 := by decide
  have e2 : ¬ (1 : Int) = 2 := by decide
  simp only [h, e0, e2, if_true, if_false]
  by_cases h0 : x ≥ 0
  ·have hd : wrap64 (Int.tdiv x 4) = x / 4 := by rw [Int.tdiv_eq_ediv_of_nonneg h0]; exact wrap_in (by omega) (by omega)
   have he : (x - 1) / 4 = x / 4 := by omega
   rw [if_pos h0, hd, he, decide_eq_true h0, Bool.true_and]
   unfold startAt
   by_cases hl : x / 4 < (S.length : Int)
   ·rw [if_pos hl, if_pos (by omega), decide_eq_true (show 0 ≤ x / 4 by omega), Bool.true_and]
    rfl
   ·rw [if_neg hl]
    have : S.getD (x / 4).toNat false = false := by
     rw [List.getD_eq_getElem?_getD, List.getElem?_eq_none (by omega)]
     rfl
    rw [this, Bool.and_false]
  ·rw [if_neg h0, decide_eq_false h0, Bool.false_and]
 ·have e0 : ¬ (2 : Int) = 0 := by decide
  have e1 : ¬ (2 : Int) = 1 := by decide
  simp only [h, e0, e1, if_true, if_false]
 ·have e0 : ¬ (3 : Int) = 0 := by decide
  have e1 : ¬ (3 : Int) = 1 := by decide
  have e2 : ¬ (3 : Int) = 2 := by decide
  simp only [h, e0, e1, e2, if_false]
  by_cases h3 : x ≥ 3
  ·rw [if_pos h3]
   congr 1
   rw [Bool.eq_iff_iff]
   simp
   omega
  ·rw [if_neg h3]
   congr 1
   symm
   rw [Bool.eq_false_iff]
   intro hh
   simp at hh
   omega
theorem headF_big {k n : Int} (h : 1000 < n) : headF k n = false := by
 rw [Bool.eq_false_iff]
 intro hh
 have := headF_le hh (by omega)
 omega
theorem j2_step (k : Nat) (S : List Bool) (x5 q n : Int) (ws : List Int) (top : Int) (hn : n ≤ 1000) (hq : q = 0 ∨ q = 1 ∨ q = 2 ∨ q = 3) :
  spec_l2starts.j2 (k + 1) S x5 q n false ws top = spec_l2starts.j3 k S x5 q n (!headF q n) ws top := by
 simp only [spec_l2starts.j2, Bool.false_eq_true, if_false]
 rcases hq with rfl | rfl | rfl | rfl
 ·by_cases h : n = 2
  ·simp [headF, h]
  ·have hb : (n == 2) = false := by simpa using h
   simp [headF, h, hb]
 ·simp [headF, hn]
 ·by_cases h : n < 1
  ·have h' : ¬ 1 ≤ n := by omega
   simp [headF, h, h']
  ·have h' : 1 ≤ n := by omega
   simp [headF, h, h', hn]
 ·by_cases h : n = 1
  ·simp [headF, h]
  ·have hb : (n == 1) = false := by simpa using h
   simp [headF, h, hb]
theorem specHead_no {ws : List Int} {top p : Nat} (h : headAt ws top p = false) : specHead ws top p = false := by
 unfold specHead
 rw [h, Bool.false_and]
theorem getD_in {ws : List Int} (hx : ∀ x ∈ ws, InI64 x) (p : Nat) : InI64 (ws.getD p 0) := by
 by_cases h : p < ws.length
 ·exact hx _ (getD_mem h)
 ·rw [List.getD_eq_getElem?_getD, List.getElem?_eq_none (by omega)]
  show InI64 0
  unfold InI64
  omega
section
variable (ws : List Int) (top p : Nat) (S : List Bool) (h : Int)
theorem l0_neg (k : Nat) (hp : p < top) (ht : top ≤ ws.length) (hh : ws.getD p 0 = h) (hneg : h < 0) : spec_l2starts.l0 (k + 1) S (p : Int) ws (top : Int) = some ([], false) := by
 have hrd : rd ws (p : Int) = h := (rd_nat ws p).trans hh
 have g1 : (p : Int) < (top : Int) := by omega
 have g2 : (0 : Int) ≤ (p : Int) := by omega
 have g3 : (p : Int) < (ws.length : Int) := by omega
 simp only [spec_l2starts.l0]
 rw [if_pos g1, if_pos g2, if_pos g3, hrd, if_pos hneg]
theorem l0_end (k : Nat) (hp : ¬ p < top) : spec_l2starts.l0 (k + 1) S (p : Int) ws (top : Int) = some (S, true) := by
 have g1 : ¬ (p : Int) < (top : Int) := by omega
 simp only [spec_l2starts.l0]
 rw [if_neg g1]
theorem l0_go (k : Nat) (hp : p < top) (ht : top ≤ ws.length) (hl : ws.length ≤ 20000) (hh : ws.getD p 0 = h) (hneg : ¬ h < 0) (hb : h ≤ 9223372036854775807) :
  spec_l2starts.l0 (k + 1) S (p : Int) ws (top : Int) = spec_l2starts.j2 k S (p : Int) (h % 4) (h / 4) (decide (h / 4 > 1000) || decide ((p : Int) + 1 + h / 4 > (top : Int))) ws (top : Int) := by
 have hrd : rd ws (p : Int) = h := (rd_nat ws p).trans hh
 have g1 : (p : Int) < (top : Int) := by omega
 have g2 : (0 : Int) ≤ (p : Int) := by omega
 have g3 : (p : Int) < (ws.length : Int) := by omega
 have hd : wrap64 (Int.tdiv h 4) = h / 4 := by rw [Int.tdiv_eq_ediv_of_nonneg (by omega)]; exact wrap_in (by omega) (by omega)
 have hm : Int.tmod h 4 = h % 4 := Int.tmod_eq_emod_of_nonneg (by omega)
 simp only [spec_l2starts.l0]
 rw [if_pos g1, if_pos g2, if_pos g3, hrd, if_neg hneg, hd, hm]
 by_cases hbig : h / 4 > 1000
 ·rw [if_pos hbig, decide_eq_true hbig, Bool.true_or]
 ·have hw1 : wrap64 ((p : Int) + 1) = (p : Int) + 1 := wrap_in (by omega) (by omega)
  have hw : wrap64 ((p : Int) + 1 + h / 4) = (p : Int) + 1 + h / 4 := wrap_in (by omega) (by omega)
  rw [if_neg hbig, decide_eq_false hbig, Bool.false_or, hw1, hw]
theorem j2_bad (k : Nat) (q n x : Int) : spec_l2starts.j2 (k + 1) S x q n true ws (top : Int) = some ([], false) := by
 simp only [spec_l2starts.j2, if_true]
theorem j3_bad (k : Nat) (q n x : Int) : spec_l2starts.j3 (k + 1) S x q n true ws (top : Int) = some ([], false) := by
 simp only [spec_l2starts.j3, if_true]
theorem j3_plain (k : Nat) (q n : Int) (hq : ¬ q = 2) (hS : S.length = top) (hp : p < top) (m : Nat) (hm : n = m) (hm1 : m ≤ 1000) (ht : top ≤ 20000) :
  spec_l2starts.j3 (k + 1) S (p : Int) q n false ws (top : Int) = spec_l2starts.l0 k (S.set p true) ((p + 1 + m : Nat) : Int) ws (top : Int) := by
 have g4 : (p : Int) < (S.length : Int) := by omega
 have g2 : (0 : Int) ≤ (p : Int) := by omega
 have hw1 : wrap64 (1 + n) = 1 + n := wrap_in (by omega) (by omega)
 have hw : wrap64 ((p : Int) + (1 + n)) = ((p + 1 + m : Nat) : Int) := by rw [wrap_in (by omega) (by omega)]; omega
 simp only [spec_l2starts.j3, Bool.false_eq_true, if_false]
 rw [if_neg hq, if_pos g2, if_pos g4, hw1, hw, Int.toNat_natCast]
theorem j3_proc (k : Nat) (n : Int) (hS : S.length = top) (hp : p + 1 < top) (m : Nat) (hm : n = m) (hm1 : m ≤ 1000) (ht : top ≤ ws.length) (hl : ws.length ≤ 20000) (y : Int) (hy : ws.getD (p + 1) 0 = y) :
  spec_l2starts.j3 (k + 1) S (p : Int) 2 n false ws (top : Int) = if (decide (0 ≤ y) && y % 4 == 0) = true then spec_l2starts.l0 k (S.set p true) ((p + 1 + m : Nat) : Int) ws (top : Int) else some ([], false) := by
 have g4 : (p : Int) < (S.length : Int) := by omega
 have g2 : (0 : Int) ≤ (p : Int) := by omega
 have g5 : (0 : Int) ≤ ((p + 1 : Nat) : Int) := by omega
 have g6 : ((p + 1 : Nat) : Int) < (ws.length : Int) := by omega
 have hw1 : wrap64 (1 + n) = 1 + n := wrap_in (by omega) (by omega)
 have hw : wrap64 ((p : Int) + (1 + n)) = ((p + 1 + m : Nat) : Int) := by rw [wrap_in (by omega) (by omega)]; omega
 have hw2 : wrap64 ((p : Int) + 1) = ((p + 1 : Nat) : Int) := wrap_in (x := ((p + 1 : Nat) : Int)) (by clear hw hw1; omega) (by clear hw hw1; omega)
 simp only [spec_l2starts.j3, Bool.false_eq_true, if_false, if_true]
 rw [hw2, if_pos g5, if_pos g6, (rd_nat ws (p + 1)).trans hy]
 clear hy hw2
 by_cases hyn : y < 0
 ·have d0 : ¬ 0 ≤ y := by clear hw hw1; omega
  rw [if_pos hyn, decide_eq_false d0, Bool.false_and, if_neg (by decide)]
 ·have d0 : 0 ≤ y := by clear hw hw1; omega
  have hym : Int.tmod y 4 = y % 4 := Int.tmod_eq_emod_of_nonneg d0
  rw [if_neg hyn, hym, decide_eq_true d0, Bool.true_and]
  by_cases hy0 : y % 4 = 0
  ·have hb0 : (y % 4 == 0) = true := by simpa using hy0
   rw [if_pos hy0, if_pos g2, if_pos g4, hw1, hw, Int.toNat_natCast, hb0, if_pos rfl]
  ·rw [if_neg hy0, if_neg (by simpa using hy0)]
end
theorem Ev.const {α : Type} {g : Nat → Option α} {r : α} (h : ∀ k, g (k + 1) = some r) : Ev g r := Ev.step (f := fun _ => some r) h (Ev.now r)
theorem starts_ev (ws : List Int) (top : Nat) (hx : ∀ x ∈ ws, InI64 x) (ht : top ≤ ws.length) (hl : ws.length ≤ 20000) : ∀ (K p : Nat) (S : List Bool), top - p < K → S.length = top →
  Ev (fun k => spec_l2starts.l0 k S (p : Int) ws (top : Int)) (scanned (specScan ws top K p S)) := by
 intro K
 induction K with
 | zero => intro p S h; omega
 | succ K ih =>
  intro p S hK hS
  by_cases hp : p < top
  ·have hin := getD_in hx p
   obtain ⟨h, hh0⟩ : ∃ h, ws.getD p 0 = h := ⟨_, rfl⟩
   rw [hh0] at hin
   have hi2 := hin.2
   have hh := Lib.hid hh0
   clear hh0
   by_cases hneg : h < 0
   ·rw [specScan_no hp (specHead_no (headAt_neg (by rw [hh.out]; exact hneg)))]
    exact Ev.const fun k => l0_neg ws top p S h k hp ht hh.out hneg
   ·have hq : h % 4 = 0 ∨ h % 4 = 1 ∨ h % 4 = 2 ∨ h % 4 = 3 := by omega
    refine Ev.step (fun k => l0_go ws top p S h k hp ht hl hh.out hneg hi2) ?_
    by_cases hbig : h / 4 > 1000
    ·rw [specScan_no hp (specHead_no (headAt_bad (by rw [hh.out]; exact headF_big hbig))), decide_eq_true hbig, Bool.true_or]
     exact Ev.const fun k => j2_bad ws top S k _ _ _
    ·rw [decide_eq_false hbig, Bool.false_or]
     by_cases hfit : p + 1 + (h / 4).toNat ≤ top
     ·have d1 : ¬ (p : Int) + 1 + h / 4 > (top : Int) := by omega
      rw [decide_eq_false d1]
      refine Ev.step (fun k => j2_step k S _ _ _ ws _ (by omega) hq) ?_
      cases hv : headF (h % 4) (h / 4) with
      | false =>
       rw [specScan_no hp (specHead_no (headAt_bad (by rw [hh.out]; exact hv)))]
       exact Ev.const fun k => j3_bad ws top S k _ _ _
      | true =>
       have hat : headAt ws top p = true := headAt_ok (by rw [hh.out]; omega) (by rw [hh.out]; exact hv) (by rw [hh.out]; exact hfit)
       obtain ⟨m, hsz0⟩ : ∃ m, m = sizeAt ws p := ⟨_, rfl⟩
       have hsz : m = (h / 4).toNat := by rw [hsz0]; unfold sizeAt; rw [hh.out]
       have HSZ := Lib.hid hsz0
       clear hsz0
       have hgo := ih (p + 1 + m) (S.set p true) (by omega) (by simpa using hS)
       have hm1 : m ≤ 1000 := by omega
       have hm2 : h / 4 = ((m : Nat) : Int) := by omega
       simp only [Bool.not_true]
       by_cases hk2 : h % 4 = 2
       ·obtain ⟨y, hy0⟩ : ∃ y, ws.getD (p + 1) 0 = y := ⟨_, rfl⟩
        have hy := Lib.hid hy0
        clear hy0
        have hsp : specHead ws top p = (decide (0 ≤ y) && y % 4 == 0) := by
         unfold specHead
         rw [hat, hh.out, hk2, hy.out]
         rfl
        have hn1 : 1 ≤ h / 4 := by
         rw [hk2] at hv
         simp [headF] at hv
         exact hv.1
        rw [hk2]
        cases hb : (decide (0 ≤ y) && y % 4 == 0) with
        | false =>
         rw [specScan_no hp (by rw [hsp, hb])]
         refine Ev.const fun k => ?_
         rw [j3_proc ws top p S k _ hS (by omega) _ hm2 hm1 ht hl y hy.out, hb, if_neg (by decide)]
         rfl
        | true =>
         rw [specScan_yes hp (by rw [hsp, hb]), ← HSZ.out]
         refine Ev.step (fun k => ?_) hgo
         rw [j3_proc ws top p S k _ hS (by omega) _ hm2 hm1 ht hl y hy.out, hb, if_pos rfl]
       ·have hsp : specHead ws top p = true := by
         unfold specHead
         rw [hat, hh.out]
         simp [hk2]
        rw [specScan_yes hp hsp, ← HSZ.out]
        exact Ev.step (fun k => j3_plain ws top p S k _ _ hk2 hS hp _ hm2 hm1 (by omega)) hgo
     ·have d1 : (p : Int) + 1 + h / 4 > (top : Int) := by omega
      rw [specScan_no hp (specHead_no (headAt_big (by rw [hh.out]; exact hfit))), decide_eq_true d1]
      exact Ev.const fun k => j2_bad ws top S k _ _ _
  ·rw [specScan_end hp]
   exact Ev.const fun k => l0_end ws top p S k hp
theorem l2starts_ev (ws : List Int) (top : Int) (hx : ∀ x ∈ ws, InI64 x) : Ev (fun k => spec_l2starts.f k ws top) (scanned (specStarts ws top)) := by
 unfold spec_l2starts.f specStarts
 have hfalse : Ev (fun k => spec_l2starts.j0 k true ws top) (scanned none) := by
  refine Ev.step (f := fun _ => some (([] : List Bool), false)) (fun k => ?_) (Ev.now _)
  simp only [spec_l2starts.j0, if_true]
 by_cases h1 : ws.length > 20000
 ·rw [if_pos h1]
  simp only [if_pos (show (ws.length : Int) > 20000 by omega)]
  exact hfalse
 ·rw [if_neg h1]
  simp only [if_neg (show ¬ (ws.length : Int) > 20000 by omega)]
  by_cases h2 : top < 0
  ·simp only [if_pos h2]
   exact hfalse
  ·simp only [if_neg h2]
   by_cases h3 : top > (ws.length : Int)
   ·rw [if_pos h3, decide_eq_true h3]
    exact hfalse
   ·rw [if_neg h3, decide_eq_false h3]
    obtain ⟨t, rfl⟩ := Int.eq_ofNat_of_zero_le (show 0 ≤ top by omega)
    refine Ev.step (f := fun k => spec_l2starts.l0 k (List.replicate t false) ((0 : Nat) : Int) ws (t : Int)) (fun k => ?_) (starts_ev ws t hx (by omega) (by omega) (t + 1) 0 _ (by omega) (by simp))
    simp only [spec_l2starts.j0, Bool.false_eq_true, if_false]
    rw [if_pos (show (0 : Int) ≤ (t : Int) by omega), if_pos (show (t : Int).toNat ≤ 281474976710656 by omega), Int.toNat_natCast]
    rfl
theorem wrap_up (i : Nat) (h : i ≤ 20000) : wrap64 ((i : Int) + 1) = ((i + 1 : Nat) : Int) := wrap_in (x := ((i + 1 : Nat) : Int)) (by omega) (by omega)
section
variable (ws : List Int) (top i : Nat) (S : List Bool)
theorem vl0_end (k : Nat) (h : ¬ i < ws.length) : spec_l2valid.l0 (k + 1) S (i : Int) ws (top : Int) = some (S, true) := by
 have g1 : ¬ (i : Int) < (ws.length : Int) := by omega
 simp only [spec_l2valid.l0]
 rw [if_neg g1]
theorem vl0_tail (k : Nat) (h : i < ws.length) (ht : ¬ i < top) : spec_l2valid.l0 (k + 1) S (i : Int) ws (top : Int) = spec_l2valid.j1 k S (i : Int) (ws.getD i 0 != 0) ws (top : Int) := by
 have g1 : (i : Int) < (ws.length : Int) := by omega
 have g2 : (i : Int) ≥ (top : Int) := by omega
 have g3 : (0 : Int) ≤ (i : Int) := by omega
 simp only [spec_l2valid.l0]
 rw [if_pos g1, if_pos g2, if_pos g3, rd_nat]
theorem vl0_head (k : Nat) (h : i < ws.length) (ht : i < top) : spec_l2valid.l0 (k + 1) S (i : Int) ws (top : Int) = spec_l2valid.j1 k S (i : Int) false ws (top : Int) := by
 have g1 : (i : Int) < (ws.length : Int) := by omega
 have g2 : ¬ (i : Int) ≥ (top : Int) := by omega
 simp only [spec_l2valid.l0]
 rw [if_pos g1, if_neg g2]
theorem vj1_bad (k : Nat) : spec_l2valid.j1 (k + 1) S (i : Int) true ws (top : Int) = some ([], false) := by
 simp only [spec_l2valid.j1, if_true]
theorem vj1_tail (k : Nat) (hi : i ≤ 20000) (ht : ¬ i < top) : spec_l2valid.j1 (k + 1) S (i : Int) false ws (top : Int) = spec_l2valid.l0 k S ((i + 1 : Nat) : Int) ws (top : Int) := by
 have g2 : ¬ (i : Int) < (top : Int) := by omega
 have hw := wrap_up i hi
 simp only [spec_l2valid.j1, Bool.false_eq_true, if_false]
 rw [if_neg g2, hw]
theorem vj1_head (k : Nat) (hi : i ≤ 20000) (h : i < ws.length) (ht : i < top) (hS : S.length = top) (hx : InI64 (ws.getD i 0)) :
  spec_l2valid.j1 (k + 1) S (i : Int) false ws (top : Int) = if wordAt ws top S i = true then spec_l2valid.l0 k S ((i + 1 : Nat) : Int) ws (top : Int) else some ([], false) := by
 have g1 : (i : Int) < (ws.length : Int) := by omega
 have g2 : (i : Int) < (top : Int) := by omega
 have g3 : (0 : Int) ≤ (i : Int) := by omega
 have g4 : (i : Int) < (S.length : Int) := by omega
 have hw := wrap_up i hi
 have hrd : rdOf false S (i : Int) = S.getD i false := rfl
 simp only [spec_l2valid.j1, Bool.false_eq_true, if_false]
 rw [if_pos g2, if_pos g3, if_pos g4, hrd, hw, if_pos g1, rd_nat, word_ev _ S hx]
 simp only [Option.bind_some]
 unfold wordAt
 rw [if_pos ht]
 cases S.getD i false with
 | true => rw [if_pos rfl, Bool.true_or, if_pos rfl]
 | false =>
  rw [if_neg (by decide), Bool.false_or]
end
theorem l2valid_l0 (ws : List Int) (top : Nat) (S : List Bool) (hx : ∀ x ∈ ws, InI64 x) (hl : ws.length ≤ 20000) (hS : S.length = top) (d : Nat) : ∀ i, ws.length - i = d → i ≤ ws.length →
  Ev (fun k => spec_l2valid.l0 k S (i : Int) ws (top : Int)) (okPair (wordsOk ws top S d i) S) := by
 induction d with
 | zero =>
  intro i hd hi
  exact Ev.const fun k => vl0_end ws top i S k (by omega)
 | succ d ih =>
  intro i hd hi
  have hlt : i < ws.length := by omega
  have hgo := ih (i + 1) (by omega) (by omega)
  simp only [wordsOk]
  by_cases ht : i < top
  ·refine Ev.step (fun k => vl0_head ws top i S k hlt ht) ?_
   cases hw : wordAt ws top S i with
   | true =>
    rw [Bool.true_and]
    refine Ev.step (fun k => ?_) hgo
    rw [vj1_head ws top i S k (by omega) hlt ht hS (getD_in hx i), hw, if_pos rfl]
   | false =>
    rw [Bool.false_and]
    refine Ev.const fun k => ?_
    rw [vj1_head ws top i S k (by omega) hlt ht hS (getD_in hx i), hw, if_neg (by decide)]
    rfl
  ·have hwa : wordAt ws top S i = (ws.getD i 0 == 0) := by unfold wordAt; rw [if_neg ht]
   refine Ev.step (fun k => vl0_tail ws top i S k hlt ht) ?_
   rw [hwa]
   cases hb : (ws.getD i 0 == 0) with
   | true =>
    rw [bne, hb, Bool.true_and]
    exact Ev.step (fun k => vj1_tail ws top i S k (by omega) ht) hgo
   | false =>
    rw [bne, hb, Bool.false_and]
    exact Ev.const fun k => vj1_bad ws top i S k
theorem l2valid_ev (ws : List Int) (top : Int) (hx : ∀ x ∈ ws, InI64 x) : Ev (fun k => spec_l2valid.f k ws top) (specValid ws top) := by
 unfold spec_l2valid.f specValid
 refine Ev.bind (l2starts_ev ws top hx) ?_
 cases hs : specStarts ws top with
 | none =>
  simp only [scanned, Bool.false_eq_true, if_false]
  exact Ev.now _
 | some S =>
  obtain ⟨h1, h2, h3, h4, _⟩ := specStarts_facts hs
  simp only [scanned, if_true]
  obtain ⟨t, rfl⟩ := Int.eq_ofNat_of_zero_le h2
  exact l2valid_l0 ws t S hx h1 h4 ws.length 0 (by omega) (by omega)
theorem roots_l0 (roots : List Int) (S : List Bool) (hx : ∀ x ∈ roots, InI64 x) (hl : roots.length ≤ 20000) (d : Nat) : ∀ i, roots.length - i = d → i ≤ roots.length →
  Ev (fun k => spec_ValidHeap.l0 k roots S (i : Int)) ((roots.drop i).all (wordF (startAt S))) := by
 induction d with
 | zero =>
  intro i hd hi
  have hn : roots.drop i = [] := List.drop_eq_nil_of_le (by omega)
  rw [hn]
  refine Ev.const fun k => ?_
  simp only [spec_ValidHeap.l0]
  rw [if_neg (show ¬ (i : Int) < (roots.length : Int) by omega)]
  rfl
 | succ d ih =>
  intro i hd hi
  have hlt : i < roots.length := by omega
  have hgo := ih (i + 1) (by omega) (by omega)
  have hdr : (roots.drop i).all (wordF (startAt S)) = (wordF (startAt S) (roots.getD i 0) && (roots.drop (i + 1)).all (wordF (startAt S))) := by
   rw [List.drop_eq_getElem_cons hlt, List.all_cons, List.getD_eq_getElem?_getD, List.getElem?_eq_getElem hlt]
   rfl
  have hstep : ∀ k, spec_ValidHeap.l0 (k + 1) roots S (i : Int) = if wordF (startAt S) (roots.getD i 0) = true then spec_ValidHeap.l0 k roots S ((i + 1 : Nat) : Int) else some false := by
   intro k
   have g1 : (i : Int) < (roots.length : Int) := by omega
   have g2 : (0 : Int) ≤ (i : Int) := by omega
   have hw := wrap_up i (by omega)
   simp only [spec_ValidHeap.l0]
   rw [if_pos g1, if_pos g2, rd_nat, word_ev _ S (getD_in hx i), hw]
   rfl
  rw [hdr]
  cases hv : wordF (startAt S) (roots.getD i 0) with
  | true =>
   rw [Bool.true_and]
   refine Ev.step (fun k => ?_) hgo
   rw [hstep, hv, if_pos rfl]
  | false =>
   rw [Bool.false_and]
   refine Ev.const fun k => ?_
   rw [hstep, hv, if_neg (by decide)]
theorem ValidHeap_ev (ws : List Int) (top : Int) (roots : List Int) (hx : ∀ x ∈ ws, InI64 x) (hx2 : ∀ x ∈ roots, InI64 x) : Ev (fun k => spec_ValidHeap.f k ws top roots) (specValidHeap ws top roots) := by
 unfold spec_ValidHeap.f specValidHeap
 refine Ev.bind (l2valid_ev ws top hx) ?_
 have hno : ∀ S, Ev (fun k => spec_ValidHeap.j0 k roots S true) false := fun S => Ev.const fun k => by simp only [spec_ValidHeap.j0, if_true]
 cases hv : (specValid ws top).2 with
 | false =>
  simp only [Bool.false_eq_true, if_false, Bool.false_and]
  exact hno _
 | true =>
  simp only [if_true, Bool.true_and]
  by_cases hl : roots.length ≤ 20000
  ·have d1 : ¬ (roots.length : Int) > 20000 := by omega
   rw [decide_eq_true hl, Bool.true_and, decide_eq_false d1]
   refine Ev.step (f := fun k => spec_ValidHeap.l0 k roots (specValid ws top).1 ((0 : Nat) : Int)) (fun k => ?_) (roots_l0 roots _ hx2 hl roots.length 0 (by omega) (by omega))
   simp only [spec_ValidHeap.j0, Bool.false_eq_true, if_false]
   rfl
  ·have d1 : (roots.length : Int) > 20000 := by omega
   rw [decide_eq_false hl, Bool.false_and, decide_eq_true d1]
   exact hno _
end Go.Proofs.Ytggkkgkjhfgipaa.SpecVF
