import Derived.Test.YtggkkgkjhfgipaaZQFnAllocx8
import Derived.Test.YtggkkgkjhfgipaaZQFnAllocx9
import Derived.Test.YtggkkgkjhfgipaaZSpecAF
import Derived.Test.YtggkkgkjhfgipaaZNewA
namespace Go.Proofs.Ytggkkgkjhfgipaa.SpecDraw
open Go.RowKit Go.Proofs.Ytggkkgkjhfgipaa.QFnAlloc Go.Proofs.YtggkkgkjhfgipaaW.PrintWords Go.Proofs.YtggkkgkjhfgipaaW.PrintLast
set_option linter.unusedVariables false
set_option linter.unusedSimpArgs false
theorem tm (a b : Nat) : Int.tmod (a : Int) (b : Int) = ((a % b : Nat) : Int) := (Int.ofNat_tmod a b).symm
theorem td (a b : Nat) : Int.tdiv (a : Int) (b : Int) = ((a / b : Nat) : Int) := (Int.ofNat_tdiv a b).symm
structure Bytes (ds : List Int) : Prop where
 len : ds.length ≤ 500
 all : ∀ x ∈ ds, 0 ≤ x ∧ x ≤ 255
theorem open_ev {l0 : List Int} (h : ∀ x ∈ l0, 0 ≤ x ∧ x ≤ 255) : ∃ ds, spec_l7open.f l0 = some (ds, 0) ∧ Bytes ds := by
 unfold spec_l7open.f
 by_cases h1 : (l0.length : Int) > 500
 ·rw [if_pos h1, if_pos (by omega)]
  exact ⟨_, rfl, by simp; omega, fun x hx => h x (List.mem_of_mem_take hx)⟩
 ·rw [if_neg h1, if_pos (by omega), if_pos (by omega)]
  exact ⟨_, rfl, by simp; omega, fun x hx => h x (List.mem_of_mem_take hx)⟩
theorem next_ev {ds : List Int} (h : Bytes ds) (i : Nat) (hi : i ≤ 500) : ∃ (b : Nat) (i' : Nat), spec_l7rd_next.f ds (i : Int) = some ((b : Int), (i' : Int)) ∧ b ≤ 255 ∧ i' ≤ 500 := by
 have hl := h.len
 unfold spec_l7rd_next.f
 by_cases h1 : (i : Int) ≥ (ds.length : Int)
 ·rw [if_pos h1]
  exact ⟨0, i, rfl, by omega, hi⟩
 ·rw [if_neg h1, if_pos (by omega), if_pos (by omega)]
  have hb := h.all _ (getD_mem (show i < ds.length by omega))
  refine ⟨(ds.getD i 0).toNat, i + 1, ?_, by omega, by omega⟩
  rw [SpecVF.rd_nat, SpecVF.wrap_in (by omega) (by omega), SpecVF.wrap_up i (by omega), Int.toNat_of_nonneg hb.1]
theorem zeros_laid (N : Nat) (h : N ≤ 300) : Laid (List.replicate N 0) 0 [] := by
 refine ⟨?_, by simp⟩
 rw [objsF_scan (by simp; omega) (Nat.zero_le _)]
 have : scanF (List.replicate N 0) 0 (0 + 1) 0 [] = some [] := by
  simp [scanF]
 rw [this]
 simp
theorem new_ev (b : Nat) (hb : b ≤ 255) : spec_NewHeap.f (wrap64 (10 + (b : Int))) = some (List.replicate (10 + b) 0, 0, 0) := by
 rw [SpecVF.wrap_in (by omega) (by omega)]
 unfold spec_NewHeap.f
 rw [if_neg (by omega), if_neg (by omega), if_pos (by omega), if_pos (by omega)]
 rw [show ((10 : Int) + (b : Int)).toNat = 10 + b by omega]
structure St (N c : Nat) (W H : List Int) (t : Nat) (L : List (Nat × Nat)) : Prop where
 laid : Laid H t L
 len : H.length = N
 cap : N ≤ 300
 ints : ∀ x ∈ H, InI64 x
 low : 8 ≤ W.length
 high : W.length ≤ 8 + c
 words : ∀ x ∈ W, InI64 x
 objs : ∀ i, 8 ≤ i → i < W.length → ∃ p n : Nat, W.getD i 0 = 4 * (p : Int) + 1 ∧ (p, n) ∈ L
theorem St.more {N c : Nat} {W H : List Int} {t : Nat} {L : List (Nat × Nat)} (h : St N c W H t L) : St N (c + 1) W H t L :=
 ⟨h.laid, h.len, h.cap, h.ints, h.low, Nat.le_succ_of_le h.high, h.words, h.objs⟩
theorem rowN_in {ws fs : List Int} {t : Nat} {k : Int} (h1 : ∀ x ∈ ws, InI64 x) (h2 : ∀ x ∈ fs, InI64 x) (hn : fs.length ≤ 1000) (h0 : 0 ≤ k) (h3 : k ≤ 3) : ∀ x ∈ rowN ws t k fs, InI64 x := by
 intro x hx
 unfold rowN at hx
 rcases List.mem_append.1 hx with hx | hx
 ·rcases List.mem_append.1 hx with hx | hx
  ·exact h1 x (List.mem_of_mem_take hx)
  ·rcases List.mem_cons.1 hx with rfl | hx
   ·unfold InI64
    omega
   ·exact h2 x hx
 ·exact h1 x (List.mem_of_mem_drop hx)
theorem headF_small {k : Int} {n : Nat} (h : headF k n = true) : n ≤ 1000 := by
 have := headF_le h (by omega)
 omega
theorem w_minus (n : Nat) (c : Nat) (h : c ≤ n) (hn : n ≤ 20000) : wrap64 ((n : Int) - (c : Int)) = ((n - c : Nat) : Int) := by
 rw [SpecVF.wrap_in (by omega) (by omega)]
 omega
theorem w_minus' {a b : Nat} (h : b ≤ a) (hn : a ≤ 30000) : wrap64 ((a : Int) - (b : Int)) = ((a - b : Nat) : Int) := by
 rw [SpecVF.wrap_in (by omega) (by omega)]
 omega
theorem w_div (v c : Nat) (hv : v ≤ 20000) : wrap64 (Int.tdiv (v : Int) (c : Int)) = ((v / c : Nat) : Int) := by
 have : v / c ≤ v := Nat.div_le_self _ _
 rw [td]
 generalize v / c = q at this ⊢
 exact SpecVF.wrap_in (by omega) (by omega)
theorem l1_go {ds W : List Int} (hW : 8 ≤ W.length) (hW2 : W.length ≤ 100) (n j0 b kd : Int) (H : List Int) (T : Int) (m : Nat) (hm : m ≤ 5) (j : Nat) (xs : List Int) (i i1 v : Nat) (hj : j < m) (hx : xs.length = j) (hn : spec_l7rd_next.f ds (i : Int) = some ((v : Int), (i1 : Int))) (hv : v ≤ 255) :
  ∃ ys : List Int, ys.length = j + 1 ∧ (∀ y ∈ ys, y ∈ xs ∨ y ∈ W) ∧ ∀ k, spec_l7heap.l1 (k + 1) W n j0 b kd (m : Int) xs (j : Int) ds (i : Int) H T = spec_l7heap.l1 k W n j0 b kd (m : Int) ys ((j + 1 : Nat) : Int) ds (i1 : Int) H T := by
 have hlt : v % W.length < W.length := Nat.mod_lt _ (by omega)
 have g1 : W.getD (v % W.length) 0 ∈ W := getD_mem hlt
 have c0 : (j : Int) < (m : Int) := by omega
 have c1 : ¬ (W.length : Int) = 0 := by omega
 have c2 : (0 : Int) ≤ ((v % W.length : Nat) : Int) := Int.natCast_nonneg _
 have c3 : ((v % W.length : Nat) : Int) < (W.length : Int) := by omega
 have c4 : xs.length < 17592186044416 := by omega
 have hlen : (xs ++ [W.getD (v % W.length) 0]).length = j + 1 := by simp [hx]
 have hmem : ∀ x ∈ xs ++ [W.getD (v % W.length) 0], x ∈ xs ∨ x ∈ W := by
  intro x hx'
  rcases List.mem_append.1 hx' with h | h
  ·exact .inl h
  ·rw [List.mem_singleton.1 h]
   exact .inr g1
 by_cases h3 : Int.tmod (v : Int) 3 = 0
 ·by_cases h8 : 8 < W.length
  ·have hlt2 : (v / 3) % (W.length - 8) < W.length - 8 := Nat.mod_lt _ (by omega)
   have g2 : W.getD (W.length - 1 - (v / 3) % (W.length - 8)) 0 ∈ W := getD_mem (by omega)
   refine ⟨(xs ++ [W.getD (v % W.length) 0]).set j (W.getD (W.length - 1 - (v / 3) % (W.length - 8)) 0), by rw [List.length_set]; exact hlen, fun y hy => ?_, fun k => ?_⟩
   ·rcases List.mem_or_eq_of_mem_set hy with h | rfl
    ·exact hmem y h
    ·exact .inr g2
   ·have d1 : (W.length : Int) > 8 := by omega
    have d2 : ¬ ((W.length - 8 : Nat) : Int) = 0 := by omega
    have d3 : (0 : Int) ≤ ((W.length - 1 - (v / 3) % (W.length - 8) : Nat) : Int) := Int.natCast_nonneg _
    have d4 : ((W.length - 1 - (v / 3) % (W.length - 8) : Nat) : Int) < (W.length : Int) := by omega
    have d5 : (0 : Int) ≤ (j : Int) := Int.natCast_nonneg _
    have d6 : (j : Int) < ((xs ++ [W.getD (v % W.length) 0]).length : Int) := by rw [hlen]; omega
    rw [spec_l7heap.l1, if_pos c0, hn, Option.bind_some]
    dsimp only
    rw [if_neg c1, tm, if_pos c2, if_pos c3, if_pos c4, SpecVF.rd_nat, Option.bind_some, if_pos h3, if_pos d1, show wrap64 ((W.length : Int) - 8) = ((W.length - 8 : Nat) : Int) from w_minus W.length 8 hW (by omega), if_neg d2,
     show wrap64 ((W.length : Int) - 1) = ((W.length - 1 : Nat) : Int) from w_minus W.length 1 (by omega) (by omega), show wrap64 (Int.tdiv (v : Int) 3) = ((v / 3 : Nat) : Int) from w_div v 3 (by omega), tm,
     w_minus (W.length - 1) ((v / 3) % (W.length - 8)) (by omega) (by omega), if_pos d3, if_pos d4, if_pos d5, if_pos d6, SpecVF.wrap_up j (by omega), SpecVF.rd_nat, Int.toNat_natCast]
  ·refine ⟨_, hlen, hmem, fun k => ?_⟩
   have d1 : ¬ (W.length : Int) > 8 := by omega
   rw [spec_l7heap.l1, if_pos c0, hn, Option.bind_some]
   dsimp only
   rw [if_neg c1, tm, if_pos c2, if_pos c3, if_pos c4, SpecVF.rd_nat, Option.bind_some, if_pos h3, if_neg d1, SpecVF.wrap_up j (by omega)]
 ·refine ⟨_, hlen, hmem, fun k => ?_⟩
  rw [spec_l7heap.l1, if_pos c0, hn, Option.bind_some]
  dsimp only
  rw [if_neg c1, tm, if_pos c2, if_pos c3, if_pos c4, SpecVF.rd_nat, Option.bind_some, if_neg h3, SpecVF.wrap_up j (by omega)]
section
variable {ds : List Int} (hd : Bytes ds)
include hd
theorem fields_ev {W : List Int} (hW : 8 ≤ W.length) (hW2 : W.length ≤ 100) (n j0 b kd : Int) (H : List Int) (T : Int) (m : Nat) (hm : m ≤ 5) (d : Nat) : ∀ (j : Nat) (xs : List Int) (i : Nat), m - j = d → j ≤ m → xs.length = j → (∀ x ∈ xs, x ∈ W) → i ≤ 500 →
  ∃ (ys : List Int) (i' : Nat), ys.length = m ∧ (∀ y ∈ ys, y ∈ W) ∧ i' ≤ 500 ∧ ∀ r, Ev (fun k => spec_l7heap.l1 k W n j0 b kd (m : Int) ys (m : Int) ds (i' : Int) H T) r → Ev (fun k => spec_l7heap.l1 k W n j0 b kd (m : Int) xs (j : Int) ds (i : Int) H T) r := by
 induction d with
 | zero =>
  intro j xs i hd' hj hx hm2 hi
  obtain rfl : j = m := by omega
  exact ⟨xs, i, hx, hm2, hi, fun r h => h⟩
 | succ d ih =>
  intro j xs i hd' hj hx hm2 hi
  obtain ⟨v, i1, hn, hv, hi1⟩ := next_ev hd i hi
  obtain ⟨zs, hz, hzm, hgo⟩ := l1_go hW hW2 n j0 b kd H T m hm j xs i i1 v (by omega) hx hn hv
  obtain ⟨ys, i', a, b', c, e⟩ := ih (j + 1) zs i1 (by omega) (by omega) hz (fun x hx' => (hzm x hx').elim (hm2 x) id) hi1
  exact ⟨ys, i', a, b', c, fun r h => Ev.step hgo (e r h)⟩
def fsOf (b : Nat) (kd : Int) (ys : List Int) : List Int := if kd = 2 then 4 * ((b / 20 : Nat) : Int) :: ys else ys
omit hd in
theorem try_ev {W : List Int} (hW2 : W.length ≤ 100) (n : Int) (j : Nat) (hj : j ≤ 100) (kd : Int) (H : List Int) (t : Nat) (fs : List Int) (i : Int) (a : List Int × Int × Int × Int) (r : List Int × Int × List Int × Int)
  (ha : Ev (fun k => spec_Alloc.f k H (t : Int) kd fs) a)
  (h : Ev (fun k => if a.2.2.2 = 0 then spec_l7heap.l0 k (W ++ [a.2.2.1]) n ((j + 1 : Nat) : Int) ds i a.1 a.2.1 else spec_l7heap.l0 k W n ((j + 1 : Nat) : Int) ds i H (t : Int)) r) :
  Ev (fun k => spec_l7heap.j4 k W n (j : Int) kd fs ds i H (t : Int)) r := by
 have c2 : W.length < 17592186044416 := by omega
 have hj1 : wrap64 ((j : Int) + 1) = ((j + 1 : Nat) : Int) := SpecVF.wrap_up j (by omega)
 refine Ev.step (fun k => ?_) (Ev.bind (f := fun k (q : List Int × Int × Int × Int) => if q.2.2.2 = 0 then spec_l7heap.l0 k (W ++ [q.2.2.1]) n ((j + 1 : Nat) : Int) ds i q.1 q.2.1 else spec_l7heap.l0 k W n ((j + 1 : Nat) : Int) ds i H (t : Int)) ha h)
 rw [spec_l7heap.j4, hj1]
 congr 1
 funext q
 by_cases hq : q.2.2.2 = 0
 ·rw [if_pos hq, if_pos hq, if_pos c2]
 ·rw [if_neg hq, if_neg hq]
omit hd in
theorem exit_ev {W : List Int} (hW2 : W.length ≤ 100) (n : Int) (j : Nat) (hj : j ≤ 100) (b : Nat) (hb : b ≤ 255) (kd : Int) (H : List Int) (t m : Nat) (ys : List Int) (hy : ys.length = m) (hm : m ≤ 5) (i : Int) (a : List Int × Int × Int × Int) (r : List Int × Int × List Int × Int)
  (ha : Ev (fun k => spec_Alloc.f k H (t : Int) kd (fsOf b kd ys)) a)
  (h : Ev (fun k => if a.2.2.2 = 0 then spec_l7heap.l0 k (W ++ [a.2.2.1]) n ((j + 1 : Nat) : Int) ds i a.1 a.2.1 else spec_l7heap.l0 k W n ((j + 1 : Nat) : Int) ds i H (t : Int)) r) :
  Ev (fun k => spec_l7heap.l1 k W n (j : Int) (b : Int) kd (m : Int) ys (m : Int) ds i H (t : Int)) r := by
 have c1 : ([4 * ((b / 20 : Nat) : Int)] : List Int).length + ys.length < 17592186044416 := by simp; omega
 have hT := try_ev hW2 n j hj kd H t (fsOf b kd ys) i a r ha h
 have e3 : wrap64 (4 * wrap64 (Int.tdiv (b : Int) 20)) = 4 * ((b / 20 : Nat) : Int) := by
  rw [show wrap64 (Int.tdiv (b : Int) 20) = ((b / 20 : Nat) : Int) from w_div b 20 (by omega), SpecVF.wrap_in (by omega) (by omega)]
 by_cases hk : kd = 2
 ·subst hk
  refine Ev.step (fun k => ?_) hT
  rw [spec_l7heap.l1, if_neg (Int.lt_irrefl _), if_pos rfl, Option.bind_some]
  rw [e3, if_pos c1]
  rfl
 ·refine Ev.step (fun k => ?_) hT
  rw [spec_l7heap.l1, if_neg (Int.lt_irrefl _), if_neg hk]
  have ef : ys = fsOf b kd ys := by unfold fsOf; rw [if_neg hk]
  rw [← ef]
omit hd in
theorem St.alloc {N c : Nat} {W H : List Int} {t : Nat} {L : List (Nat × Nat)} (h : St N c W H t L) (kd : Int) (fs : List Int) (hf : ∀ x ∈ fs, InI64 x) :
  ((allocF H t kd fs).2.2.2 = 0 ∧ ∃ t' L', (allocF H t kd fs).2.1 = ((t' : Nat) : Int) ∧ St N (c + 1) (W ++ [(allocF H t kd fs).2.2.1]) (allocF H t kd fs).1 t' L') ∨ ¬ (allocF H t kd fs).2.2.2 = 0 := by
 rcases allocF_cases H t kd fs with ⟨t0, L0, e0, hl, h0, h3, hF, hO, e⟩ | e
 ·obtain rfl : t = t0 := by omega
  obtain rfl : L = L0 := by
   have := h.laid.objs
   rw [hl.objs] at this
   exact (Option.some.inj this).symm
  by_cases hfit : (H.length : Int) < t + 1 + fs.length
  ·right
   rw [e, if_pos hfit]
   simp
  ·left
   rw [e, if_neg hfit]
   have m : Makes H t L kd fs := ⟨h.laid, by omega, h0, h3, hF, hO⟩
   refine ⟨rfl, t + 1 + fs.length, L ++ [(t, fs.length)], by push_cast; rfl, m.new, by rw [rowN_length m.fit]; exact h.len, h.cap, rowN_in h.ints hf (headF_small hF) h0 h3, by simp; have := h.low; omega, by simp; have := h.high; omega, ?_, ?_⟩
   ·intro x hx
    rcases List.mem_append.1 hx with hx | hx
    ·exact h.words x hx
    ·rw [List.mem_singleton.1 hx]
     have := h.len
     have := h.cap
     show InI64 (4 * (t : Int) + 1)
     unfold InI64
     omega
   ·intro i h8 hi
    by_cases hlt : i < W.length
    ·obtain ⟨p, n, e1, e2⟩ := h.objs i h8 hlt
     refine ⟨p, n, ?_, List.mem_append_left _ e2⟩
     rw [List.getD_eq_getElem?_getD, List.getElem?_append_left hlt, ← List.getD_eq_getElem?_getD]
     exact e1
    ·have : i = W.length := by simp at hi; omega
     subst this
     refine ⟨t, fs.length, ?_, by simp⟩
     rw [List.getD_eq_getElem?_getD, List.getElem?_append_right (Nat.le_refl _)]
     simp
 ·right
  rw [e]
  simp
theorem objects_ev (N n : Nat) (hn : n ≤ 15) (d : Nat) : ∀ (j : Nat) (W H : List Int) (t : Nat) (L : List (Nat × Nat)) (i : Nat), n - j = d → j ≤ n → St N j W H t L → i ≤ 500 →
  ∃ (W' H' : List Int) (t' : Nat) (L' : List (Nat × Nat)) (i' : Nat), St N n W' H' t' L' ∧ i' ≤ 500 ∧
   ∀ r, Ev (fun k => spec_l7heap.l2 k W' (n : Int) 0 ds (i' : Int) H' (t' : Int)) r → Ev (fun k => spec_l7heap.l0 k W (n : Int) (j : Int) ds (i : Int) H (t : Int)) r := by
 induction d with
 | zero =>
  intro j W H t L i hd' hj hS hi
  obtain rfl : j = n := by omega
  exact ⟨W, H, t, L, i, hS, hi, fun r h => Ev.step (fun k => by rw [spec_l7heap.l0, if_neg (Int.lt_irrefl _)]) h⟩
 | succ d ih =>
  intro j W H t L i hd' hj hS hi
  have hlow := hS.low
  have hhigh := hS.high
  obtain ⟨b, i1, hnx, hb, hi1⟩ := next_ev hd i hi
  -- the number of fields
  obtain ⟨m, hm, hto⟩ : ∃ m : Nat, m ≤ 5 ∧ ∀ r, Ev (fun k => spec_l7heap.l1 k W (n : Int) (j : Int) (b : Int) (Int.tmod (b : Int) 4) (m : Int) [] ((0 : Nat) : Int) ds (i1 : Int) H (t : Int)) r → Ev (fun k => spec_l7heap.l0 k W (n : Int) (j : Int) ds (i : Int) H (t : Int)) r := by
   have c0 : (j : Int) < (n : Int) := by omega
   have hb5 : b / 4 % 5 ≤ 5 := by omega
   have q1 : wrap64 (Int.tdiv (b : Int) 4) = ((b / 4 : Nat) : Int) := w_div b 4 (by omega)
   have q2 : Int.tmod (((b / 4 : Nat) : Int)) 5 = ((b / 4 % 5 : Nat) : Int) := tm (b / 4) 5
   have hj1 : ∀ (u : Nat), u ≤ 5 → ∃ m : Nat, m ≤ 5 ∧ ∀ r, Ev (fun k => spec_l7heap.l1 k W (n : Int) (j : Int) (b : Int) (Int.tmod (b : Int) 4) (m : Int) [] ((0 : Nat) : Int) ds (i1 : Int) H (t : Int)) r →
     Ev (fun k => spec_l7heap.j1 k W (n : Int) (j : Int) (b : Int) (Int.tmod (b : Int) 4) (u : Int) ds (i1 : Int) H (t : Int)) r := by
    intro u hu
    by_cases h3 : Int.tmod (b : Int) 4 = 3
    ·exact ⟨1, by decide, fun r h => Ev.step (fun k => by rw [spec_l7heap.j1, if_pos h3]) (Ev.step (f := fun k => spec_l7heap.l1 k W (n : Int) (j : Int) (b : Int) (Int.tmod (b : Int) 4) ((1 : Nat) : Int) [] ((0 : Nat) : Int) ds (i1 : Int) H (t : Int)) (fun k => by rw [spec_l7heap.j2]; rfl) h)⟩
    ·exact ⟨u, hu, fun r h => Ev.step (fun k => by rw [spec_l7heap.j1, if_neg h3]) (Ev.step (f := fun k => spec_l7heap.l1 k W (n : Int) (j : Int) (b : Int) (Int.tmod (b : Int) 4) (u : Int) [] ((0 : Nat) : Int) ds (i1 : Int) H (t : Int)) (fun k => by rw [spec_l7heap.j2]; rfl) h)⟩
   by_cases h0 : Int.tmod (b : Int) 4 = 0
   ·obtain ⟨m, hm, e⟩ := hj1 2 (by decide)
    refine ⟨m, hm, fun r h => Ev.step (fun k => ?_) (e r h)⟩
    rw [spec_l7heap.l0, if_pos c0, hnx, Option.bind_some]
    dsimp only
    rw [if_pos h0]
    rfl
   ·obtain ⟨m, hm, e⟩ := hj1 (b / 4 % 5) hb5
    refine ⟨m, hm, fun r h => Ev.step (fun k => ?_) (e r h)⟩
    rw [spec_l7heap.l0, if_pos c0, hnx, Option.bind_some]
    dsimp only
    rw [if_neg h0, q1, q2]
  obtain ⟨ys, i2, hy, hyW, hi2, hto2⟩ := fields_ev hd hlow (by omega) (n : Int) (j : Int) (b : Int) (Int.tmod (b : Int) 4) H (t : Int) m hm m 0 [] i1 (by omega) (by omega) rfl (by simp) hi1
  have hfs : ∀ x ∈ fsOf b (Int.tmod (b : Int) 4) ys, InI64 x := by
   unfold fsOf
   split
   ·intro x hx
    rcases List.mem_cons.1 hx with rfl | hx
    ·unfold InI64
     omega
    ·exact hS.words x (hyW x hx)
   ·exact fun x hx => hS.words x (hyW x hx)
  have hA := SpecAF.Alloc_ev H (t : Int) (Int.tmod (b : Int) 4) (fsOf b (Int.tmod (b : Int) 4) ys) hS.ints hfs
  rcases hS.alloc (Int.tmod (b : Int) 4) _ hfs with ⟨hz, t', L', ht', hS'⟩ | hz
  ·obtain ⟨W'', H'', t'', L'', i'', a1, a2, a3⟩ := ih (j + 1) _ _ t' L' i2 (by omega) (by omega) hS' hi2
   refine ⟨W'', H'', t'', L'', i'', a1, a2, fun r h => hto r (hto2 r (exit_ev (by omega) (n : Int) j (by omega) b hb _ H t m ys hy hm (i2 : Int) _ r hA ?_))⟩
   simp only [if_pos hz, ht']
   exact a3 r h
  ·obtain ⟨W'', H'', t'', L'', i'', a1, a2, a3⟩ := ih (j + 1) W H t L i2 (by omega) (by omega) hS.more hi2
   refine ⟨W'', H'', t'', L'', i'', a1, a2, fun r h => hto r (hto2 r (exit_ev (by omega) (n : Int) j (by omega) b hb _ H t m ys hy hm (i2 : Int) _ r hA ?_))⟩
   simp only [if_neg hz]
   exact a3 r h
end
theorem zeros_at (N : Nat) (h : N ≤ 300) : St N 0 [4, -8, 3, 11, 2, 10, 15, 19] (List.replicate N 0) 0 [] := by
 refine ⟨zeros_laid N h, by simp, h, ?_, by simp, by simp, ?_, ?_⟩
 ·intro x hx
  rw [List.eq_of_mem_replicate hx]
  unfold InI64
  omega
 ·intro x hx
  unfold InI64
  simp only [List.mem_cons, List.not_mem_nil, or_false] at hx
  omega
 ·intro i h8 hi
  simp at hi
  omega
structure Led (H0 H : List Int) (L : List (Nat × Nat)) : Prop where
 len : H.length = H0.length
 heads : ∀ q ∈ L, H.getD q.1 0 = H0.getD q.1 0
 ints : ∀ x ∈ H, InI64 x
theorem Led.start {H0 : List Int} {L : List (Nat × Nat)} (h : ∀ x ∈ H0, InI64 x) : Led H0 H0 L := ⟨rfl, fun _ _ => rfl, h⟩
theorem Led.put {H0 H : List Int} {t : Nat} {L : List (Nat × Nat)} (h : Led H0 H L) (hl : Laid H0 t L) {p n : Nat} (hp : (p, n) ∈ L) (hn : 1 ≤ n) {x : Int} (hx : InI64 x) : Led H0 (H.set (p + 1) x) L := by
 have hT : Tiles t L := by
  have ho := hl.objs
  have hm := objsF_mem ho
  rw [objsF_scan hm.1 (by omega)] at ho
  cases hs : scanF H0 t (t + 1) 0 [] with
  | none => rw [hs] at ho; cases ho
  | some L' =>
   rw [hs] at ho
   simp only at ho
   split at ho
   ·cases ho
    exact scanF_tiles (t + 1) 0 [] L (Nat.zero_le _) Tiles.nil hs
   ·cases ho
 refine ⟨by rw [List.length_set]; exact h.len, fun q hq => ?_, fun y hy => ?_⟩
 ·have hne : ¬ p + 1 = q.1 := by
   intro e
   have := hT.apart (p, n) hp q hq (by simp; omega)
   simp at this
   omega
  rw [List.getD_eq_getElem?_getD, List.getElem?_set_ne hne, ← List.getD_eq_getElem?_getD]
  exact h.heads q hq
 ·rcases List.mem_or_eq_of_mem_set hy with h' | rfl
  ·exact h.ints y h'
  ·exact hx
section
variable {ds : List Int} (hd : Bytes ds)
include hd
theorem led_ev {N c : Nat} {W H0 : List Int} {t : Nat} {L : List (Nat × Nat)} (hS : St N c W H0 t L) (hc : c ≤ 50) (n : Nat) (hn : n ≤ 15) (d : Nat) : ∀ (j : Nat) (H : List Int) (i : Nat), n / 3 - j = d → j ≤ n / 3 → Led H0 H L → i ≤ 500 →
  ∃ (H' : List Int) (i' : Nat), Led H0 H' L ∧ i' ≤ 500 ∧ Ev (fun k => spec_l7heap.l2 k W (n : Int) (j : Int) ds (i : Int) H (t : Int)) (H', (t : Int), W, (i' : Int)) := by
 have hlow := hS.low
 have hhigh := hS.high
 have hn3 : n / 3 ≤ 15 := by omega
 induction d with
 | zero =>
  intro j H i hd' hj hL hi
  obtain rfl : j = n / 3 := by omega
  refine ⟨H, i, hL, hi, SpecVF.Ev.const fun k => ?_⟩
  rw [spec_l7heap.l2, show wrap64 (Int.tdiv (n : Int) 3) = ((n / 3 : Nat) : Int) from w_div n 3 (by omega), if_neg (Int.lt_irrefl _)]
 | succ d ih =>
  intro j H i hd' hj hL hi
  have c0 : (j : Int) < ((n / 3 : Nat) : Int) := by omega
  by_cases h8 : 8 < W.length
  ·obtain ⟨v, i1, hnx, hv, hi1⟩ := next_ev hd i hi
   have d1 : (W.length : Int) > 8 := by omega
   have d2 : ¬ ((W.length - 8 : Nat) : Int) = 0 := by omega
   have hlt : v % (W.length - 8) < W.length - 8 := Nat.mod_lt _ (by omega)
   have hat : 8 + v % (W.length - 8) < W.length := by omega
   obtain ⟨p, m, hw, hp⟩ := hS.objs (8 + v % (W.length - 8)) (by omega) hat
   have hso : m = sizeAt H0 p := ((objsF_mem hS.laid.objs).2.2.2 (p, m) hp).2
   have hfit := obj_fits hS.laid.objs (p := p) (by rw [← hso]; exact hp)
   have htl : t ≤ H0.length := by have := (objsF_mem hS.laid.objs).2.2.1; omega
   have hcap := hS.cap
   have hN := hS.len
   have hlen := hL.len
   have hhd : H.getD p 0 = H0.getD p 0 := hL.heads (p, m) hp
   have d3 : (0 : Int) ≤ ((8 + v % (W.length - 8) : Nat) : Int) := Int.natCast_nonneg _
   have d4 : ((8 + v % (W.length - 8) : Nat) : Int) < (W.length : Int) := by omega
   have hp1 : p + 1 + sizeAt H0 p ≤ t := by have := hfit.2.2.1; simpa using this
   have d5 : (0 : Int) ≤ (p : Int) := Int.natCast_nonneg _
   have d6 : (p : Int) < (H.length : Int) := by omega
   have d7 : (0 : Int) ≤ ((W.length - 1 : Nat) : Int) := Int.natCast_nonneg _
   have d8 : ((W.length - 1 : Nat) : Int) < (W.length : Int) := by omega
   have d9 : (0 : Int) ≤ ((p + 1 : Nat) : Int) := Int.natCast_nonneg _
   have x1 : InI64 (W.getD (W.length - 1) 0) := hS.words _ (getD_mem (by omega))
   have hj1 : j ≤ 20000 := by omega
   have hp20 : p ≤ 20000 := by omega
   have hmod : v % (W.length - 8) ≤ 20000 := by omega
   have e0 : wrap64 ((W.length : Int) - 8) = ((W.length - 8 : Nat) : Int) := w_minus W.length 8 hlow (by omega)
   have e1 : wrap64 (8 + Int.tmod (v : Int) ((W.length - 8 : Nat) : Int)) = ((8 + v % (W.length - 8) : Nat) : Int) := by
    clear e0
    rw [tm]
    generalize v % (W.length - 8) = q at hmod ⊢
    rw [SpecVF.wrap_in (by omega) (by omega)]
    omega
   have e2 : wrap64 (Int.tdiv (W.getD (8 + v % (W.length - 8)) 0) 4) = (p : Int) := by
    clear e0 e1
    rw [hw, show (4 * (p : Int) + 1) = ((4 * p + 1 : Nat) : Int) by omega, show Int.tdiv ((4 * p + 1 : Nat) : Int) 4 = (((4 * p + 1) / 4 : Nat) : Int) from td (4 * p + 1) 4, show (4 * p + 1) / 4 = p by omega, SpecVF.wrap_in (by omega) (by omega)]
   have e3 : wrap64 ((p : Int) + 1) = ((p + 1 : Nat) : Int) := SpecVF.wrap_up p hp20
   have e4 : wrap64 ((W.length : Int) - 1) = ((W.length - 1 : Nat) : Int) := w_minus W.length 1 (Nat.le_trans (by decide) hlow) (by clear e0 e1 e2 e3; omega)
   have e5 : wrap64 ((j : Int) + 1) = ((j + 1 : Nat) : Int) := SpecVF.wrap_up j hj1
   have e6 : wrap64 (Int.tdiv (n : Int) 3) = ((n / 3 : Nat) : Int) := w_div n 3 (Nat.le_trans hn (by decide))
   have hgo : ∀ k, spec_l7heap.l2 (k + 1) W (n : Int) (j : Int) ds (i : Int) H (t : Int) = if H.getD p 0 = 8 ∨ Int.tmod (H.getD p 0) 4 = 3 then
     (if ((p + 1 : Nat) : Int) < (H.length : Int) then spec_l7heap.l2 k W (n : Int) ((j + 1 : Nat) : Int) ds (i1 : Int) (H.set (p + 1) (W.getD (W.length - 1) 0)) (t : Int) else none) else spec_l7heap.l2 k W (n : Int) ((j + 1 : Nat) : Int) ds (i1 : Int) H (t : Int) := by
    intro k
    rw [spec_l7heap.l2, e6, if_pos c0, if_pos d1, hnx, Option.bind_some]
    dsimp only
    rw [e0, if_neg d2, e1, if_pos d3, if_pos d4, SpecVF.rd_nat, e2, if_pos d5, if_pos d6, SpecVF.rd_nat, e4, e3, e5]
    by_cases q1 : H.getD p 0 = 8
    ·rw [if_pos q1, if_pos d7, if_pos d8, if_pos d9, if_pos (Or.inl q1), SpecVF.rd_nat, Int.toNat_natCast]
    ·rw [if_neg q1]
     by_cases q2 : Int.tmod (H.getD p 0) 4 = 3
     ·rw [if_pos q2, if_pos d7, if_pos d8, if_pos d9, if_pos (Or.inr q2), SpecVF.rd_nat, Int.toNat_natCast]
     ·rw [if_neg q2, if_neg (fun e => e.elim q1 q2)]
   clear e0 e1 e2 e3 e4 e5 e6
   by_cases q : H.getD p 0 = 8 ∨ Int.tmod (H.getD p 0) 4 = 3
   ·have h0 : 0 ≤ H0.getD p 0 := hfit.1
    have hsz : H0.getD p 0 / 4 = sizeAt H0 p := hfit.2.1
    have hone : 1 ≤ m := by
     rw [hhd] at q
     have hq : H0.getD p 0 = 8 ∨ H0.getD p 0 % 4 = 3 := by
      rcases q with q | q
      ·exact .inl q
      ·rw [Int.tmod_eq_emod_of_nonneg h0] at q
       exact .inr q
     rcases hq with hq | hq
     ·omega
     ·have hh := ((objsF_mem hS.laid.objs).2.2.2 (p, m) hp).1
      unfold headAt at hh
      simp only [Bool.and_eq_true] at hh
      have h2 := hh.2.1
      rw [hq, hsz] at h2
      simp [headF] at h2
      omega
    have hin : ((p + 1 : Nat) : Int) < (H.length : Int) := by omega
    obtain ⟨H', i', a, b, e⟩ := ih (j + 1) (H.set (p + 1) (W.getD (W.length - 1) 0)) i1 (by omega) (by omega) (hL.put hS.laid hp hone x1) hi1
    exact ⟨H', i', a, b, Ev.step (fun k => by rw [hgo k, if_pos q, if_pos hin]) e⟩
   ·obtain ⟨H', i', a, b, e⟩ := ih (j + 1) H i1 (by omega) (by omega) hL hi1
    exact ⟨H', i', a, b, Ev.step (fun k => by rw [hgo k, if_neg q]) e⟩
  ·obtain ⟨H', i', a, b, e⟩ := ih (j + 1) H i (by omega) (by omega) hL hi
   have d1 : ¬ (W.length : Int) > 8 := by omega
   refine ⟨H', i', a, b, Ev.step (fun k => ?_) e⟩
   rw [spec_l7heap.l2, show wrap64 (Int.tdiv (n : Int) 3) = ((n / 3 : Nat) : Int) from w_div n 3 (by omega), if_pos c0, if_neg d1, SpecVF.wrap_up j (by omega)]
theorem heap_ev (i : Nat) (hi : i ≤ 500) : ∃ (H W : List Int) (t i' : Nat), H.length ≤ 300 ∧ t ≤ 300 ∧ (∀ x ∈ H, InI64 x) ∧ 8 ≤ W.length ∧ W.length ≤ 100 ∧ (∀ x ∈ W, InI64 x) ∧ i' ≤ 500 ∧ Ev (fun k => spec_l7heap.f k ds (i : Int)) (H, (t : Int), W, (i' : Int)) := by
 obtain ⟨b, i1, h1, hb, hi1⟩ := next_ev hd i hi
 obtain ⟨c, i2, h2, hc, hi2⟩ := next_ev hd i1 hi1
 have hn : c % 16 ≤ 15 := by omega
 obtain ⟨W, H0, t, L, i3, hS, hi3, hto⟩ := objects_ev hd (10 + b) (c % 16) hn (c % 16) 0 [4, -8, 3, 11, 2, 10, 15, 19] (List.replicate (10 + b) 0) 0 [] i2 (by omega) (by omega) (zeros_at (10 + b) (by omega)) hi2
 obtain ⟨H, i4, hL, hi4, he⟩ := led_ev hd hS (by omega) (c % 16) hn (c % 16 / 3) 0 H0 i3 (by omega) (by omega) (Led.start hS.ints) hi3
 have hlen := hS.len
 have hcap := hS.cap
 have htl := (objsF_mem hS.laid.objs).2.2.1
 have hhigh := hS.high
 refine ⟨H, W, t, i4, by rw [hL.len]; omega, by omega, hL.ints, hS.low, by omega, hS.words, hi4, ?_⟩
 have := hto _ he
 refine Ev.congr (fun k => ?_) this
 unfold spec_l7heap.f
 rw [h1, Option.bind_some]
 dsimp only
 rw [new_ev b hb, Option.bind_some, h2, Option.bind_some]
 dsimp only
 rw [show Int.tmod (c : Int) 16 = ((c % 16 : Nat) : Int) from tm c 16]
 rfl
omit hd in
theorem cap_lt {xs : List Int} (h : xs.length ≤ 30000) : xs.length < 17592186044416 := Nat.lt_of_le_of_lt h (by decide)
theorem roots_l0 {W : List Int} (hW : 8 ≤ W.length) (hW2 : W.length ≤ 100) (n : Nat) (hn : n ≤ 5) (d : Nat) : ∀ (j : Nat) (xs : List Int) (i : Nat), n - j = d → j ≤ n → xs.length = j → (∀ x ∈ xs, x ∈ W) → i ≤ 500 →
  ∃ (ys : List Int) (i' : Nat), ys.length = n ∧ (∀ y ∈ ys, y ∈ W) ∧ i' ≤ 500 ∧ Ev (fun k => spec_l7roots.l0 k W xs (n : Int) (j : Int) ds (i : Int)) (ys, (i' : Int)) := by
 induction d with
 | zero =>
  intro j xs i hd' hj hx hm hi
  obtain rfl : j = n := by omega
  exact ⟨xs, i, hx, hm, hi, SpecVF.Ev.const fun k => by rw [spec_l7roots.l0, if_neg (Int.lt_irrefl _)]⟩
 | succ d ih =>
  intro j xs i hd' hj hx hm hi
  obtain ⟨v, i1, hnx, hv, hi1⟩ := next_ev hd i hi
  have hlt : v % W.length < W.length := Nat.mod_lt _ (by omega)
  have hmod : v % (W.length - 8) ≤ v := Nat.mod_le _ _
  have c0 : (j : Int) < (n : Int) := by omega
  have c1 : ¬ (W.length : Int) = 0 := by omega
  have c2 : (0 : Int) ≤ ((v % W.length : Nat) : Int) := Int.natCast_nonneg _
  have c3 : ((v % W.length : Nat) : Int) < (W.length : Int) := by omega
  have c4 : xs.length < 17592186044416 := cap_lt (by omega)
  have hj1 : j ≤ 20000 := by omega
  have hgo : ∃ z, z ∈ W ∧ ∀ k, spec_l7roots.l0 (k + 1) W xs (n : Int) (j : Int) ds (i : Int) = spec_l7roots.l0 k W (xs ++ [z]) (n : Int) ((j + 1 : Nat) : Int) ds (i1 : Int) := by
   have plain : (¬ (Int.tmod (v : Int) 3 > 0 ∧ (W.length : Int) > 8)) → ∀ k, spec_l7roots.l0 (k + 1) W xs (n : Int) (j : Int) ds (i : Int) = spec_l7roots.l0 k W (xs ++ [W.getD (v % W.length) 0]) (n : Int) ((j + 1 : Nat) : Int) ds (i1 : Int) := by
    intro hq k
    rw [spec_l7roots.l0, if_pos c0, hnx, Option.bind_some]
    dsimp only
    by_cases q1 : Int.tmod (v : Int) 3 > 0
    ·have q2 : ¬ (W.length : Int) > 8 := fun e => hq ⟨q1, e⟩
     rw [if_pos q1, if_neg q2, if_neg c1, tm, if_pos c2, if_pos c3, if_pos c4, SpecVF.rd_nat, SpecVF.wrap_up j hj1]
    ·rw [if_neg q1, if_neg c1, tm, if_pos c2, if_pos c3, if_pos c4, SpecVF.rd_nat, SpecVF.wrap_up j hj1]
   by_cases q1 : Int.tmod (v : Int) 3 > 0 ∧ (W.length : Int) > 8
   ·have h8 : 8 < W.length := by have := q1.2; omega
    have d2 : ¬ ((W.length - 8 : Nat) : Int) = 0 := by omega
    have hlt2 : v % (W.length - 8) < W.length - 8 := Nat.mod_lt _ (by omega)
    have d3 : (0 : Int) ≤ ((8 + v % (W.length - 8) : Nat) : Int) := Int.natCast_nonneg _
    have d4 : ((8 + v % (W.length - 8) : Nat) : Int) < (W.length : Int) := by omega
    have hmod2 : v % (W.length - 8) ≤ 20000 := by omega
    have e0 : wrap64 ((W.length : Int) - 8) = ((W.length - 8 : Nat) : Int) := w_minus W.length 8 hW (by omega)
    have e1 : wrap64 (8 + Int.tmod (v : Int) ((W.length - 8 : Nat) : Int)) = ((8 + v % (W.length - 8) : Nat) : Int) := by
     clear e0
     rw [tm]
     generalize v % (W.length - 8) = q at hmod2 ⊢
     rw [SpecVF.wrap_in (by omega) (by omega)]
     omega
    refine ⟨W.getD (8 + v % (W.length - 8)) 0, getD_mem (by clear e0 e1; omega), fun k => ?_⟩
    rw [spec_l7roots.l0, if_pos c0, hnx, Option.bind_some]
    dsimp only
    rw [if_pos q1.1, if_pos q1.2, e0, if_neg d2, e1, if_pos d3, if_pos d4, if_pos c4, SpecVF.rd_nat, SpecVF.wrap_up j hj1]
   ·exact ⟨_, getD_mem hlt, plain q1⟩
  obtain ⟨z, hz, hgo⟩ := hgo
  obtain ⟨ys, i', a, b, c, e⟩ := ih (j + 1) (xs ++ [z]) i1 (by omega) (by omega) (by simp [hx]) (fun x hx' => by
   rcases List.mem_append.1 hx' with h | h
   ·exact hm x h
   ·rw [List.mem_singleton.1 h]; exact hz) hi1
  exact ⟨ys, i', a, b, c, Ev.step hgo e⟩
theorem roots_ev {W : List Int} (hW : 8 ≤ W.length) (hW2 : W.length ≤ 100) (i : Nat) (hi : i ≤ 500) :
  ∃ (ys : List Int) (i' : Nat), ys.length ≤ 5 ∧ (∀ y ∈ ys, y ∈ W) ∧ i' ≤ 500 ∧ Ev (fun k => spec_l7roots.f k ds (i : Int) W) (ys, (i' : Int)) := by
 obtain ⟨v, i1, hnx, hv, hi1⟩ := next_ev hd i hi
 have hn : v % 6 ≤ 5 := by omega
 obtain ⟨ys, i', a, b, c, e⟩ := roots_l0 hd hW hW2 (v % 6) hn (v % 6) 0 [] i1 (by omega) (by omega) rfl (by simp) hi1
 refine ⟨ys, i', by omega, b, c, Ev.congr (fun k => ?_) e⟩
 unfold spec_l7roots.f
 rw [hnx, Option.bind_some]
 dsimp only
 rw [show Int.tmod (v : Int) 6 = ((v % 6 : Nat) : Int) from tm v 6]
 rfl
theorem spoil_ev {H : List Int} (hH : H.length ≤ 300) (hx : ∀ x ∈ H, InI64 x) (t : Nat) (ht : t ≤ 300) (i : Nat) (hi : i ≤ 500) :
  ∃ (H' : List Int) (T : Int) (i' : Int), H'.length ≤ 20001 ∧ -1 ≤ T ∧ T ≤ 301 ∧ (∀ x ∈ H', InI64 x) ∧ spec_l7spoilHeap.f H (t : Int) ds (i : Int) = some (H', T, i') := by
 obtain ⟨a, i1, h1, ha, hi1⟩ := next_ev hd i hi
 obtain ⟨v, i2, h2, hv, hi2⟩ := next_ev hd i1 hi1
 obtain ⟨u, i3, h3, hu, hi3⟩ := next_ev hd i2 hi2
 have w1 : wrap64 ((t : Int) + 1) = (t : Int) + 1 := SpecVF.wrap_in (by omega) (by omega)
 have w2 : wrap64 (-(u : Int)) = -(u : Int) := SpecVF.wrap_in (by omega) (by omega)
 have b0 : (0 : Int) ≤ 0 := Int.le_refl _
 have hm2 : Int.tmod (v : Int) 2 = ((v % 2 : Nat) : Int) := tm v 2
 have w3 : wrap64 (20000 + Int.tmod (v : Int) 2) = ((20000 + v % 2 : Nat) : Int) := by clear w1 w2; rw [hm2, SpecVF.wrap_in (by omega) (by omega)]; omega
 have w4 : wrap64 (((20000 + v % 2 : Nat) : Int) - (H.length : Int)) = ((20000 + v % 2 - H.length : Nat) : Int) := by clear w1 w2 w3; exact w_minus' (by omega) (by omega)
 unfold spec_l7spoilHeap.f
 rw [h1, Option.bind_some]
 dsimp only
 rw [h2, Option.bind_some]
 dsimp only
 by_cases q0 : Int.tmod (a : Int) 5 = 0
 ·rw [if_pos q0, w1]
  exact ⟨H, _, _, by clear w1 w2 w3 w4; omega, by clear w1 w2 w3 w4; omega, by clear w1 w2 w3 w4; omega, hx, rfl⟩
 ·rw [if_neg q0]
  by_cases q1 : Int.tmod (a : Int) 5 = 1
  ·rw [if_pos q1]
   exact ⟨H, _, _, by clear w1 w2 w3 w4; omega, by decide, by decide, hx, rfl⟩
  ·rw [if_neg q1]
   by_cases q2 : (H.length : Int) = 0
   ·rw [if_pos q2]
    exact ⟨H, _, _, by clear w1 w2 w3 w4; omega, by decide, by decide, hx, rfl⟩
   ·rw [if_neg q2]
    have hlt : v % H.length < H.length := Nat.mod_lt _ (by clear w1 w2 w3 w4; omega)
    have d3 : (0 : Int) ≤ ((v % H.length : Nat) : Int) := Int.natCast_nonneg _
    have d4 : ((v % H.length : Nat) : Int) < (H.length : Int) := by clear w1 w2 w3 w4; omega
    by_cases q3 : Int.tmod (a : Int) 5 = 2
    ·rw [if_pos q3, h3, Option.bind_some]
     dsimp only
     rw [tm, if_pos d3, if_pos d4]
     refine ⟨_, _, _, by rw [List.length_set]; clear w1 w2 w3 w4; omega, by clear w1 w2 w3 w4; omega, by clear w1 w2 w3 w4; omega, fun x h => ?_, rfl⟩
     rcases List.mem_or_eq_of_mem_set h with h' | rfl
     ·exact hx x h'
     ·clear w1 w2 w3 w4
      unfold InI64
      omega
    ·rw [if_neg q3]
     by_cases q4 : Int.tmod (a : Int) 5 = 3
     ·rw [if_pos q4, h3, Option.bind_some]
      dsimp only
      rw [tm, if_pos d3, if_pos d4, w2]
      refine ⟨_, _, _, by rw [List.length_set]; clear w1 w2 w3 w4; omega, by clear w1 w2 w3 w4; omega, by clear w1 w2 w3 w4; omega, fun x h => ?_, rfl⟩
      rcases List.mem_or_eq_of_mem_set h with h' | rfl
      ·exact hx x h'
      ·clear w1 w2 w3 w4
       unfold InI64
       omega
     ·have e1 : (0 : Int) ≤ ((20000 + v % 2 - H.length : Nat) : Int) := Int.natCast_nonneg _
      have e2 : H.length + (20000 + v % 2 - H.length) < 17592186044416 := by clear w1 w2 w3 w4; omega
      rw [if_neg q4, w3, w4, if_pos e1, Int.toNat_natCast, if_pos e2]
      refine ⟨_, _, _, by rw [List.length_append, List.length_replicate]; clear w1 w2 w3 w4; omega, by clear w1 w2 w3 w4; omega, by clear w1 w2 w3 w4; omega, fun x h => ?_, rfl⟩
      rcases List.mem_append.1 h with h' | h'
      ·exact hx x h'
      ·rw [List.eq_of_mem_replicate h']
       clear w1 w2 w3 w4
       unfold InI64
       omega
structure Drawn (r : List Int × Int × Int × List Int) : Prop where
 len : r.1.length ≤ 20001
 ints : ∀ x ∈ r.1, InI64 x
 lo : -1 ≤ r.2.1
 hi : r.2.1 ≤ 301
 fields : ∀ x ∈ r.2.2.2, InI64 x
 few : r.2.2.2.length ≤ 1001
omit hd in
theorem small_in {n : Nat} (h : n ≤ 30000) : InI64 (n : Int) := by
 unfold InI64
 omega
section
variable {H : List Int} (hH : H.length ≤ 300) (hx : ∀ x ∈ H, InI64 x) {t : Nat} (ht : t ≤ 300)
include hH hx ht
theorem j5_ev (b : Int) (kd : Int) (xs : List Int) (hxs : ∀ x ∈ xs, InI64 x) (hl : xs.length ≤ 1001) (i : Nat) (hi : i ≤ 500) : ∃ r, Drawn r ∧ Ev (fun k => spec_DrawAlloc.j5 k b xs kd ds (i : Int) H (t : Int)) r := by
 by_cases q2 : b = 237
 ·obtain ⟨H', T, i', a1, a2, a3, a4, a5⟩ := spoil_ev hd hH hx t ht i hi
  refine ⟨(H', T, kd, xs), ⟨a1, a4, a2, a3, hxs, hl⟩, SpecVF.Ev.const fun k => ?_⟩
  rw [spec_DrawAlloc.j5, if_pos q2, a5, Option.bind_some]
 ·refine ⟨(H, (t : Int), kd, xs), ⟨by simp only []; omega, hx, by simp only []; omega, by simp only []; omega, hxs, hl⟩, SpecVF.Ev.const fun k => ?_⟩
  rw [spec_DrawAlloc.j5, if_neg q2]
theorem j4_ev (b : Int) (kd : Int) (xs : List Int) (hxs : ∀ x ∈ xs, InI64 x) (hl : xs.length ≤ 1001) (i : Nat) (hi : i ≤ 500) : ∃ r, Drawn r ∧ Ev (fun k => spec_DrawAlloc.j4 k b xs kd ds (i : Int) H (t : Int)) r := by
 by_cases q1 : b = 238
 ·obtain ⟨c, i1, hc, hcb, hi1⟩ := next_ev hd i hi
  have hm : c % 2 ≤ 1 := by omega
  obtain ⟨r, h1, h2⟩ := j5_ev hd hH hx ht b 1 (List.replicate (1000 + c % 2) 0) (fun x h => by
   rw [List.eq_of_mem_replicate h]
   exact small_in (n := 0) (by decide)) (by simp; omega) i1 hi1
  refine ⟨r, h1, Ev.step (fun k => ?_) h2⟩
  have d1 : (0 : Int) ≤ ((1000 + c % 2 : Nat) : Int) := Int.natCast_nonneg _
  have d2 : 1000 + c % 2 ≤ 35184372088832 := by omega
  have w1 : wrap64 (1000 + Int.tmod (c : Int) 2) = ((1000 + c % 2 : Nat) : Int) := by
   rw [show Int.tmod (c : Int) 2 = ((c % 2 : Nat) : Int) from tm c 2]
   generalize c % 2 = q at hm ⊢
   rw [SpecVF.wrap_in (by omega) (by omega)]
   omega
  rw [spec_DrawAlloc.j4, if_pos q1, hc, Option.bind_some]
  dsimp only
  rw [w1, if_pos d1, Int.toNat_natCast, if_pos d2]
 ·obtain ⟨r, h1, h2⟩ := j5_ev hd hH hx ht b kd xs hxs hl i hi
  exact ⟨r, h1, Ev.step (fun k => by rw [spec_DrawAlloc.j4, if_neg q1]) h2⟩
theorem j3_ev (b : Int) (kd : Int) (xs : List Int) (hxs : ∀ x ∈ xs, InI64 x) (hl : xs.length ≤ 1001) (i : Nat) (hi : i ≤ 500) : ∃ r, Drawn r ∧ Ev (fun k => spec_DrawAlloc.j3 k b xs kd ds (i : Int) H (t : Int)) r := by
 by_cases q1 : b = 239
 ·obtain ⟨r, h1, h2⟩ := j4_ev hd hH hx ht b 4 xs hxs hl i hi
  exact ⟨r, h1, Ev.step (fun k => by rw [spec_DrawAlloc.j3, if_pos q1]) h2⟩
 ·obtain ⟨r, h1, h2⟩ := j4_ev hd hH hx ht b kd xs hxs hl i hi
  exact ⟨r, h1, Ev.step (fun k => by rw [spec_DrawAlloc.j3, if_neg q1]) h2⟩
theorem j2_ev (b : Int) (kd : Int) (xs : List Int) (hxs : ∀ x ∈ xs, InI64 x) (hl : xs.length ≤ 1000) (i : Nat) (hi : i ≤ 500) : ∃ r, Drawn r ∧ Ev (fun k => spec_DrawAlloc.j2 k b xs kd ds (i : Int) H (t : Int)) r := by
 by_cases q1 : b > 240
 ·obtain ⟨c, i1, hc, hcb, hi1⟩ := next_ev hd i hi
  have c4 : xs.length < 17592186044416 := cap_lt (by omega)
  obtain ⟨r, h1, h2⟩ := j3_ev hd hH hx ht b kd (xs ++ [(c : Int)]) (fun x h => by
   rcases List.mem_append.1 h with h | h
   ·exact hxs x h
   ·rw [List.mem_singleton.1 h]; exact small_in (by omega)) (by simp; omega) i1 hi1
  refine ⟨r, h1, Ev.step (fun k => ?_) h2⟩
  rw [spec_DrawAlloc.j2, if_pos q1, hc, Option.bind_some]
  dsimp only
  rw [if_pos c4]
 ·obtain ⟨r, h1, h2⟩ := j3_ev hd hH hx ht b kd xs hxs (by omega) i hi
  exact ⟨r, h1, Ev.step (fun k => by rw [spec_DrawAlloc.j2, if_neg q1]) h2⟩
theorem j1_ev (b : Int) (kd : Int) (xs : List Int) (hxs : ∀ x ∈ xs, InI64 x) (hl : xs.length ≤ 900) (i : Nat) (hi : i ≤ 500) : ∃ r, Drawn r ∧ Ev (fun k => spec_DrawAlloc.j1 k b xs kd ds (i : Int) H (t : Int)) r := by
 by_cases q1 : kd = 2
 ·obtain ⟨r, h1, h2⟩ := j2_ev hd hH hx ht b kd ([8] ++ xs) (fun x h => by
   rcases List.mem_append.1 h with h | h
   ·rw [List.mem_singleton.1 h]; exact small_in (n := 8) (by decide)
   ·exact hxs x h) (by simp; omega) i hi
  have c4 : ([8] : List Int).length + xs.length < 17592186044416 := by simp; omega
  refine ⟨r, h1, Ev.step (fun k => ?_) h2⟩
  rw [spec_DrawAlloc.j1, if_pos q1, Option.bind_some, if_pos c4]
 ·obtain ⟨r, h1, h2⟩ := j2_ev hd hH hx ht b kd xs hxs (by omega) i hi
  exact ⟨r, h1, Ev.step (fun k => by rw [spec_DrawAlloc.j1, if_neg q1]) h2⟩
theorem j0_ev (b : Int) (kd : Int) (xs : List Int) (hxs : ∀ x ∈ xs, InI64 x) (hl : xs.length ≤ 800) (i : Nat) (hi : i ≤ 500) : ∃ r, Drawn r ∧ Ev (fun k => spec_DrawAlloc.j0 k b xs kd ds (i : Int) H (t : Int)) r := by
 by_cases q1 : kd = 3
 ·obtain ⟨r, h1, h2⟩ := j1_ev hd hH hx ht b kd ((xs ++ [4]).take 1) (fun x h => by
   rcases List.mem_append.1 (List.mem_of_mem_take h) with h | h
   ·exact hxs x h
   ·rw [List.mem_singleton.1 h]; exact small_in (n := 4) (by decide)) (Nat.le_trans (List.length_take_le _ _) (by decide)) i hi
  have c4 : xs.length < 17592186044416 := cap_lt (by omega)
  have c5 : (1 : Int) ≤ ((xs ++ [4]).length : Int) := by simp; omega
  refine ⟨r, h1, Ev.step (fun k => ?_) h2⟩
  rw [spec_DrawAlloc.j0, if_pos q1, if_pos c4, Option.bind_some, if_pos c5]
  rfl
 ·obtain ⟨r, h1, h2⟩ := j1_ev hd hH hx ht b kd xs hxs (by omega) i hi
  exact ⟨r, h1, Ev.step (fun k => by rw [spec_DrawAlloc.j0, if_neg q1]) h2⟩
end
end
theorem draw_ev {l0 : List Int} (h : ∀ x ∈ l0, 0 ≤ x ∧ x ≤ 255) : ∃ r, Drawn r ∧ Ev (fun k => spec_DrawAlloc.f k l0) r := by
 obtain ⟨ds, ho, hd⟩ := open_ev h
 obtain ⟨b, i1, hb, hbb, hi1⟩ := next_ev hd 0 (by decide)
 obtain ⟨H, W, t, i2, hH, ht, hx, hW, hW2, hWx, hi2, hheap⟩ := heap_ev hd i1 hi1
 obtain ⟨ys, i3, hy, hyW, hi3, hroots⟩ := roots_ev hd hW hW2 i2 hi2
 have hys : ∀ x ∈ ys, InI64 x := fun x h => hWx x (hyW x h)
 have c4 : ys.length + ([4, 8] : List Int).length < 17592186044416 := by simp; omega
 have c5 : (2 : Int) ≤ ((ys ++ [4, 8]).length : Int) := by simp; omega
 obtain ⟨r, hr, he⟩ := j0_ev hd hH hx ht (b : Int) (Int.tmod (b : Int) 4) (if Int.tmod (b : Int) 4 = 0 then (ys ++ [4, 8]).take 2 else ys) (by
  split
  ·intro x hx'
   rcases List.mem_append.1 (List.mem_of_mem_take hx') with h | h
   ·exact hys x h
   ·simp only [List.mem_cons, List.not_mem_nil, or_false] at h
    unfold InI64
    omega
  ·exact hys) (by
  split
  ·exact Nat.le_trans (List.length_take_le _ _) (by decide)
  ·omega) i3 hi3
 refine ⟨r, hr, ?_⟩
 refine Ev.congr (f := fun k => (spec_l7heap.f k ds (i1 : Int)).bind fun bt262 => (spec_l7roots.f k ds bt262.2.2.2 bt262.2.2.1).bind fun bt271 => (if (Int.tmod (b : Int) 4) = 0 then (if bt271.1.length + ([4, 8] : List Int).length < 17592186044416 then (if 2 ≤ ((bt271.1 ++ [4, 8]).length : Int) then (spec_DrawAlloc.j0 k b ((bt271.1 ++ [4, 8]).take (2 : Int).toNat) (Int.tmod b 4) ds bt271.2 bt262.1 bt262.2.1) else none) else none) else (spec_DrawAlloc.j0 k b bt271.1 (Int.tmod b 4) ds bt271.2 bt262.1 bt262.2.1))) (fun k => ?_) ?_
 ·unfold spec_DrawAlloc.f
  rw [ho, Option.bind_some]
  dsimp only
  rw [show ((0 : Int)) = ((0 : Nat) : Int) from rfl, hb, Option.bind_some]
  rfl
 ·refine Ev.bind hheap ?_
  refine Ev.bind hroots ?_
  by_cases q : Int.tmod (b : Int) 4 = 0
  ·simp only [if_pos q] at he ⊢
   simp only [if_pos c4, if_pos c5]
   exact he
  ·simp only [if_neg q] at he ⊢
   exact he
theorem sameN_ev (xs : List Int) (hl : xs.length ≤ 30000) : Ev (fun k => laws_sameN.f k xs xs) true := by
 have key : ∀ (d i : Nat), xs.length - i = d → i ≤ xs.length → Ev (fun k => laws_sameN.l0 k xs xs (i : Int)) true := by
  intro d
  induction d with
  | zero =>
   intro i hd hi
   have c0 : ¬ (i : Int) < (xs.length : Int) := by omega
   exact SpecVF.Ev.const fun k => by rw [laws_sameN.l0, if_neg c0]
  | succ d ih =>
   intro i hd hi
   have c0 : (i : Int) < (xs.length : Int) := by omega
   have c1 : (0 : Int) ≤ (i : Int) := Int.natCast_nonneg _
   have w : wrap64 ((i : Int) + 1) = ((i + 1 : Nat) : Int) := by
    rw [SpecVF.wrap_in (by omega) (by omega)]
    rfl
   exact Ev.step (fun k => by rw [laws_sameN.l0, if_pos c0, if_pos c1, if_pos c0, if_pos rfl, w]) (ih (i + 1) (by omega) (by omega))
 exact Ev.congr (fun k => by unfold laws_sameN.f; rw [if_pos rfl]; rfl) (key xs.length 0 (by omega) (by omega))
end Go.Proofs.Ytggkkgkjhfgipaa.SpecDraw
