/- What the laws' helper functions over lists of ints and heaps (szIntS, szHeap, toIntS, toHeap, eqIntS, eqHeap) come to. -/
import Derived.Test.YtggkkgkjhfgipaaQFnExactSameShapex1
import Derived.Test.YtggkkgkjhfgipaaHeapF
namespace Go.Proofs.Ytggkkgkjhfgipaa.IntSS
open Go.RowKit Go.Proofs.Ytggkkgkjhfgipaa.QFnExactSameShape Go.Proofs.YtggkkgkjhfgipaaW.PrintWords Go.Proofs.YtggkkgkjhfgipaaW.PrintLast
set_option linter.unusedVariables false
set_option linter.unusedSimpArgs false
theorem wrap_upI (i : Nat) (h : i ≤ 4611686018427387904) : wrap64 ((i : Int) + 1) = ((i + 1 : Nat) : Int) := by unfold wrap64; omega
theorem rd_natI (xs : List Int) (n : Nat) : rd xs (n : Int) = xs.getD n 0 := rfl
/-! ### eqIntS of a list and itself -/
theorem eqIntS_l0 (a : List Int) (ha : a.length ≤ 4611686018427387904) (d : Nat) : ∀ i : Nat, a.length - i = d → i ≤ a.length → Ev (fun k => laws_eqIntS.l0 k a a (i : Int)) true := by
  induction d with
  | zero =>
    intro i hd hi
    refine Ev.step (f := fun _ => some true) (fun k => ?_) (Ev.now _)
    simp only [laws_eqIntS.l0]; rw [if_neg (by omega)]
  | succ d ih =>
    intro i hd hi
    refine Ev.step (f := fun k => laws_eqIntS.l0 k a a ((i + 1 : Nat) : Int)) (fun k => ?_) (ih (i + 1) (by omega) (by omega))
    have h1 : (i : Int) < (a.length : Int) := by omega
    simp only [laws_eqIntS.l0]
    rw [if_pos h1, if_pos (by omega : (0 : Int) ≤ i), if_pos h1, wrap_upI i (by omega)]
    simp only [if_true]
theorem eqIntS_refl (a : List Int) (ha : a.length ≤ 4611686018427387904) : Ev (fun k => laws_eqIntS.f k a a) true := by
  refine Ev.congr (f := fun k => laws_eqIntS.l0 k a a ((0 : Nat) : Int)) (fun k => ?_) (eqIntS_l0 a ha a.length 0 (by omega) (by omega))
  unfold laws_eqIntS.f
  rw [if_pos rfl]
  rfl
theorem eqHeap_refl (a : List Int) (t : Int) (ha : a.length ≤ 4611686018427387904) : Ev (fun k => laws_eqHeap.f k a t a t) true := by
  unfold laws_eqHeap.f
  refine Ev.bind (eqIntS_refl a ha) ?_
  simp only [if_true]
  exact Ev.now _
/-! ### toIntS: a copy -/
theorem toIntS_l0 (a : List Int) (ha : a.length ≤ 4611686018427387904) (d : Nat) : ∀ (i : Nat) (b : List Int), a.length - i = d → i ≤ a.length → b.length = a.length → b.take i = a.take i →
    Ev (fun k => laws_toIntS.l0 k a b (i : Int)) a := by
  induction d with
  | zero =>
    intro i b hd hi hb he
    have hba : b = a := by
      rw [← List.take_of_length_le (show b.length ≤ i by omega), he, List.take_of_length_le (show a.length ≤ i by omega)]
    refine Ev.step (f := fun _ => some a) (fun k => ?_) (Ev.now _)
    simp only [laws_toIntS.l0]; rw [if_neg (by omega), hba]
  | succ d ih =>
    intro i b hd hi hb he
    refine Ev.step (f := fun k => laws_toIntS.l0 k a (b.set i (a.getD i 0)) ((i + 1 : Nat) : Int)) (fun k => ?_) (ih (i + 1) _ (by omega) (by omega) (by simpa using hb) ?_)
    · simp only [laws_toIntS.l0]
      rw [if_pos (by omega : (i : Int) < (a.length : Int)), if_pos (by omega : (0 : Int) ≤ i), if_pos (by omega : (i : Int) < (b.length : Int)), wrap_upI i (by omega), Int.toNat_natCast, rd_natI]
    · apply List.ext_getElem?
      intro j
      have hj := congrArg (fun l => l[j]?) he
      simp only [List.getElem?_take] at hj
      simp only [List.getElem?_take, List.getElem?_set]
      by_cases h1 : j < i + 1
      · rw [if_pos h1, if_pos h1]
        by_cases h2 : i = j
        · subst h2
          have hib : i < b.length := by omega
          have hia : i < a.length := by omega
          simp [hib, hia, List.getD_eq_getElem?_getD]
        · rw [if_neg h2]
          rw [if_pos (by omega), if_pos (by omega)] at hj
          exact hj
      · rw [if_neg h1, if_neg h1]
theorem toIntS_ev (a : List Int) (ha : a.length ≤ 35184372088832) : Ev (fun k => laws_toIntS.f k a) a := by
  refine Ev.congr (f := fun k => laws_toIntS.l0 k a (List.replicate a.length 0) ((0 : Nat) : Int)) (fun k => ?_) (toIntS_l0 a (by omega) a.length 0 _ (by omega) (by omega) (by simp) (by simp))
  unfold laws_toIntS.f
  rw [if_pos (by omega), if_pos (by omega)]
  rfl
theorem toHeap_ev (a : List Int) (t : Int) (ha : a.length ≤ 35184372088832) : Ev (fun k => laws_toHeap.f k a t) (a, t) := by
  unfold laws_toHeap.f
  refine Ev.bind (toIntS_ev a ha) ?_
  exact Ev.now _
/-! ### szIntS, szHeap -/
theorem szHeap_eq (a : List Int) (t : Int) (left : Int) (ha : a.length ≤ 9223372036854775807) (h0 : 0 ≤ left) (h1 : left ≤ 1048576) : laws_szHeap.f a t left = some (if left - a.length < 0 then -1 else left - a.length) := by
  unfold laws_szHeap.f laws_szIntS.f
  have hw : wrap64 (left - (a.length : Int)) = left - (a.length : Int) := by unfold wrap64; omega
  rw [hw]
  by_cases h : left - (a.length : Int) < 0
  · rw [if_pos h, if_pos h]
    rfl
  · rw [if_neg h, if_neg h]
    simp only [Option.bind_some]
    rw [if_neg h]
end Go.Proofs.Ytggkkgkjhfgipaa.IntSS
