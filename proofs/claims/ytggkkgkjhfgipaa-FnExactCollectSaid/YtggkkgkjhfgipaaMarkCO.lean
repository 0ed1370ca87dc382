/- The marks of the laws (markIntS, heldIntS, markHeap, heldHeap), over the printed functions. -/
import Derived.Test.YtggkkgkjhfgipaaQFnExactCollectx1
namespace Go.Proofs.Ytggkkgkjhfgipaa.MarkCO
open Go.RowKit Go.Proofs.YtggkkgkjhfgipaaW.PrintWords Go.Proofs.YtggkkgkjhfgipaaW.PrintLast Go.Proofs.YtggkkgkjhfgipaaW.PrintMore Go.Proofs.Ytggkkgkjhfgipaa.QFnExactCollect
set_option linter.unusedVariables false
set_option linter.unusedSimpArgs false
def Marked (r : List Int) (m : Int) (i : Nat) : Prop := ∀ j : Nat, i ≤ j → j < r.length → r.getD j 0 = m + ((j : Int) - (i : Int))

theorem markIntS_l0 (d : Nat) : ∀ (k i : Nat) (a : List Int) (m : Int), a.length - i = d → i ≤ a.length → d < k → a.length ≤ 1000000000000 → 0 ≤ m → m + d ≤ 1000000000000000 →
    ∃ r, laws_markIntS.l0 k a m (i : Int) = some (m + (d : Int), r) ∧ r.length = a.length ∧ (∀ j : Nat, j < i → r.getD j 0 = a.getD j 0) ∧ Marked r m i := by
  induction d with
  | zero =>
    intro k i a m hd hi hk ha h0 hm
    obtain ⟨k, rfl⟩ : ∃ m, k = m + 1 := ⟨k - 1, by omega⟩
    refine ⟨a, ?_, rfl, fun _ _ => rfl, fun j h1 h2 => by omega⟩
    simp only [laws_markIntS.l0]; rw [if_neg (by omega)]; simp
  | succ d ih =>
    intro k i a m hd hi hk ha h0 hm
    obtain ⟨k, rfl⟩ : ∃ m, k = m + 1 := ⟨k - 1, by omega⟩
    have hw : wrap64 ((i : Int) + 1) = ((i + 1 : Nat) : Int) := by unfold wrap64; omega
    have hw2 : wrap64 (m + 1) = m + 1 := by unfold wrap64; omega
    obtain ⟨r, h1, h2, h3, h4⟩ := ih k (i + 1) (a.set i m) (m + 1) (by simp; omega) (by simp; omega) (by omega) (by simp; omega) (by omega) (by omega)
    refine ⟨r, ?_, by simpa using h2, fun j hj => ?_, fun j hj1 hj2 => ?_⟩
    · simp only [laws_markIntS.l0]
      rw [if_pos (by omega : (i : Int) < (a.length : Int)), if_pos (by omega : (0 : Int) ≤ i), hw, hw2, Int.toNat_natCast, h1]
      congr 2
      omega
    · rw [h3 j (by omega)]
      simp [List.getD_eq_getElem?_getD, List.getElem?_set, show ¬ i = j by omega]
    · by_cases e : j = i
      · subst e
        rw [h3 j (by omega)]
        have hjl : j < a.length := by simp at h2; omega
        simp [List.getD_eq_getElem?_getD, hjl]
      · rw [h4 j (by omega) hj2]
        omega
theorem heldIntS_l0 (d : Nat) : ∀ (k i : Nat) (a : List Int) (m : Int), a.length - i = d → i ≤ a.length → d < k → a.length ≤ 1000000000000 → 0 ≤ m → m + d ≤ 1000000000000000 → Marked a m i →
    laws_heldIntS.l0 k a m (i : Int) = some (m + (d : Int)) := by
  induction d with
  | zero =>
    intro k i a m hd hi hk ha h0 hm _
    obtain ⟨k, rfl⟩ : ∃ m, k = m + 1 := ⟨k - 1, by omega⟩
    simp only [laws_heldIntS.l0]; rw [if_neg (by omega)]; simp
  | succ d ih =>
    intro k i a m hd hi hk ha h0 hm hM
    obtain ⟨k, rfl⟩ : ∃ m, k = m + 1 := ⟨k - 1, by omega⟩
    have hw : wrap64 ((i : Int) + 1) = ((i + 1 : Nat) : Int) := by unfold wrap64; omega
    have hw2 : wrap64 (m + 1) = m + 1 := by unfold wrap64; omega
    have hrd : rd a (i : Int) = m := by
      have := hM i (by omega) (by omega)
      show a.getD i 0 = m
      omega
    simp only [laws_heldIntS.l0]
    rw [if_pos (by omega : (i : Int) < (a.length : Int)), if_pos (by omega : (0 : Int) ≤ i), if_pos hrd, hw, hw2]
    rw [ih k (i + 1) a (m + 1) (by omega) (by omega) (by omega) ha (by omega) (by omega) (fun j h1 h2 => by rw [hM j (by omega) h2]; omega)]
    congr 1
    omega
theorem markIntS_f (a : List Int) (m : Int) (k : Nat) (ha : a.length ≤ 1000000000000) (h0 : 0 ≤ m) (hm : m + a.length ≤ 1000000000000000) (hk : a.length < k) :
    ∃ r, laws_markIntS.f k a m = some (m + (a.length : Int), r) ∧ r.length = a.length ∧ Marked r m 0 := by
  obtain ⟨r, h1, h2, _, h4⟩ := markIntS_l0 a.length k 0 a m (by omega) (by omega) hk ha h0 hm
  exact ⟨r, h1, h2, h4⟩
theorem heldIntS_f (a : List Int) (m : Int) (k : Nat) (ha : a.length ≤ 1000000000000) (h0 : 0 ≤ m) (hm : m + a.length ≤ 1000000000000000) (hk : a.length < k) (hM : Marked a m 0) :
    laws_heldIntS.f k a m = some (m + (a.length : Int)) := heldIntS_l0 a.length k 0 a m (by omega) (by omega) hk ha h0 hm hM

theorem markIntS_ev (a : List Int) (m : Int) (ha : a.length ≤ 1000000000000) (h0 : 0 ≤ m) (hm : m + a.length ≤ 1000000000000000) :
    ∃ b : List Int, b.length = a.length ∧ Marked b m 0 ∧ Ev (fun k => laws_markIntS.f k a m) (m + a.length, b) := by
  obtain ⟨b, h1, h2, h3⟩ := markIntS_f a m (a.length + 1) ha h0 hm (by omega)
  exact ⟨b, h2, h3, Ev.of (fun k => laws_markIntS.mono _ _ k) h1⟩
theorem heldIntS_ev (a : List Int) (m : Int) (ha : a.length ≤ 1000000000000) (h0 : 0 ≤ m) (hm : m + a.length ≤ 1000000000000000) (hM : Marked a m 0) : Ev (fun k => laws_heldIntS.f k a m) (m + a.length) :=
  ⟨a.length + 1, fun k hk => heldIntS_f a m k ha h0 hm (by omega) hM⟩
theorem markHeap_ev (a : List Int) (t m : Int) (ha : a.length ≤ 1000000000000) (h0 : 0 ≤ m) (hm : m + a.length ≤ 1000000000000000) :
    ∃ b : List Int, b.length = a.length ∧ Marked b m 0 ∧ Ev (fun k => laws_markHeap.f k a t m) (m + a.length, b) := by
  obtain ⟨b, hb, hM, hl⟩ := markIntS_ev a m ha h0 hm
  exact ⟨b, hb, hM, by
    unfold laws_markHeap.f
    exact Ev.bind hl (Ev.now _)⟩
theorem heldHeap_ev (a : List Int) (t m : Int) (ha : a.length ≤ 1000000000000) (h0 : 0 ≤ m) (hm : m + a.length ≤ 1000000000000000) (hM : Marked a m 0) : Ev (fun k => laws_heldHeap.f k a t m) (m + a.length) := by
  unfold laws_heldHeap.f
  refine Ev.bind (heldIntS_ev a m ha h0 hm hM) ?_
  rw [if_neg (by omega)]
  exact Ev.now _
end Go.Proofs.Ytggkkgkjhfgipaa.MarkCO
