/- PROVED: the printed function of FnExactNewHeap answers true at every int. Conditions: none beyond the int's own kind. -/
import Derived.Test.YtggkkgkjhfgipaaPFnExactNewHeapx2
namespace Go.Proofs.Ytggkkgkjhfgipaa.Pure
open Go.RowKit Go.Proofs.Ytggkkgkjhfgipaa.PFnExactNewHeap Go.Proofs.YtggkkgkjhfgipaaW.PrintWords Go.Proofs.YtggkkgkjhfgipaaW.PrintLast
set_option linter.unusedVariables false
set_option linter.unusedSimpArgs false

/-- Equal lists are told equal. -/
theorem eqIntS_l0 (a : List Int) (ha : a.length ≤ 4611686018427387904) (d : Nat) : ∀ (k i : Nat), a.length - i = d → i ≤ a.length → d < k →
    laws_eqIntS.l0 k a a (i : Int) = some true := by
  induction d with
  | zero =>
    intro k i hd hi hk
    obtain ⟨k, rfl⟩ : ∃ m, k = m + 1 := ⟨k - 1, by omega⟩
    simp only [laws_eqIntS.l0]; rw [if_neg (by omega)]
  | succ d ih =>
    intro k i hd hi hk
    obtain ⟨k, rfl⟩ : ∃ m, k = m + 1 := ⟨k - 1, by omega⟩
    have h1 : (i : Int) < (a.length : Int) := by omega
    simp only [laws_eqIntS.l0]
    rw [if_pos h1, if_pos (by omega : (0 : Int) ≤ i), if_pos h1]
    simp only [if_true]
    have hw : wrap64 ((i : Int) + 1) = ((i + 1 : Nat) : Int) := by unfold wrap64; omega
    rw [hw]
    exact ih k (i + 1) (by omega) (by omega) (by omega)
theorem eqIntS_refl (a : List Int) (ha : a.length ≤ 4611686018427387904) (k : Nat) (hk : a.length < k) : laws_eqIntS.f k a a = some true := by
  unfold laws_eqIntS.f
  rw [if_pos rfl]
  exact eqIntS_l0 a ha a.length k 0 (by omega) (by omega) hk

/-- What stands in a marked list from i on. -/
def Marked (r : List Int) (m : Int) (i : Nat) : Prop := ∀ j : Nat, i ≤ j → j < r.length → r.getD j 0 = m + ((j : Int) - (i : Int))

theorem markIntS_l0 (d : Nat) : ∀ (k i : Nat) (a : List Int) (m : Int), a.length - i = d → i ≤ a.length → d < k → a.length ≤ 1000000000000 → 0 ≤ m → m + d ≤ 1000000000000000 →
    ∃ r, laws_markIntS.l0 k a m (i : Int) = some (m + (d : Int), r) ∧ r.length = a.length ∧ (∀ j : Nat, j < i → r.getD j 0 = a.getD j 0) ∧ Marked r m i := by
  induction d with
  | zero =>
    intro k i a m hd hi hk ha h0 hm
    obtain ⟨k, rfl⟩ : ∃ m, k = m + 1 := ⟨k - 1, by omega⟩
    refine ⟨a, ?_, rfl, fun _ _ => rfl, fun j h1 h2 => by omega⟩
    simp only [laws_markIntS.l0]; rw [if_neg (by omega)]; simp
  | succ d ih =>
    intro k i a m hd hi hk ha h0 hm
    obtain ⟨k, rfl⟩ : ∃ m, k = m + 1 := ⟨k - 1, by omega⟩
    have hw : wrap64 ((i : Int) + 1) = ((i + 1 : Nat) : Int) := by unfold wrap64; omega
    have hw2 : wrap64 (m + 1) = m + 1 := by unfold wrap64; omega
    obtain ⟨r, h1, h2, h3, h4⟩ := ih k (i + 1) (a.set i m) (m + 1) (by simp; omega) (by simp; omega) (by omega) (by simp; omega) (by omega) (by omega)
    refine ⟨r, ?_, by simpa using h2, fun j hj => ?_, fun j hj1 hj2 => ?_⟩
    · simp only [laws_markIntS.l0]
      rw [if_pos (by omega : (i : Int) < (a.length : Int)), if_pos (by omega : (0 : Int) ≤ i), hw, hw2, Int.toNat_natCast, h1]
      congr 2
      omega
    · rw [h3 j (by omega)]
      simp [List.getD_eq_getElem?_getD, List.getElem?_set, show ¬ i = j by omega]
    · by_cases e : j = i
      · subst e
        rw [h3 j (by omega)]
        have hjl : j < a.length := by simp at h2; omega
        simp [List.getD_eq_getElem?_getD, hjl]
      · rw [h4 j (by omega) hj2]
        omega
theorem heldIntS_l0 (d : Nat) : ∀ (k i : Nat) (a : List Int) (m : Int), a.length - i = d → i ≤ a.length → d < k → a.length ≤ 1000000000000 → 0 ≤ m → m + d ≤ 1000000000000000 → Marked a m i →
    laws_heldIntS.l0 k a m (i : Int) = some (m + (d : Int)) := by
  induction d with
  | zero =>
    intro k i a m hd hi hk ha h0 hm _
    obtain ⟨k, rfl⟩ : ∃ m, k = m + 1 := ⟨k - 1, by omega⟩
    simp only [laws_heldIntS.l0]; rw [if_neg (by omega)]; simp
  | succ d ih =>
    intro k i a m hd hi hk ha h0 hm hM
    obtain ⟨k, rfl⟩ : ∃ m, k = m + 1 := ⟨k - 1, by omega⟩
    have hw : wrap64 ((i : Int) + 1) = ((i + 1 : Nat) : Int) := by unfold wrap64; omega
    have hw2 : wrap64 (m + 1) = m + 1 := by unfold wrap64; omega
    have hrd : rd a (i : Int) = m := by
      have := hM i (by omega) (by omega)
      show a.getD i 0 = m
      omega
    simp only [laws_heldIntS.l0]
    rw [if_pos (by omega : (i : Int) < (a.length : Int)), if_pos (by omega : (0 : Int) ≤ i), if_pos hrd, hw, hw2]
    rw [ih k (i + 1) a (m + 1) (by omega) (by omega) (by omega) ha (by omega) (by omega) (fun j h1 h2 => by rw [hM j (by omega) h2]; omega)]
    congr 1
    omega
theorem markIntS_f (a : List Int) (m : Int) (k : Nat) (ha : a.length ≤ 1000000000000) (h0 : 0 ≤ m) (hm : m + a.length ≤ 1000000000000000) (hk : a.length < k) :
    ∃ r, laws_markIntS.f k a m = some (m + (a.length : Int), r) ∧ r.length = a.length ∧ Marked r m 0 := by
  obtain ⟨r, h1, h2, _, h4⟩ := markIntS_l0 a.length k 0 a m (by omega) (by omega) hk ha h0 hm
  exact ⟨r, h1, h2, h4⟩
theorem heldIntS_f (a : List Int) (m : Int) (k : Nat) (ha : a.length ≤ 1000000000000) (h0 : 0 ≤ m) (hm : m + a.length ≤ 1000000000000000) (hk : a.length < k) (hM : Marked a m 0) :
    laws_heldIntS.f k a m = some (m + (a.length : Int)) := heldIntS_l0 a.length k 0 a m (by omega) (by omega) hk ha h0 hm hM

theorem NewHeap_some (a0 : Int) : ∃ ws c, spec_NewHeap.f a0 = some (ws, 0, c) ∧ impl_NewHeap.f a0 = some (ws, 0, c) ∧ ws.length ≤ 20000 := by
  unfold spec_NewHeap.f impl_NewHeap.f
  by_cases h1 : a0 < 0
  · exact ⟨[], 1, by rw [if_pos h1], by rw [if_pos h1], by simp⟩
  · by_cases h2 : a0 > 20000
    · exact ⟨[], 1, by rw [if_neg h1, if_pos h2], by rw [if_neg h1, if_pos h2], by simp⟩
    · exact ⟨List.replicate a0.toNat 0, 0, by rw [if_neg h1, if_neg h2, if_pos (by omega), if_pos (by omega)], by rw [if_neg h1, if_neg h2, if_pos (by omega), if_pos (by omega)], by simp; omega⟩

theorem FnExactNewHeap : laws_FnExactNewHeap.Pure := by
  intro a0 _
  obtain ⟨ws, c, hs, hi, hl⟩ := NewHeap_some a0
  obtain ⟨r, hm, hrl, hM⟩ := markIntS_f ws 1 20002 (by omega) (by omega) (by omega) (by omega)
  have he : ∀ k, 20000 < k → laws_eqHeap.f k ws 0 ws 0 = some true := by
    intro k hk
    unfold laws_eqHeap.f
    rw [eqIntS_refl ws (by omega) k (by omega)]
    rfl
  have hh : ∀ k, 20000 < k → laws_heldHeap.f k r 0 1 = some (1 + (ws.length : Int)) := by
    intro k hk
    unfold laws_heldHeap.f
    rw [heldIntS_f r 1 k (by omega) (by omega) (by omega) (by omega) hM, hrl]
    simp only [Option.bind_some]
    rw [if_neg (by omega)]
  have hmk : laws_markHeap.f 20002 ws 0 1 = some (1 + (ws.length : Int), r) := by
    unfold laws_markHeap.f
    rw [hm]
    rfl
  refine ⟨20003, ?_⟩
  unfold laws_FnExactNewHeap.f
  rw [hs, hi]
  simp only [Option.bind_some]
  rw [he 20003 (by omega)]
  simp only [Option.bind_some, if_true, bne_self_eq_false]
  simp only [laws_FnExactNewHeap.j0, Bool.false_eq_true, if_false]
  rw [hmk]
  simp only [Option.bind_some]
  rw [hh 20002 (by omega)]
  simp only [Option.bind_some]
  rw [if_neg (by omega), if_true, hi]
  simp only [Option.bind_some]
  rw [he 20002 (by omega)]
  simp only [Option.bind_some, if_true, bne_self_eq_false]
  simp only [laws_FnExactNewHeap.j1, Bool.false_eq_true, if_false]
  rw [hh 20001 (by omega)]
  simp only [Option.bind_some]
  rw [if_neg (by omega), if_true]

end Go.Proofs.Ytggkkgkjhfgipaa.Pure
