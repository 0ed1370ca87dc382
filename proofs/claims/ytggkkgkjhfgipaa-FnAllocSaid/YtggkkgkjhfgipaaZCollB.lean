/- The order in which Collect comes to the objects: it stays within the heap. -/
import Derived.Test.YtggkkgkjhfgipaaZCollA
namespace Go.Proofs.Ytggkkgkjhfgipaa
open Go.RowKit
set_option linter.unusedVariables false
set_option linter.unusedSimpArgs false
def sumL (f : Nat × Nat → Nat) : List (Nat × Nat) → Nat
 | [] => 0
 | q :: r => f q + sumL f r
theorem sumL_append (f : Nat × Nat → Nat) : ∀ a b, sumL f (a ++ b) = sumL f a + sumL f b
 | [], b => by simp [sumL]
 | q :: r, b => by
  rw [List.cons_append, sumL, sumL, sumL_append f r b]
  omega
theorem sumL_le {f g : Nat × Nat → Nat} (h : ∀ q, f q ≤ g q) : ∀ L, sumL f L ≤ sumL g L
 | [] => Nat.le_refl _
 | q :: r => Nat.add_le_add (h q) (sumL_le h r)
theorem sumL_gain {f g : Nat × Nat → Nat} (h : ∀ q, f q ≤ g q) {q : Nat × Nat} {c : Nat} (hc : f q + c ≤ g q) : ∀ {L}, q ∈ L → sumL f L + c ≤ sumL g L
 | [], hq => by simp at hq
 | y :: r, hq => by
  rcases List.mem_cons.1 hq with rfl | hq
  ·have := sumL_le h r
   simp only [sumL]
   omega
  ·have := sumL_gain h hc hq
   have := h y
   simp only [sumL]
   omega
theorem scanF_sum {ws : List Int} {top : Nat} : ∀ (k p : Nat) (L L' : List (Nat × Nat)), p ≤ top → sumL (fun q => 1 + q.2) L = p → scanF ws top k p L = some L' → sumL (fun q => 1 + q.2) L' = top
 | 0, p, L, L', _, _, h => by simp [scanF] at h
 | k + 1, p, L, L', hp, hs, h => by
  unfold scanF at h
  split at h
  ·split at h
   ·rename_i h1 h2
    refine scanF_sum k _ _ L' ?_ ?_ h
    ·unfold headAt at h2
     rw [Bool.and_eq_true, Bool.and_eq_true] at h2
     have := of_decide_eq_true h2.2.2
     unfold sizeAt
     omega
    ·rw [sumL_append, hs]
     simp [sumL]
     omega
   ·cases h
  ·cases h
   omega
theorem objsF_sum {ws : List Int} {top : Int} {L : List (Nat × Nat)} (h : objsF ws top = some L) : sumL (fun q => 1 + q.2) L = top.toNat := by
 obtain ⟨hl, h0, ht, _⟩ := objsF_mem h
 obtain ⟨t, rfl⟩ := Int.eq_ofNat_of_zero_le h0
 rw [objsF_scan hl (by omega)] at h
 split at h
 ·cases h
 ·rename_i L2 hs
  split at h
  ·cases h
   exact scanF_sum _ 0 [] L (by omega) rfl hs
  ·cases h
structure GoodO (ws : List Int) (L : List (Nat × Nat)) (ord : List Nat) : Prop where
 nodup : ord.Nodup
 inn : ∀ p ∈ ord, (p, sizeAt ws p) ∈ L
theorem GoodO.nil (ws : List Int) (L : List (Nat × Nat)) : GoodO ws L [] := ⟨List.nodup_nil, by simp⟩
theorem offO_le_sum {ws : List Int} {L : List (Nat × Nat)} : ∀ (ord : List Nat), ord.Nodup → (∀ p ∈ ord, (p, sizeAt ws p) ∈ L) → offO ws ord ≤ sumL (fun q => if q.1 ∈ ord then 1 + q.2 else 0) L
 | [], _, _ => by simp [offO]
 | p :: r, hn, hi => by
  have ih := offO_le_sum r (List.nodup_cons.1 hn).2 (fun q hq => hi q (List.mem_cons_of_mem _ hq))
  have hp := (List.nodup_cons.1 hn).1
  have := sumL_gain (f := fun q => if q.1 ∈ r then 1 + q.2 else 0) (g := fun q => if q.1 ∈ p :: r then 1 + q.2 else 0) (fun q => by
   by_cases hq : q.1 ∈ r
   ·rw [if_pos hq, if_pos (List.mem_cons_of_mem _ hq)]; exact Nat.le_refl _
   ·rw [if_neg hq]; exact Nat.zero_le _) (q := (p, sizeAt ws p)) (c := sz ws p) (by
    simp only
    rw [if_neg hp, if_pos List.mem_cons_self]
    unfold sz
    omega) (hi p List.mem_cons_self)
  rw [offO]
  omega
theorem GoodO.off_le {ws : List Int} {top : Int} {L : List (Nat × Nat)} {ord : List Nat} (h : GoodO ws L ord) (hL : objsF ws top = some L) : offO ws ord ≤ top.toNat := by
 have h1 := offO_le_sum ord h.nodup h.inn
 have h2 := sumL_le (f := fun q => if q.1 ∈ ord then 1 + q.2 else 0) (g := fun q => 1 + q.2) (fun q => by split <;> omega) L
 have h3 := objsF_sum hL
 omega
theorem len_le_off (ws : List Int) : ∀ ord : List Nat, ord.length ≤ offO ws ord
 | [] => by simp [offO]
 | p :: r => by
  have := len_le_off ws r
  rw [offO, List.length_cons]
  unfold sz
  omega
theorem place_in {ws : List Int} {top : Int} {L : List (Nat × Nat)} (hL : objsF ws top = some L) {x : Int} (hw : wordF (isPlace L) x = true) (h1 : x % 4 = 1) : 0 ≤ x ∧ (plc x, sizeAt ws (plc x)) ∈ L := by
 unfold wordF at hw
 rw [if_neg (by omega), if_pos h1, Bool.and_eq_true] at hw
 have h0 := of_decide_eq_true hw.1
 refine ⟨h0, ?_⟩
 obtain ⟨q, hq, he⟩ := List.any_eq_true.1 hw.2
 have he' : (q.1 : Int) = (x - 1) / 4 := by simpa using he
 have hp : plc x = q.1 := by unfold plc; omega
 have := (objsF_mem hL).2.2.2 q hq
 rw [hp, ← this.2]
 exact hq
theorem GoodO.step {ws : List Int} {top : Int} {L : List (Nat × Nat)} {ord : List Nat} (h : GoodO ws L ord) (hL : objsF ws top = some L) {x : Int} (hw : wordF (isPlace L) x = true) : GoodO ws L (stepO ord x) := by
 unfold stepO
 split
 ·rename_i hc
  refine ⟨?_, fun p hp => ?_⟩
  ·rw [List.nodup_append]
   refine ⟨h.nodup, by simp, ?_⟩
   intro a ha b hb
   have : b = plc x := by simpa using hb
   intro e
   exact hc.2 (by rw [← this, ← e]; exact ha)
  ·rcases List.mem_append.1 hp with hp | hp
   ·exact h.inn p hp
   ·have : p = plc x := by simpa using hp
    rw [this]
    exact (place_in hL hw hc.1).2
 ·exact h
theorem GoodO.visit {ws : List Int} {top : Int} {L : List (Nat × Nat)} (hL : objsF ws top = some L) (xs : List Int) : ∀ {ord : List Nat}, GoodO ws L ord → (∀ x ∈ xs, wordF (isPlace L) x = true) → GoodO ws L (visitO ord xs) := by
 induction xs with
 | nil => exact fun h _ => h
 | cons x r ih =>
  intro ord h hw
  exact ih (h.step hL (hw x List.mem_cons_self)) (fun y hy => hw y (List.mem_cons_of_mem _ hy))
/-- The parts of validity. -/
theorem validF_parts {ws : List Int} {top : Int} {roots : List Int} (h : validF ws top roots = true) : ∃ L, objsF ws top = some L ∧ roots.length ≤ 20000 ∧ (∀ q ∈ L, objectAt ws L q = true) ∧ ∀ x ∈ roots, wordF (isPlace L) x = true := by
 unfold validF at h
 split at h
 ·cases h
 ·rename_i L hL
  rw [Bool.and_eq_true, Bool.and_eq_true, List.all_eq_true, List.all_eq_true] at h
  exact ⟨L, hL, of_decide_eq_true h.1, h.2.1, h.2.2⟩
theorem fields_ok {ws : List Int} {L : List (Nat × Nat)} (h : ∀ q ∈ L, objectAt ws L q = true) {p : Nat} (hp : (p, sizeAt ws p) ∈ L) : ∀ x ∈ objFields ws p, wordF (isPlace L) x = true := by
 have := h _ hp
 unfold objectAt objF at this
 rw [Bool.and_eq_true, List.all_eq_true] at this
 exact this.1
theorem obj_fits {ws : List Int} {top : Int} {L : List (Nat × Nat)} (hL : objsF ws top = some L) {p : Nat} (hp : (p, sizeAt ws p) ∈ L) :
  0 ≤ ws.getD p 0 ∧ ws.getD p 0 / 4 = sizeAt ws p ∧ p + 1 + sizeAt ws p ≤ top.toNat ∧ sizeAt ws p ≤ 1000 ∧ (objFields ws p).length = sizeAt ws p := by
 obtain ⟨hl, h0, ht, hm⟩ := objsF_mem hL
 have hh := (hm _ hp).1
 unfold headAt at hh
 simp only [Bool.and_eq_true] at hh
 have h1 := of_decide_eq_true hh.1
 have h2 := of_decide_eq_true hh.2.2
 have h3 := headF_le hh.2.1 (by omega)
 refine ⟨h1, by unfold sizeAt; omega, h2, by unfold sizeAt; omega, ?_⟩
 exact fieldsAt_length (by unfold sizeAt; omega)
end Go.Proofs.Ytggkkgkjhfgipaa
