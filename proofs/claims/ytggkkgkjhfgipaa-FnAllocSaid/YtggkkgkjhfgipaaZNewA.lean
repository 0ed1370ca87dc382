import Derived.Test.YtggkkgkjhfgipaaZAllocB
import Derived.Test.YtggkkgkjhfgipaaZShapeE
namespace Go.Proofs.Ytggkkgkjhfgipaa
open Go.RowKit
set_option linter.unusedVariables false
set_option linter.unusedSimpArgs false
def rowN (ws : List Int) (t : Nat) (k : Int) (fs : List Int) : List Int := ws.take t ++ (4 * fs.length + k) :: fs ++ ws.drop (t + 1 + fs.length)
section
variable {ws fs : List Int} {t : Nat} {k : Int} {L : List (Nat × Nat)} (hf : t + 1 + fs.length ≤ ws.length)
include hf
theorem rowN_length : (rowN ws t k fs).length = ws.length := by
 unfold rowN
 simp
 omega
theorem rowN_take (m : Nat) (h : m ≤ t) : (rowN ws t k fs).take m = ws.take m := by
 unfold rowN
 rw [List.append_assoc, List.take_append_of_le_length (by simp; omega), List.take_take, Nat.min_eq_left h]
theorem rowN_old (i : Nat) (h : i < t) : (rowN ws t k fs).getD i 0 = ws.getD i 0 := by
 have h1 := rowN_take (k := k) hf t (Nat.le_refl _)
 have h2 : ((rowN ws t k fs).take t).getD i 0 = (ws.take t).getD i 0 := by rw [h1]
 rw [List.getD_eq_getElem?_getD, List.getD_eq_getElem?_getD, List.getElem?_take_of_lt h, List.getElem?_take_of_lt h, ← List.getD_eq_getElem?_getD, ← List.getD_eq_getElem?_getD] at h2
 exact h2
theorem rowN_head : (rowN ws t k fs).getD t 0 = 4 * fs.length + k := by
 unfold rowN
 rw [List.append_assoc, List.getD_eq_getElem?_getD, List.getElem?_append_right (by simp; omega)]
 simp [Nat.min_eq_left (show t ≤ ws.length by omega)]
theorem rowN_fields : fieldsAt (rowN ws t k fs) t fs.length = fs := by
 unfold fieldsAt rowN
 have e : ws.take t ++ (4 * (fs.length : Int) + k) :: fs ++ ws.drop (t + 1 + fs.length) = (ws.take t ++ [4 * (fs.length : Int) + k]) ++ (fs ++ ws.drop (t + 1 + fs.length)) := by simp
 have hl : (ws.take t ++ [4 * (fs.length : Int) + k]).length = t + 1 := by simp; omega
 rw [e, ← hl, List.take_length_add_append, List.drop_left, List.take_left]
theorem rowN_tail (hz : (ws.drop t).all (· == 0) = true) : ((rowN ws t k fs).drop (t + 1 + fs.length)).all (· == 0) = true := by
 unfold rowN
 have hl : (ws.take t ++ (4 * (fs.length : Int) + k) :: fs).length = t + 1 + fs.length := by simp; omega
 rw [← hl, List.drop_left]
 rw [List.all_eq_true] at hz ⊢
 intro x hx
 refine hz x ?_
 rw [hl, show t + 1 + fs.length = t + (1 + fs.length) by omega, ← List.drop_drop] at hx
 exact List.mem_of_mem_drop hx
theorem rowN_old_fields {p n : Nat} (h : p + 1 + n ≤ t) : fieldsAt (rowN ws t k fs) p n = fieldsAt ws p n := by
 unfold fieldsAt
 rw [rowN_take hf _ h]
theorem rowN_size {p : Nat} (h : p < t) : sizeAt (rowN ws t k fs) p = sizeAt ws p := by
 unfold sizeAt
 rw [rowN_old hf p h]
theorem rowN_new_size (h0 : 0 ≤ k) (h3 : k ≤ 3) : sizeAt (rowN ws t k fs) t = fs.length := by
 unfold sizeAt
 rw [rowN_head hf]
 omega
theorem scanF_new (h0 : 0 ≤ k) (h3 : k ≤ 3) (hF : headF k fs.length = true) : ∀ (j p : Nat) (M : List (Nat × Nat)), p ≤ t → scanF ws t j p M = some L → ∀ i, t + 1 + fs.length - p < i →
  scanF (rowN ws t k fs) (t + 1 + fs.length) i p M = some (L ++ [(t, fs.length)])
 | 0, _, _, _, h, _, _ => by simp [scanF] at h
 | j + 1, p, M, hp, h, 0, hi => absurd hi (Nat.not_lt_zero _)
 | j + 1, p, M, hp, h, i + 1, hi => by
  simp only [scanF] at h ⊢
  rw [if_pos (show p < t + 1 + fs.length by omega)]
  by_cases hlt : p < t
  ·rw [if_pos hlt] at h
   split at h
   ·rename_i hh
    have hh2 : headAt (rowN ws t k fs) (t + 1 + fs.length) p = true := by
     unfold headAt at hh ⊢
     rw [rowN_old hf p hlt]
     simp only [Bool.and_eq_true, decide_eq_true_eq] at hh ⊢
     exact ⟨hh.1, hh.2.1, by omega⟩
    have hb : p + 1 + sizeAt ws p ≤ t := by
     unfold headAt at hh
     simp only [Bool.and_eq_true, decide_eq_true_eq] at hh
     exact hh.2.2
    rw [if_pos hh2, rowN_size hf hlt]
    exact scanF_new h0 h3 hF j _ _ hb h i (by omega)
   ·cases h
  ·have he : p = t := by omega
   subst he
   rw [if_neg hlt] at h
   cases h
   have hh2 : headAt (rowN ws p k fs) (p + 1 + fs.length) p = true := by
    unfold headAt
    rw [rowN_head hf]
    have e1 : (4 * (fs.length : Int) + k) % 4 = k := by omega
    have e2 : (4 * (fs.length : Int) + k) / 4 = fs.length := by omega
    rw [e1, e2, hF]
    simp only [Bool.true_and, Bool.and_eq_true, decide_eq_true_eq]
    exact ⟨by omega, by omega⟩
   rw [if_pos hh2, rowN_new_size hf h0 h3]
   cases i with
   | zero => omega
   | succ i =>
    simp only [scanF]
    rw [if_neg (Nat.lt_irrefl _)]
theorem objsF_new (h0 : 0 ≤ k) (h3 : k ≤ 3) (hF : headF k fs.length = true) (hL : objsF ws (t : Int) = some L) : objsF (rowN ws t k fs) ((t + 1 + fs.length : Nat) : Int) = some (L ++ [(t, fs.length)]) := by
 have hl := (objsF_mem hL).1
 rw [objsF_scan hl (by omega)] at hL
 rw [objsF_scan (by rw [rowN_length hf]; exact hl) (by rw [rowN_length hf]; omega)]
 cases hs : scanF ws t (t + 1) 0 [] with
 | none => rw [hs] at hL; cases hL
 | some L' =>
  rw [hs] at hL
  simp only at hL
  split at hL
  ·rename_i hz
   cases hL
   rw [scanF_new hf h0 h3 hF (t + 1) 0 [] (Nat.zero_le _) hs (t + 1 + fs.length + 1) (by omega)]
   simp only []
   rw [if_pos (rowN_tail hf hz)]
  ·cases hL
end
theorem wordF_more {L M : List (Nat × Nat)} {x : Int} (h : wordF (isPlace L) x = true) : wordF (isPlace (L ++ M)) x = true := by
 unfold wordF at h ⊢
 split
 ·rfl
 ·rename_i a
  rw [if_neg a] at h
  split
  ·rename_i b
   rw [if_pos b, Bool.and_eq_true] at h
   rw [Bool.and_eq_true]
   refine ⟨h.1, ?_⟩
   unfold isPlace at h ⊢
   rw [List.any_append, h.2, Bool.true_or]
  ·rename_i b
   rw [if_neg b] at h
   exact h
theorem objF_more {L M : List (Nat × Nat)} {k : Int} {xs : List Int} (h : objF (isPlace L) k xs = true) : objF (isPlace (L ++ M)) k xs = true := by
 unfold objF at h ⊢
 rw [Bool.and_eq_true] at h ⊢
 refine ⟨?_, h.2⟩
 rw [List.all_eq_true] at h ⊢
 exact fun x hx => wordF_more (h.1 x hx)
theorem objF_words {L : List (Nat × Nat)} {k : Int} {xs : List Int} (h : objF (isPlace L) k xs = true) : ∀ x ∈ xs, wordF (isPlace L) x = true := by
 unfold objF at h
 rw [Bool.and_eq_true, List.all_eq_true] at h
 exact h.1
structure Makes (ws : List Int) (t : Nat) (L : List (Nat × Nat)) (k : Int) (fs : List Int) : Prop where
 laid : Laid ws t L
 fit : t + 1 + fs.length ≤ ws.length
 lo : 0 ≤ k
 hi : k ≤ 3
 head : headF k fs.length = true
 obj : objF (isPlace L) k fs = true
section
variable {ws fs : List Int} {t : Nat} {k : Int} {L : List (Nat × Nat)} (m : Makes ws t L k fs)
include m
theorem Makes.old {q : Nat × Nat} (hq : q ∈ L) : q.1 + 1 + q.2 ≤ t ∧ q.2 = sizeAt ws q.1 := by
 have h := (objsF_mem m.laid.objs).2.2.2 q hq
 have h1 := obj_fits m.laid.objs (p := q.1) (by rw [← h.2]; exact hq)
 exact ⟨by rw [h.2]; simpa using h1.2.2.1, h.2⟩
theorem Makes.new : Laid (rowN ws t k fs) (t + 1 + fs.length) (L ++ [(t, fs.length)]) := by
 refine ⟨objsF_new m.fit m.lo m.hi m.head m.laid.objs, fun q hq => ?_⟩
 unfold objectAt
 rcases List.mem_append.1 hq with h | h
 ·obtain ⟨h1, h2⟩ := m.old h
  have := m.laid.ok q h
  unfold objectAt at this
  rw [rowN_old_fields m.fit h1, rowN_old m.fit q.1 (by omega)]
  exact objF_more this
 ·obtain rfl : q = (t, fs.length) := by simpa using h
  show objF _ ((rowN ws t k fs).getD t 0 % 4) (fieldsAt (rowN ws t k fs) t fs.length) = true
  rw [rowN_fields m.fit, rowN_head m.fit]
  have e1 : (4 * (fs.length : Int) + k) % 4 = k := by have := m.lo; have := m.hi; omega
  rw [e1]
  exact objF_more m.obj
theorem Makes.again (h2 : t + 1 + fs.length + 1 + fs.length ≤ ws.length) : Makes (rowN ws t k fs) (t + 1 + fs.length) (L ++ [(t, fs.length)]) k fs :=
 ⟨m.new, by rw [rowN_length m.fit]; exact h2, m.lo, m.hi, m.head, objF_more m.obj⟩
omit m in
theorem Makes.place : isPlace (L ++ [(t, fs.length)]) t = true := by
 unfold isPlace
 simp
omit m in
theorem Makes.root : wordF (isPlace (L ++ [(t, fs.length)])) (4 * t + 1) = true := by
 unfold wordF
 rw [if_neg (by omega), if_pos (by omega), show ((4 * (t : Int) + 1) - 1) / 4 = t by omega, Makes.place]
 simp
 omega
end
theorem Laid.valid {ws : List Int} {t : Nat} {L : List (Nat × Nat)} (h : Laid ws t L) {roots : List Int} (hl : roots.length ≤ 20000) (hr : ∀ x ∈ roots, wordF (isPlace L) x = true) : validF ws (t : Int) roots = true := by
 unfold validF
 rw [h.objs]
 simp only [Bool.and_eq_true, decide_eq_true_eq, List.all_eq_true]
 exact ⟨hl, h.ok, hr⟩
theorem RelL.one (B : Nat → Nat → Prop) {x y : Int} (h : relW B x y) : RelL B [x] [y] := by
 refine ⟨rfl, fun i hi => ?_⟩
 have : i = 0 := by simp at hi; omega
 subst this
 exact h
theorem relW_same {ws : List Int} {t : Nat} {L : List (Nat × Nat)} (h : Laid ws t L) {B : Nat → Nat → Prop} (hB : ∀ p, (p, sizeAt ws p) ∈ L → B p p) {x : Int} (hx : wordF (isPlace L) x = true) : relW B x x := by
 by_cases h1 : x % 4 = 1
 ·exact .inl ⟨h1, h1, hB _ (place_in h.objs hx h1).2⟩
 ·exact .inr ⟨fun e => h1 e.1, rfl⟩
theorem fields_word {ws : List Int} {t : Nat} {L : List (Nat × Nat)} (h : Laid ws t L) {p : Nat} (hp : (p, sizeAt ws p) ∈ L) {i : Nat} (hi : i < sizeAt ws p) : wordF (isPlace L) ((objFields ws p).getD i 0) = true := by
 refine fields_ok h.ok hp _ ?_
 have hl := (obj_fits h.objs hp).2.2.2.2
 exact getD_mem (by omega)
theorem shape_refl {ws : List Int} {t : Nat} {L : List (Nat × Nat)} (h : Laid ws t L) {roots : List Int} (hr : ∀ x ∈ roots, wordF (isPlace L) x = true) : ShapeP ws ws roots roots := by
 refine ⟨fun p q => p = q ∧ (p, sizeAt ws p) ∈ L, ⟨fun p q q' a b => a.1.symm.trans b.1, fun p p' q a b => a.1.trans b.1.symm, fun p q a => by rw [a.1], ?_⟩, rfl, fun i hi => ?_⟩
 ·rintro p q ⟨rfl, hp⟩ i hi
  exact relW_same h (fun p hp => ⟨rfl, hp⟩) (fields_word h hp hi)
 ·exact relW_same h (fun p hp => ⟨rfl, hp⟩) (hr _ (getD_mem hi))
section
variable {ws fs : List Int} {t : Nat} {k : Int} {L : List (Nat × Nat)} (m : Makes ws t L k fs)
include m
theorem Makes.shape (h2 : t + 1 + fs.length + 1 + fs.length ≤ ws.length) :
  ShapeP (rowN (rowN ws t k fs) (t + 1 + fs.length) k fs) (rowN ws t k fs) [4 * ((t + 1 + fs.length : Nat) : Int) + 1] [4 * (t : Int) + 1] := by
 have m2 := m.again h2
 have hfit := m.fit
 have hof : ∀ p, (p, sizeAt ws p) ∈ L → p + 1 + sizeAt ws p ≤ t := fun p hp => (m.old hp).1
 refine ⟨fun p q => (p = q ∧ (p, sizeAt ws p) ∈ L) ∨ (p = t + 1 + fs.length ∧ q = t), ⟨?_, ?_, ?_, ?_⟩, RelL.one _ (.inl ⟨by omega, by omega, .inr ⟨by unfold plc; omega, by unfold plc; omega⟩⟩)⟩
 ·rintro p q q' (⟨rfl, hp⟩ | ⟨rfl, rfl⟩) (⟨rfl, hp'⟩ | ⟨h, rfl⟩)
  ·rfl
  ·have := hof _ hp; omega
  ·have := hof _ hp'; omega
  ·rfl
 ·rintro p p' q (⟨rfl, hp⟩ | ⟨rfl, rfl⟩) (⟨rfl, hp'⟩ | ⟨rfl, h⟩)
  ·rfl
  ·have := hof _ hp; omega
  ·have := hof _ hp'; omega
  ·rfl
 ·rintro p q (⟨rfl, hp⟩ | ⟨rfl, rfl⟩)
  ·have := hof _ hp
   rw [rowN_old m2.fit p (by omega)]
  ·rw [rowN_head m2.fit, rowN_head m.fit]
 ·rintro p q (⟨rfl, hp⟩ | ⟨rfl, rfl⟩) i hi
  ·have ho := hof _ hp
   rw [rowN_size m2.fit (by omega), rowN_size m.fit (by omega)] at hi
   have e1 : objFields (rowN ws t k fs) p = objFields ws p := by
    unfold objFields
    rw [rowN_size m.fit (by omega), rowN_old_fields m.fit ho]
   have e2 : objFields (rowN (rowN ws t k fs) (t + 1 + fs.length) k fs) p = objFields ws p := by
    unfold objFields
    rw [rowN_size m2.fit (by omega), rowN_size m.fit (by omega), rowN_old_fields m2.fit (by omega), rowN_old_fields m.fit ho]
   rw [e1, e2]
   exact relW_same m.laid (fun p hp => .inl ⟨rfl, hp⟩) (fields_word m.laid hp hi)
  ·have e1 : objFields (rowN ws q k fs) q = fs := by
    unfold objFields
    rw [rowN_new_size m.fit m.lo m.hi, rowN_fields m.fit]
   have e2 : objFields (rowN (rowN ws q k fs) (q + 1 + fs.length) k fs) (q + 1 + fs.length) = fs := by
    unfold objFields
    rw [rowN_new_size m2.fit m.lo m.hi, rowN_fields m2.fit]
   rw [rowN_new_size m2.fit m.lo m.hi] at hi
   rw [e1, e2]
   exact relW_same m.laid (fun p hp => .inl ⟨rfl, hp⟩) (objF_words m.obj _ (getD_mem hi))
theorem Makes.notOne (vs us : List Int) : ¬ ShapeP us vs [4 * (t : Int) + 1, 4 * (t : Int) + 1] [4 * ((t + 1 + fs.length : Nat) : Int) + 1, 4 * (t : Int) + 1] := by
 have _m := m
 rintro ⟨B, hB, hl, h⟩
 have h0 := h 0 (by simp)
 have h1 := h 1 (by simp)
 simp only [List.getD_cons_zero, List.getD_cons_succ] at h0 h1
 rcases h0 with ⟨_, _, h0⟩ | ⟨_, h0⟩
 ·rcases h1 with ⟨_, _, h1⟩ | ⟨h1, _⟩
  ·have := hB.fn _ _ _ h0 h1
   unfold plc at this
   omega
  ·exact h1 ⟨by omega, by omega⟩
 ·omega
end
theorem allocF_cases (ws : List Int) (top k : Int) (fs : List Int) : (∃ t L, top = ((t : Nat) : Int) ∧ Laid ws t L ∧ 0 ≤ k ∧ k ≤ 3 ∧ headF k fs.length = true ∧ objF (isPlace L) k fs = true ∧
   allocF ws top k fs = if (ws.length : Int) < top + 1 + fs.length then ([], 0, 0, 13) else (rowN ws t k fs, top + 1 + fs.length, 4 * top + 1, 0)) ∨ allocF ws top k fs = ([], 0, 0, 1) := by
 by_cases hn : newOk ws top k fs = true
 ·left
  have h := hn
  unfold newOk at h
  split at h
  ·cases h
  ·rename_i L hL
   simp only [Bool.and_eq_true, decide_eq_true_eq] at h
   obtain ⟨t, rfl⟩ := Int.eq_ofNat_of_zero_le (objsF_mem hL).2.1
   refine ⟨t, L, rfl, (laid_of h.1 hL).1, h.2.1, h.2.2.1, h.2.2.2.1, h.2.2.2.2, ?_⟩
   unfold allocF
   rw [if_pos hn]
   rfl
 ·right
  unfold allocF
  rw [if_neg hn]
theorem Makes.newOk {ws fs : List Int} {t : Nat} {k : Int} {L : List (Nat × Nat)} (h : Laid ws t L) (h0 : 0 ≤ k) (h3 : k ≤ 3) (hF : headF k fs.length = true) (hO : objF (isPlace L) k fs = true) : Go.Proofs.Ytggkkgkjhfgipaa.newOk ws (t : Int) k fs = true := by
 unfold Go.Proofs.Ytggkkgkjhfgipaa.newOk
 rw [h.objs]
 simp only [Bool.and_eq_true, decide_eq_true_eq]
 exact ⟨h.valid (by simp) (by simp), h0, h3, hF, hO⟩
end Go.Proofs.Ytggkkgkjhfgipaa
