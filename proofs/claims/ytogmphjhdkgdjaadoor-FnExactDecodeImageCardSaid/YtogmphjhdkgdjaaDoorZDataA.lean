/- Rows of data in plain Lean: what is valid, by ends of data and by a stack of open lists. -/
import Derived.Test.YtogmphjhdkgdjaaDoorZSymA
namespace Go.Proofs.YtogmphjhdkgdjaaDoor
open Go.RowKit Go.Lib
set_option linter.unusedVariables false
set_option linter.unusedSimpArgs false
/-- A datum. -/
structure Dat where
 k : Int
 n : Int
 t : List Int
 c : Int
def digB (a : Int) : Bool := decide (48 ≤ a) && decide (a ≤ 57)
/-- digits, perhaps behind a sign. -/
def numB (s : List Int) : Bool := if 1 < s.length ∧ s.getD 0 0 = 45 then (s.drop 1).all digB && !(s.drop 1).isEmpty else s.all digB && !s.isEmpty
def symB (s : List Int) : Bool := !s.isEmpty && decide (s.length ≤ 100) && !digB (s.getD 0 0) && !numB s && s.all symByte
def smallB (v : Int) : Bool := decide (-2305843009213693952 ≤ v) && decide (v ≤ 2305843009213693951)
def goodB (d : Dat) : Bool :=
 if d.k = 0 then smallB d.n && d.t.isEmpty && d.c == 0 else if d.k = 1 then (d.n == 0 || d.n == 1) && d.t.isEmpty && d.c == 0
 else if d.k = 2 then d.n == 0 && symB d.t && d.c == 0 else d.k == 3 && d.n == 0 && d.t.isEmpty && decide (0 ≤ d.c)
/-- c data, one behind another. -/
def kidsF (g : List Dat → Option (List Dat)) : Nat → List Dat → Option (List Dat)
 | 0, r => some r
 | c + 1, r => (g r).bind (kidsF g c)
/-- What is left behind a datum; so many lists may stand within each other. -/
def endD : Nat → List Dat → Option (List Dat)
 | _, [] => none
 | 0, d :: r => if goodB d then (if d.k = 3 then none else some r) else none
 | m + 1, d :: r => if goodB d then (if d.k = 3 then kidsF (endD m) d.c.toNat r else some r) else none
/-- A row of whole data. -/
def rowsF : Nat → List Dat → Bool
 | _, [] => true
 | 0, _ :: _ => false
 | f + 1, d :: r => match endD 100 (d :: r) with
  | none => false
  | some r' => rowsF f r'
def validD (l : List Dat) : Bool := decide (l.length ≤ 3000) && rowsF l.length l

/-! ### A datum takes one place at least -/
theorem kidsF_len {g : List Dat → Option (List Dat)} (hg : ∀ l r, g l = some r → r.length < l.length) : ∀ (c : Nat) (l r : List Dat), kidsF g c l = some r → r.length + c ≤ l.length
 | 0, l, r, h => by simp only [kidsF, Option.some.injEq] at h; subst h; omega
 | c + 1, l, r, h => by
  simp only [kidsF] at h
  cases hl : g l with
  | none => rw [hl] at h; cases h
  | some l1 =>
   rw [hl] at h
   have h1 := hg l l1 hl
   have h2 := kidsF_len hg c l1 r h
   omega
theorem endD_len : ∀ (m : Nat) (l r : List Dat), endD m l = some r → r.length < l.length
 | m, [], r, h => by cases m <;> simp [endD] at h
 | 0, d :: l, r, h => by
  simp only [endD] at h
  split at h
  ·split at h
   ·cases h
   ·cases h; simp
  ·cases h
 | m + 1, d :: l, r, h => by
  simp only [endD] at h
  split at h
  ·split at h
   ·have := kidsF_len (endD_len m) _ _ _ h
    simp only [List.length_cons]
    omega
   ·cases h; simp
  ·cases h
theorem kidsF_none {g : List Dat → Option (List Dat)} (hg : ∀ l r, g l = some r → r.length < l.length) (c : Nat) (l : List Dat) (h : l.length < c) : kidsF g c l = none := by
 cases hk : kidsF g c l with
 | none => rfl
 | some r => have := kidsF_len hg c l r hk; omega

theorem kidsF_suffix {g : List Dat → Option (List Dat)} (hg : ∀ l r, g l = some r → ∃ p, p ++ r = l) : ∀ (c : Nat) (l r : List Dat), kidsF g c l = some r → ∃ p, p ++ r = l
 | 0, l, r, h => by simp only [kidsF, Option.some.injEq] at h; subst h; exact ⟨[], rfl⟩
 | c + 1, l, r, h => by
  simp only [kidsF] at h
  cases hl : g l with
  | none => rw [hl] at h; cases h
  | some l1 =>
   rw [hl] at h
   obtain ⟨p, hp⟩ := hg l l1 hl
   obtain ⟨q, hq⟩ := kidsF_suffix hg c l1 r h
   exact ⟨p ++ q, by rw [List.append_assoc, hq, hp]⟩
theorem endD_suffix : ∀ (m : Nat) (l r : List Dat), endD m l = some r → ∃ p, p ++ r = l
 | m, [], r, h => by cases m <;> simp [endD] at h
 | 0, d :: l, r, h => by
  simp only [endD] at h
  split at h
  ·split at h
   ·cases h
   ·cases h; exact ⟨[d], rfl⟩
  ·cases h
 | m + 1, d :: l, r, h => by
  simp only [endD] at h
  split at h
  ·split at h
   ·obtain ⟨p, hp⟩ := kidsF_suffix (endD_suffix m) _ _ _ h
    exact ⟨d :: p, by rw [List.cons_append, hp]⟩
   ·cases h; exact ⟨[d], rfl⟩
  ·cases h

theorem endD_bad {d : Dat} (m : Nat) (r : List Dat) (h : goodB d = false) : endD m (d :: r) = none := by cases m <;> simp [endD, h]
theorem endD_atom {d : Dat} (m : Nat) (r : List Dat) (h : goodB d = true) (h3 : ¬ d.k = 3) : endD m (d :: r) = some r := by cases m <;> simp [endD, h, h3]
theorem endD_zero {d : Dat} (r : List Dat) (h3 : d.k = 3) : endD 0 (d :: r) = none := by cases h : goodB d <;> simp [endD, h, h3]
theorem endD_list {d : Dat} (m : Nat) (r : List Dat) (h : goodB d = true) (h3 : d.k = 3) : endD (m + 1) (d :: r) = kidsF (endD m) d.c.toNat r := by simp [endD, h, h3]
theorem good_list {d : Dat} (hg : goodB d = true) (hc : 0 < d.c) : d.k = 3 := by
 unfold goodB at hg
 split at hg
 ·simp at hg; omega
 ·split at hg
  ·simp at hg; omega
  ·split at hg
   ·simp at hg; omega
   ·simp at hg; exact hg.1.1.1
theorem good_cnt {d : Dat} (hg : goodB d = true) (h3 : d.k = 3) : 0 ≤ d.c := by
 unfold goodB at hg
 rw [h3, if_neg (by decide), if_neg (by decide), if_neg (by decide)] at hg
 simp at hg
 exact hg.2

/-! ### The stack of open lists, the innermost first -/
def popS : List Nat → List Nat
 | [] => []
 | c :: st => if 1 < c then (c - 1) :: st else popS st
def runS : List Dat → List Nat → Bool
 | [], st => st.isEmpty
 | d :: r, st => if goodB d then (if d.k = 3 then (if 100 < st.length + 1 then false else if 0 < d.c then runS r (d.c.toNat :: st) else runS r (popS st)) else runS r (popS st)) else false
def contS (st : List Nat) : Option (List Dat) → Bool
 | none => false
 | some r => runS r (popS st)
theorem runS_kids {m : Nat} (st : List Nat) (ih : ∀ (c : Nat) (l : List Dat), runS l (c :: st) = contS (c :: st) (endD m l)) : ∀ (c : Nat) (l : List Dat), 0 < c → runS l (c :: st) = contS st (kidsF (endD m) c l)
 | 0, _, h => absurd h (Nat.lt_irrefl 0)
 | c + 1, l, _ => by
  rw [ih]
  simp only [kidsF]
  cases he : endD m l with
  | none => rfl
  | some r =>
   simp only [contS, Option.bind_some]
   by_cases hc : c = 0
   ·subst hc
    simp only [kidsF, contS]
    rfl
   ·have hp : popS ((c + 1) :: st) = c :: st := by simp only [popS]; rw [if_pos (by omega)]; rfl
    rw [hp]
    exact runS_kids st ih c r (by omega)
theorem runS_end : ∀ (m : Nat) (st : List Nat) (l : List Dat), st.length + m = 100 → (st = [] → l ≠ []) → runS l st = contS st (endD m l)
 | m, st, [], hm, h => by
  have he : endD m [] = none := by cases m <;> rfl
  rw [he]
  cases st with
  | nil => exact absurd rfl (h rfl)
  | cons => rfl
 | 0, st, d :: l, hm, _ => by
  simp only [runS, endD]
  split
  ·split
   ·rw [if_pos (by omega)]; rfl
   ·rfl
  ·rfl
 | m + 1, st, d :: l, hm, _ => by
  simp only [runS, endD]
  split
  ·split
   ·rw [if_neg (by omega)]
    by_cases hc : 0 < d.c
    ·rw [if_pos hc]
     exact runS_kids st (fun c l => runS_end m (c :: st) l (by simp only [List.length_cons]; omega) (fun h => by cases h)) _ _ (by omega)
    ·rw [if_neg hc, show d.c.toNat = 0 by omega]
     rfl
   ·rfl
  ·rfl
theorem runS_rows : ∀ (f : Nat) (l : List Dat), l.length ≤ f → runS l [] = rowsF f l
 | f, [], _ => by cases f <;> rfl
 | 0, d :: l, h => by simp at h
 | f + 1, d :: l, h => by
  rw [runS_end 100 [] (d :: l) rfl (fun _ => by simp)]
  simp only [rowsF]
  cases he : endD 100 (d :: l) with
  | none => rfl
  | some r =>
   have := endD_len 100 _ _ he
   exact runS_rows f r (by simp only [List.length_cons] at *; omega)
end Go.Proofs.YtogmphjhdkgdjaaDoor
