/- Data counted by what they announce, in plain Lean. -/
import Derived.Test.YtogmphjhdkgdjaaDoorDataA
namespace Go.Proofs.YtogmphjhdkgdjaaDoor
open Go.RowKit Go.Lib
set_option linter.unusedVariables false
set_option linter.unusedSimpArgs false
/-- What is left behind n data, counted by what they announce. -/
def nextN : List Dat → Nat → Option (List Dat)
  | [], n => if n = 0 then some [] else none
  | d :: r, n => if n = 0 then some (d :: r) else nextN r (n - 1 + d.c.toNat)
def scanB : List Dat → Nat → Bool
  | [], n => n == 0
  | d :: r, n => if n = 0 then false else scanB r (n - 1 + d.c.toNat)
theorem nextN_zero (l : List Dat) : nextN l 0 = some l := by cases l <;> simp [nextN]
theorem nextN_len : ∀ (l : List Dat) (n : Nat) (r : List Dat), nextN l n = some r → r.length + n ≤ l.length
  | [], n, r, h => by
    simp only [nextN] at h
    split at h
    · cases h; simp; omega
    · cases h
  | d :: l, n, r, h => by
    simp only [nextN] at h
    split at h
    · cases h; omega
    · have := nextN_len l _ r h
      simp only [List.length_cons]
      omega
theorem scan_next : ∀ (l : List Dat) (n : Nat) (r : List Dat), nextN l n = some r → scanB l n = r.isEmpty
  | [], n, r, h => by
    simp only [nextN] at h
    split at h
    · cases h; simp [scanB, *]
    · cases h
  | d :: l, n, r, h => by
    simp only [nextN] at h
    split at h
    · cases h; simp [scanB, *]
    · rw [scanB, if_neg ‹_›]
      exact scan_next l _ r h
theorem good_atom {d : Dat} (hg : goodB d = true) (h3 : ¬ d.k = 3) : d.c.toNat = 0 := by
  by_cases h : 0 < d.c
  · exact absurd (good_list hg h) h3
  · omega
theorem kids_next {m : Nat} (ih : ∀ (l r : List Dat), endD m l = some r → ∀ n, nextN l (n + 1) = nextN r n) : ∀ (c : Nat) (l r : List Dat), kidsF (endD m) c l = some r → ∀ n, nextN l (n + c) = nextN r n
  | 0, l, r, h, n => by simp only [kidsF, Option.some.injEq] at h; subst h; rfl
  | c + 1, l, r, h, n => by
    simp only [kidsF] at h
    cases hl : endD m l with
    | none => rw [hl] at h; cases h
    | some l1 =>
      rw [hl] at h
      rw [show n + (c + 1) = (n + c) + 1 by omega, ih l l1 hl]
      exact kids_next ih c l1 r h n
theorem end_next : ∀ (m : Nat) (l r : List Dat), endD m l = some r → ∀ n, nextN l (n + 1) = nextN r n
  | m, [], r, h, n => by cases m <;> simp [endD] at h
  | 0, d :: l, r, h, n => by
    cases hg : goodB d with
    | false => rw [endD_bad _ _ hg] at h; cases h
    | true =>
      by_cases h3 : d.k = 3
      · rw [endD_zero _ h3] at h; cases h
      · rw [endD_atom _ _ hg h3] at h
        cases h
        rw [nextN, if_neg (by omega), good_atom hg h3]
        rfl
  | m + 1, d :: l, r, h, n => by
    cases hg : goodB d with
    | false => rw [endD_bad _ _ hg] at h; cases h
    | true =>
      by_cases h3 : d.k = 3
      · rw [endD_list _ _ hg h3] at h
        rw [nextN, if_neg (by omega)]
        exact kids_next (end_next m) _ _ _ h n
      · rw [endD_atom _ _ hg h3] at h
        cases h
        rw [nextN, if_neg (by omega), good_atom hg h3]
        rfl
end Go.Proofs.YtogmphjhdkgdjaaDoor
