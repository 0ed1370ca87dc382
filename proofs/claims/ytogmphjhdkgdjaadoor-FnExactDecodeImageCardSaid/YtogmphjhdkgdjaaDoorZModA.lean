/- Modules in plain Lean: what is well-formed. -/
import Derived.Test.YtogmphjhdkgdjaaDoorZDataA
import Derived.Test.YtogmphjhdkgdjaaDoorZHandIns
namespace Go.Proofs.YtogmphjhdkgdjaaDoor
open Go.RowKit Go.Lib
set_option linter.unusedVariables false
set_option linter.unusedSimpArgs false
/-- What is left behind n data, counted by what they announce. -/
def nextN : List Dat → Nat → Option (List Dat)
 | [], n => if n = 0 then some [] else none
 | d :: r, n => if n = 0 then some (d :: r) else nextN r (n - 1 + d.c.toNat)
def scanB : List Dat → Nat → Bool
 | [], n => n == 0
 | d :: r, n => if n = 0 then false else scanB r (n - 1 + d.c.toNat)
theorem nextN_zero (l : List Dat) : nextN l 0 = some l := by cases l <;> simp [nextN]
theorem nextN_len : ∀ (l : List Dat) (n : Nat) (r : List Dat), nextN l n = some r → r.length + n ≤ l.length
 | [], n, r, h => by
  simp only [nextN] at h
  split at h
  ·cases h; simp; omega
  ·cases h
 | d :: l, n, r, h => by
  simp only [nextN] at h
  split at h
  ·cases h; omega
  ·have := nextN_len l _ r h
   simp only [List.length_cons]
   omega
theorem scan_next : ∀ (l : List Dat) (n : Nat) (r : List Dat), nextN l n = some r → scanB l n = r.isEmpty
 | [], n, r, h => by
  simp only [nextN] at h
  split at h
  ·cases h; simp [scanB, *]
  ·cases h
 | d :: l, n, r, h => by
  simp only [nextN] at h
  split at h
  ·cases h; simp [scanB, *]
  ·rw [scanB, if_neg ‹_›]
   exact scan_next l _ r h
theorem good_atom {d : Dat} (hg : goodB d = true) (h3 : ¬ d.k = 3) : d.c.toNat = 0 := by
 by_cases h : 0 < d.c
 ·exact absurd (good_list hg h) h3
 ·omega
theorem kids_next {m : Nat} (ih : ∀ (l r : List Dat), endD m l = some r → ∀ n, nextN l (n + 1) = nextN r n) : ∀ (c : Nat) (l r : List Dat), kidsF (endD m) c l = some r → ∀ n, nextN l (n + c) = nextN r n
 | 0, l, r, h, n => by simp only [kidsF, Option.some.injEq] at h; subst h; rfl
 | c + 1, l, r, h, n => by
  simp only [kidsF] at h
  cases hl : endD m l with
  | none => rw [hl] at h; cases h
  | some l1 =>
   rw [hl] at h
   rw [show n + (c + 1) = (n + c) + 1 by omega, ih l l1 hl]
   exact kids_next ih c l1 r h n
theorem end_next : ∀ (m : Nat) (l r : List Dat), endD m l = some r → ∀ n, nextN l (n + 1) = nextN r n
 | m, [], r, h, n => by cases m <;> simp [endD] at h
 | 0, d :: l, r, h, n => by
  cases hg : goodB d with
  | false => rw [endD_bad _ _ hg] at h; cases h
  | true =>
   by_cases h3 : d.k = 3
   ·rw [endD_zero _ h3] at h; cases h
   ·rw [endD_atom _ _ hg h3] at h
    cases h
    rw [nextN, if_neg (by omega), good_atom hg h3]
    rfl
 | m + 1, d :: l, r, h, n => by
  cases hg : goodB d with
  | false => rw [endD_bad _ _ hg] at h; cases h
  | true =>
   by_cases h3 : d.k = 3
   ·rw [endD_list _ _ hg h3] at h
    rw [nextN, if_neg (by omega)]
    exact kids_next (end_next m) _ _ _ h n
   ·rw [endD_atom _ _ hg h3] at h
    cases h
    rw [nextN, if_neg (by omega), good_atom hg h3]
    rfl
def lastB (l : List Dat) : Bool := match endD 100 l with | some r => r.isEmpty | none => false
/-- One whole datum. -/
def oneB (l : List Dat) : Bool := validD l && lastB l
theorem one_scan {l : List Dat} (hv : rowsF l.length l = true) (h0 : l ≠ []) : scanB l 1 = lastB l := by
 cases l with
 | nil => exact absurd rfl h0
 | cons d l =>
  unfold lastB
  simp only [List.length_cons, rowsF] at hv
  cases he : endD 100 (d :: l) with
  | none => rw [he] at hv; cases hv
  | some r => exact scan_next _ _ _ (by rw [end_next 100 _ _ he 0, nextN_zero])
def formsC : Nat → List Dat → Nat
 | _, [] => 0
 | 0, _ :: _ => 0
 | f + 1, d :: r => match endD 100 (d :: r) with
  | none => 0
  | some r' => formsC f r' + 1
theorem forms_one {f : Nat} {l : List Dat} (hv : rowsF f l = true) : (formsC f l == 1) = lastB l := by
 cases l with
 | nil => cases f <;> rfl
 | cons d l =>
  cases f with
  | zero => simp [rowsF] at hv
  | succ f =>
   unfold lastB
   simp only [rowsF] at hv
   simp only [formsC]
   cases he : endD 100 (d :: l) with
   | none => rw [he] at hv; cases hv
   | some r =>
    rw [he] at hv
    simp only at hv ⊢
    cases r with
    | nil => cases f <;> rfl
    | cons e r =>
     cases f with
     | zero => simp [rowsF] at hv
     | succ f =>
      simp only [rowsF] at hv
      simp only [formsC]
      cases he2 : endD 100 (e :: r) with
      | none => rw [he2] at hv; cases hv
      | some r2 => simp
/-! ### a module -/
structure InsP where
 op : Int
 a : Int
 b : Int
structure FunP where
 p : Int
 free : List Bool
 code : List InsP
def constsB : Nat → List (List Dat) → Bool
 | _, [] => true
 | acc, c :: r => if 3000 < acc + c.length then false else oneB c && constsB (acc + c.length) r
def funcsB : Nat → List FunP → Bool
 | _, [] => true
 | acc, f :: r => decide (0 ≤ f.p) && decide (f.p ≤ 20) && decide (f.free.length ≤ 50) && decide (1 ≤ f.code.length) && decide (acc + f.code.length ≤ 5000) && funcsB (acc + f.code.length) r
def freeOf (fs : List FunP) (a : Int) : Int := ((fs.getD a.toNat ⟨0, [], []⟩).free.length : Int)
def insOkB (nc : Nat) (g : Int) (fs : List FunP) (f : FunP) (x : InsP) : Bool := insW nc fs.length f.free.length f.code.length (freeOf fs x.a) g x.op x.a x.b
def codeB (nc : Nat) (g : Int) (fs : List FunP) (f : FunP) : Bool := f.code.all (insOkB nc g fs f)
def mainB (fs : List FunP) : Bool := (fs.getD 0 ⟨0, [], []⟩).p == 0 && (fs.getD 0 ⟨0, [], []⟩).free.isEmpty
def validM (cs : List (List Dat)) (g : Int) (fs : List FunP) : Bool :=
 decide (1 ≤ fs.length) && decide (fs.length ≤ 200) && decide (cs.length ≤ 500) && decide (0 ≤ g) && decide (g ≤ 200) && (constsB 0 cs && (funcsB 0 fs && (mainB fs && fs.all (codeB cs.length g fs))))
end Go.Proofs.YtogmphjhdkgdjaaDoor
