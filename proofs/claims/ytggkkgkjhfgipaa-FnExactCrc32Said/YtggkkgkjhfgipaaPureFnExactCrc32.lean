/- PROVED: the printed function of FnExactCrc32 answers true at every list of bytes. Conditions: none beyond the bytes' own kind and the row's own bound on a slice's length. -/
import Derived.Test.YtggkkgkjhfgipaaQFnExactCrc32x1
import Derived.Laws.BitsAllLaws
namespace Go.Proofs.Ytggkkgkjhfgipaa.Pure
open Go.RowKit Go.Proofs.Ytggkkgkjhfgipaa.QFnExactCrc32 Go.Proofs.YtggkkgkjhfgipaaW.PrintWords Go.Proofs.YtggkkgkjhfgipaaW.PrintLast
set_option linter.unusedVariables false
set_option linter.unusedSimpArgs false

theorem wrap_up (i : Nat) (h : i ≤ 4611686018427387904) : wrap64 ((i : Int) + 1) = ((i + 1 : Nat) : Int) := by unfold wrap64; omega
theorem rd_nat (xs : List Int) (n : Nat) : rd xs (n : Int) = xs.getD n 0 := rfl

/-! ### toByteS: a copy -/
theorem toByteS_l0 (a : List Int) (ha : a.length ≤ 4611686018427387904) (d : Nat) : ∀ (i : Nat) (b : List Int), a.length - i = d → i ≤ a.length → b.length = a.length → b.take i = a.take i →
    Ev (fun k => laws_toByteS.l0 k a b (i : Int)) a := by
  induction d with
  | zero =>
    intro i b hd hi hb he
    have hia : i = a.length := by omega
    have hba : b = a := by
      rw [← List.take_of_length_le (show b.length ≤ i by omega), he, List.take_of_length_le (show a.length ≤ i by omega)]
    refine Ev.step (f := fun _ => some a) (fun k => ?_) (Ev.now _)
    simp only [laws_toByteS.l0]; rw [if_neg (by omega), hba]
  | succ d ih =>
    intro i b hd hi hb he
    refine Ev.step (f := fun k => laws_toByteS.l0 k a (b.set i (a.getD i 0)) ((i + 1 : Nat) : Int)) (fun k => ?_) (ih (i + 1) _ (by omega) (by omega) (by simpa using hb) ?_)
    · simp only [laws_toByteS.l0]
      rw [if_pos (by omega : (i : Int) < (a.length : Int)), if_pos (by omega : (0 : Int) ≤ i), if_pos (by omega : (i : Int) < (b.length : Int)), wrap_up i (by omega), Int.toNat_natCast, rd_nat]
    · apply List.ext_getElem?
      intro j
      have hj := congrArg (fun l => l[j]?) he
      simp only [List.getElem?_take] at hj
      simp only [List.getElem?_take, List.getElem?_set]
      by_cases h1 : j < i + 1
      · rw [if_pos h1, if_pos h1]
        by_cases h2 : i = j
        · subst h2
          have hib : i < b.length := by omega
          have hia : i < a.length := by omega
          simp [hib, hia, List.getD_eq_getElem?_getD]
        · rw [if_neg h2]
          rw [if_pos (by omega), if_pos (by omega)] at hj
          exact hj
      · rw [if_neg h1, if_neg h1]
theorem toByteS_ev (a : List Int) (ha : a.length ≤ 281474976710656) : Ev (fun k => laws_toByteS.f k a) a := by
  refine Ev.congr (f := fun k => laws_toByteS.l0 k a (List.replicate a.length 0) ((0 : Nat) : Int)) (fun k => ?_) (toByteS_l0 a (by omega) a.length 0 _ (by omega) (by omega) (by simp) (by simp))
  unfold laws_toByteS.f
  rw [if_pos (by omega), if_pos (by omega)]
  rfl

/-! ### eqByteS of a list and itself -/
theorem eqByteS_l0 (a : List Int) (ha : a.length ≤ 4611686018427387904) (d : Nat) : ∀ i : Nat, a.length - i = d → i ≤ a.length → Ev (fun k => laws_eqByteS.l0 k a a (i : Int)) true := by
  induction d with
  | zero =>
    intro i hd hi
    refine Ev.step (f := fun _ => some true) (fun k => ?_) (Ev.now _)
    simp only [laws_eqByteS.l0]; rw [if_neg (by omega)]
  | succ d ih =>
    intro i hd hi
    refine Ev.step (f := fun k => laws_eqByteS.l0 k a a ((i + 1 : Nat) : Int)) (fun k => ?_) (ih (i + 1) (by omega) (by omega))
    have h1 : (i : Int) < (a.length : Int) := by omega
    simp only [laws_eqByteS.l0]
    rw [if_pos h1, if_pos (by omega : (0 : Int) ≤ i), if_pos h1, wrap_up i (by omega)]
    simp only [if_true]
theorem eqByteS_refl (a : List Int) (ha : a.length ≤ 4611686018427387904) : Ev (fun k => laws_eqByteS.f k a a) true := by
  refine Ev.congr (f := fun k => laws_eqByteS.l0 k a a ((0 : Nat) : Int)) (fun k => ?_) (eqByteS_l0 a ha a.length 0 (by omega) (by omega))
  unfold laws_eqByteS.f
  rw [if_pos rfl]
  rfl

/-! ### the checksum -/
def crcBit (x : Int) : Int := if x % 2 = 1 then Go.bits .xor .u32 (x / 2) 3988292384 else x / 2
def crcBits : Nat → Int → Int
  | 0, x => x
  | n + 1, x => crcBits n (crcBit x)
def crcFrom (a : List Int) : Nat → Nat → Int → Int
  | 0, _, x => x
  | d + 1, i, x => crcFrom a d (i + 1) (crcBits 8 (Go.bits .xor .u32 x (a.getD i 0)))
def InU32 (x : Int) : Prop := 0 ≤ x ∧ x < 4294967296
theorem xor_in (x y : Int) : InU32 (Go.bits .xor .u32 x y) := by
  unfold Go.bits InU32
  simp only [IntKind.wrap_u32']
  omega
theorem crcBit_in {x : Int} (h : InU32 x) : InU32 (crcBit x) := by
  unfold crcBit
  split
  · exact xor_in _ _
  · unfold InU32 at *; omega
theorem and_one {x : Int} (h : InU32 x) : Go.bits .and .u32 x 1 = x % 2 := by
  obtain ⟨n, rfl⟩ := Int.eq_ofNat_of_zero_le h.1
  have hn : n < 4294967296 := by have := h.2; omega
  have e := u32_and_nat n 1 hn (by omega)
  rw [show ((1 : Nat) : Int) = 1 from rfl] at e
  rw [e, Nat.and_one_is_mod]
  omega
theorem xor_swap (x y : Int) : Go.bits .xor .u32 x y = Go.bits .xor .u32 y x := by
  unfold Go.bits
  simp only [BitVec.xor_comm]

theorem spec_l1 (a : List Int) (i : Int) (d : Nat) : ∀ (j : Nat) (x : Int) (r : Int), 8 - j = d → j ≤ 8 → InU32 x → Ev (fun k => spec_Crc32.l0 k a (crcBits d x) (wrap64 (i + 1))) r → Ev (fun k => spec_Crc32.l1 k a x i (j : Int)) r := by
  induction d with
  | zero =>
    intro j x r hd hj hx h
    refine Ev.step (fun k => ?_) h
    simp only [spec_Crc32.l1]; rw [if_neg (by omega)]; rfl
  | succ d ih =>
    intro j x r hd hj hx h
    have hw : wrap64 ((j : Int) + 1) = ((j + 1 : Nat) : Int) := wrap_up j (by omega)
    refine Ev.step (f := fun k => spec_Crc32.l1 k a (crcBit x) i ((j + 1 : Nat) : Int)) (fun k => ?_) (ih (j + 1) (crcBit x) r (by omega) (by omega) (crcBit_in hx) h)
    have hx1 : Int.tmod x 2 = x % 2 := by rw [Int.tmod_eq_emod_of_nonneg hx.1]
    have hx2 : Int.tdiv x 2 % 4294967296 = x / 2 := by rw [Int.tdiv_eq_ediv_of_nonneg hx.1]; have := hx.1; have := hx.2; omega
    simp only [spec_Crc32.l1]
    rw [if_pos (by omega : (j : Int) < 8), hx1, hx2, hw]
    unfold crcBit
    split <;> rfl
theorem spec_l0 (a : List Int) (hb : ∀ x ∈ a, 0 ≤ x ∧ x ≤ 255) (ha : a.length ≤ 4611686018427387904) (d : Nat) : ∀ (i : Nat) (x : Int), a.length - i = d → i ≤ a.length → InU32 x →
    Ev (fun k => spec_Crc32.l0 k a x (i : Int)) (Go.bits .xor .u32 (crcFrom a d i x) 4294967295) := by
  induction d with
  | zero =>
    intro i x hd hi hx
    refine Ev.step (f := fun _ => some (Go.bits .xor .u32 x 4294967295)) (fun k => ?_) (Ev.now _)
    simp only [spec_Crc32.l0]; rw [if_neg (by omega)]
  | succ d ih =>
    intro i x hd hi hx
    have hbi := hb (a.getD i 0) (by rw [List.getD_eq_getElem?_getD, List.getElem?_eq_getElem (show i < a.length by omega)]; exact List.getElem_mem _)
    refine Ev.step (f := fun k => spec_Crc32.l1 k a (Go.bits .xor .u32 x (a.getD i 0)) (i : Int) ((0 : Nat) : Int)) (fun k => ?_) (spec_l1 a i 8 0 _ _ (by omega) (by omega) (xor_in _ _) ?_)
    · simp only [spec_Crc32.l0]
      rw [if_pos (by omega : (i : Int) < (a.length : Int)), if_pos (by omega : (0 : Int) ≤ i), rd_nat, show a.getD i 0 % 4294967296 = a.getD i 0 by omega]
      rfl
    · rw [wrap_up i (by omega)]
      exact ih (i + 1) _ (by omega) (by omega) (by
        have : ∀ n x, InU32 x → InU32 (crcBits n x) := by
          intro n
          induction n with
          | zero => exact fun _ h => h
          | succ n ih => exact fun x h => ih _ (crcBit_in h)
        exact this 8 _ (xor_in _ _))

theorem impl_l1 (a : List Int) (L i : Int) (d : Nat) : ∀ (j : Nat) (x : Int) (r : Int), 8 - j = d → j ≤ 8 → InU32 x → Ev (fun k => impl_Crc32.l0 k (crcBits d x) a L (wrap64 (i + 1))) r → Ev (fun k => impl_Crc32.l1 k x a L i (j : Int)) r := by
  induction d with
  | zero =>
    intro j x r hd hj hx h
    refine Ev.step (fun k => ?_) h
    simp only [impl_Crc32.l1]; rw [if_neg (by omega)]; rfl
  | succ d ih =>
    intro j x r hd hj hx h
    have hw : wrap64 ((j : Int) + 1) = ((j + 1 : Nat) : Int) := wrap_up j (by omega)
    refine Ev.step (f := fun k => impl_Crc32.l1 k (crcBit x) a L i ((j + 1 : Nat) : Int)) (fun k => ?_) (ih (j + 1) (crcBit x) r (by omega) (by omega) (crcBit_in hx) h)
    simp only [impl_Crc32.l1]
    rw [if_pos (by omega : (j : Int) < 8), and_one hx, hw]
    unfold crcBit
    split <;> rfl
theorem impl_l0 (a : List Int) (hb : ∀ x ∈ a, 0 ≤ x ∧ x ≤ 255) (ha : a.length ≤ 4611686018427387904) (d : Nat) : ∀ (i : Nat) (x : Int), a.length - i = d → i ≤ a.length → InU32 x →
    Ev (fun k => impl_Crc32.l0 k x a (a.length : Int) (i : Int)) (Go.bits .xor .u32 (crcFrom a d i x) 4294967295) := by
  induction d with
  | zero =>
    intro i x hd hi hx
    refine Ev.step (f := fun _ => some (Go.bits .xor .u32 x 4294967295)) (fun k => ?_) (Ev.now _)
    simp only [impl_Crc32.l0]; rw [if_neg (by omega), xor_swap]
  | succ d ih =>
    intro i x hd hi hx
    have hbi := hb (a.getD i 0) (by rw [List.getD_eq_getElem?_getD, List.getElem?_eq_getElem (show i < a.length by omega)]; exact List.getElem_mem _)
    refine Ev.step (f := fun k => impl_Crc32.l1 k (Go.bits .xor .u32 x (a.getD i 0)) a (a.length : Int) (i : Int) ((0 : Nat) : Int)) (fun k => ?_) (impl_l1 a _ i 8 0 _ _ (by omega) (by omega) (xor_in _ _) ?_)
    · simp only [impl_Crc32.l0]
      rw [if_pos (by omega : (i : Int) < (a.length : Int)), if_pos (by omega : (0 : Int) ≤ i), if_pos (by omega : (i : Int) < (a.length : Int)), rd_nat, show a.getD i 0 % 4294967296 = a.getD i 0 by omega]
      rfl
    · rw [wrap_up i (by omega)]
      exact ih (i + 1) _ (by omega) (by omega) (by
        have : ∀ n x, InU32 x → InU32 (crcBits n x) := by
          intro n
          induction n with
          | zero => exact fun _ h => h
          | succ n ih => exact fun x h => ih _ (crcBit_in h)
        exact this 8 _ (xor_in _ _))

theorem FnExactCrc32 : laws_FnExactCrc32.Pure := by
  intro a hm hl hw
  have hb : ∀ x ∈ a, 0 ≤ x ∧ x ≤ 255 := by
    intro x hx
    have := hw x hx
    simp [Lit.wf, IntKind.min, IntKind.max, IntKind.bits, IntKind.signed] at this
    omega
  by_cases h1 : (a.length : Int) > 1048576
  · exact ⟨0, by unfold laws_FnExactCrc32.f; rw [if_pos h1]⟩
  · refine Ev.rounds (r := true) ?_
    unfold laws_FnExactCrc32.f
    simp only [if_neg h1]
    refine Ev.bind (toByteS_ev a (by omega)) ?_
    refine Ev.bind (a := Go.bits .xor .u32 (crcFrom a a.length 0 4294967295) 4294967295) (spec_l0 a hb (by omega) a.length 0 _ (by omega) (by omega) ⟨by omega, by omega⟩) ?_
    refine Ev.bind (toByteS_ev a (by omega)) ?_
    refine Ev.bind (a := Go.bits .xor .u32 (crcFrom a a.length 0 4294967295) 4294967295) (impl_l0 a hb (by omega) a.length 0 _ (by omega) (by omega) ⟨by omega, by omega⟩) ?_
    simp only [if_true]
    refine Ev.bind (toByteS_ev a (by omega)) ?_
    refine Ev.bind (eqByteS_refl a (by omega)) ?_
    simp only [if_true]
    exact Ev.now _
end Go.Proofs.Ytggkkgkjhfgipaa.Pure
