/- What the specification's functions on data (l1digit to ValidData) come to: validD. -/
import Derived.Test.YtogmphjhdkgdjaaDoorZQFnExactValidModulex3
import Derived.Test.YtogmphjhdkgdjaaDoorZDataA
namespace Go.Proofs.YtogmphjhdkgdjaaDoor.SpecVM
open Go.RowKit Go.Lib Go.Proofs.YtogmphjhdkgdjaaDoor.QFnExactValidModule Go.Proofs.YtogmphjhdkgdjaaDoorW.PrintWords Go.Proofs.YtogmphjhdkgdjaaDoorW.PrintLast
set_option linter.unusedVariables false
set_option linter.unusedSimpArgs false
def toD (x : S57) : Dat := ⟨x.f0, x.f1, x.f2, x.f3⟩
def Byt (l : List Int) : Prop := ∀ b ∈ l, 0 ≤ b ∧ b < 256
theorem wrap_up (i : Nat) (h : i ≤ 4611686018427387904) : wrap64 ((i : Int) + 1) = ((i + 1 : Nat) : Int) := by unfold wrap64; omega
theorem rd_nat (xs : List Int) (n : Nat) : rd xs (n : Int) = xs.getD n 0 := rfl
theorem Byt.get {l : List Int} (h : Byt l) {i : Nat} (hi : i < l.length) : 0 ≤ l.getD i 0 ∧ l.getD i 0 < 256 := by
 rw [List.getD_eq_getElem?_getD, List.getElem?_eq_getElem hi]
 exact h _ (List.getElem_mem _)
theorem Byt.drop {l : List Int} (h : Byt l) (n : Nat) : Byt (l.drop n) := fun b hb => h b (List.mem_of_mem_drop hb)
theorem drop_cons {α : Type} (l : List α) (i : Nat) (z : α) (h : i < l.length) : l.drop i = l.getD i z :: l.drop (i + 1) := by
 rw [List.drop_eq_getElem_cons h, List.getD_eq_getElem?_getD, List.getElem?_eq_getElem h]
 rfl
theorem digit_ev (a : Int) : spec_l1digit.f a = some (digB a) := by
 unfold spec_l1digit.f digB
 by_cases h : a ≥ 48
 ·rw [if_pos h, decide_eq_true (show 48 ≤ a from h), Bool.true_and]
 ·rw [if_neg h, decide_eq_false (show ¬ 48 ≤ a from h), Bool.false_and]
def letB (a : Int) : Bool := (decide (97 ≤ a) && decide (a ≤ 122)) || (decide (65 ≤ a) && decide (a ≤ 90))
theorem letter_ev (a : Int) : spec_l1letter.f a = some (letB a) := by
 unfold spec_l1letter.f letB
 split
 ·split
  ·simp [*]
  ·split <;> (simp [*]; try omega)
 ·split <;> (simp [*]; try omega)
/-! ### a byte of symbols -/
def othersI : List Int := [33, 36, 37, 38, 42, 47, 58, 60, 61, 62, 63, 94, 95, 126, 43, 45]
theorem bt_others (i : Nat) (h : i < 16) : bt (⟨#[33, 36, 37, 38, 42, 47, 58, 60, 61, 62, 63, 94, 95, 126, 43, 45]⟩ : ByteArray) (i : Int) = othersI.getD i 0 := by
 obtain rfl | rfl | rfl | rfl | rfl | rfl | rfl | rfl | rfl | rfl | rfl | rfl | rfl | rfl | rfl | rfl : i = 0 ∨ i = 1 ∨ i = 2 ∨ i = 3 ∨ i = 4 ∨ i = 5 ∨ i = 6 ∨ i = 7 ∨ i = 8 ∨ i = 9 ∨ i = 10 ∨ i = 11 ∨ i = 12 ∨ i = 13 ∨ i = 14 ∨ i = 15 := by omega
 all_goals rfl
theorem byte_l0 (a : Int) (d : Nat) : ∀ i : Nat, 16 - i = d → i ≤ 16 → Ev (fun k => spec_l1byte.l0 k a (⟨#[33, 36, 37, 38, 42, 47, 58, 60, 61, 62, 63, 94, 95, 126, 43, 45]⟩ : ByteArray) (i : Int)) ((othersI.drop i).contains a || letB a || digB a) := by
 induction d with
 | zero =>
  intro i hd hi
  obtain rfl : i = 16 := by omega
  refine Ev.step (f := fun _ => some (letB a || digB a)) (fun k => ?_) ?_
  ·simp only [spec_l1byte.l0]
   rw [if_neg (show ¬ ((16 : Nat) : Int) < ((⟨#[33, 36, 37, 38, 42, 47, 58, 60, 61, 62, 63, 94, 95, 126, 43, 45]⟩ : ByteArray).size : Int) by decide), letter_ev]
   simp only [Option.bind_some, digit_ev]
   cases letB a <;> rfl
  ·have e : othersI.drop 16 = [] := rfl
   rw [e]
   simpa using Ev.now (letB a || digB a)
 | succ d ih =>
  intro i hd hi
  have hlt : (i : Int) < ((⟨#[33, 36, 37, 38, 42, 47, 58, 60, 61, 62, 63, 94, 95, 126, 43, 45]⟩ : ByteArray).size : Int) := by
   show (i : Int) < 16
   omega
  rw [drop_cons othersI i 0 (by show i < 16; omega)]
  by_cases hb : othersI.getD i 0 = a
  ·refine Ev.step (f := fun _ => some true) (fun k => ?_) ?_
   ·simp only [spec_l1byte.l0]
    rw [if_pos hlt, if_pos (by omega : (0 : Int) ≤ i), bt_others i (by omega), if_pos hb]
   ·rw [← hb]
    simpa using Ev.now true
  ·refine Ev.step (f := fun k => spec_l1byte.l0 k a (⟨#[33, 36, 37, 38, 42, 47, 58, 60, 61, 62, 63, 94, 95, 126, 43, 45]⟩ : ByteArray) ((i + 1 : Nat) : Int)) (fun k => ?_) ?_
   ·simp only [spec_l1byte.l0]
    rw [if_pos hlt, if_pos (by omega : (0 : Int) ≤ i), bt_others i (by omega), if_neg hb, wrap_up i (by omega)]
   ·have := ih (i + 1) (by omega) (by omega)
    have hne : (a == othersI.getD i 0) = false := by rw [beq_eq_false_iff_ne]; exact fun h => hb h.symm
    rw [List.contains_cons, hne, Bool.false_or]
    exact this
theorem symByte_same (a : Int) (h0 : 0 ≤ a) (h1 : a < 256) : (othersI.contains a || letB a || digB a) = symByte a := by
 have key : ∀ n : Fin 256, (othersI.contains ((n : Nat) : Int) || letB ((n : Nat) : Int) || digB ((n : Nat) : Int)) = symByte ((n : Nat) : Int) := by decide +kernel
 have := key ⟨a.toNat, by omega⟩
 simpa [show (a.toNat : Int) = a by omega] using this
theorem byte_ev (a : Int) (h0 : 0 ≤ a) (h1 : a < 256) : Ev (fun k => spec_l1byte.f k a) (symByte a) := by
 rw [← symByte_same a h0 h1]
 refine Ev.congr (fun k => ?_) (byte_l0 a 16 0 rfl (by omega))
 rfl
/-! ### numbers -/
theorem number_l0 (s : List Int) (hs : s.length ≤ 4611686018427387904) (d : Nat) : ∀ i : Nat, s.length - i = d → i ≤ s.length → Ev (fun k => spec_l1number.l0 k s (i : Int)) ((s.drop i).all digB && !s.isEmpty) := by
 induction d with
 | zero =>
  intro i hd hi
  refine Ev.step (f := fun _ => some (decide ((s.length : Int) > 0))) (fun k => ?_) ?_
  ·simp only [spec_l1number.l0]
   rw [if_neg (by omega)]
  ·rw [List.drop_eq_nil_of_le (by omega), List.all_nil, Bool.true_and, show (!s.isEmpty) = decide ((s.length : Int) > 0) by cases s <;> simp]
   exact Ev.now _
 | succ d ih =>
  intro i hd hi
  have hlt : i < s.length := by omega
  rw [drop_cons s i 0 hlt, List.all_cons]
  cases hb : digB (s.getD i 0) with
  | true =>
   refine Ev.step (f := fun k => spec_l1number.l0 k s ((i + 1 : Nat) : Int)) (fun k => ?_) (by simpa using ih (i + 1) (by omega) (by omega))
   simp only [spec_l1number.l0]
   rw [if_pos (by omega), if_pos (by omega), rd_nat, digit_ev, hb]
   simp only [Option.bind_some, if_true]
   rw [wrap_up i (by omega)]
  | false =>
   refine Ev.step (f := fun _ => some false) (fun k => ?_) (by simpa using Ev.now false)
   simp only [spec_l1number.l0]
   rw [if_pos (by omega), if_pos (by omega), rd_nat, digit_ev, hb]
   rfl
theorem number_ev (s : List Int) (hs : s.length ≤ 4611686018427387904) : Ev (fun k => spec_l1number.f k s) (numB s) := by
 have h1 := fun t (ht : t.length ≤ 4611686018427387904) => Ev.step (g := fun k => spec_l1number.j1 k t) (f := fun k => spec_l1number.l0 k t ((0 : Nat) : Int)) (fun k => rfl) (number_l0 t ht t.length 0 (by omega) (by omega))
 unfold numB
 by_cases h : 1 < s.length ∧ s.getD 0 0 = 45
 ·rw [if_pos h]
  refine Ev.congr (f := fun k => spec_l1number.j0 k s true) (fun k => ?_) ?_
  ·unfold spec_l1number.f
   rw [if_pos (by omega), if_pos (by omega), show rd s 0 = 45 from h.2]
   rfl
  ·refine Ev.step (f := fun k => spec_l1number.j1 k (s.drop 1)) (fun k => ?_) (h1 (s.drop 1) (by simp; omega))
   simp only [spec_l1number.j0, if_true]
   rw [if_pos (by omega)]
 ·rw [if_neg h]
  refine Ev.congr (f := fun k => spec_l1number.j0 k s false) (fun k => ?_) ?_
  ·unfold spec_l1number.f
   by_cases hl : (s.length : Int) > 1
   ·rw [if_pos hl, if_pos (by omega), show (rd s 0 == 45) = false from beq_eq_false_iff_ne.2 (fun e => h ⟨by omega, e⟩)]
   ·rw [if_neg hl]
  ·refine Ev.step (f := fun k => spec_l1number.j1 k s) (fun k => ?_) (h1 s hs)
   simp only [spec_l1number.j0, Bool.false_eq_true, if_false]
/-! ### symbols -/
theorem symbol_l0 (s : List Int) (hb : Byt s) (hs : s.length ≤ 4611686018427387904) (d : Nat) : ∀ i : Nat, s.length - i = d → i ≤ s.length → Ev (fun k => spec_l1symbol.l0 k s (i : Int)) ((s.drop i).all symByte) := by
 induction d with
 | zero =>
  intro i hd hi
  refine Ev.step (f := fun _ => some true) (fun k => ?_) ?_
  ·simp only [spec_l1symbol.l0]
   rw [if_neg (by omega)]
  ·rw [List.drop_eq_nil_of_le (by omega)]
   exact Ev.now _
 | succ d ih =>
  intro i hd hi
  have hlt : i < s.length := by omega
  rw [drop_cons s i 0 hlt, List.all_cons]
  refine Ev.step (f := fun k => (spec_l1byte.f k (s.getD i 0)).bind fun t => if t = true then spec_l1symbol.l0 k s ((i + 1 : Nat) : Int) else some false) (fun k => ?_) ?_
  ·simp only [spec_l1symbol.l0]
   rw [if_pos (by omega), if_pos (by omega), rd_nat, wrap_up i (by omega)]
  ·refine Ev.bind (byte_ev _ (hb.get hlt).1 (hb.get hlt).2) ?_
   cases symByte (s.getD i 0) with
   | true => simpa using ih (i + 1) (by omega) (by omega)
   | false => simpa using Ev.now false
theorem symbol_ev (s : List Int) (hb : Byt s) (hs : s.length ≤ 4611686018427387904) : Ev (fun k => spec_l1symbol.f k s) (symB s) := by
 have ht : Ev (fun k => spec_l1symbol.j0 k s true) false := Ev.step (f := fun _ => some false) (fun k => by simp only [spec_l1symbol.j0, if_true]) (Ev.now _)
 have hf : Ev (fun k => spec_l1symbol.j0 k s false) (s.all symByte) := Ev.step (f := fun k => spec_l1symbol.l0 k s ((0 : Nat) : Int)) (fun k => by simp only [spec_l1symbol.j0, Bool.false_eq_true, if_false]; rfl) (symbol_l0 s hb hs s.length 0 (by omega) (by omega))
 unfold symB
 by_cases h1 : (s.length : Int) < 1
 ·have : s = [] := List.eq_nil_of_length_eq_zero (by omega)
  subst this
  refine Ev.congr (fun k => ?_) ht
  rfl
 ·have e1 : s.isEmpty = false := by cases s with | nil => simp at h1 | cons => rfl
  rw [e1]
  by_cases h2 : (s.length : Int) > 100
  ·rw [decide_eq_false (by omega)]
   refine Ev.congr (fun k => ?_) ht
   unfold spec_l1symbol.f
   rw [if_neg h1, if_pos h2]
  ·rw [decide_eq_true (by omega)]
   refine Ev.congr (f := fun k => (spec_l1digit.f (s.getD 0 0)).bind fun t => if t = true then spec_l1symbol.j0 k s true else (spec_l1number.f k s).bind fun u => spec_l1symbol.j0 k s u) (fun k => ?_) ?_
   ·unfold spec_l1symbol.f
    rw [if_neg h1, if_neg h2, if_pos (by omega)]
    rfl
   ·simp only [digit_ev, Option.bind_some]
    cases digB (s.getD 0 0) with
    | true => simpa using ht
    | false =>
     simp only [Bool.false_eq_true, if_false]
     refine Ev.bind (number_ev s hs) ?_
     cases numB s with
     | true => simpa using ht
     | false => simpa using hf
theorem small_ev (v : Int) : spec_l1small.f v = some (smallB v) := by
 unfold spec_l1small.f smallB
 by_cases h : v ≥ -2305843009213693952
 ·rw [if_pos h, decide_eq_true (show -2305843009213693952 ≤ v from h), Bool.true_and]
 ·rw [if_neg h, decide_eq_false (show ¬ -2305843009213693952 ≤ v from h), Bool.false_and]
theorem good_ev (a n : Int) (t : List Int) (c : Int) (hb : Byt t) (hs : t.length ≤ 4611686018427387904) : Ev (fun k => spec_l1good.f k a n t c) (goodB ⟨a, n, t, c⟩) := by
 have ht : Ev (fun k => spec_l1good.j0 k true a n t c) false := Ev.step (f := fun _ => some false) (fun k => by simp only [spec_l1good.j0, if_true]) (Ev.now _)
 unfold goodB
 simp only
 by_cases h3 : a = 3
 ·subst h3
  rw [if_neg (by decide), if_neg (by decide), if_neg (by decide)]
  refine Ev.congr (f := fun k => spec_l1good.j0 k false 3 n t c) (fun k => by unfold spec_l1good.f; rw [if_pos rfl]) ?_
  refine Ev.step (f := fun _ => some (n == 0 && t.isEmpty && decide (0 ≤ c))) (fun k => ?_) (by simpa using Ev.now (n == 0 && t.isEmpty && decide (0 ≤ c)))
  simp only [spec_l1good.j0, Bool.false_eq_true, if_false]
  rw [if_neg (by decide)]
  by_cases he : (t.length : Int) = 0
  ·have : t = [] := List.eq_nil_of_length_eq_zero (by omega)
   subst this
   by_cases h0 : n = 0
   ·simp [h0]
   ·simp [h0]
  ·have : t.isEmpty = false := by cases t with | nil => simp at he | cons => rfl
   rw [if_neg he, this]
   simp
 ·refine Ev.congr (f := fun k => spec_l1good.j0 k (c != 0) a n t c) (fun k => by unfold spec_l1good.f; rw [if_neg h3]) ?_
  by_cases hc : c = 0
  ·subst hc
   simp only [bne_self_eq_false, BEq.rfl, Bool.and_true]
   by_cases h2 : a = 2
   ·subst h2
    rw [if_neg (by decide), if_neg (by decide), if_pos rfl]
    by_cases h0 : n = 0
    ·subst h0
     refine Ev.step (f := fun k => (spec_l1symbol.f k t).bind fun u => some u) (fun k => ?_) (Ev.bind (symbol_ev t hb hs) (by simpa using Ev.now _))
     simp only [spec_l1good.j0, Bool.false_eq_true, if_false, if_true]
    ·have h0b : (n == 0) = false := by simpa using h0
     rw [h0b, Bool.false_and]
     refine Ev.step (f := fun _ => some false) (fun k => ?_) (Ev.now false)
     simp only [spec_l1good.j0, Bool.false_eq_true, if_false, if_true]
     rw [if_neg h0]
   ·rw [if_neg h2]
    by_cases he : (t.length : Int) = 0
    ·have : t = [] := List.eq_nil_of_length_eq_zero (by omega)
     subst this
     by_cases h0 : a = 0
     ·subst h0
      refine Ev.step (f := fun _ => some (smallB n)) (fun k => ?_) (by simpa using Ev.now _)
      simp only [spec_l1good.j0, Bool.false_eq_true, if_false]
      simp [small_ev]
     ·by_cases h1 : a = 1
      ·subst h1
       refine Ev.step (f := fun _ => some (n == 0 || n == 1)) (fun k => ?_) (by simpa using Ev.now _)
       simp only [spec_l1good.j0, Bool.false_eq_true, if_false]
       by_cases hn : n = 0
       ·simp [hn]
       ·simp [hn]
      ·rw [if_neg h0, if_neg h1, show (a == 3) = false by simpa using h3]
       refine Ev.step (f := fun _ => some false) (fun k => ?_) (by simpa using Ev.now false)
       simp only [spec_l1good.j0, Bool.false_eq_true, if_false]
       rw [if_neg h2, if_pos he, if_neg h0, if_neg h1, if_neg h3]
    ·have hE : t.isEmpty = false := by cases t with | nil => simp at he | cons => rfl
     refine Ev.step (f := fun _ => some false) (fun k => ?_) ?_
     ·simp only [spec_l1good.j0, Bool.false_eq_true, if_false]
      rw [if_neg h2, if_neg he]
     ·simpa [hE] using Ev.now false
  ·have hne : (c != 0) = true := by simpa using hc
   have hcb : (c == 0) = false := by simpa using hc
   have hk : (a == 3) = false := by simpa using h3
   rw [hne, hcb, hk]
   simpa using ht
/-! ### ends of data -/
/-- Data that a reader can stand before: bytes are bytes, numbers are of 64 bits. -/
structure Fits (l : List S57) : Prop where
 len : l.length ≤ 1048576
 byt : ∀ x ∈ l, Byt x.f2 ∧ x.f2.length ≤ 4611686018427387904
 cnt : ∀ x ∈ l, x.f3 ≤ 9223372036854775807
theorem rdT_nat (l : List S57) (i : Nat) : rd_T57 l (i : Int) = l.getD i z57 := rfl
theorem mem_getD {α : Type} {l : List α} {i : Nat} {z : α} (h : i < l.length) : l.getD i z ∈ l := by
 rw [List.getD_eq_getElem?_getD, List.getElem?_eq_getElem h]
 exact List.getElem_mem _
/-- The place behind what was read, or -1. -/
def plO (n : Nat) : Option (List Dat) → Int
 | none => -1
 | some r => (n : Int) - r.length
theorem drop_map (l : List S57) (i : Nat) (h : i < l.length) : (l.map toD).drop i = toD (l.getD i z57) :: (l.map toD).drop (i + 1) := by
 rw [← List.map_drop, drop_cons l i z57 h, List.map_cons, List.map_drop]
theorem plO_none (n : Nat) : plO n none = -1 := rfl
theorem plO_some (n : Nat) (r : List Dat) : plO n (some r) = (n : Int) - r.length := rfl
/-- The loop over a list's elements. -/
theorem kids_ev {l : List S57} (hl : Fits l) (m : Nat) (i : Nat) (hi : i < l.length) (hc0 : 0 ≤ (l.getD i z57).f3) (hc1 : (l.getD i z57).f3 ≤ l.length)
  (ih : ∀ at_ : Nat, at_ ≤ l.length → Ev (fun k => spec_l1end.f k l (at_ : Int) (m : Int)) (plO l.length (endD m ((l.map toD).drop at_)))) (hm : m ≤ 99) (d : Nat) :
  ∀ (j at_ : Nat), (l.getD i z57).f3.toNat - j = d → j ≤ (l.getD i z57).f3.toNat → at_ ≤ l.length →
   Ev (fun k => spec_l1end.l0 k l (i : Int) ((m + 1 : Nat) : Int) (at_ : Int) (j : Int)) (plO l.length (kidsF (endD m) ((l.getD i z57).f3.toNat - j) ((l.map toD).drop at_))) := by
 have hlen := hl.len
 induction d with
 | zero =>
  intro j at_ hd hj ha
  rw [hd]
  refine Ev.step (f := fun _ => some (at_ : Int)) (fun k => ?_) ?_
  ·simp only [spec_l1end.l0]
   rw [if_pos (by omega), if_pos (by omega), rdT_nat, if_neg (by omega)]
  ·simp only [kidsF, plO, List.length_drop, List.length_map]
   rw [show (l.length : Int) - ((l.length - at_ : Nat) : Int) = (at_ : Int) by omega]
   exact Ev.now _
 | succ d ihd =>
  intro j at_ hd hj ha
  rw [hd]
  refine Ev.step (f := fun k => (spec_l1end.f k l (at_ : Int) (m : Int)).bind fun t => if t < 0 then some (-1) else spec_l1end.l0 k l (i : Int) ((m + 1 : Nat) : Int) t ((j + 1 : Nat) : Int)) (fun k => ?_) ?_
  ·simp only [spec_l1end.l0]
   rw [if_pos (by omega), if_pos (by omega), rdT_nat, if_pos (by omega), wrap_up j (by omega), show wrap64 (((m + 1 : Nat) : Int) - 1) = (m : Int) by unfold wrap64; omega]
  ·obtain ⟨t, ht⟩ : ∃ t, plO l.length (endD m ((l.map toD).drop at_)) = t := ⟨_, rfl⟩
   have h1 := ih at_ ha
   rw [ht] at h1
   refine Ev.bind h1 ?_
   simp only [kidsF]
   cases he : endD m ((l.map toD).drop at_) with
   | none =>
    rw [he, plO_none] at ht
    subst ht
    rw [Option.bind_none, plO_none]
    exact Ev.now _
   | some r =>
    have hr := endD_len m _ _ he
    simp only [List.length_drop, List.length_map] at hr
    rw [he, plO_some] at ht
    rw [Option.bind_some]
    obtain ⟨b, hb, hb2⟩ : ∃ b : Nat, (l.length : Int) - r.length = (b : Int) ∧ b ≤ l.length := ⟨l.length - r.length, by omega, by omega⟩
    have hrb : r = (l.map toD).drop b := by
     have := endD_suffix m _ _ he
     obtain ⟨p, hp⟩ := this
     have hpl := congrArg List.length hp
     simp only [List.length_append, List.length_drop, List.length_map] at hpl
     have h2 : (l.map toD).drop b = ((l.map toD).drop at_).drop (b - at_) := by rw [List.drop_drop]; congr 1; omega
     rw [h2, ← hp, List.drop_append, List.drop_eq_nil_of_le (by omega), List.nil_append, show b - at_ - p.length = 0 by omega, List.drop_zero]
    rw [hb] at ht
    subst ht
    rw [hrb]
    have := ihd (j + 1) b (by omega) (by omega) hb2
    rw [show (l.getD i z57).f3.toNat - (j + 1) = d by omega] at this
    refine Ev.congr (fun k => ?_) this
    rw [if_neg (by omega)]
/-- One datum, but for the loop. -/
theorem end_step {l : List S57} (hl : Fits l) (m : Nat) (hm : m ≤ 100) (i : Nat) (hi : i ≤ l.length)
  (hk : ∀ hi : i < l.length, (l.getD i z57).f0 = 3 → goodB (toD (l.getD i z57)) = true → (l.getD i z57).f3 ≤ l.length →
   Ev (fun k => if (m : Int) = 0 then some (-1) else spec_l1end.l0 k l (i : Int) (m : Int) ((i + 1 : Nat) : Int) 0) (plO l.length (endD m ((l.map toD).drop i)))) :
  Ev (fun k => spec_l1end.f k l (i : Int) (m : Int)) (plO l.length (endD m ((l.map toD).drop i))) := by
 have hlen := hl.len
 have hT : Ev (fun k => spec_l1end.j0 k l (i : Int) (m : Int) true) (-1) := Ev.step (f := fun _ => some (-1)) (fun k => by simp only [spec_l1end.j0, if_true]) (Ev.now _)
 by_cases h : i < l.length
 ·have hbt := hl.byt _ (mem_getD (z := z57) h)
  refine Ev.step (f := fun k => (spec_l1good.f k (l.getD i z57).f0 (l.getD i z57).f1 (l.getD i z57).f2 (l.getD i z57).f3).bind fun t => if t = true then spec_l1end.j0 k l (i : Int) (m : Int) (decide ((l.getD i z57).f3 > (l.length : Int))) else spec_l1end.j0 k l (i : Int) (m : Int) true) (fun k => ?_) ?_
  ·simp only [spec_l1end.f]
   rw [if_neg (by omega), if_pos (by omega), if_pos (by omega), rdT_nat]
  ·refine Ev.bind (good_ev _ _ _ _ hbt.1 hbt.2) ?_
   have hd := drop_map l i h
   cases hg : goodB (toD (l.getD i z57)) with
   | false =>
    rw [show goodB ⟨_, _, _, _⟩ = false from hg]
    rw [hd, endD_bad m _ hg, plO_none]
    simpa using hT
   | true =>
    rw [show goodB ⟨_, _, _, _⟩ = true from hg]
    simp only [if_true]
    by_cases hc : (l.getD i z57).f3 > (l.length : Int)
    ·rw [decide_eq_true hc]
     have h3 := good_list hg (show 0 < (toD (l.getD i z57)).c from by show 0 < (l.getD i z57).f3; omega)
     have : endD m ((l.map toD).drop i) = none := by
      rw [hd]
      cases m with
      | zero => exact endD_zero _ h3
      | succ m =>
       rw [endD_list m _ hg h3]
       exact kidsF_none (endD_len m) _ _ (by simp only [List.length_drop, List.length_map]; show _ < ((l.getD i z57).f3).toNat; omega)
     rw [this]
     exact hT
    ·rw [decide_eq_false hc]
     by_cases h3 : (l.getD i z57).f0 = 3
     ·refine Ev.step (f := fun k => if (m : Int) = 0 then some (-1) else spec_l1end.l0 k l (i : Int) (m : Int) ((i + 1 : Nat) : Int) 0) (fun k => ?_) (hk h h3 hg (by omega))
      simp only [spec_l1end.j0, Bool.false_eq_true, if_false]
      rw [if_pos (by omega), if_pos (by omega), rdT_nat, if_pos h3, wrap_up i (by omega)]
     ·have : endD m ((l.map toD).drop i) = some ((l.map toD).drop (i + 1)) := by
       rw [hd]
       exact endD_atom m _ hg h3
      rw [this, plO_some]
      refine Ev.step (f := fun _ => some ((i + 1 : Nat) : Int)) (fun k => ?_) ?_
      ·simp only [spec_l1end.j0, Bool.false_eq_true, if_false]
       rw [if_pos (by omega), if_pos (by omega), rdT_nat, if_neg h3, wrap_up i (by omega)]
      ·simp only [List.length_drop, List.length_map]
       rw [show (l.length : Int) - ((l.length - (i + 1) : Nat) : Int) = ((i + 1 : Nat) : Int) by omega]
       exact Ev.now _
 ·have hd : (l.map toD).drop i = [] := List.drop_eq_nil_of_le (by simp; omega)
  have : endD m ((l.map toD).drop i) = none := by rw [hd]; cases m <;> rfl
  rw [this]
  refine Ev.step (f := fun k => spec_l1end.j0 k l (i : Int) (m : Int) true) (fun k => ?_) hT
  simp only [spec_l1end.f]
  rw [if_pos (by omega)]
theorem end_ev {l : List S57} (hl : Fits l) : ∀ (m : Nat), m ≤ 100 → ∀ (i : Nat), i ≤ l.length → Ev (fun k => spec_l1end.f k l (i : Int) (m : Int)) (plO l.length (endD m ((l.map toD).drop i))) := by
 intro m
 induction m with
 | zero =>
  intro hm i hi
  refine end_step hl 0 hm i hi (fun h h3 hg hc => ?_)
  have : endD 0 ((l.map toD).drop i) = none := by
   rw [drop_map l i h]
   exact endD_zero _ h3
  rw [this]
  refine Ev.congr (fun k => ?_) (Ev.now (-1))
  rw [if_pos (by simp)]
 | succ m ih =>
  intro hm i hi
  refine end_step hl (m + 1) hm i hi (fun h h3 hg hc => ?_)
  have h3' : (toD (l.getD i z57)).k = 3 := h3
  have hk := kids_ev hl m i h (good_cnt hg h3') hc (fun a ha => ih (by omega) a ha) (by omega) _ 0 (i + 1) rfl (by omega) (by omega)
  have : endD (m + 1) ((l.map toD).drop i) = kidsF (endD m) ((l.getD i z57).f3.toNat - 0) ((l.map toD).drop (i + 1)) := by
   rw [drop_map l i h, endD_list m _ hg h3']
   rfl
  rw [this]
  refine Ev.congr (fun k => ?_) hk
  rw [if_neg (by omega)]
  rfl
theorem rows_l0 {l : List S57} (hl : Fits l) : ∀ (f i : Nat), l.length - i ≤ f → i ≤ l.length → Ev (fun k => spec_ValidData.l0 k l (i : Int)) (rowsF f ((l.map toD).drop i)) := by
 intro f
 have hlen := hl.len
 induction f with
 | zero =>
  intro i hf hi
  rw [List.drop_eq_nil_of_le (by simp; omega)]
  refine Ev.step (f := fun _ => some true) (fun k => ?_) (Ev.now _)
  simp only [spec_ValidData.l0]
  rw [if_neg (by omega)]
 | succ f ih =>
  intro i hf hi
  by_cases h : i < l.length
  ·refine Ev.step (f := fun k => (spec_l1end.f k l (i : Int) ((100 : Nat) : Int)).bind fun t => if t < 0 then some false else spec_ValidData.l0 k l t) (fun k => ?_) ?_
   ·simp only [spec_ValidData.l0]
    rw [if_pos (by omega)]
    rfl
   ·obtain ⟨t, ht⟩ : ∃ t, plO l.length (endD 100 ((l.map toD).drop i)) = t := ⟨_, rfl⟩
    have h1 := end_ev hl 100 (by omega) i hi
    rw [ht] at h1
    refine Ev.bind h1 ?_
    have hd := drop_map l i h
    have hR : rowsF (f + 1) ((l.map toD).drop i) = match endD 100 ((l.map toD).drop i) with | none => false | some r' => rowsF f r' := by rw [hd]; rfl
    rw [hR]
    cases he : endD 100 ((l.map toD).drop i) with
    | none =>
     rw [he, plO_none] at ht
     subst ht
     exact Ev.now _
    | some r =>
     have hr := endD_len 100 _ _ he
     simp only [List.length_drop, List.length_map] at hr
     rw [he, plO_some] at ht
     obtain ⟨b, hb, hb2⟩ : ∃ b : Nat, (l.length : Int) - r.length = (b : Int) ∧ b ≤ l.length := ⟨l.length - r.length, by omega, by omega⟩
     have hrb : r = (l.map toD).drop b := by
      obtain ⟨p, hp⟩ := endD_suffix 100 _ _ he
      have hpl := congrArg List.length hp
      simp only [List.length_append, List.length_drop, List.length_map] at hpl
      have h2 : (l.map toD).drop b = ((l.map toD).drop i).drop (b - i) := by rw [List.drop_drop]; congr 1; omega
      rw [h2, ← hp, List.drop_append, List.drop_eq_nil_of_le (by omega), List.nil_append, show b - i - p.length = 0 by omega, List.drop_zero]
     rw [hb] at ht
     subst ht
     refine Ev.congr (fun k => ?_) (show Ev (fun k => spec_ValidData.l0 k l (b : Int)) (rowsF f r) from by rw [hrb]; exact ih b (by omega) hb2)
     rw [if_neg (by omega)]
  ·rw [List.drop_eq_nil_of_le (by simp; omega)]
   refine Ev.step (f := fun _ => some true) (fun k => ?_) (Ev.now _)
   simp only [spec_ValidData.l0]
   rw [if_neg (by omega)]
theorem valid_ev {l : List S57} (hl : Fits l) : Ev (fun k => spec_ValidData.f k l) (validD (l.map toD)) := by
 unfold validD
 rw [List.length_map]
 by_cases h : (l.length : Int) > 3000
 ·rw [decide_eq_false (by omega)]
  refine Ev.congr (fun k => ?_) (Ev.now false)
  unfold spec_ValidData.f
  rw [if_pos h]
 ·rw [decide_eq_true (by omega), Bool.true_and]
  refine Ev.congr (fun k => ?_) (rows_l0 hl l.length 0 (by omega) (by omega))
  unfold spec_ValidData.f
  rw [if_neg h]
  rfl
end Go.Proofs.YtogmphjhdkgdjaaDoor.SpecVM
