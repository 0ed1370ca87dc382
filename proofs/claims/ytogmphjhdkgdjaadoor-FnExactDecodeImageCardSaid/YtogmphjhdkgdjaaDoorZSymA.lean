/- The program's isSymbolByte and digitsOnly, over the library's IndexByte and Trim. -/
import Derived.Test.YtogmphjhdkgdjaaDoorZShelf
import Derived.Test.YtogmphjhdkgdjaaDoorZQFnExactValidModulex0
import Derived.Lib.Hide
namespace Go.Proofs.YtogmphjhdkgdjaaDoor
open Go.RowKit Go.Lib Go.Proofs.YtogmphjhdkgdjaaDoorW.PrintWords Go.Proofs.YtogmphjhdkgdjaaDoorW.PrintLast Go.Proofs.YtogmphjhdkgdjaaDoorW.PrintMore
set_option linter.unusedVariables false
set_option linter.unusedSimpArgs false
/-- The bytes of symbols that are no letters and no digits. -/
def signs : List UInt8 := [33, 36, 37, 38, 42, 47, 58, 60, 61, 62, 63, 94, 95, 126, 43, 45]
def symByte (a : Int) : Bool := if 97 ≤ a ∧ a ≤ 122 then true else if 65 ≤ a ∧ a ≤ 90 then true else if 48 ≤ a ∧ a ≤ 57 then true else decide (indexByte signs a.toNat.toUInt8 ≥ 0)
theorem ret_bool {a b : Bool} (h : a = b) : Ending.returned (.bool a) = .returned (.bool b) := by rw [h]
theorem isDigit_yes (a : Int) (w : World) (h0 : 48 ≤ a) (h1 : a ≤ 57) : Calls Tryd.prog 95 #[.int .u8 a] w fun e w' => e = .returned (.bool true) ∧ w' = w := by
 have c1 : decide (48 ≤ a) = true := decide_eq_true h0
 have c2 : decide (a ≤ 57) = true := decide_eq_true h1
 clear h0 h1
 go_enter Tryd.func95, Tryd.ntmps95
 go_wp2
 go_ret
 simp
theorem isDigit_no (a : Int) (w : World) (h : ¬ (48 ≤ a ∧ a ≤ 57)) : Calls Tryd.prog 95 #[.int .u8 a] w fun e w' => e = .returned (.bool false) ∧ w' = w := by
 by_cases h0 : 48 ≤ a
 ·have c1 : decide (48 ≤ a) = true := decide_eq_true h0
  have c2 : decide (a ≤ 57) = false := decide_eq_false (by omega)
  clear h0 h
  go_enter Tryd.func95, Tryd.ntmps95
  go_wp2
  go_ret
  simp
 ·have c1 : decide (48 ≤ a) = false := decide_eq_false h0
  clear h0 h
  go_enter Tryd.func95, Tryd.ntmps95
  go_wp2
  go_ret
  simp
theorem isSymbolByte_any (a : Int) (w : World) : Calls Tryd.prog 97 #[.int .u8 a] w fun e w' => e = .returned (.bool (symByte a)) ∧ Drawn0 w w' := by
 have hI := Tryd.strings_IndexByte ⟨#[33, 36, 37, 38, 42, 47, 58, 60, 61, 62, 63, 94, 95, 126, 43, 45]⟩ a
 by_cases h1 : 97 ≤ a ∧ a ≤ 122
 ·have hs : symByte a = true := by simp [symByte, h1]
  have c1 : decide (97 ≤ a) = true := decide_eq_true h1.1
  have c2 : decide (a ≤ 122) = true := decide_eq_true h1.2
  rw [hs]
  clear h1 hs hI
  go_enter Tryd.func97, Tryd.ntmps97
  go_wp2
  go_ret
  exact ⟨rfl, Drawn0.refl _⟩
 have A1 : (decide (97 ≤ a) = true ∧ decide (a ≤ 122) = false) ∨ decide (97 ≤ a) = false := by
  by_cases h : 97 ≤ a
  ·exact .inl ⟨decide_eq_true h, decide_eq_false (by omega)⟩
  ·exact .inr (decide_eq_false h)
 by_cases h2 : 65 ≤ a ∧ a ≤ 90
 ·have hs : symByte a = true := by simp [symByte, h2]
  have c3 : decide (65 ≤ a) = true := decide_eq_true h2.1
  have c4 : decide (a ≤ 90) = true := decide_eq_true h2.2
  rw [hs]
  clear h1 h2 hI hs
  rcases A1 with ⟨c1, c2⟩ | c1
  all_goals
   go_enter Tryd.func97, Tryd.ntmps97
   go_wp2
   go_ret
   exact ⟨rfl, Drawn0.refl _⟩
 have A2 : (decide (65 ≤ a) = true ∧ decide (a ≤ 90) = false) ∨ decide (65 ≤ a) = false := by
  by_cases h : 65 ≤ a
  ·exact .inl ⟨decide_eq_true h, decide_eq_false (by omega)⟩
  ·exact .inr (decide_eq_false h)
 by_cases h3 : 48 ≤ a ∧ a ≤ 57
 ·have hs : symByte a = true := by simp [symByte, h3]
  have hd := fun w => isDigit_yes a w h3.1 h3.2
  rw [hs]
  clear h1 h2 h3 hI hs
  rcases A1 with ⟨c1, c2⟩ | c1 <;> rcases A2 with ⟨c3, c4⟩ | c3
  all_goals
   go_enter Tryd.func97, Tryd.ntmps97
   go_wp2_with (go_at_call 95; refine (hd _).mono ?_; rintro e w' ⟨rfl, rfl⟩)
   go_ret
   exact ⟨rfl, Drawn0.refl _⟩
 have hs : symByte a = decide (indexByte signs a.toNat.toUInt8 ≥ 0) := by unfold symByte; rw [if_neg h1, if_neg h2, if_neg h3]
 have hd := fun w => isDigit_no a w h3
 rw [hs]
 change ∀ w, Calls Tryd.prog 112 _ w fun e w' => e = .returned (.int .i64 (indexByte signs a.toNat.toUInt8)) ∧ w' = w at hI
 generalize indexByte signs a.toNat.toUInt8 = n at hI ⊢
 have hr : ∀ b : Bool, decide (0 ≤ n) = b → Ending.returned (.bool b) = .returned (.bool (decide (n ≥ 0))) := fun b h => by rw [← h]
 clear h1 h2 h3 hs
 rcases A1 with ⟨c1, c2⟩ | c1 <;> rcases A2 with ⟨c3, c4⟩ | c3
 all_goals
  go_enter Tryd.func97, Tryd.ntmps97
  go_wp2_with (first
   | (go_at_call 95; refine (hd _).mono ?_; rintro e w' ⟨rfl, rfl⟩)
   | (go_at_call 112; refine (hI _).mono ?_; rintro e w' ⟨rfl, rfl⟩))
  go_ret
  exact ⟨by first | rfl | simp, Drawn0.refl _⟩
def impl_isSymbolByte.f (a0 : Int) : Option Bool := some (symByte a0)
theorem impl_isSymbolByte.calls (a0 : Int) (r : Bool) (w : World) (h : impl_isSymbolByte.f a0 = some r) :
  Calls Tryd.prog 97 #[.int .u8 a0] w fun e w' => e = .returned (.bool r) ∧ Drawn0 w w' := by
 cases h
 exact isSymbolByte_any a0 w
/-- digits alone, one at least. -/
def digs (s : ByteArray) : Bool := !(s.size == 0) && (trimS s.data.toList [48, 49, 50, 51, 52, 53, 54, 55, 56, 57]).isEmpty
theorem list_bytes (l : List UInt8) : (ByteArray.toList ⟨l.toArray⟩ = []) ↔ l = [] := by
 rw [toList_nil_iff_emptyBytes]
 constructor
 ·intro h
  have := congrArg (fun x : ByteArray => x.data.toList) h
  simpa using this
 ·rintro rfl; rfl
theorem digitsOnly_any (s : ByteArray) (w : World) (hs : s.size ≤ 9223372036854775807) : Calls Tryd.prog 111 #[.string s] w fun e w' => e = .returned (.bool (digs s)) ∧ Below w.heap.size w w' := by
 have hT := fun w => Tryd.strings_Trim_laid s ⟨#[48, 49, 50, 51, 52, 53, 54, 55, 56, 57]⟩ w hs (by decide) (ascii_of_all (by decide))
 change ∀ w, Calls Tryd.prog 117 _ w fun e w' => e = .returned (.string ⟨(trimS s.data.toList [48, 49, 50, 51, 52, 53, 54, 55, 56, 57]).toArray⟩) ∧ Below w.heap.size w w' at hT
 by_cases h0 : s.toList = []
 ·have hr : digs s = false := by
   rw [toList_nil_iff_emptyBytes] at h0
   subst h0
   rfl
  rw [hr]
  clear hT hr
  go_enter Tryd.func111, Tryd.ntmps111
  go_wp2_with fail
  go_ret
  exact ⟨rfl, Below.refl _ _⟩
 ·have hz : (s.size == 0) = false := by
   rw [toList_nil_iff_emptyBytes] at h0
   rw [beq_eq_false_iff_ne]
   intro h
   exact h0 (by cases s with | mk d => simp [ByteArray.size] at h; subst h; rfl)
  have hr : digs s = (trimS s.data.toList [48, 49, 50, 51, 52, 53, 54, 55, 56, 57]).isEmpty := by unfold digs; rw [hz]; rfl
  rw [hr]
  clear hr hz
  generalize trimS s.data.toList [48, 49, 50, 51, 52, 53, 54, 55, 56, 57] = t at hT ⊢
  have HT := Lib.hid hT
  clear hT
  have hse : s.toList.isEmpty = false := by cases hl : s.toList with | nil => exact absurd hl h0 | cons => rfl
  have HSE := Lib.hid hse
  clear hse
  by_cases ht : t = []
  ·subst ht
   go_enter Tryd.func111, Tryd.ntmps111
   go_wp2_with (go_at_call 117; refine (HT.out _).mono ?_; rintro e w' ⟨rfl, hb⟩)
   go_ret
   exact ⟨ret_bool (by simp [HSE.out]), by assumption⟩
  ·have h1 : ¬ (ByteArray.toList ⟨t.toArray⟩ = []) := by rw [list_bytes]; exact ht
   have h2 : t.isEmpty = false := by cases t with | nil => exact absurd rfl ht | cons => rfl
   have HTE := Lib.hid h2
   clear ht h2
   go_enter Tryd.func111, Tryd.ntmps111
   go_wp2_with (go_at_call 117; refine (HT.out _).mono ?_; rintro e w' ⟨rfl, hb⟩)
   go_ret
   exact ⟨ret_bool (by simp [HSE.out]), by assumption⟩
def impl_digitsOnly.f (a0 : ByteArray) : Option Bool := if a0.size ≤ 9223372036854775807 then some (digs a0) else none
theorem impl_digitsOnly.calls (a0 : ByteArray) (r : Bool) (w : World) (h : impl_digitsOnly.f a0 = some r) :
  Calls Tryd.prog 111 #[.string a0] w fun e w' => e = .returned (.bool r) ∧ Below w.heap.size w w' := by
 unfold impl_digitsOnly.f at h
 split at h
 ·cases h
  exact digitsOnly_any a0 w ‹_›
 ·cases h
end Go.Proofs.YtogmphjhdkgdjaaDoor
