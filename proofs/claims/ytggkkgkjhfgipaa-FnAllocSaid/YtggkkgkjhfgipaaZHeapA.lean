/- Contracts of the program's functions on words of a heap: tagOf, placeOf, wordOk. -/
import Derived.Test.YtggkkgkjhfgipaaZBase
import Derived.Test.YtggkkgkjhfgipaaZMapLaws
import Derived.Laws.BitsAllLaws
import Derived.Lib.Hide
namespace Go.Proofs.Ytggkkgkjhfgipaa
open Go.RowKit Go.Proofs.YtggkkgkjhfgipaaW.PrintWords Go.Proofs.YtggkkgkjhfgipaaW.PrintLast Go.Proofs.YtggkkgkjhfgipaaW.PrintMore
set_option linter.unusedVariables false
set_option linter.unusedSimpArgs false

theorem and_three (x : Int) : bits .and .i64 x 3 = x % 4 := by
 show IntKind.i64.wrap ((BitVec.ofInt 64 x &&& BitVec.ofInt 64 3).toNat : Int) = _
 rw [BitVec.toNat_and]
 have h3 : (BitVec.ofInt 64 3).toNat = 2 ^ 2 - 1 := by decide
 rw [h3, Nat.and_two_pow_sub_one_eq_mod, BitVec.toNat_ofInt, IntKind.wrap_i64]
 omega

/-- A word is valid over the places of objects. -/
def wordF (isP : Int → Bool) (x : Int) : Bool :=
 if x % 4 = 0 then true else if x % 4 = 1 then (decide (x ≥ 0) && isP ((x - 1) / 4)) else if x % 4 = 2 then decide (x ≥ 0) else (x == 3 || x == 7 || x == 11 || x == 15 || x == 19)

theorem tagOf_calls (x t : Int) (h : x % 4 = t) (w : World) : Calls Try.prog 46 #[.int .i64 x] w fun e w' => e = .returned (.int .i64 t) ∧ w = w' := by
 have H := Lib.hid h
 clear h
 go_enter Try.func46, Try.ntmps46
 go_wp2
 go_ret
 refine ⟨?_, rfl⟩
 rw [← H.out, ← and_three]
 rfl
/-- placeOf of a word that is not negative. -/
theorem placeOf_calls (x : Int) (h0 : 1 ≤ x) (h1 : x ≤ 9223372036854775807) (w : World) : Calls Try.prog 47 #[.int .i64 x] w fun e w' => e = .returned (.int .i64 ((x - 1) / 4)) ∧ w = w' := by
 go_enter Try.func47, Try.ntmps47
 go_wp2
 go_ret
 exact ⟨rfl, rfl⟩
theorem placeOf_any (x : Int) (w : World) : Calls Try.prog 47 #[.int .i64 x] w fun e w' => (∃ p : Int, e = .returned (.int .i64 p)) ∧ w = w' := by
 go_enter Try.func47, Try.ntmps47
 go_wp2
 go_ret
 exact ⟨⟨_, rfl⟩, rfl⟩

/-- A map of objects: int keys; each value is a kind and a slice. -/
structure ObjMap (w : World) (b : Nat) (es : List MapEntry) : Prop where
 block : ∃ clock, w.heap[b]? = some (.map es.toArray clock)
 keys : IntKeys es
 vals : ∀ e ∈ es, ∃ k a n c, e.val = .agg #[.int .i64 k, .slice a n c]
theorem lookAt_mem : ∀ {es : List MapEntry} {x : Int} {v : Value}, lookAt es x = some v → ∃ e ∈ es, e.val = v
 | e :: es, x, v, h => by
  simp only [lookAt] at h
  split at h
  ·split at h
   ·cases h; exact ⟨e, List.mem_cons_self .., rfl⟩
   ·obtain ⟨e', h1, h2⟩ := lookAt_mem h; exact ⟨e', List.mem_cons_of_mem _ h1, h2⟩
  ·obtain ⟨e', h1, h2⟩ := lookAt_mem h; exact ⟨e', List.mem_cons_of_mem _ h1, h2⟩
theorem zero_object (w : World) : (zeroValue 66).run Try.prog w = .ok (.agg #[.int .i64 0, .slice none 0 0]) w := by kernel_rfl
theorem ObjMap.look {w : World} {b : Nat} {es : List MapEntry} (h : ObjMap w b es) (x : Int) : ∃ k a n c, (Instr.lookup 59 (.map (some b)) (.int .i64 x) true).run Try.prog w = .ok (.tuple #[.agg #[.int .i64 k, .slice a n c], .bool (lookAt es x).isSome]) w ∧
  (lookAt es x = none ∨ lookAt es x = some (.agg #[.int .i64 k, .slice a n c])) := by
 obtain ⟨clock, hb⟩ := h.block
 have hr := run_lookup_ok Try.underlying59 Try.underlying3 hb h.keys x (zero_object w)
 cases hl : lookAt es x with
 | none => rw [hl] at hr; exact ⟨0, none, 0, 0, hr, .inl rfl⟩
 | some v =>
  obtain ⟨e, he, rfl⟩ := lookAt_mem hl
  obtain ⟨k, a, n, c, hv⟩ := h.vals e he
  rw [hl, hv] at hr
  exact ⟨k, a, n, c, hr, .inr (by rw [hv])⟩

theorem ret_bool {a b : Bool} (h : a = b) : Ending.returned (.bool a) = .returned (.bool b) := by rw [h]
theorem wordOk_rare (x : Int) (m : Value) (w : World) (h : x % 4 = 3) : Calls Try.prog 59 #[.int .i64 x, m] w fun e w' => e = .returned (.bool (x == 3 || x == 7 || x == 11 || x == 15 || x == 19)) ∧ Below w.heap.size w w' := by
 have H := Lib.hid h
 clear h
 go_enter Try.func59, Try.ntmps59
 go_wp2_with (go_at_call 46; refine (tagOf_calls x 3 H.out _).mono ?_; rintro e w' ⟨rfl, rfl⟩)
 all_goals (go_ret; exact ⟨ret_bool (by simp [*]), Below.refl _ _⟩)
theorem wordOk_int (x : Int) (m : Value) (w : World) (h : x % 4 = 0) : Calls Try.prog 59 #[.int .i64 x, m] w fun e w' => e = .returned (.bool true) ∧ Below w.heap.size w w' := by
 have H := Lib.hid h
 clear h
 go_enter Try.func59, Try.ntmps59
 go_wp2_with (go_at_call 46; refine (tagOf_calls x 0 H.out _).mono ?_; rintro e w' ⟨rfl, rfl⟩)
 go_ret
 exact ⟨rfl, Below.refl _ _⟩
theorem wordOk_sym (x : Int) (m : Value) (w : World) (h : x % 4 = 2) : Calls Try.prog 59 #[.int .i64 x, m] w fun e w' => e = .returned (.bool (decide (x ≥ 0))) ∧ Below w.heap.size w w' := by
 have H := Lib.hid h
 clear h
 go_enter Try.func59, Try.ntmps59
 go_wp2_with (go_at_call 46; refine (tagOf_calls x 2 H.out _).mono ?_; rintro e w' ⟨rfl, rfl⟩)
 all_goals (go_ret; exact ⟨ret_bool (by simp), Below.refl _ _⟩)
theorem wordOk_ptr (x : Int) (b : Nat) (es : List MapEntry) (w : World) (h : x % 4 = 1) (h0 : 0 ≤ x) (h1 : x ≤ 9223372036854775807) (hm : ObjMap w b es) :
  Calls Try.prog 59 #[.int .i64 x, .map (some b)] w fun e w' => e = .returned (.bool (lookAt es ((x - 1) / 4)).isSome) ∧ Below w.heap.size w w' := by
 have hx1 : 1 ≤ x := by omega
 have H := Lib.hid h
 clear h
 obtain ⟨k, a, n, c, hl, _⟩ := hm.look ((x - 1) / 4)
 obtain ⟨o, ho⟩ : ∃ o, o = (lookAt es ((x - 1) / 4)).isSome := ⟨_, rfl⟩
 rw [← ho] at hl ⊢
 obtain ⟨p, hp⟩ : ∃ p, p = (x - 1) / 4 := ⟨_, rfl⟩
 rw [← hp] at hl
 have HP := Lib.hid hp
 clear ho hm hp
 go_enter Try.func59, Try.ntmps59
 go_wp2_with (first
  | (go_at_call 46; refine (tagOf_calls x 1 H.out _).mono ?_; rintro e w' ⟨rfl, rfl⟩)
  | (go_at_call 47; refine (placeOf_calls x hx1 h1 _).mono ?_; rintro e w' ⟨rfl, rfl⟩; rw [← HP.out]))
 all_goals (go_ret; exact ⟨ret_bool (by simp [*]), (Below.refl _ _).alloc (Nat.le_refl _) _⟩)
theorem wordOk_neg (x : Int) (b : Nat) (es : List MapEntry) (w : World) (h : x % 4 = 1) (h0 : x < 0) (hm : ObjMap w b es) :
  Calls Try.prog 59 #[.int .i64 x, .map (some b)] w fun e w' => e = .returned (.bool false) ∧ Below w.heap.size w w' := by
 have H := Lib.hid h
 clear h
 have hl := fun p => hm.look p
 have HL := Lib.hid hl
 clear hl hm
 go_enter Try.func59, Try.ntmps59
 go_wp2_with (first
  | (go_at_call 46; refine (tagOf_calls x 1 H.out _).mono ?_; rintro e w' ⟨rfl, rfl⟩)
  | (go_at_call 47; refine (placeOf_any x _).mono ?_; rintro e w' ⟨⟨p, rfl⟩, rfl⟩; obtain ⟨k, a, n, c, hlk, _⟩ := HL.out p; generalize (lookAt es p).isSome = o at hlk))
 all_goals (go_ret; exact ⟨ret_bool (by simp), (Below.refl _ _).alloc (Nat.le_refl _) _⟩)

theorem wordOk_calls (x : Int) (b : Nat) (es : List MapEntry) (w : World) (h1 : x ≤ 9223372036854775807) (hm : ObjMap w b es) :
  Calls Try.prog 59 #[.int .i64 x, .map (some b)] w fun e w' => e = .returned (.bool (wordF (fun p => (lookAt es p).isSome) x)) ∧ Below w.heap.size w w' := by
 have hc : x % 4 = 0 ∨ x % 4 = 1 ∨ x % 4 = 2 ∨ x % 4 = 3 := by omega
 unfold wordF
 rcases hc with h | h | h | h
 ·simp only [h, if_true]
  exact wordOk_int x _ w h
 ·by_cases h0 : 0 ≤ x
  ·simp only [h, if_true, show ¬ ((1 : Int) = 0) by omega, if_false, ge_iff_le, decide_eq_true h0, Bool.true_and]
   exact wordOk_ptr x b es w h h0 h1 hm
  ·simp only [h, if_true, show ¬ ((1 : Int) = 0) by omega, if_false, ge_iff_le, decide_eq_false h0, Bool.false_and]
   exact wordOk_neg x b es w h (by omega) hm
 ·simp only [h, if_true, show ¬ ((2 : Int) = 0) by omega, show ¬ ((2 : Int) = 1) by omega, if_false]
  exact wordOk_sym x _ w h
 ·simp only [h, show ¬ ((3 : Int) = 0) by omega, show ¬ ((3 : Int) = 1) by omega, show ¬ ((3 : Int) = 2) by omega, if_false]
  exact wordOk_rare x _ w h
end Go.Proofs.Ytggkkgkjhfgipaa
