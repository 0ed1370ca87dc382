/- The program's SameShape: the function that it calls itself, in memory. -/
import Derived.Test.YtggkkgkjhfgipaaZCollE
import Derived.Test.YtggkkgkjhfgipaaZShapeB
namespace Go.Proofs.Ytggkkgkjhfgipaa
open Go.RowKit Go.Proofs.YtggkkgkjhfgipaaW.PrintWords Go.Proofs.YtggkkgkjhfgipaaW.PrintLast Go.Proofs.YtggkkgkjhfgipaaW.PrintMore
open Go.ChangeMaps (setBlock)
set_option linter.unusedVariables false
set_option linter.unusedSimpArgs false
/-- The world is known up to draws: a function that only reads and the maps' headers. -/
theorem same_first (v w : Int) (T U A B S : Nat) (W : World) (hv : v % 4 ≠ 1) : Calls Try.prog 45 #[.int .i64 v, .int .i64 w, .pointer (some ⟨T, 0, none⟩), .pointer (some ⟨U, 0, none⟩), .pointer (some ⟨A, 0, none⟩), .pointer (some ⟨B, 0, none⟩), .pointer (some ⟨S, 0, none⟩)] W fun e W' => e = .returned (.bool (v == w)) ∧ W = W' := by
 obtain ⟨t, ht⟩ : ∃ t, v % 4 = t := ⟨_, rfl⟩
 rw [ht] at hv
 have hb : (t != 1) = true := by simpa using hv
 have HT := Lib.hid ht
 clear hv ht
 go_enter Try.func45, Try.ntmps45
 go_wp2_with (go_at_call 46; refine (tagOf_calls v t HT.out _).mono ?_; rintro e w' ⟨rfl, rfl⟩)
 go_ret
 simp
theorem same_second (v w : Int) (T U A B S : Nat) (W : World) (hv : v % 4 = 1) (hw : w % 4 ≠ 1) : Calls Try.prog 45 #[.int .i64 v, .int .i64 w, .pointer (some ⟨T, 0, none⟩), .pointer (some ⟨U, 0, none⟩), .pointer (some ⟨A, 0, none⟩), .pointer (some ⟨B, 0, none⟩), .pointer (some ⟨S, 0, none⟩)] W fun e W' => e = .returned (.bool (v == w)) ∧ W = W' := by
 obtain ⟨t, ht⟩ : ∃ t, w % 4 = t := ⟨_, rfl⟩
 rw [ht] at hw
 have hb : (t != 1) = true := by simpa using hw
 have HT := Lib.hid ht
 have HV := Lib.hid hv
 clear hv hw ht
 go_enter Try.func45, Try.ntmps45
 go_wp2_with fail
 refine (tagOf_calls v 1 HV.out _).mono ?_
 rintro e w' ⟨rfl, rfl⟩
 go_wp2_with fail
 refine (tagOf_calls w t HT.out _).mono ?_
 rintro e w' ⟨rfl, rfl⟩
 go_wp2
 go_ret
 simp
set_option maxHeartbeats 1000000 in
theorem same_seen (v w p q r1 r2 : Int) (s1 s2 : Bool) (T U A B S mt mu : Nat) (W : World) (hv : v % 4 = 1) (hw : w % 4 = 1) (hv0 : 1 ≤ v) (hv1 : v ≤ 9223372036854775807) (hw0 : 1 ≤ w) (hw1 : w ≤ 9223372036854775807) (hp : (v - 1) / 4 = p) (hq : (w - 1) / 4 = q)
  (cT : W.cell? ⟨T, 0, none⟩ = some (.map (some mt))) (cU : W.cell? ⟨U, 0, none⟩ = some (.map (some mu)))
  (hl1 : (Instr.lookup 68 (.map (some mt)) (.int .i64 p) true).run Try.prog W = .ok (.tuple #[.int .i64 r1, .bool s1]) W)
  (hl2 : (Instr.lookup 68 (.map (some mu)) (.int .i64 q) true).run Try.prog W = .ok (.tuple #[.int .i64 r2, .bool s2]) W) (hs : s1 = true ∨ s2 = true) :
  Calls Try.prog 45 #[.int .i64 v, .int .i64 w, .pointer (some ⟨T, 0, none⟩), .pointer (some ⟨U, 0, none⟩), .pointer (some ⟨A, 0, none⟩), .pointer (some ⟨B, 0, none⟩), .pointer (some ⟨S, 0, none⟩)] W fun e W' => e = .returned (.bool (s1 && (s2 && (r1 == q && r2 == p)))) ∧ W = W' := by
 have HV := Lib.hid hv
 have HW := Lib.hid hw
 have HP := Lib.hid hp
 have HQ := Lib.hid hq
 have HS := Lib.hid hs
 clear hv hw hp hq hs
 cases s1 <;> cases s2
 ·rcases HS.out with h | h <;> cases h
 all_goals
  go_enter Try.func45, Try.ntmps45
  go_wp2_with fail
  refine (tagOf_calls v 1 HV.out _).mono ?_
  rintro e w' ⟨rfl, rfl⟩
  go_wp2_with fail
  refine (tagOf_calls w 1 HW.out _).mono ?_
  rintro e w' ⟨rfl, rfl⟩
  go_wp2_with fail
  refine (placeOf_calls v hv0 hv1 _).mono ?_
  rintro e w' ⟨rfl, rfl⟩
  rw [HP.out]
  go_wp2_with fail
  refine (placeOf_calls w hw0 hw1 _).mono ?_
  rintro e w' ⟨rfl, rfl⟩
  rw [HQ.out]
  go_wp2_with fail
  all_goals
   go_ret
   first
    | (simp; done)
    | (simp [*]; done)
    | (refine ⟨ret_bool ?_, rfl⟩; simp_all; done)
    | trace_state
end Go.Proofs.Ytggkkgkjhfgipaa
