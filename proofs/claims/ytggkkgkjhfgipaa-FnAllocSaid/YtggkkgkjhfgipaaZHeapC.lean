/- Contracts of the program's functions on heaps: headOk, objects (the walk over a heap's words, filling the map of objects). -/
import Derived.Test.YtggkkgkjhfgipaaZHeapB
namespace Go.Proofs.Ytggkkgkjhfgipaa
open Go.RowKit Go.Proofs.YtggkkgkjhfgipaaW.PrintWords Go.Proofs.YtggkkgkjhfgipaaW.PrintLast Go.Proofs.YtggkkgkjhfgipaaW.PrintMore
open Go.ChangeMaps (setBlock)
set_option linter.unusedVariables false
set_option linter.unusedSimpArgs false

def headF (k n : Int) : Bool := if k = 0 then n == 2 else if k = 1 then decide (n ≤ 1000) else if k = 2 then (decide (1 ≤ n) && decide (n ≤ 1000)) else if k = 3 then n == 1 else false
theorem headOk_calls (k n : Int) (w : World) : Calls Try.prog 41 #[.int .i64 k, .int .i64 n] w fun e w' => e = .returned (.bool (headF k n)) ∧ w = w' := by
 unfold headF
 by_cases h0 : k = 0
 ·subst h0
  go_enter Try.func41, Try.ntmps41
  go_wp2
  all_goals (go_ret; exact ⟨ret_bool (by simp), rfl⟩)
 ·by_cases h1 : k = 1
  ·subst h1
   go_enter Try.func41, Try.ntmps41
   go_wp2
   all_goals (go_ret; exact ⟨ret_bool (by simp), rfl⟩)
  ·by_cases h2 : k = 2
   ·subst h2
    go_enter Try.func41, Try.ntmps41
    go_wp2
    all_goals (go_ret; exact ⟨ret_bool (by first | (simp [*]; done) | (simp; omega)), rfl⟩)
   ·by_cases h3 : k = 3
    ·subst h3
     go_enter Try.func41, Try.ntmps41
     go_wp2
     all_goals (go_ret; exact ⟨ret_bool (by simp), rfl⟩)
    ·have b0 : (k == 0) = false := by simpa using h0
     have b1 : (k == 1) = false := by simpa using h1
     have b2 : (k == 2) = false := by simpa using h2
     have b3 : (k == 3) = false := by simpa using h3
     go_enter Try.func41, Try.ntmps41
     go_wp2
     all_goals (go_ret; exact ⟨ret_bool (by simp [h0, h1, h2, h3]), rfl⟩)
theorem headF_le {k n : Int} (h : headF k n = true) (hn : 0 ≤ n) : n ≤ 1000 := by
 unfold headF at h
 split at h
 ·simp at h; omega
 ·split at h
  ·simpa using h
  ·split at h
   ·simp at h; omega
   ·split at h
    ·simp at h; omega
    ·cases h

/-! ### the objects of a heap, one behind another -/
def fieldsAt (ws : List Int) (p n : Nat) : List Int := (ws.take (p + 1 + n)).drop (p + 1)
/-- A head at p that is an object's within the first top words. -/
def headAt (ws : List Int) (top p : Nat) : Bool := decide (0 ≤ ws.getD p 0) && (headF (ws.getD p 0 % 4) (ws.getD p 0 / 4) && decide (p + 1 + (ws.getD p 0 / 4).toNat ≤ top))
def sizeAt (ws : List Int) (p : Nat) : Nat := (ws.getD p 0 / 4).toNat
def scanF (ws : List Int) (top : Nat) : Nat → Nat → List (Nat × Nat) → Option (List (Nat × Nat))
 | 0, _, _ => none
 | k + 1, p, L => if p < top then (if headAt ws top p = true then scanF ws top k (p + 1 + sizeAt ws p) (L ++ [(p, sizeAt ws p)]) else none) else some L
def objsF (ws : List Int) (top : Int) : Option (List (Nat × Nat)) :=
 if ws.length > 20000 then none else if top < 0 then none else if top > ws.length then none else
  match scanF ws top.toNat (top.toNat + 1) 0 [] with
  | none => none
  | some L => if (ws.drop top.toNat).all (· == 0) then some L else none

/-- The map's entries stand for the objects L of the words ws (which lie in the world w0). -/
structure EntsOf (w0 : World) (ws : List Int) (L : List (Nat × Nat)) (es : List MapEntry) : Prop where
 size : es.length = L.length
 at_ : ∀ (i p n : Nat), L[i]? = some (p, n) → ∃ (a : Option Addr) (c : Nat), es[i]? = some (ent (p : Int) (.agg #[.int .i64 (ws.getD p 0 % 4), .slice a n c]) i) ∧ n ≤ c ∧ (fieldsAt ws p n).length = n ∧ Kd.C (Kd.int .i64) w0 a n (fieldsAt ws p n)
theorem EntsOf.nil (w0 : World) (ws : List Int) : EntsOf w0 ws [] [] := ⟨rfl, fun i p n h => by simp at h⟩
theorem EntsOf.snoc {w0 : World} {ws : List Int} {L : List (Nat × Nat)} {es : List MapEntry} (h : EntsOf w0 ws L es) (p n : Nat) {a : Option Addr} {c : Nat} (hc : n ≤ c) (hl : (fieldsAt ws p n).length = n) (hr : Kd.C (Kd.int .i64) w0 a n (fieldsAt ws p n)) :
  EntsOf w0 ws (L ++ [(p, n)]) (es ++ [ent (p : Int) (.agg #[.int .i64 (ws.getD p 0 % 4), .slice a n c]) L.length]) := by
 refine ⟨by simp [h.size], fun i q m hi => ?_⟩
 rcases Nat.lt_trichotomy i L.length with hlt | heq | hgt
 ·rw [List.getElem?_append_left hlt] at hi
  obtain ⟨a', c', h1, h2⟩ := h.at_ i q m hi
  exact ⟨a', c', by rw [List.getElem?_append_left (by rw [h.size]; exact hlt)]; exact h1, h2⟩
 ·subst heq
  simp at hi
  obtain ⟨rfl, rfl⟩ := hi
  exact ⟨a, c, by rw [List.getElem?_append_right (by rw [h.size]; exact Nat.le_refl _)]; simp [h.size], hc, hl, hr⟩
 ·rw [List.getElem?_eq_none (by simp; omega)] at hi
  cases hi
theorem EntsOf.keys {w0 : World} {ws : List Int} {L : List (Nat × Nat)} {es : List MapEntry} (h : EntsOf w0 ws L es) : ∀ e ∈ es, ∃ (i p n : Nat) (a : Option Addr) (c : Nat), L[i]? = some (p, n) ∧ e = ent (p : Int) (.agg #[.int .i64 (ws.getD p 0 % 4), .slice a n c]) i := by
 intro e he
 obtain ⟨i, hi, rfl⟩ := List.mem_iff_getElem.1 he
 have hiL : i < L.length := by rw [← h.size]; exact hi
 obtain ⟨a, c, h1, _⟩ := h.at_ i L[i].1 L[i].2 (by rw [List.getElem?_eq_getElem hiL])
 rw [List.getElem?_eq_getElem hi] at h1
 exact ⟨i, _, _, a, c, by rw [List.getElem?_eq_getElem hiL], Option.some.inj h1⟩
theorem EntsOf.intKeys {w0 : World} {ws : List Int} {L : List (Nat × Nat)} {es : List MapEntry} (h : EntsOf w0 ws L es) : IntKeys es := by
 intro e he
 obtain ⟨i, p, n, a, c, _, rfl⟩ := h.keys e he
 exact ⟨_, rfl⟩
theorem EntsOf.objMap {w0 w : World} {ws : List Int} {L : List (Nat × Nat)} {es : List MapEntry} {b clock : Nat} (h : EntsOf w0 ws L es) (hb : w.heap[b]? = some (.map es.toArray clock)) : ObjMap w b es :=
 ⟨⟨clock, hb⟩, h.intKeys, fun e he => by
  obtain ⟨i, p, n, a, c, _, rfl⟩ := h.keys e he
  exact ⟨_, _, _, _, rfl⟩⟩
theorem EntsOf.look_none {w0 : World} {ws : List Int} {L : List (Nat × Nat)} {es : List MapEntry} (h : EntsOf w0 ws L es) (x : Int) (hx : ∀ q ∈ L, (q.1 : Int) ≠ x) : lookAt es x = none := by
 cases hl : lookAt es x with
 | none => rfl
 | some v =>
  rcases findNow_int .i64 x es 0 h.intKeys with ⟨h1, _⟩ | ⟨j, e0, _, he, hk, _⟩
  ·rw [hl] at h1; cases h1
  ·obtain ⟨i, p, n, a, c, hi, rfl⟩ := h.keys e0 (List.mem_of_getElem? he)
   simp at hk
   exact absurd hk (hx (p, n) (List.mem_of_getElem? hi))

/-- What objects answers. -/
def ObjsPost (w : World) (ws : List Int) (top : Int) (e : Ending) (w' : World) : Prop :=
 Below w.heap.size w w' ∧ match objsF ws top with
  | none => e = .returned (.tuple #[.map none, .bool false])
  | some L => ∃ b es, e = .returned (.tuple #[.map (some b), .bool true]) ∧ EntsOf w ws L es ∧ w'.heap[b]? = some (.map es.toArray L.length)
theorem ObjsPost.no {w w' : World} {ws : List Int} {top : Int} (h : objsF ws top = none) (hb : Below w.heap.size w w') : ObjsPost w ws top (.returned (.tuple #[.map none, .bool false])) w' := by
 unfold ObjsPost
 rw [h]
 exact ⟨hb, rfl⟩
theorem ObjsPost.yes {w w' : World} {ws : List Int} {top : Int} {L : List (Nat × Nat)} (h : objsF ws top = some L) (hb : Below w.heap.size w w') {b : Nat} {es : List MapEntry} (he : EntsOf w ws L es) (hm : w'.heap[b]? = some (.map es.toArray L.length)) :
  ObjsPost w ws top (.returned (.tuple #[.map (some b), .bool true])) w' := by
 unfold ObjsPost
 rw [h]
 exact ⟨hb, b, es, rfl, he, hm⟩
/-- The loop has come to p, the objects L behind it. -/
def Came (ws : List Int) (top p : Nat) (L : List (Nat × Nat)) : Prop := p ≤ top ∧ (∀ q ∈ L, q.1 < p) ∧ ∃ k, top - p < k ∧ scanF ws top (top + 1) 0 [] = scanF ws top k p L
theorem Came.start (ws : List Int) (top : Nat) : Came ws top 0 [] := ⟨Nat.zero_le _, by simp, top + 1, by omega, rfl⟩
theorem Came.next {ws : List Int} {top p : Nat} {L : List (Nat × Nat)} (h : Came ws top p L) (hp : p < top) (hh : headAt ws top p = true) : Came ws top (p + 1 + sizeAt ws p) (L ++ [(p, sizeAt ws p)]) := by
 obtain ⟨h1, h2, k, hk, he⟩ := h
 obtain ⟨k, rfl⟩ : ∃ m, k = m + 1 := ⟨k - 1, by omega⟩
 have hs : p + 1 + sizeAt ws p ≤ top := by
  unfold headAt at hh
  simp at hh
  exact hh.2.2
 refine ⟨hs, fun q hq => ?_, k, by omega, ?_⟩
 ·rcases List.mem_append.1 hq with hq | hq
  ·have := h2 q hq; omega
  ·rw [List.mem_singleton] at hq; subst hq; simp; omega
 ·rw [he, scanF, if_pos hp, if_pos hh]
theorem Came.falls {ws : List Int} {top p : Nat} {L : List (Nat × Nat)} (h : Came ws top p L) (hp : p < top) (hh : headAt ws top p = false) : scanF ws top (top + 1) 0 [] = none := by
 obtain ⟨h1, h2, k, hk, he⟩ := h
 obtain ⟨k, rfl⟩ : ∃ m, k = m + 1 := ⟨k - 1, by omega⟩
 rw [he, scanF, if_pos hp, if_neg (by rw [hh]; decide)]
theorem Came.done {ws : List Int} {top p : Nat} {L : List (Nat × Nat)} (h : Came ws top p L) (hp : ¬ p < top) : p = top ∧ scanF ws top (top + 1) 0 [] = some L := by
 obtain ⟨h1, h2, k, hk, he⟩ := h
 obtain ⟨k, rfl⟩ : ∃ m, k = m + 1 := ⟨k - 1, by omega⟩
 exact ⟨by omega, by rw [he, scanF, if_neg hp]⟩

theorem objects_guard (A : Option Addr) (c : Nat) (ws : List Int) (top : Int) (w : World) (hr : Kd.C (Kd.int .i64) w A ws.length ws) (hc : ws.length ≤ c) (h : ws.length > 20000 ∨ top < 0 ∨ top > ws.length) :
  Calls Try.prog 58 #[.agg #[.slice A ws.length c, .int .i64 top]] w (ObjsPost w ws top) := by
 have hno : objsF ws top = none := by
  unfold objsF
  by_cases h1 : ws.length > 20000
  ·rw [if_pos h1]
  ·by_cases h2 : top < 0
   ·rw [if_neg h1, if_pos h2]
   ·rw [if_neg h1, if_neg h2, if_pos (by omega)]
 have HN := Lib.hid hno
 clear hno hr
 have hu := Try.underlying31
 by_cases h1 : 20000 < ws.length
 ·have b1 : decide ((20000 : Int) < (ws.length : Int)) = true := decide_eq_true (by omega)
  clear h h1
  go_enter Try.func58, Try.ntmps58
  go_wp2
  go_ret2
  exact ObjsPost.no HN.out ((Below.refl _ _).alloc (Nat.le_refl _) _)
 ·have b1 : decide ((20000 : Int) < (ws.length : Int)) = false := decide_eq_false (by omega)
  by_cases h2 : top < 0
  ·have b2 : decide (top < 0) = true := decide_eq_true h2
   clear h h1 h2
   go_enter Try.func58, Try.ntmps58
   go_wp2
   go_ret2
   exact ObjsPost.no HN.out ((Below.refl _ _).alloc (Nat.le_refl _) _)
  ·have b2 : decide (top < 0) = false := decide_eq_false h2
   have b3 : decide ((ws.length : Int) < top) = true := decide_eq_true (by omega)
   clear h h1 h2
   go_enter Try.func58, Try.ntmps58
   go_wp2
   go_ret2
   exact ObjsPost.no HN.out ((Below.refl _ _).alloc (Nat.le_refl _) _)
end Go.Proofs.Ytggkkgkjhfgipaa
