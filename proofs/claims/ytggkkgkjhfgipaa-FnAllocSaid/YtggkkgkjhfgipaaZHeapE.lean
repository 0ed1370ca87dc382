/- Contract of the program's functions validHeap and ValidHeap: what a valid heap with valid roots is, in plain Lean ('validF'). -/
import Derived.Test.YtggkkgkjhfgipaaZHeapD
namespace Go.Proofs.Ytggkkgkjhfgipaa
open Go.RowKit Go.Proofs.YtggkkgkjhfgipaaW.PrintWords Go.Proofs.YtggkkgkjhfgipaaW.PrintLast Go.Proofs.YtggkkgkjhfgipaaW.PrintMore
open Go.ChangeMaps (setBlock)
set_option linter.unusedVariables false
set_option linter.unusedSimpArgs false

def isPlace (L : List (Nat × Nat)) (x : Int) : Bool := L.any fun q => (q.1 : Int) == x
def objectAt (ws : List Int) (L : List (Nat × Nat)) (q : Nat × Nat) : Bool := objF (isPlace L) (ws.getD q.1 0 % 4) (fieldsAt ws q.1 q.2)
def validF (ws : List Int) (top : Int) (roots : List Int) : Bool :=
 match objsF ws top with
 | none => false
 | some L => decide (roots.length ≤ 20000) && (L.all (objectAt ws L) && roots.all (wordF (isPlace L)))

theorem EntsOf.look_place {w0 : World} {ws : List Int} {L : List (Nat × Nat)} {es : List MapEntry} (h : EntsOf w0 ws L es) (x : Int) : (lookAt es x).isSome = isPlace L x := by
 cases hp : isPlace L x with
 | false =>
  rw [h.look_none x (fun q hq e => by
   have : isPlace L x = true := List.any_eq_true.2 ⟨q, hq, by simp [e]⟩
   rw [hp] at this
   cases this)]
  rfl
 | true =>
  obtain ⟨q, hq, he⟩ := List.any_eq_true.1 hp
  obtain ⟨i, hi, rfl⟩ := List.mem_iff_getElem.1 hq
  obtain ⟨a, c, h1, _⟩ := h.at_ i L[i].1 L[i].2 (by rw [List.getElem?_eq_getElem hi])
  rcases findNow_int .i64 x es 0 h.intKeys with ⟨h2, h3⟩ | ⟨j, e0, _, _, _, h2⟩
  ·exfalso
   have hx : (L[i].1 : Int) = x := by simpa using he
   have : ∀ (es : List MapEntry) (e : MapEntry), e ∈ es → e.key = .int .i64 x → lookAt es x ≠ none := by
    intro es
    induction es with
    | nil => intro e he; cases he
    | cons e0 es ih =>
     intro e he hk
     simp only [lookAt]
     rcases List.mem_cons.1 he with rfl | he
     ·rw [hk]; simp
     ·split
      ·split
       ·simp
       ·exact ih e he hk
      ·exact ih e he hk
   exact this es _ (List.mem_of_getElem? h1) (by simp [hx]) h2
  ·rw [h2]; rfl
theorem EntsOf.isP {w0 : World} {ws : List Int} {L : List (Nat × Nat)} {es : List MapEntry} (h : EntsOf w0 ws L es) : (fun p => (lookAt es p).isSome) = isPlace L := funext h.look_place
theorem EntsOf.born_lt {w0 : World} {ws : List Int} {L : List (Nat × Nat)} {es : List MapEntry} (h : EntsOf w0 ws L es) : ∀ e ∈ es, e.born < L.length := by
 intro e he
 obtain ⟨i, p, n, a, c, hi, rfl⟩ := h.keys e he
 exact (List.getElem?_eq_some_iff.1 hi).1
theorem EntsOf.borns {w0 : World} {ws : List Int} {L : List (Nat × Nat)} {es : List MapEntry} (h : EntsOf w0 ws L es) : es.map (·.born) = List.range L.length := by
 apply List.ext_getElem
 ·simp [h.size]
 ·intro i h1 h2
  have hi : i < L.length := by simpa using h2
  obtain ⟨a, c, h3, _⟩ := h.at_ i L[i].1 L[i].2 (by rw [List.getElem?_eq_getElem hi])
  have hie : i < es.length := by rw [h.size]; exact hi
  rw [List.getElem?_eq_getElem hie] at h3
  simp [Option.some.inj h3]
theorem EntsOf.nodup {w0 : World} {ws : List Int} {L : List (Nat × Nat)} {es : List MapEntry} (h : EntsOf w0 ws L es) : (es.map (·.born)).Nodup := by
 rw [h.borns]
 exact List.nodup_range

theorem EntsOf.below {w0 w1 : World} {ws : List Int} {L : List (Nat × Nat)} {es : List MapEntry} (h : EntsOf w0 ws L es) (hb : Below w0.heap.size w0 w1) : EntsOf w1 ws L es := by
 refine ⟨h.size, fun i p n hi => ?_⟩
 obtain ⟨a, c, h1, h2, h3, h4⟩ := h.at_ i p n hi
 exact ⟨a, c, h1, h2, h3, Kd.C_below h4 hb⟩
theorem EntsOf.whole {w0 : World} {ws : List Int} {L : List (Nat × Nat)} {es : List MapEntry} (h : EntsOf w0 ws L es) : ∀ e ∈ es, ∃ (i p n : Nat) (a : Option Addr) (c : Nat), L[i]? = some (p, n) ∧ e = ent (p : Int) (.agg #[.int .i64 (ws.getD p 0 % 4), .slice a n c]) i ∧
  (fieldsAt ws p n).length = n ∧ Kd.C (Kd.int .i64) w0 a n (fieldsAt ws p n) := by
 intro e he
 obtain ⟨i, hi, rfl⟩ := List.mem_iff_getElem.1 he
 have hiL : i < L.length := by rw [← h.size]; exact hi
 obtain ⟨a, c, h1, h2, h3, h4⟩ := h.at_ i L[i].1 L[i].2 (by rw [List.getElem?_eq_getElem hiL])
 rw [List.getElem?_eq_getElem hi] at h1
 exact ⟨i, _, _, a, c, by rw [List.getElem?_eq_getElem hiL], Option.some.inj h1, h3, h4⟩
theorem next_world {B r b : Nat} {w1 wr w2 : World} {o oM oI : Obj} (hb : Below B w1 wr) (hr : B ≤ r) (hw2 : w2 = wr ∨ w2 = wr.drew) (hI : wr.heap[r]? = some oI) (hM : wr.heap[b]? = some oM) (hne : b ≠ r) :
  (setBlock w2 r o).heap[r]? = some o ∧ (setBlock w2 r o).heap[b]? = some oM ∧ Below B w1 (setBlock w2 r o) := by
 have hlt : r < wr.heap.size := (Array.getElem?_eq_some_iff.1 hI).1
 have hh : w2.heap = wr.heap := by rcases hw2 with rfl | rfl <;> rfl
 have hbw : Below B w1 w2 := by
  rcases hw2 with rfl | rfl
  ·exact hb
  ·exact below_drew hb
 refine ⟨?_, ?_, below_setBlock hbw hr o⟩
 ·simp [setBlock, hh, hlt]
 ·have : (setBlock w2 r o).heap[b]? = wr.heap[b]? := by simp [setBlock, hh, Ne.symm hne]
  rw [this, hM]
/-- The objects whose numbers stand in seen are valid. -/
def SeenOk (ws : List Int) (L : List (Nat × Nat)) (seen : Array Nat) : Prop := ∀ i ∈ seen, ∀ q, L[i]? = some q → objectAt ws L q = true
theorem SeenOk.none (ws : List Int) (L : List (Nat × Nat)) : SeenOk ws L #[] := by intro i hi; simp at hi
theorem SeenOk.push {ws : List Int} {L : List (Nat × Nat)} {seen : Array Nat} (h : SeenOk ws L seen) (i : Nat) {q : Nat × Nat} (hq : L[i]? = some q) (ho : objectAt ws L q = true) : SeenOk ws L (seen.push i) := by
 intro j hj q' hq'
 rcases Array.mem_push.1 hj with hj | rfl
 ·exact h j hj q' hq'
 ·rw [hq] at hq'
  cases hq'
  exact ho
theorem SeenOk.whole {w0 : World} {ws : List Int} {L : List (Nat × Nat)} {es : List MapEntry} {seen : Array Nat} (h : SeenOk ws L seen) (he : EntsOf w0 ws L es) (h0 : (leftOf es.toArray seen).size = 0) : L.all (objectAt ws L) = true := by
 rw [List.all_eq_true]
 intro q hq
 obtain ⟨i, hi, rfl⟩ := List.mem_iff_getElem.1 hq
 obtain ⟨a, c, h1, _⟩ := he.at_ i L[i].1 L[i].2 (by rw [List.getElem?_eq_getElem hi])
 have hemp : leftOf es.toArray seen = #[] := Array.eq_empty_of_size_eq_zero h0
 unfold leftOf at hemp
 rw [Array.filter_eq_empty_iff] at hemp
 have := hemp _ (by simpa using List.mem_of_getElem? h1)
 simp at this
 exact h i (by simpa using this) _ (by rw [List.getElem?_eq_getElem hi])
theorem left_mem {es : List MapEntry} {seen : Array Nat} {e : MapEntry} (he : e ∈ (leftOf es.toArray seen).toList) : e ∈ es := by
 unfold leftOf at he
 have he' : e ∈ es.filter fun x => !seen.contains x.born := by simpa using he
 exact (List.mem_filter.1 he').1
theorem left_less {es : List MapEntry} {seen : Array Nat} {e : MapEntry} (he : e ∈ (leftOf es.toArray seen).toList) : (leftOf es.toArray (seen.push e.born)).size < (leftOf es.toArray seen).size := by
 unfold leftOf at *
 have hs : ∀ p : MapEntry → Bool, (es.toArray.filter p).size = (es.filter p).length := fun p => by simp
 rw [hs, hs]
 have he' : e ∈ es.filter fun x => !seen.contains x.born := by simpa using he
 obtain ⟨he1, he2⟩ := List.mem_filter.1 he'
 have key : ∀ l : List MapEntry, (l.filter fun x => !(seen.push e.born).contains x.born).length ≤ (l.filter fun x => !seen.contains x.born).length ∧ (e ∈ l → (l.filter fun x => !(seen.push e.born).contains x.born).length < (l.filter fun x => !seen.contains x.born).length) := by
  intro l
  induction l with
  | nil => simp
  | cons x l ih =>
   by_cases hx : seen.contains x.born = true
   ·have h2 : (seen.push e.born).contains x.born = true := by simp at hx ⊢; exact .inl hx
    simp only [List.filter_cons, hx, h2, Bool.not_true, Bool.false_eq_true, if_false]
    refine ⟨ih.1, fun hm => ?_⟩
    rcases List.mem_cons.1 hm with rfl | hm
    ·rw [hx] at he2; cases he2
    ·exact ih.2 hm
   ·have hx' : seen.contains x.born = false := by simpa using hx
    by_cases hxe : x.born = e.born
    ·have h2 : (seen.push e.born).contains x.born = true := by simp [hxe]
     simp only [List.filter_cons, hx', h2, Bool.not_true, Bool.not_false, Bool.false_eq_true, if_false, if_true, List.length_cons]
     exact ⟨by omega, fun _ => by omega⟩
    ·have h2 : (seen.push e.born).contains x.born = false := by
      simp at hx' ⊢
      exact ⟨hx', hxe⟩
     simp only [List.filter_cons, hx', h2, Bool.not_false, if_true, List.length_cons]
     refine ⟨by omega, fun hm => ?_⟩
     rcases List.mem_cons.1 hm with rfl | hm
     ·exact absurd rfl hxe
     ·have := ih.2 hm; omega
 exact (key es).2 (by simpa using he1)
end Go.Proofs.Ytggkkgkjhfgipaa
