/- What the program's Collect does to its row, step by step, in plain Lean. -/
import Derived.Test.YtggkkgkjhfgipaaZCollC
namespace Go.Proofs.Ytggkkgkjhfgipaa
open Go.RowKit
set_option linter.unusedVariables false
set_option linter.unusedSimpArgs false
/-- An object as it stands in the heap. -/
def rawObj (ws : List Int) (p : Nat) : List Int := ws.getD p 0 :: objFields ws p
/-- A row into which an object is laid at a place. -/
def putObj (ws : List Int) (off q : Nat) (row : List Int) : List Int := row.take off ++ rawObj ws q ++ row.drop (off + sz ws q)
/-- What the copier does to its row at a word. -/
def rowStep (ws : List Int) (ord : List Nat) (row : List Int) (x : Int) : List Int := if x % 4 = 1 ∧ plc x ∉ ord then putObj ws (offO ws ord) (plc x) row else row
/-- The row: what is done, the objects that wait, noughts. -/
def layR (ws : List Int) (A : List Int) (tail : List Nat) (z : Nat) : List Int := A ++ tail.flatMap (rawObj ws) ++ List.replicate z 0

section
variable {ws : List Int} {top : Int} {L : List (Nat × Nat)} (hL : objsF ws top = some L)
include hL
theorem rawObj_length {q : Nat} (h : (q, sizeAt ws q) ∈ L) : (rawObj ws q).length = sz ws q := by
 have := (obj_fits hL h).2.2.2.2
 unfold rawObj sz
 rw [List.length_cons, this]
 omega
theorem raw_flat_length : ∀ (os : List Nat), (∀ p ∈ os, (p, sizeAt ws p) ∈ L) → (os.flatMap (rawObj ws)).length = offO ws os
 | [], _ => by simp [offO]
 | p :: r, h => by
  rw [List.flatMap_cons, List.length_append, rawObj_length hL (h p List.mem_cons_self), raw_flat_length r (fun q hq => h q (List.mem_cons_of_mem _ hq)), offO]
theorem layR_length {A : List Int} {tail : List Nat} {z : Nat} (ht : ∀ p ∈ tail, (p, sizeAt ws p) ∈ L) : (layR ws A tail z).length = A.length + offO ws tail + z := by
 unfold layR
 rw [List.length_append, List.length_append, raw_flat_length hL tail ht, List.length_replicate]
theorem putObj_lay {A : List Int} {tail : List Nat} {z q off : Nat} (ht : ∀ p ∈ tail, (p, sizeAt ws p) ∈ L) (hoff : A.length + offO ws tail = off) (hq : (q, sizeAt ws q) ∈ L) (hz : sz ws q ≤ z) :
  putObj ws off q (layR ws A tail z) = layR ws A (tail ++ [q]) (z - sz ws q) := by
 have hl : (A ++ tail.flatMap (rawObj ws)).length = off := by rw [List.length_append, raw_flat_length hL tail ht, hoff]
 unfold putObj layR
 rw [List.take_append_of_le_length (by omega), List.take_of_length_le (by omega), List.drop_append, List.drop_eq_nil_of_le (by omega), hl, Nat.add_sub_cancel_left, List.drop_replicate]
 simp
theorem rowStep_lay {A : List Int} {tail ord : List Nat} {x : Int} {n : Nat} (ht : ∀ p ∈ tail, (p, sizeAt ws p) ∈ L) (hoff : A.length + offO ws tail = offO ws ord) (hn : n = ws.length) (hg : GoodO ws L ord) (hw : wordF (isPlace L) x = true)
  {tail' : List Nat} (htl : ∀ r, stepO ord x = ord ++ r → tail' = tail ++ r) :
  rowStep ws ord (layR ws A tail (n - offO ws ord)) x = layR ws A tail' (n - offO ws (stepO ord x)) := by
 subst hn
 have hle := (hg.step hL hw).off_le hL
 have hlt := objsF_mem hL
 unfold rowStep
 unfold stepO at hle htl ⊢
 by_cases hc : x % 4 = 1 ∧ plc x ∉ ord
 ·rw [if_pos hc] at hle htl ⊢
  rw [if_pos hc]
  have ho : offO ws (ord ++ [plc x]) = offO ws ord + sz ws (plc x) := by rw [offO_append]; simp [offO]
  have hin := (place_in hL hw hc.1).2
  rw [htl [plc x] rfl, putObj_lay hL ht hoff hin (by omega), ho]
  congr 1
  omega
 ·rw [if_neg hc] at hle htl ⊢
  rw [if_neg hc, htl [] (by simp)]
  simp
end
/-- The loop over the roots has come to j. -/
structure RootSt (ws : List Int) (L : List (Nat × Nat)) (roots : List Int) (ord : List Nat) (j : Nat) (row out : List Int) : Prop where
 lay : row = layR ws [] ord (ws.length - offO ws ord)
 good : GoodO ws L ord
 seen : ∀ x ∈ roots.take j, x % 4 = 1 → plc x ∈ ord
 came : visitO ord (roots.drop j) = visitO [] roots
 out : out = (roots.take j).map (movedO ws ord)
theorem stepO_sub {ord : List Nat} {x : Int} {p : Nat} (h : p ∈ ord) : p ∈ stepO ord x := by
 obtain ⟨r, hr⟩ := stepO_pre ord x
 rw [hr]
 exact List.mem_append_left _ h
theorem map_moved_step {ws : List Int} {ord : List Nat} {x : Int} {ys : List Int} (h : ∀ y ∈ ys, y % 4 = 1 → plc y ∈ ord) : ys.map (movedO ws (stepO ord x)) = ys.map (movedO ws ord) := by
 obtain ⟨r, hr⟩ := stepO_pre ord x
 rw [hr]
 exact List.map_congr_left fun y hy => movedO_pre ws ord r y (h y hy)
theorem drop_cons {xs : List Int} {j : Nat} (h : j < xs.length) : xs.drop j = xs.getD j 0 :: xs.drop (j + 1) := by
 rw [List.drop_eq_getElem_cons h, List.getD_eq_getElem?_getD, List.getElem?_eq_getElem h]
 rfl
theorem take_snoc {xs : List Int} {j : Nat} (h : j < xs.length) : xs.take (j + 1) = xs.take j ++ [xs.getD j 0] := by
 rw [List.take_succ_eq_append_getElem h, List.getD_eq_getElem?_getD, List.getElem?_eq_getElem h]
 rfl
theorem RootSt.start (ws : List Int) (L : List (Nat × Nat)) (roots : List Int) : RootSt ws L roots [] 0 (List.replicate ws.length 0) [] :=
 ⟨by simp [layR, offO], GoodO.nil _ _, by simp, by simp, by simp⟩
theorem RootSt.next {ws : List Int} {top : Int} {L : List (Nat × Nat)} {roots : List Int} {ord : List Nat} {j : Nat} {row out : List Int} (hL : objsF ws top = some L) (hr : ∀ x ∈ roots, wordF (isPlace L) x = true) (hj : j < roots.length)
  (h : RootSt ws L roots ord j row out) : RootSt ws L roots (stepO ord (roots.getD j 0)) (j + 1) (rowStep ws ord row (roots.getD j 0)) (out ++ [movedO ws (stepO ord (roots.getD j 0)) (roots.getD j 0)]) := by
 have hw := hr _ (getD_mem hj)
 refine ⟨?_, h.good.step hL hw, ?_, ?_, ?_⟩
 ·rw [h.lay]
  exact rowStep_lay hL h.good.inn (by simp) rfl h.good hw (fun r hr => hr)
 ·intro x hx h1
  rw [take_snoc hj] at hx
  rcases List.mem_append.1 hx with hx | hx
  ·exact stepO_sub (h.seen x hx h1)
  ·rw [List.mem_singleton] at hx
   subst hx
   exact stepO_mem h1
 ·have := h.came
  rw [drop_cons hj] at this
  exact this
 ·rw [take_snoc hj, List.map_append, map_moved_step h.seen, ← h.out]
  rfl
theorem RootSt.fin {ws : List Int} {L : List (Nat × Nat)} {roots : List Int} {ord : List Nat} {j : Nat} {row out : List Int} (h : RootSt ws L roots ord j row out) (hj : roots.length ≤ j) :
  ord = visitO [] roots ∧ (∀ x ∈ roots, x % 4 = 1 → plc x ∈ ord) ∧ out = roots.map (movedO ws ord) := by
 have h1 := h.came
 have h2 := h.seen
 have h3 := h.out
 rw [List.drop_eq_nil_of_le hj] at h1
 rw [List.take_of_length_le hj] at h2 h3
 exact ⟨h1, h2, h3⟩
/-- The loop over the new heap has come to the object i. -/
structure ScanSt (ws : List Int) (t : Nat) (L : List (Nat × Nat)) (roots : List Int) (ord : List Nat) (i : Nat) (row : List Int) : Prop where
 lay : row = layR ws ((ord.take i).flatMap (mapObj ws ord)) (ord.drop i) (ws.length - offO ws ord)
 good : GoodO ws L ord
 closed : Closed ws ord i
 le : i ≤ ord.length
 came : ∃ k, t - i < k ∧ orderO ws roots = bfsO ws k i ord
 roots : ∀ x ∈ roots, x % 4 = 1 → plc x ∈ ord
theorem ScanSt.start {ws : List Int} {t : Nat} {L : List (Nat × Nat)} {roots : List Int} {ord : List Nat} {j : Nat} {row out : List Int} (h : RootSt ws L roots ord j row out) (hj : roots.length ≤ j) (ht : t ≤ 20000) : ScanSt ws t L roots ord 0 row := by
 obtain ⟨h1, h2, _⟩ := h.fin hj
 exact ⟨by rw [h.lay]; simp, h.good, Closed.zero _ _, Nat.zero_le _, ⟨20001, by omega, by rw [h1]; rfl⟩, h2⟩
/-- Within an object. -/
structure InSt (ws : List Int) (t : Nat) (L : List (Nat × Nat)) (roots : List Int) (ord : List Nat) (i p j : Nat) (row : List Int) : Prop where
 at_ : ord[i]? = some p
 lay : row = layR ws ((ord.take i).flatMap (mapObj ws ord) ++ ws.getD p 0 :: (((objFields ws p).take j).map (movedO ws ord) ++ (objFields ws p).drop j)) (ord.drop (i + 1)) (ws.length - offO ws ord)
 good : GoodO ws L ord
 closed : Closed ws ord i
 seen : ∀ x ∈ (objFields ws p).take j, x % 4 = 1 → plc x ∈ ord
 came : ∃ k, t - (i + 1) < k ∧ orderO ws roots = bfsO ws k (i + 1) (visitO ord ((objFields ws p).drop j))
 roots : ∀ x ∈ roots, x % 4 = 1 → plc x ∈ ord
theorem drop_nat {ord : List Nat} {i p : Nat} (h : ord[i]? = some p) : ord.drop i = p :: ord.drop (i + 1) := by
 obtain ⟨hlt, he⟩ := List.getElem?_eq_some_iff.1 h
 rw [List.drop_eq_getElem_cons hlt, he]
theorem ScanSt.into {ws : List Int} {t : Nat} {L : List (Nat × Nat)} {roots : List Int} {ord : List Nat} {i p : Nat} {row : List Int} (hL : objsF ws (t : Int) = some L) (h : ScanSt ws t L roots ord i row) (hp : ord[i]? = some p) : InSt ws t L roots ord i p 0 row := by
 have hlt : i < ord.length := (List.getElem?_eq_some_iff.1 hp).1
 refine ⟨hp, ?_, h.good, h.closed, by simp, ?_, h.roots⟩
 ·rw [h.lay]
  unfold layR
  rw [drop_nat hp, List.flatMap_cons]
  simp [rawObj]
 ·obtain ⟨k, hk, he⟩ := h.came
  obtain ⟨k, rfl⟩ : ∃ m, k = m + 1 := ⟨k - 1, by omega⟩
  have hle := h.good.off_le hL
  have := len_le_off ws ord
  refine ⟨k, ?_, ?_⟩
  ·omega
  ·rw [he, bfsO, hp]
   rfl
theorem mapObj_step {ws : List Int} {ord : List Nat} {x : Int} {p : Nat} (h : ∀ y ∈ objFields ws p, y % 4 = 1 → plc y ∈ ord) : mapObj ws (stepO ord x) p = mapObj ws ord p := by
 unfold mapObj
 rw [map_moved_step h]
theorem flat_step {ws : List Int} {ord : List Nat} {x : Int} {i : Nat} (h : Closed ws ord i) (hi : i ≤ ord.length) : ((stepO ord x).take i).flatMap (mapObj ws (stepO ord x)) = (ord.take i).flatMap (mapObj ws ord) := by
 obtain ⟨r, hr⟩ := stepO_pre ord x
 have e : (stepO ord x).take i = ord.take i := by rw [hr, List.take_append_of_le_length hi]
 rw [e]
 have : ∀ (os : List Nat), (∀ q ∈ os, mapObj ws (stepO ord x) q = mapObj ws ord q) → os.flatMap (mapObj ws (stepO ord x)) = os.flatMap (mapObj ws ord) := by
  intro os
  induction os with
  | nil => simp
  | cons q os ih =>
   intro hq
   rw [List.flatMap_cons, List.flatMap_cons, hq q List.mem_cons_self, ih (fun y hy => hq y (List.mem_cons_of_mem _ hy))]
 refine this _ (fun q hq => mapObj_step ?_)
 obtain ⟨j, hj, he⟩ := List.mem_iff_getElem.1 hq
 have hj' : j < i := by rw [List.length_take] at hj; omega
 refine h j q hj' ?_
 rw [List.getElem_take] at he
 rw [← he]
 exact List.getElem?_eq_getElem _
theorem Closed.step {ws : List Int} {ord : List Nat} {i : Nat} {x : Int} (h : Closed ws ord i) (hi : i ≤ ord.length) : Closed ws (stepO ord x) i := by
 obtain ⟨r, hr⟩ := stepO_pre ord x
 intro j q hj hq y hy h1
 rw [hr, List.getElem?_append_left (by omega)] at hq
 exact stepO_sub (h j q hj hq y hy h1)
section
variable {ws : List Int} {t : Nat} {L : List (Nat × Nat)} (hL : objsF ws (t : Int) = some L) (ho : ∀ q ∈ L, objectAt ws L q = true)
include hL
theorem take_off {ord : List Nat} {i p : Nat} (hp : ord[i]? = some p) (os : List Nat) (hi : ∀ q ∈ ord, (q, sizeAt ws q) ∈ L) : ((ord.take i).flatMap (mapObj ws os)).length = offO ws (ord.take i) :=
 flat_length hL os _ (fun q hq => hi q (List.mem_of_mem_take hq))
/-- Where the row stands: the field that comes next. -/
theorem InSt.cell {roots : List Int} {ord : List Nat} {i p j : Nat} {row : List Int} (h : InSt ws t L roots ord i p j row) (hj : j < sizeAt ws p) : row.getD (offO ws (ord.take i) + 1 + j) 0 = (objFields ws p).getD j 0 ∧ offO ws (ord.take i) + 1 + j < row.length := by
 have hpi := h.good.inn p (List.mem_of_getElem? h.at_)
 have hfl := (obj_fits hL hpi).2.2.2.2
 have h1 := take_off hL h.at_ ord h.good.inn
 have h2 : (((objFields ws p).take j).map (movedO ws ord)).length = j := by simp; omega
 have key : ∀ (A : List Int) (hd : Int) (B D E : List Int) (a : Nat), A.length = a → B.length = j → j < sizeAt ws p → D = (objFields ws p).drop j → (A ++ hd :: (B ++ D) ++ E).getD (a + 1 + j) 0 = (objFields ws p).getD j 0 ∧ a + 1 + j < (A ++ hd :: (B ++ D) ++ E).length := by
  intro A hd B D E a hA hB hj hD
  subst hD
  rw [drop_cons (by omega)]
  constructor
  ·rw [List.getD_eq_getElem?_getD, List.append_assoc, List.getElem?_append_right (by omega), hA, show a + 1 + j - a = j + 1 by omega, List.cons_append, List.getElem?_cons_succ, List.append_assoc, List.getElem?_append_right (by omega), hB, Nat.sub_self]
   rfl
  ·simp
   omega
 have := key _ (ws.getD p 0) _ _ ((ord.drop (i + 1)).flatMap (rawObj ws) ++ List.replicate (ws.length - offO ws ord) 0) _ h1 h2 hj rfl
 rw [h.lay]
 unfold layR
 rw [List.append_assoc _ ((ord.drop (i + 1)).flatMap (rawObj ws)) _]
 exact this
theorem InSt.head {roots : List Int} {ord : List Nat} {i p j : Nat} {row : List Int} (h : InSt ws t L roots ord i p j row) : row.getD (offO ws (ord.take i)) 0 = ws.getD p 0 ∧ offO ws (ord.take i) < row.length := by
 have h1 := take_off hL h.at_ ord h.good.inn
 have key : ∀ (A : List Int) (hd : Int) (B E : List Int) (a : Nat), A.length = a → (A ++ hd :: B ++ E).getD a 0 = hd ∧ a < (A ++ hd :: B ++ E).length := by
  intro A hd B E a hA
  subst hA
  constructor
  ·rw [List.getD_eq_getElem?_getD, List.append_assoc, List.getElem?_append_right (Nat.le_refl _), Nat.sub_self]
   rfl
  ·simp
 have := key _ (ws.getD p 0) (((objFields ws p).take j).map (movedO ws ord) ++ (objFields ws p).drop j) ((ord.drop (i + 1)).flatMap (rawObj ws) ++ List.replicate (ws.length - offO ws ord) 0) _ h1
 rw [h.lay]
 unfold layR
 rw [List.append_assoc _ ((ord.drop (i + 1)).flatMap (rawObj ws)) _]
 exact this
include ho
theorem InSt.next {roots : List Int} {ord : List Nat} {i p j : Nat} {row : List Int} (h : InSt ws t L roots ord i p j row) (hj : j < sizeAt ws p) {x : Int} (hx : x = (objFields ws p).getD j 0) :
  InSt ws t L roots (stepO ord x) i p (j + 1) ((rowStep ws ord row x).set (offO ws (ord.take i) + 1 + j) (movedO ws (stepO ord x) x)) := by
 have hilt : i < ord.length := (List.getElem?_eq_some_iff.1 h.at_).1
 have hpi := h.good.inn p (List.mem_of_getElem? h.at_)
 have hfl := (obj_fits hL hpi).2.2.2.2
 have hjl : j < (objFields ws p).length := by omega
 have hw : wordF (isPlace L) x = true := by rw [hx]; exact fields_ok ho hpi _ (getD_mem hjl)
 have h1 := take_off hL h.at_ ord h.good.inn
 have hprl : (ord.take (i + 1)).length ≤ ord.length := by simp; omega
 obtain ⟨r, hr⟩ := stepO_pre ord x
 refine ⟨by rw [hr, List.getElem?_append_left hilt]; exact h.at_, ?_, h.good.step hL hw, h.closed.step (by omega), ?_, ?_, fun y hy h1 => stepO_sub (h.roots y hy h1)⟩
 ·have hlen : ((ord.take i).flatMap (mapObj ws ord) ++ ws.getD p 0 :: (((objFields ws p).take j).map (movedO ws ord) ++ (objFields ws p).drop j)).length + offO ws (ord.drop (i + 1)) = offO ws ord := by
   have e1 := offO_append ws (ord.take (i + 1)) (ord.drop (i + 1))
   rw [List.take_append_drop, offO_take_succ ws ord i p h.at_] at e1
   rw [List.length_append, h1]
   simp only [List.length_cons, List.length_append, List.length_map, List.length_take, List.length_drop, hfl]
   unfold sz at e1
   omega
  have e2 := rowStep_lay (n := ws.length) hL (fun q hq => h.good.inn q (List.mem_of_mem_drop hq)) hlen rfl h.good hw (tail' := (stepO ord x).drop (i + 1)) (fun r' hr' => by
   rw [hr', List.drop_append_of_le_length (by omega)])
  rw [h.lay, e2, flat_step h.closed (by omega), take_snoc hjl, List.map_append, map_moved_step h.seen, ← hx, drop_cons hjl, ← hx]
  unfold layR
  have h2 : (((objFields ws p).take j).map (movedO ws ord)).length = j := by simp; omega
  have key : ∀ (A : List Int) (hd y v : Int) (B D E : List Int) (a : Nat), A.length = a → B.length = j → (A ++ hd :: (B ++ y :: D) ++ E).set (a + 1 + j) v = A ++ hd :: (B ++ [v] ++ D) ++ E := by
   intro A hd y v B D E a hA hB
   rw [List.append_assoc, List.set_append_right _ _ (by omega), hA, show a + 1 + j - a = j + 1 by omega, List.cons_append, List.set_cons_succ, List.append_assoc, List.set_append_right _ _ (by omega), hB, Nat.sub_self]
   simp
  have := key _ (ws.getD p 0) x (movedO ws (stepO ord x) x) _ ((objFields ws p).drop (j + 1)) (((stepO ord x).drop (i + 1)).flatMap (rawObj ws) ++ List.replicate (ws.length - offO ws (stepO ord x)) 0) _ h1 h2
  rw [List.append_assoc _ (((stepO ord x).drop (i + 1)).flatMap (rawObj ws)) _, this, ← List.append_assoc]
  rfl
 ·intro y hy h1
  rw [take_snoc hjl] at hy
  rcases List.mem_append.1 hy with hy | hy
  ·exact stepO_sub (h.seen y hy h1)
  ·rw [List.mem_singleton] at hy
   rw [hy, ← hx]
   exact stepO_mem (by rw [hx, ← hy]; exact h1)
 ·obtain ⟨k, hk, he⟩ := h.came
  refine ⟨k, hk, ?_⟩
  rw [he, drop_cons hjl, ← hx]
  rfl
omit ho in
theorem InSt.out {roots : List Int} {ord : List Nat} {i p j : Nat} {row : List Int} (h : InSt ws t L roots ord i p j row) (hj : j = sizeAt ws p) : ScanSt ws t L roots ord (i + 1) row := by
 have hilt : i < ord.length := (List.getElem?_eq_some_iff.1 h.at_).1
 have hpi := h.good.inn p (List.mem_of_getElem? h.at_)
 have hfl := (obj_fits hL hpi).2.2.2.2
 have hs := h.seen
 have hl := h.lay
 have hc := h.came
 have ht1 : (objFields ws p).take j = objFields ws p := List.take_of_length_le (by omega)
 have ht2 : (objFields ws p).drop j = [] := List.drop_eq_nil_of_le (by omega)
 rw [ht1] at hs
 rw [ht1, ht2] at hl
 rw [ht2] at hc
 refine ⟨?_, h.good, ?_, hilt, hc, h.roots⟩
 ·rw [hl, flat_take_succ (mapObj ws ord) ord i p h.at_, List.append_nil]
  rfl
 ·intro j' q hj' hq x hx h1
  by_cases he : j' = i
  ·subst he
   rw [h.at_] at hq
   cases hq
   exact hs x hx h1
  ·exact h.closed j' q (by omega) hq x hx h1
omit hL ho in
theorem ScanSt.fin {roots : List Int} {ord : List Nat} {i : Nat} {row : List Int} (h : ScanSt ws t L roots ord i row) (hi : offO ws ord ≤ offO ws (ord.take i)) :
  ord = orderO ws roots ∧ row = ord.flatMap (mapObj ws ord) ++ List.replicate (ws.length - offO ws ord) 0 := by
 have hie : i = ord.length := by
  have h1 := h.le
  by_cases hlt : i < ord.length
  ·exfalso
   obtain ⟨p, hp⟩ : ∃ p, ord[i]? = some p := ⟨_, List.getElem?_eq_getElem hlt⟩
   have e1 := offO_append ws (ord.take (i + 1)) (ord.drop (i + 1))
   rw [List.take_append_drop, offO_take_succ ws ord i p hp] at e1
   unfold sz at e1
   omega
  ·omega
 subst hie
 obtain ⟨k, hk, he⟩ := h.came
 constructor
 ·obtain ⟨k, rfl⟩ : ∃ m, k = m + 1 := ⟨k - 1, by omega⟩
  rw [he, bfsO, List.getElem?_eq_none (Nat.le_refl _)]
 ·rw [h.lay]
  unfold layR
  rw [List.drop_length, List.take_length]
  simp
end
end Go.Proofs.Ytggkkgkjhfgipaa
