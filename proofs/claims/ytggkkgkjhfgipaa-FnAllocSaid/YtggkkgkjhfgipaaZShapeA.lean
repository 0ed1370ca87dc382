/- Two heaps of the same shape, in plain Lean: the rows that they are collected to are the same just where their objects match one by one. -/
import Derived.Test.YtggkkgkjhfgipaaZCollD
namespace Go.Proofs.Ytggkkgkjhfgipaa
open Go.RowKit
set_option linter.unusedVariables false
set_option linter.unusedSimpArgs false
/-- Two words match over a matching of places. -/
def relW (B : Nat → Nat → Prop) (v w : Int) : Prop := (v % 4 = 1 ∧ w % 4 = 1 ∧ B (plc v) (plc w)) ∨ (¬ (v % 4 = 1 ∧ w % 4 = 1) ∧ v = w)
theorem relW.mono {B B' : Nat → Nat → Prop} (h : ∀ p q, B p q → B' p q) {v w : Int} (hv : relW B v w) : relW B' v w := by
 rcases hv with ⟨h1, h2, h3⟩ | h0
 ·exact .inl ⟨h1, h2, h _ _ h3⟩
 ·exact .inr h0
/-- A matching: one to one, of equal heads, whose fields match. -/
structure Bis (ws vs : List Int) (B : Nat → Nat → Prop) : Prop where
 fn : ∀ p q q', B p q → B p q' → q = q'
 inj : ∀ p p' q, B p q → B p' q → p = p'
 head : ∀ p q, B p q → ws.getD p 0 = vs.getD q 0
 fields : ∀ p q, B p q → ∀ i, i < sizeAt ws p → relW B ((objFields ws p).getD i 0) ((objFields vs q).getD i 0)
/-- Words match one by one. -/
def RelL (B : Nat → Nat → Prop) (xs ys : List Int) : Prop := xs.length = ys.length ∧ ∀ i, i < xs.length → relW B (xs.getD i 0) (ys.getD i 0)
/-- The heaps with their roots have the same shape. -/
def ShapeP (ws vs roots others : List Int) : Prop := ∃ B, Bis ws vs B ∧ RelL B roots others
def Lock (B : Nat → Nat → Prop) (a b : List Nat) : Prop := a.length = b.length ∧ ∀ (i p q : Nat), a[i]? = some p → b[i]? = some q → B p q
theorem Lock.nil (B : Nat → Nat → Prop) : Lock B [] [] := ⟨rfl, fun i p q h => by simp at h⟩
theorem Lock.snoc {B : Nat → Nat → Prop} {a b : List Nat} (h : Lock B a b) {p q : Nat} (hp : B p q) : Lock B (a ++ [p]) (b ++ [q]) := by
 refine ⟨by simp [h.1], fun i p' q' h1 h2 => ?_⟩
 have hl := h.1
 by_cases hi : i < a.length
 ·rw [List.getElem?_append_left hi] at h1
  rw [List.getElem?_append_left (by omega)] at h2
  exact h.2 i p' q' h1 h2
 ·by_cases he : i = a.length
  ·subst he
   rw [List.getElem?_append_right (Nat.le_refl _)] at h1
   rw [List.getElem?_append_right (by omega), ← hl] at h2
   simp at h1 h2
   subst h1 h2
   exact hp
  ·rw [List.getElem?_eq_none (by simp; omega)] at h1
   cases h1
theorem Lock.mem_iff {ws vs : List Int} {B : Nat → Nat → Prop} (hB : Bis ws vs B) {a b : List Nat} (h : Lock B a b) {p q : Nat} (hp : B p q) : p ∈ a ↔ q ∈ b := by
 constructor
 ·intro hm
  obtain ⟨i, hi, he⟩ := List.mem_iff_getElem.1 hm
  have hl := h.1
  have hib : i < b.length := by omega
  have := h.2 i p b[i] (by rw [List.getElem?_eq_getElem hi, he]) (List.getElem?_eq_getElem hib)
  rw [hB.fn p q b[i] hp this]
  exact List.getElem_mem _
 ·intro hm
  obtain ⟨i, hi, he⟩ := List.mem_iff_getElem.1 hm
  have hl := h.1
  have hia : i < a.length := by omega
  have := h.2 i a[i] q (List.getElem?_eq_getElem hia) (by rw [List.getElem?_eq_getElem hi, he])
  rw [hB.inj p a[i] q hp this]
  exact List.getElem_mem _
theorem Lock.step {ws vs : List Int} {B : Nat → Nat → Prop} (hB : Bis ws vs B) {a b : List Nat} (h : Lock B a b) {x y : Int} (hx : relW B x y) : Lock B (stepO a x) (stepO b y) := by
 unfold stepO
 rcases hx with ⟨h1, h2, h3⟩ | ⟨h1, rfl⟩
 ·have hm := h.mem_iff hB h3
  by_cases hp : plc x ∈ a
  ·rw [if_neg (fun e => e.2 hp), if_neg (fun e => e.2 (hm.1 hp))]
   exact h
  ·rw [if_pos ⟨h1, hp⟩, if_pos ⟨h2, fun e => hp (hm.2 e)⟩]
   exact h.snoc h3
 ·have hx1 : ¬ x % 4 = 1 := fun e => h1 ⟨e, e⟩
  rw [if_neg (fun e => hx1 e.1), if_neg (fun e => hx1 e.1)]
  exact h
theorem RelL.cons {B : Nat → Nat → Prop} {x y : Int} {xs ys : List Int} (h : RelL B (x :: xs) (y :: ys)) : relW B x y ∧ RelL B xs ys := by
 refine ⟨h.2 0 (by simp), by simpa using h.1, fun i hi => ?_⟩
 have := h.2 (i + 1) (by simp; omega)
 simpa using this
theorem Lock.visit {ws vs : List Int} {B : Nat → Nat → Prop} (hB : Bis ws vs B) : ∀ (xs ys : List Int) (a b : List Nat), Lock B a b → RelL B xs ys → Lock B (visitO a xs) (visitO b ys)
 | [], [], a, b, h, _ => h
 | [], y :: ys, a, b, h, hr => by have := hr.1; simp at this
 | x :: xs, [], a, b, h, hr => by have := hr.1; simp at this
 | x :: xs, y :: ys, a, b, h, hr => Lock.visit hB xs ys _ _ (h.step hB hr.cons.1) hr.cons.2
/-- A heap's objects are laid as they must be. -/
structure Laid (ws : List Int) (t : Nat) (L : List (Nat × Nat)) : Prop where
 objs : objsF ws (t : Int) = some L
 ok : ∀ q ∈ L, objectAt ws L q = true
section
variable {ws vs : List Int} {t u : Nat} {L M : List (Nat × Nat)} (hw : Laid ws t L) (hv : Laid vs u M)
include hw hv
omit hw hv in
theorem Bis.sizes {B : Nat → Nat → Prop} (hB : Bis ws vs B) {p q : Nat} (h : B p q) : sizeAt ws p = sizeAt vs q := by
 unfold sizeAt
 rw [hB.head p q h]
theorem Bis.rel {B : Nat → Nat → Prop} (hB : Bis ws vs B) {p q : Nat} (h : B p q) (hp : (p, sizeAt ws p) ∈ L) (hq : (q, sizeAt vs q) ∈ M) : RelL B (objFields ws p) (objFields vs q) := by
 have h1 := (obj_fits hw.objs hp).2.2.2.2
 have h2 := (obj_fits hv.objs hq).2.2.2.2
 have h3 := Bis.sizes hB h
 exact ⟨by omega, fun i hi => hB.fields p q h i (by omega)⟩
theorem Lock.bfs {B : Nat → Nat → Prop} (hB : Bis ws vs B) : ∀ (k next : Nat) (a b : List Nat), Lock B a b → GoodO ws L a → GoodO vs M b → Lock B (bfsO ws k next a) (bfsO vs k next b)
 | 0, next, a, b, h, _, _ => h
 | k + 1, next, a, b, h, ga, gb => by
  unfold bfsO
  have hl := h.1
  by_cases hn : next < a.length
  ·have hnb : next < b.length := by omega
   rw [List.getElem?_eq_getElem hn, List.getElem?_eq_getElem hnb]
   simp only []
   have hp := h.2 next a[next] b[next] (List.getElem?_eq_getElem hn) (List.getElem?_eq_getElem hnb)
   have hia := ga.inn _ (List.getElem_mem hn)
   have hib := gb.inn _ (List.getElem_mem hnb)
   exact Lock.bfs hB k (next + 1) _ _ (h.visit hB _ _ _ _ (Bis.rel hw hv hB hp hia hib)) (ga.visit hw.objs _ (fields_ok hw.ok hia)) (gb.visit hv.objs _ (fields_ok hv.ok hib))
  ·rw [List.getElem?_eq_none (by omega), List.getElem?_eq_none (by omega)]
   exact h
omit hw hv in
theorem Lock.off {B : Nat → Nat → Prop} (hB : Bis ws vs B) : ∀ (a b : List Nat), Lock B a b → offO ws a = offO vs b
 | [], [], _ => rfl
 | [], q :: b, h => by have := h.1; simp at this
 | p :: a, [], h => by have := h.1; simp at this
 | p :: a, q :: b, h => by
  have h0 := h.2 0 p q rfl rfl
  have h1 : Lock B a b := ⟨by have := h.1; simpa using this, fun i p' q' h1 h2 => h.2 (i + 1) p' q' (by simpa using h1) (by simpa using h2)⟩
  rw [offO, offO, Lock.off hB a b h1]
  unfold sz
  rw [Bis.sizes hB h0]
omit hw hv in
theorem Lock.pos {B : Nat → Nat → Prop} (hB : Bis ws vs B) : ∀ (a b : List Nat), Lock B a b → ∀ p q, B p q → posO ws a p = posO vs b q
 | [], [], _, p, q, _ => rfl
 | [], q :: b, h, _, _, _ => by have := h.1; simp at this
 | p :: a, [], h, _, _, _ => by have := h.1; simp at this
 | p :: a, q :: b, h, p', q', hp => by
  have h0 := h.2 0 p q rfl rfl
  have h1 : Lock B a b := ⟨by have := h.1; simpa using this, fun i p' q' h1 h2 => h.2 (i + 1) p' q' (by simpa using h1) (by simpa using h2)⟩
  rw [posO, posO, Lock.pos hB a b h1 p' q' hp]
  by_cases he : p = p'
  ·subst he
   rw [if_pos rfl, if_pos (hB.fn p q q' h0 hp)]
  ·rw [if_neg he, if_neg (fun e => he (hB.inj p p' q h0 (by rw [e]; exact hp)))]
   unfold sz
   rw [Bis.sizes hB h0]
omit hw hv in
theorem Lock.moved {B : Nat → Nat → Prop} (hB : Bis ws vs B) {a b : List Nat} (h : Lock B a b) {x y : Int} (hx : relW B x y) : movedO ws a x = movedO vs b y := by
 unfold movedO
 rcases hx with ⟨h1, h2, h3⟩ | ⟨h1, rfl⟩
 ·rw [if_pos h1, if_pos h2, Lock.pos hB a b h _ _ h3]
 ·have hx1 : ¬ x % 4 = 1 := fun e => h1 ⟨e, e⟩
  rw [if_neg hx1, if_neg hx1]
omit hw hv in
theorem RelL.moved {B : Nat → Nat → Prop} (hB : Bis ws vs B) {a b : List Nat} (h : Lock B a b) : ∀ (xs ys : List Int), RelL B xs ys → xs.map (movedO ws a) = ys.map (movedO vs b)
 | [], [], _ => rfl
 | [], y :: ys, hr => by have := hr.1; simp at this
 | x :: xs, [], hr => by have := hr.1; simp at this
 | x :: xs, y :: ys, hr => by
  rw [List.map_cons, List.map_cons, Lock.moved hB h hr.cons.1, RelL.moved hB h xs ys hr.cons.2]
theorem Lock.flat {B : Nat → Nat → Prop} (hB : Bis ws vs B) {a b : List Nat} (h : Lock B a b) : ∀ (os qs : List Nat), Lock B os qs → (∀ p ∈ os, (p, sizeAt ws p) ∈ L) → (∀ q ∈ qs, (q, sizeAt vs q) ∈ M) → os.flatMap (mapObj ws a) = qs.flatMap (mapObj vs b)
 | [], [], _, _, _ => rfl
 | [], q :: qs, hl, _, _ => by have := hl.1; simp at this
 | p :: os, [], hl, _, _ => by have := hl.1; simp at this
 | p :: os, q :: qs, hl, hp, hq => by
  have h0 := hl.2 0 p q rfl rfl
  have h1 : Lock B os qs := ⟨by have := hl.1; simpa using this, fun i p' q' h1 h2 => hl.2 (i + 1) p' q' (by simpa using h1) (by simpa using h2)⟩
  rw [List.flatMap_cons, List.flatMap_cons, Lock.flat hB h os qs h1 (fun x hx => hp x (List.mem_cons_of_mem _ hx)) (fun x hx => hq x (List.mem_cons_of_mem _ hx))]
  have : mapObj ws a p = mapObj vs b q := by
   unfold mapObj
   rw [hB.head p q h0, RelL.moved hB h _ _ (Bis.rel hw hv hB h0 (hp p List.mem_cons_self) (hq q List.mem_cons_self))]
  rw [this]
/-- Where the objects match, the new rows are the same. -/
theorem shape_same {roots others : List Int} (hr : ∀ x ∈ roots, wordF (isPlace L) x = true) (ho : ∀ x ∈ others, wordF (isPlace M) x = true) (h : ShapeP ws vs roots others) :
  offO ws (orderO ws roots) = offO vs (orderO vs others) ∧ (orderO ws roots).flatMap (mapObj ws (orderO ws roots)) = (orderO vs others).flatMap (mapObj vs (orderO vs others)) ∧ roots.map (movedO ws (orderO ws roots)) = others.map (movedO vs (orderO vs others)) := by
 obtain ⟨B, hB, hR⟩ := h
 have g1 := (GoodO.nil ws L).visit hw.objs roots hr
 have g2 := (GoodO.nil vs M).visit hv.objs others ho
 have hl : Lock B (orderO ws roots) (orderO vs others) := Lock.bfs hw hv hB 20001 0 _ _ ((Lock.nil B).visit hB roots others _ _ hR) g1 g2
 obtain ⟨o1, _, _⟩ := orderO_good hw.objs hw.ok hr
 obtain ⟨o2, _, _⟩ := orderO_good hv.objs hv.ok ho
 exact ⟨Lock.off hB _ _ hl, Lock.flat hw hv hB hl _ _ hl o1.inn o2.inn, RelL.moved hB hl _ _ hR⟩
end
/-! ### the other way -/
/-- Rows of objects that are the same are so object by object. -/
theorem chunks_same {ws vs : List Int} {a b : List Nat} : ∀ (os qs : List Nat), (∀ p ∈ os, (objFields ws p).length = sizeAt ws p) → (∀ q ∈ qs, (objFields vs q).length = sizeAt vs q) → os.flatMap (mapObj ws a) = qs.flatMap (mapObj vs b) →
  os.length = qs.length ∧ ∀ (i p q : Nat), os[i]? = some p → qs[i]? = some q → mapObj ws a p = mapObj vs b q
 | [], [], _, _, _ => ⟨rfl, fun i p q h => by simp at h⟩
 | [], q :: qs, _, _, h => by simp [mapObj] at h
 | p :: os, [], _, _, h => by simp [mapObj] at h
 | p :: os, q :: qs, hp, hq, h => by
  rw [List.flatMap_cons, List.flatMap_cons] at h
  have hhead : ws.getD p 0 = vs.getD q 0 := by
   have : (mapObj ws a p ++ os.flatMap (mapObj ws a)).head? = (mapObj vs b q ++ qs.flatMap (mapObj vs b)).head? := by rw [h]
   simpa [mapObj] using this
  have hl : (mapObj ws a p).length = (mapObj vs b q).length := by
   rw [mapObj_length, mapObj_length, hp p List.mem_cons_self, hq q List.mem_cons_self]
   unfold sizeAt
   rw [hhead]
  obtain ⟨h1, h2⟩ := List.append_inj h hl
  obtain ⟨h3, h4⟩ := chunks_same os qs (fun x hx => hp x (List.mem_cons_of_mem _ hx)) (fun x hx => hq x (List.mem_cons_of_mem _ hx)) h2
  refine ⟨by simp [h3], fun i p' q' hi hi2 => ?_⟩
  cases i with
  | zero =>
   simp at hi hi2
   subst hi hi2
   exact h1
  | succ i =>
   simp at hi hi2
   exact h4 i p' q' hi hi2
theorem off_inc (ws : List Int) (a : List Nat) : ∀ (i j : Nat), i < j → j ≤ a.length → offO ws (a.take i) < offO ws (a.take j) := by
 intro i j hij hj
 induction j with
 | zero => omega
 | succ j ih =>
  have hlt : j < a.length := by omega
  have := offO_take_succ ws a j a[j] (List.getElem?_eq_getElem hlt)
  unfold sz at this
  by_cases he : i = j
  ·subst he; omega
  ·have := ih (by omega) (by omega)
   omega
theorem off_same {ws vs : List Int} {a b : List Nat} (hh : ∀ (i p q : Nat), a[i]? = some p → b[i]? = some q → ws.getD p 0 = vs.getD q 0) (hl : a.length = b.length) : ∀ i, i ≤ a.length → offO ws (a.take i) = offO vs (b.take i) := by
 intro i hi
 induction i with
 | zero => simp [offO]
 | succ i ih =>
  have h1 : i < a.length := by omega
  have h2 : i < b.length := by omega
  rw [offO_take_succ ws a i a[i] (List.getElem?_eq_getElem h1), offO_take_succ vs b i b[i] (List.getElem?_eq_getElem h2), ih (by omega)]
  unfold sz sizeAt
  rw [hh i a[i] b[i] (List.getElem?_eq_getElem h1) (List.getElem?_eq_getElem h2)]
theorem same_shape {ws vs : List Int} {t u : Nat} {L M : List (Nat × Nat)} (hw : Laid ws t L) (hv : Laid vs u M) {roots others : List Int} (hr : ∀ x ∈ roots, wordF (isPlace L) x = true) (ho : ∀ x ∈ others, wordF (isPlace M) x = true)
  (hf : (orderO ws roots).flatMap (mapObj ws (orderO ws roots)) = (orderO vs others).flatMap (mapObj vs (orderO vs others))) (hm : roots.map (movedO ws (orderO ws roots)) = others.map (movedO vs (orderO vs others))) : ShapeP ws vs roots others := by
 obtain ⟨ga, ca, ra⟩ := orderO_good hw.objs hw.ok hr
 obtain ⟨gb, cb, rb⟩ := orderO_good hv.objs hv.ok ho
 generalize orderO ws roots = a at *
 generalize orderO vs others = b at *
 obtain ⟨hlen, hobj⟩ := chunks_same a b (fun p hp => (obj_fits hw.objs (ga.inn p hp)).2.2.2.2) (fun q hq => (obj_fits hv.objs (gb.inn q hq)).2.2.2.2) hf
 have hhead : ∀ (i p q : Nat), a[i]? = some p → b[i]? = some q → ws.getD p 0 = vs.getD q 0 := by
  intro i p q h1 h2
  have := hobj i p q h1 h2
  unfold mapObj at this
  exact (List.cons.inj this).1
 have hoff := off_same hhead hlen
 have key : ∀ x y : Int, (x % 4 = 1 → plc x ∈ a) → (y % 4 = 1 → plc y ∈ b) → movedO ws a x = movedO vs b y → relW (fun p q => ∃ i : Nat, a[i]? = some p ∧ b[i]? = some q) x y := by
  intro x y hx hy he
  unfold movedO at he
  by_cases h1 : x % 4 = 1
  ·by_cases h2 : y % 4 = 1
   ·rw [if_pos h1, if_pos h2] at he
    obtain ⟨i, hi, hie⟩ := List.mem_iff_getElem.1 (hx h1)
    obtain ⟨j, hj, hje⟩ := List.mem_iff_getElem.1 (hy h2)
    have e1 := posO_at ws a i (plc x) ga.nodup (by rw [List.getElem?_eq_getElem hi, hie])
    have e2 := posO_at vs b j (plc y) gb.nodup (by rw [List.getElem?_eq_getElem hj, hje])
    have e3 := hoff j (by omega)
    have hij : i = j := by
     rcases Nat.lt_trichotomy i j with h | h | h
     ·have := off_inc ws a i j h (by omega)
      omega
     ·exact h
     ·have := off_inc ws a j i h (by omega)
      omega
    subst hij
    exact .inl ⟨h1, h2, i, by rw [List.getElem?_eq_getElem hi, hie], by rw [List.getElem?_eq_getElem hj, hje]⟩
   ·rw [if_pos h1, if_neg h2] at he
    omega
  ·by_cases h2 : y % 4 = 1
   ·rw [if_neg h1, if_pos h2] at he
    omega
   ·rw [if_neg h1, if_neg h2] at he
    exact .inr ⟨fun e => h1 e.1, he⟩
 have nodupi : ∀ (l : List Nat) (i j p : Nat), l.Nodup → l[i]? = some p → l[j]? = some p → i = j := by
  intro l i j p hn hi hj
  exact (List.getElem?_inj (List.getElem?_eq_some_iff.1 hi).1 hn).1 (hi.trans hj.symm)
 refine ⟨fun p q => ∃ i : Nat, a[i]? = some p ∧ b[i]? = some q, ⟨?_, ?_, ?_, ?_⟩, ?_⟩
 ·rintro p q q' ⟨i, h1, h2⟩ ⟨j, h3, h4⟩
  have := nodupi a i j p ga.nodup h1 h3
  subst this
  rw [h2] at h4
  exact Option.some.inj h4
 ·rintro p p' q ⟨i, h1, h2⟩ ⟨j, h3, h4⟩
  have := nodupi b i j q gb.nodup h2 h4
  subst this
  rw [h1] at h3
  exact Option.some.inj h3
 ·rintro p q ⟨i, h1, h2⟩
  exact hhead i p q h1 h2
 ·rintro p q ⟨i, h1, h2⟩ k hk
  have hpi := ga.inn p (List.mem_of_getElem? h1)
  have hqi := gb.inn q (List.mem_of_getElem? h2)
  have hp := obj_fits hw.objs hpi
  have hq := obj_fits hv.objs hqi
  have hsz : sizeAt ws p = sizeAt vs q := by unfold sizeAt; rw [hhead i p q h1 h2]
  have hia : i < a.length := (List.getElem?_eq_some_iff.1 h1).1
  have hib : i < b.length := (List.getElem?_eq_some_iff.1 h2).1
  have hkp : k < (objFields ws p).length := by omega
  have hkq : k < (objFields vs q).length := by omega
  refine key _ _ (fun e => ca i p hia h1 _ (getD_mem hkp) e) (fun e => cb i q hib h2 _ (getD_mem hkq) e) ?_
  have := hobj i p q h1 h2
  unfold mapObj at this
  have hmp := (List.cons.inj this).2
  have h5 : ((objFields ws p).map (movedO ws a))[k]? = ((objFields vs q).map (movedO vs b))[k]? := by rw [hmp]
  rw [List.getElem?_map, List.getElem?_map, List.getElem?_eq_getElem hkp, List.getElem?_eq_getElem hkq] at h5
  rw [List.getD_eq_getElem?_getD, List.getD_eq_getElem?_getD, List.getElem?_eq_getElem hkp, List.getElem?_eq_getElem hkq]
  exact Option.some.inj h5
 ·have hl : roots.length = others.length := by
   have := congrArg List.length hm
   simpa using this
  refine ⟨hl, fun i hi => ?_⟩
  have hi2 : i < others.length := by omega
  refine key _ _ (fun e => ra _ (getD_mem hi) e) (fun e => rb _ (getD_mem hi2) e) ?_
  have h5 : (roots.map (movedO ws a))[i]? = (others.map (movedO vs b))[i]? := by rw [hm]
  rw [List.getElem?_map, List.getElem?_map, List.getElem?_eq_getElem hi, List.getElem?_eq_getElem hi2] at h5
  rw [List.getD_eq_getElem?_getD, List.getD_eq_getElem?_getD, List.getElem?_eq_getElem hi, List.getElem?_eq_getElem hi2]
  exact Option.some.inj h5
end Go.Proofs.Ytggkkgkjhfgipaa
