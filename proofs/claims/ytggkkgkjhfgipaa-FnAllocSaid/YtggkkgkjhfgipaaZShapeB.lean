/- The search for a matching of two heaps, step by step, in plain Lean. -/
import Derived.Test.YtggkkgkjhfgipaaZShapeA
namespace Go.Proofs.Ytggkkgkjhfgipaa
open Go.RowKit
set_option linter.unusedVariables false
set_option linter.unusedSimpArgs false
/-- What is matched to p; what p is matched to q. -/
def lookP : List (Nat × Nat) → Nat → Option Nat
 | [], _ => none
 | x :: r, p => if x.1 = p then some x.2 else lookP r p
def lookQ : List (Nat × Nat) → Nat → Option Nat
 | [], _ => none
 | x :: r, q => if x.2 = q then some x.1 else lookQ r q
theorem lookP_snoc (a b p : Nat) : ∀ ps : List (Nat × Nat), lookP (ps ++ [(a, b)]) p = match lookP ps p with
  | some q => some q
  | none => if a = p then some b else none
 | [] => by simp [lookP]
 | x :: r => by
  rw [List.cons_append, lookP, lookP]
  by_cases h : x.1 = p
  ·rw [if_pos h, if_pos h]
  ·rw [if_neg h, if_neg h]
   exact lookP_snoc a b p r
theorem lookQ_snoc (a b q : Nat) : ∀ ps : List (Nat × Nat), lookQ (ps ++ [(a, b)]) q = match lookQ ps q with
  | some p => some p
  | none => if b = q then some a else none
 | [] => by simp [lookQ]
 | x :: r => by
  rw [List.cons_append, lookQ, lookQ]
  by_cases h : x.2 = q
  ·rw [if_pos h, if_pos h]
  ·rw [if_neg h, if_neg h]
   exact lookQ_snoc a b q r
theorem lookP_some {p q : Nat} : ∀ {ps : List (Nat × Nat)}, lookP ps p = some q → (p, q) ∈ ps
 | [], h => by cases h
 | x :: r, h => by
  rw [lookP] at h
  split at h
  ·rename_i e
   cases h
   subst e
   exact List.mem_cons_self
  ·exact List.mem_cons_of_mem _ (lookP_some h)
theorem lookQ_some {p q : Nat} : ∀ {ps : List (Nat × Nat)}, lookQ ps q = some p → (p, q) ∈ ps
 | [], h => by cases h
 | x :: r, h => by
  rw [lookQ] at h
  split at h
  ·rename_i e
   cases h
   subst e
   exact List.mem_cons_self
  ·exact List.mem_cons_of_mem _ (lookQ_some h)
theorem lookP_none {p : Nat} : ∀ {ps : List (Nat × Nat)}, lookP ps p = none → ∀ x ∈ ps, x.1 ≠ p
 | [], _, x, h => by cases h
 | y :: r, h, x, hx => by
  rw [lookP] at h
  split at h
  ·cases h
  ·rename_i hy
   rcases List.mem_cons.1 hx with rfl | hx
   ·exact hy
   ·exact lookP_none h x hx
theorem lookQ_none {q : Nat} : ∀ {ps : List (Nat × Nat)}, lookQ ps q = none → ∀ x ∈ ps, x.2 ≠ q
 | [], _, x, h => by cases h
 | y :: r, h, x, hx => by
  rw [lookQ] at h
  split at h
  ·cases h
  ·rename_i hy
   rcases List.mem_cons.1 hx with rfl | hx
   ·exact hy
   ·exact lookQ_none h x hx
def inP (ps : List (Nat × Nat)) (p q : Nat) : Prop := (p, q) ∈ ps
structure PsOk (ws vs : List Int) (L M : List (Nat × Nat)) (ps : List (Nat × Nat)) : Prop where
 dom : ∀ x ∈ ps, (x.1, sizeAt ws x.1) ∈ L ∧ (x.2, sizeAt vs x.2) ∈ M
 fn : ∀ x ∈ ps, ∀ y ∈ ps, x.1 = y.1 → x.2 = y.2
 inj : ∀ x ∈ ps, ∀ y ∈ ps, x.2 = y.2 → x.1 = y.1
 nd : (ps.map Prod.fst).Nodup
theorem PsOk.nil (ws vs : List Int) (L M : List (Nat × Nat)) : PsOk ws vs L M [] := ⟨by simp, by simp, by simp, by simp⟩
theorem PsOk.le {ws vs : List Int} {t : Nat} {L M ps : List (Nat × Nat)} (h : PsOk ws vs L M ps) (hL : objsF ws (t : Int) = some L) : ps.length ≤ t := by
 have hg : GoodO ws L (ps.map Prod.fst) := ⟨h.nd, fun p hp => by
  obtain ⟨x, hx, rfl⟩ := List.mem_map.1 hp
  exact (h.dom x hx).1⟩
 have h1 := hg.off_le hL
 have h2 := len_le_off ws (ps.map Prod.fst)
 rw [List.length_map] at h2
 omega
theorem PsOk.snoc {ws vs : List Int} {L M ps : List (Nat × Nat)} (h : PsOk ws vs L M ps) {p q : Nat} (hp : (p, sizeAt ws p) ∈ L) (hq : (q, sizeAt vs q) ∈ M) (h1 : lookP ps p = none) (h2 : lookQ ps q = none) : PsOk ws vs L M (ps ++ [(p, q)]) := by
 have n1 := lookP_none h1
 have n2 := lookQ_none h2
 refine ⟨?_, ?_, ?_, ?_⟩
 ·intro x hx
  rcases List.mem_append.1 hx with hx | hx
  ·exact h.dom x hx
  ·rw [List.mem_singleton] at hx
   subst hx
   exact ⟨hp, hq⟩
 ·intro x hx y hy e
  rcases List.mem_append.1 hx with hx | hx
  ·rcases List.mem_append.1 hy with hy | hy
   ·exact h.fn x hx y hy e
   ·rw [List.mem_singleton] at hy
    subst hy
    exact absurd e (n1 x hx)
  ·rw [List.mem_singleton] at hx
   subst hx
   rcases List.mem_append.1 hy with hy | hy
   ·exact absurd e.symm (n1 y hy)
   ·rw [List.mem_singleton] at hy
    subst hy
    rfl
 ·intro x hx y hy e
  rcases List.mem_append.1 hx with hx | hx
  ·rcases List.mem_append.1 hy with hy | hy
   ·exact h.inj x hx y hy e
   ·rw [List.mem_singleton] at hy
    subst hy
    exact absurd e (n2 x hx)
  ·rw [List.mem_singleton] at hx
   subst hx
   rcases List.mem_append.1 hy with hy | hy
   ·exact absurd e.symm (n2 y hy)
   ·rw [List.mem_singleton] at hy
    subst hy
    rfl
 ·rw [List.map_append, List.nodup_append]
  refine ⟨h.nd, by simp, ?_⟩
  intro a ha b hb e
  obtain ⟨x, hx, rfl⟩ := List.mem_map.1 ha
  have : b = p := by simpa using hb
  exact n1 x hx (e.trans this)
def twoOk (ws vs : List Int) (B : Nat → Nat → Prop) (x : Nat × Nat) : Prop := ws.getD x.1 0 = vs.getD x.2 0 ∧ ∀ i, i < sizeAt ws x.1 → relW B ((objFields ws x.1).getD i 0) ((objFields vs x.2).getD i 0)
theorem twoOk.mono {ws vs : List Int} {B B' : Nat → Nat → Prop} (h : ∀ p q, B p q → B' p q) {x : Nat × Nat} (hx : twoOk ws vs B x) : twoOk ws vs B' x := ⟨hx.1, fun i hi => (hx.2 i hi).mono h⟩
def Holds (ps : List (Nat × Nat)) (B : Nat → Nat → Prop) : Prop := ∀ x ∈ ps, B x.1 x.2
/-- The search said yes. -/
structure Yes (ws vs : List Int) (L M : List (Nat × Nat)) (ps : List (Nat × Nat)) (v w : Int) (ps' : List (Nat × Nat)) : Prop where
 ext : ∀ x ∈ ps, x ∈ ps'
 len : ps.length ≤ ps'.length
 ok : PsOk ws vs L M ps'
 rel : relW (inP ps') v w
 new : ∀ x ∈ ps', x ∈ ps ∨ twoOk ws vs (inP ps') x
 least : ∀ B, Bis ws vs B → Holds ps B → relW B v w → Holds ps' B
/-- The search said no. -/
def No (ws vs : List Int) (ps : List (Nat × Nat)) (v w : Int) : Prop := ∀ B, Bis ws vs B → Holds ps B → ¬ relW B v w
def SameRes (ws vs : List Int) (L M : List (Nat × Nat)) (ps : List (Nat × Nat)) (v w : Int) (b : Bool) (ps' : List (Nat × Nat)) : Prop := (b = true → Yes ws vs L M ps v w ps') ∧ (b = false → No ws vs ps v w)
/-- No two pointers. -/
theorem same_plain {ws vs : List Int} {L M ps : List (Nat × Nat)} (h : PsOk ws vs L M ps) {v w : Int} (hp : ¬ (v % 4 = 1 ∧ w % 4 = 1)) : SameRes ws vs L M ps v w (v == w) ps := by
 refine ⟨fun e => ?_, fun e => ?_⟩
 ·have e' : v = w := by simpa using e
  exact ⟨fun x hx => hx, Nat.le_refl _, h, .inr ⟨hp, e'⟩, fun x hx => .inl hx, fun B _ hh _ => hh⟩
 ·intro B hB hh hr
  rcases hr with ⟨h1, h2, _⟩ | ⟨_, e'⟩
  ·exact hp ⟨h1, h2⟩
  ·subst e'
   simp at e
/-- Pointers of which one was met. -/
theorem same_met {ws vs : List Int} {L M ps : List (Nat × Nat)} (h : PsOk ws vs L M ps) {v w : Int} (h1 : v % 4 = 1) (h2 : w % 4 = 1) (hm : lookP ps (plc v) ≠ none ∨ lookQ ps (plc w) ≠ none) {b : Bool} (hb : b = true ↔ lookP ps (plc v) = some (plc w) ∧ lookQ ps (plc w) = some (plc v)) :
  SameRes ws vs L M ps v w b ps := by
 refine ⟨fun e => ?_, fun e => ?_⟩
 ·exact ⟨fun x hx => hx, Nat.le_refl _, h, .inl ⟨h1, h2, lookP_some (hb.1 e).1⟩, fun x hx => .inl hx, fun B _ hh _ => hh⟩
 ·intro B hB hh hr
  have hB' : B (plc v) (plc w) := by
   rcases hr with ⟨_, _, h3⟩ | ⟨h3, _⟩
   ·exact h3
   ·exact absurd ⟨h1, h2⟩ h3
  have key : (plc v, plc w) ∈ ps := by
   rcases hm with hm | hm
   ·cases hl : lookP ps (plc v) with
    | none => exact absurd hl hm
    | some q =>
     have hq := lookP_some hl
     have := hB.fn _ _ _ (hh _ hq) hB'
     simp only at this
     rw [← this]
     exact hq
   ·cases hl : lookQ ps (plc w) with
    | none => exact absurd hl hm
    | some p =>
     have hq := lookQ_some hl
     have := hB.inj _ _ _ (hh _ hq) hB'
     simp only at this
     rw [← this]
     exact hq
  have k1 : lookP ps (plc v) = some (plc w) := by
   cases hl : lookP ps (plc v) with
   | none => exact absurd rfl (lookP_none hl _ key)
   | some q => exact congrArg some (h.fn _ (lookP_some hl) _ key rfl)
  have k2 : lookQ ps (plc w) = some (plc v) := by
   cases hl : lookQ ps (plc w) with
   | none => exact absurd rfl (lookQ_none hl _ key)
   | some p => exact congrArg some (h.inj _ (lookQ_some hl) _ key rfl)
  rw [hb.2 ⟨k1, k2⟩] at e
  cases e
/-- Heads that differ. -/
theorem same_heads {ws vs : List Int} {ps : List (Nat × Nat)} {v w : Int} (h1 : v % 4 = 1) (h2 : w % 4 = 1) (hd : ws.getD (plc v) 0 ≠ vs.getD (plc w) 0) : No ws vs ps v w := by
 intro B hB hh hr
 rcases hr with ⟨_, _, h3⟩ | ⟨h3, _⟩
 ·exact hd (hB.head _ _ h3)
 ·exact h3 ⟨h1, h2⟩
/-- Within two objects. -/
structure Mid (ws vs : List Int) (L M : List (Nat × Nat)) (ps : List (Nat × Nat)) (p q i : Nat) (cs : List (Nat × Nat)) : Prop where
 ext : ∀ x ∈ ps, x ∈ cs
 at_ : (p, q) ∈ cs
 len : ps.length < cs.length
 ok : PsOk ws vs L M cs
 rel : ∀ j, j < i → relW (inP cs) ((objFields ws p).getD j 0) ((objFields vs q).getD j 0)
 new : ∀ x ∈ cs, x ∈ ps ∨ x = (p, q) ∨ twoOk ws vs (inP cs) x
 least : ∀ B, Bis ws vs B → Holds ps B → B p q → Holds cs B
theorem Mid.start {ws vs : List Int} {L M ps : List (Nat × Nat)} (h : PsOk ws vs L M ps) {p q : Nat} (hp : (p, sizeAt ws p) ∈ L) (hq : (q, sizeAt vs q) ∈ M) (h1 : lookP ps p = none) (h2 : lookQ ps q = none) : Mid ws vs L M ps p q 0 (ps ++ [(p, q)]) := by
 refine ⟨fun x hx => List.mem_append_left _ hx, by simp, by simp, h.snoc hp hq h1 h2, fun j hj => absurd hj (Nat.not_lt_zero _), fun x hx => ?_, fun B hB hh hpq x hx => ?_⟩
 ·rcases List.mem_append.1 hx with hx | hx
  ·exact .inl hx
  ·exact .inr (.inl (List.mem_singleton.1 hx))
 ·rcases List.mem_append.1 hx with hx | hx
  ·exact hh x hx
  ·rw [List.mem_singleton.1 hx]
   exact hpq
theorem Mid.next {ws vs : List Int} {L M ps cs cs' : List (Nat × Nat)} {p q i : Nat} (h : Mid ws vs L M ps p q i cs) (hi : i < sizeAt ws p) (hy : Yes ws vs L M cs ((objFields ws p).getD i 0) ((objFields vs q).getD i 0) cs') : Mid ws vs L M ps p q (i + 1) cs' := by
 have hmono : ∀ a b, inP cs a b → inP cs' a b := fun a b hab => hy.ext _ hab
 refine ⟨fun x hx => hy.ext x (h.ext x hx), hy.ext _ h.at_, Nat.lt_of_lt_of_le h.len hy.len, hy.ok, fun j hj => ?_, fun x hx => ?_, fun B hB hh hpq => ?_⟩
 ·by_cases he : j = i
  ·subst he
   exact hy.rel
  ·exact (h.rel j (by omega)).mono hmono
 ·rcases hy.new x hx with hx | hx
  ·rcases h.new x hx with hx | hx | hx
   ·exact .inl hx
   ·exact .inr (.inl hx)
   ·exact .inr (.inr (hx.mono hmono))
  ·exact .inr (.inr hx)
 ·exact hy.least B hB (h.least B hB hh hpq) (hB.fields p q hpq i hi)
theorem Mid.no {ws vs : List Int} {L M ps cs : List (Nat × Nat)} {v w : Int} {i : Nat} (h : Mid ws vs L M ps (plc v) (plc w) i cs) (h1 : v % 4 = 1) (h2 : w % 4 = 1) (hi : i < sizeAt ws (plc v)) (hn : No ws vs cs ((objFields ws (plc v)).getD i 0) ((objFields vs (plc w)).getD i 0)) : No ws vs ps v w := by
 intro B hB hh hr
 have hB' : B (plc v) (plc w) := by
  rcases hr with ⟨_, _, h3⟩ | ⟨h3, _⟩
  ·exact h3
  ·exact absurd ⟨h1, h2⟩ h3
 exact hn B hB (h.least B hB hh hB') (hB.fields _ _ hB' i hi)
theorem Mid.done {ws vs : List Int} {L M ps cs : List (Nat × Nat)} {v w : Int} {i : Nat} (h : Mid ws vs L M ps (plc v) (plc w) i cs) (h1 : v % 4 = 1) (h2 : w % 4 = 1) (hd : ws.getD (plc v) 0 = vs.getD (plc w) 0) (hi : i = sizeAt ws (plc v)) : Yes ws vs L M ps v w cs := by
 subst hi
 refine ⟨h.ext, Nat.le_of_lt h.len, h.ok, .inl ⟨h1, h2, h.at_⟩, fun x hx => ?_, fun B hB hh hr => ?_⟩
 ·rcases h.new x hx with hx | hx | hx
  ·exact .inl hx
  ·subst hx
   exact .inr ⟨hd, h.rel⟩
  ·exact .inr hx
 ·refine h.least B hB hh ?_
  rcases hr with ⟨_, _, h3⟩ | ⟨h3, _⟩
  ·exact h3
  ·exact absurd ⟨h1, h2⟩ h3
/-- The loop over the roots. -/
structure Top (ws vs : List Int) (L M : List (Nat × Nat)) (roots others : List Int) (i : Nat) (ps : List (Nat × Nat)) : Prop where
 ok : PsOk ws vs L M ps
 rel : ∀ j, j < i → relW (inP ps) (roots.getD j 0) (others.getD j 0)
 new : ∀ x ∈ ps, twoOk ws vs (inP ps) x
 least : ∀ B, Bis ws vs B → RelL B roots others → Holds ps B
theorem Top.start (ws vs : List Int) (L M : List (Nat × Nat)) (roots others : List Int) : Top ws vs L M roots others 0 [] := ⟨PsOk.nil _ _ _ _, fun j hj => absurd hj (Nat.not_lt_zero _), (fun x hx => by cases hx), (fun B _ _ x hx => by cases hx)⟩
theorem Top.next {ws vs : List Int} {L M ps ps' : List (Nat × Nat)} {roots others : List Int} {i : Nat} (h : Top ws vs L M roots others i ps) (hi : i < roots.length) (hy : Yes ws vs L M ps (roots.getD i 0) (others.getD i 0) ps') : Top ws vs L M roots others (i + 1) ps' := by
 have hmono : ∀ a b, inP ps a b → inP ps' a b := fun a b hab => hy.ext _ hab
 refine ⟨hy.ok, fun j hj => ?_, fun x hx => ?_, fun B hB hr => hy.least B hB (h.least B hB hr) (hr.2 i hi)⟩
 ·by_cases he : j = i
  ·subst he
   exact hy.rel
  ·exact (h.rel j (by omega)).mono hmono
 ·rcases hy.new x hx with hx | hx
  ·exact (h.new x hx).mono hmono
  ·exact hx
theorem Top.no {ws vs : List Int} {L M ps : List (Nat × Nat)} {roots others : List Int} {i : Nat} (h : Top ws vs L M roots others i ps) (hi : i < roots.length) (hn : No ws vs ps (roots.getD i 0) (others.getD i 0)) : ¬ ShapeP ws vs roots others := by
 rintro ⟨B, hB, hr⟩
 exact hn B hB (h.least B hB hr) (hr.2 i hi)
theorem Top.done {ws vs : List Int} {L M ps : List (Nat × Nat)} {roots others : List Int} {i : Nat} (h : Top ws vs L M roots others i ps) (hl : roots.length = others.length) (hi : i = roots.length) : ShapeP ws vs roots others := by
 subst hi
 refine ⟨inP ps, ⟨fun p q q' h1 h2 => ?_, fun p p' q h1 h2 => ?_, fun p q h1 => (h.new _ h1).1, fun p q h1 => (h.new _ h1).2⟩, hl, h.rel⟩
 ·exact h.ok.fn _ h1 _ h2 rfl
 ·exact h.ok.inj _ h1 _ h2 rfl
end Go.Proofs.Ytggkkgkjhfgipaa
