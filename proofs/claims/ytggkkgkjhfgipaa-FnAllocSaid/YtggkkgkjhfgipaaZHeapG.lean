/- What a valid heap is by the specification's own way (starts, words), in plain Lean, and that it is 'validF'. -/
import Derived.Test.YtggkkgkjhfgipaaZHeapF
namespace Go.Proofs.Ytggkkgkjhfgipaa
open Go.RowKit Go.Proofs.YtggkkgkjhfgipaaW.PrintWords Go.Proofs.YtggkkgkjhfgipaaW.PrintLast
set_option linter.unusedVariables false
set_option linter.unusedSimpArgs false

/-- Does an object begin at p? -/
def startAt (S : List Bool) (p : Int) : Bool := decide (0 ≤ p) && S.getD p.toNat false
/-- A head as the specification asks for it: a closure's first field is looked at at once. -/
def specHead (ws : List Int) (top p : Nat) : Bool := headAt ws top p && (ws.getD p 0 % 4 != 2 || (decide (0 ≤ ws.getD (p + 1) 0) && ws.getD (p + 1) 0 % 4 == 0))
def specScan (ws : List Int) (top : Nat) : Nat → Nat → List Bool → Option (List Bool)
 | 0, _, _ => none
 | k + 1, p, S => if p < top then (if specHead ws top p = true then specScan ws top k (p + 1 + sizeAt ws p) (S.set p true) else none) else some S
def scanned (o : Option (List Bool)) : List Bool × Bool := match o with
 | none => ([], false)
 | some S => (S, true)

theorem specScan_yes {ws : List Int} {top k p : Nat} {S : List Bool} (hp : p < top) (h : specHead ws top p = true) : specScan ws top (k + 1) p S = specScan ws top k (p + 1 + sizeAt ws p) (S.set p true) := by
 simp only [specScan]
 rw [if_pos hp, if_pos h]
theorem specScan_no {ws : List Int} {top k p : Nat} {S : List Bool} (hp : p < top) (h : specHead ws top p = false) : specScan ws top (k + 1) p S = none := by
 simp only [specScan]
 rw [if_pos hp, if_neg (by rw [h]; decide)]
theorem specScan_end {ws : List Int} {top k p : Nat} {S : List Bool} (hp : ¬ p < top) : specScan ws top (k + 1) p S = some S := by
 simp only [specScan]
 rw [if_neg hp]
/-- l2starts. -/
def specStarts (ws : List Int) (top : Int) : Option (List Bool) :=
 if ws.length > 20000 then none else if top < 0 then none else if top > ws.length then none else specScan ws top.toNat (top.toNat + 1) 0 (List.replicate top.toNat false)
/-- A word at i is as it must be. -/
def wordAt (ws : List Int) (top : Nat) (S : List Bool) (i : Nat) : Bool := if i < top then (S.getD i false || wordF (startAt S) (ws.getD i 0)) else ws.getD i 0 == 0
def okPair (b : Bool) (S : List Bool) : List Bool × Bool := match b with
 | true => (S, true)
 | false => ([], false)
def wordsOk (ws : List Int) (top : Nat) (S : List Bool) : Nat → Nat → Bool
 | 0, _ => true
 | d + 1, i => wordAt ws top S i && wordsOk ws top S d (i + 1)
/-- l2valid. -/
def specValid (ws : List Int) (top : Int) : List Bool × Bool := match specStarts ws top with
 | none => ([], false)
 | some S => okPair (wordsOk ws top.toNat S ws.length 0) S
theorem specScan_length {ws : List Int} {top : Nat} : ∀ (k p : Nat) (S S' : List Bool), specScan ws top k p S = some S' → S'.length = S.length
 | 0, _, _, _, h => by simp [specScan] at h
 | k + 1, p, S, S', h => by
  simp only [specScan] at h
  split at h
  ·split at h
   ·rw [specScan_length k _ _ S' h, List.length_set]
   ·cases h
  ·cases h; rfl
theorem specStarts_facts {ws : List Int} {top : Int} {S : List Bool} (h : specStarts ws top = some S) : ws.length ≤ 20000 ∧ 0 ≤ top ∧ top ≤ ws.length ∧ S.length = top.toNat ∧ specScan ws top.toNat (top.toNat + 1) 0 (List.replicate top.toNat false) = some S := by
 unfold specStarts at h
 split at h
 ·cases h
 ·split at h
  ·cases h
  ·split at h
   ·cases h
   ·exact ⟨by omega, by omega, by omega, by rw [specScan_length _ _ _ _ h, List.length_replicate], h⟩
/-- ValidHeap, the specification's. -/
def specValidHeap (ws : List Int) (top : Int) (roots : List Int) : Bool := (specValid ws top).2 && (decide (roots.length ≤ 20000) && roots.all (wordF (startAt (specValid ws top).1)))

/-! ### the two ways agree -/
/-- A closure's first field is a number of at least nought. -/
def cl (ws : List Int) (q : Nat × Nat) : Bool := ws.getD q.1 0 % 4 != 2 || (decide (0 ≤ ws.getD (q.1 + 1) 0) && ws.getD (q.1 + 1) 0 % 4 == 0)
def setAll (M : List (Nat × Nat)) (S : List Bool) : List Bool := M.foldl (fun S q => S.set q.1 true) S
theorem specHead_eq (ws : List Int) (top p n : Nat) : specHead ws top p = (headAt ws top p && cl ws (p, n)) := rfl
theorem scan_both (ws : List Int) (top : Nat) : ∀ (k p : Nat) (S : List Bool) (L : List (Nat × Nat)),
  (scanF ws top k p L = none ∧ specScan ws top k p S = none) ∨ ∃ M, scanF ws top k p L = some (L ++ M) ∧ specScan ws top k p S = if M.all (cl ws) = true then some (setAll M S) else none
 | 0, p, S, L => .inl ⟨rfl, rfl⟩
 | k + 1, p, S, L => by
  by_cases hp : p < top
  ·cases hh : headAt ws top p with
   | false =>
    left
    refine ⟨?_, specScan_no hp (by rw [specHead_eq ws top p 0, hh, Bool.false_and])⟩
    simp only [scanF]
    rw [if_pos hp, if_neg (by rw [hh]; decide)]
   | true =>
    have h1 : scanF ws top (k + 1) p L = scanF ws top k (p + 1 + sizeAt ws p) (L ++ [(p, sizeAt ws p)]) := by
     simp only [scanF]
     rw [if_pos hp, if_pos hh]
    cases hc : cl ws (p, sizeAt ws p) with
    | true =>
     have hs : specHead ws top p = true := by rw [specHead_eq ws top p (sizeAt ws p), hh, hc]; rfl
     rw [h1, specScan_yes hp hs]
     rcases scan_both ws top k (p + 1 + sizeAt ws p) (S.set p true) (L ++ [(p, sizeAt ws p)]) with ⟨h2, h3⟩ | ⟨M, h2, h3⟩
     ·exact .inl ⟨h2, h3⟩
     ·refine .inr ⟨(p, sizeAt ws p) :: M, by rw [h2]; simp, ?_⟩
      rw [h3, List.all_cons, hc, Bool.true_and]
      rfl
    | false =>
     have hs : specHead ws top p = false := by rw [specHead_eq ws top p (sizeAt ws p), hh, hc]; rfl
     rw [h1, specScan_no hp hs]
     rcases scan_both ws top k (p + 1 + sizeAt ws p) (S.set p true) (L ++ [(p, sizeAt ws p)]) with ⟨h2, _⟩ | ⟨M, h2, _⟩
     ·exact .inl ⟨h2, rfl⟩
     ·refine .inr ⟨(p, sizeAt ws p) :: M, by rw [h2]; simp, ?_⟩
      rw [List.all_cons, hc, Bool.false_and, if_neg (by decide)]
  ·right
   refine ⟨[], ?_, ?_⟩
   ·simp only [scanF]
    rw [if_neg hp]
    simp
   ·rw [specScan_end hp]
    rfl

/-- The objects L lie one behind another up to p. -/
structure Tiles (p : Nat) (L : List (Nat × Nat)) : Prop where
 low : ∀ q ∈ L, q.1 + q.2 < p
 cover : ∀ i, i < p → ∃ q ∈ L, q.1 ≤ i ∧ i ≤ q.1 + q.2
 apart : ∀ q ∈ L, ∀ q' ∈ L, q.1 < q'.1 → q.1 + q.2 < q'.1
theorem Tiles.nil : Tiles 0 [] := ⟨by simp, by omega, by simp⟩
theorem Tiles.snoc {p : Nat} {L : List (Nat × Nat)} (h : Tiles p L) (n : Nat) : Tiles (p + 1 + n) (L ++ [(p, n)]) := by
 refine ⟨fun q hq => ?_, fun i hi => ?_, fun q hq q' hq' hlt => ?_⟩
 ·rcases List.mem_append.1 hq with hq | hq
  ·have := h.low q hq; omega
  ·rw [List.mem_singleton] at hq; subst hq; simp
 ·by_cases hip : i < p
  ·obtain ⟨q, hq, h1, h2⟩ := h.cover i hip
   exact ⟨q, List.mem_append.2 (.inl hq), h1, h2⟩
  ·exact ⟨(p, n), by simp, by simp; omega, by simp; omega⟩
 ·rcases List.mem_append.1 hq with hq | hq
  ·rcases List.mem_append.1 hq' with hq' | hq'
   ·exact h.apart q hq q' hq' hlt
   ·rw [List.mem_singleton] at hq'; subst hq'
    exact h.low q hq
  ·rw [List.mem_singleton] at hq
   subst hq
   rcases List.mem_append.1 hq' with hq' | hq'
   ·have := h.low q' hq'
    simp at hlt
    omega
   ·rw [List.mem_singleton] at hq'
    subst hq'
    simp at hlt
theorem scanF_tiles {ws : List Int} {top : Nat} : ∀ (k p : Nat) (L L' : List (Nat × Nat)), p ≤ top → Tiles p L → scanF ws top k p L = some L' → Tiles top L'
 | 0, _, _, _, _, _, h => by simp [scanF] at h
 | k + 1, p, L, L', hp, hT, h => by
  simp only [scanF] at h
  split at h
  ·rename_i hlt
   split at h
   ·rename_i hh
    have hs : p + 1 + sizeAt ws p ≤ top := by
     unfold headAt at hh
     simp at hh
     exact hh.2.2
    exact scanF_tiles k _ _ L' hs (hT.snoc _) h
   ·cases h
  ·cases h
   obtain rfl : p = top := by omega
   exact hT
theorem setAll_get (M : List (Nat × Nat)) : ∀ (S : List Bool) (i : Nat), i < S.length → (setAll M S).getD i false = (S.getD i false || M.any fun q => q.1 == i) := by
 induction M with
 | nil => intro S i hi; simp [setAll]
 | cons q M ih =>
  intro S i hi
  have h1 : setAll (q :: M) S = setAll M (S.set q.1 true) := rfl
  rw [h1, ih _ i (by simpa using hi), List.any_cons]
  by_cases he : q.1 = i
  ·subst he
   simp [List.getD_eq_getElem?_getD, hi]
  ·have hb : (q.1 == i) = false := by simpa using he
   rw [hb, Bool.false_or]
   simp [List.getD_eq_getElem?_getD, List.getElem?_set, he]
theorem setAll_length (M : List (Nat × Nat)) : ∀ S : List Bool, (setAll M S).length = S.length := by
 induction M with
 | nil => intro S; rfl
 | cons q M ih =>
  intro S
  have h1 : setAll (q :: M) S = setAll M (S.set q.1 true) := rfl
  rw [h1, ih, List.length_set]
theorem startAt_place {top : Nat} {L : List (Nat × Nat)} (hT : Tiles top L) : startAt (setAll L (List.replicate top false)) = isPlace L := by
 funext p
 unfold startAt isPlace
 by_cases h0 : 0 ≤ p
 ·obtain ⟨n, rfl⟩ := Int.eq_ofNat_of_zero_le h0
  rw [decide_eq_true h0, Bool.true_and, Int.toNat_natCast]
  have hany : (L.any fun q => (q.1 : Int) == (n : Int)) = L.any fun q => q.1 == n := by
   congr 1
   funext q
   rw [Bool.eq_iff_iff]
   simp
   omega
  rw [hany]
  by_cases hn : n < top
  ·rw [setAll_get _ _ n (by simpa using hn)]
   have : (List.replicate top false).getD n false = false := by rw [List.getD_eq_getElem?_getD, List.getElem?_replicate]; split <;> rfl
   rw [this, Bool.false_or]
  ·have h1 : (setAll L (List.replicate top false)).getD n false = false := by
    rw [List.getD_eq_getElem?_getD, List.getElem?_eq_none (by rw [setAll_length, List.length_replicate]; omega)]
    rfl
   rw [h1]
   symm
   rw [Bool.eq_false_iff]
   intro hh
   obtain ⟨q, hq, he⟩ := List.any_eq_true.1 hh
   have := hT.low q hq
   have he' : q.1 = n := by simpa using he
   omega
 ·rw [decide_eq_false h0, Bool.false_and]
  symm
  rw [Bool.eq_false_iff]
  intro hh
  obtain ⟨q, hq, he⟩ := List.any_eq_true.1 hh
  have he' : (q.1 : Int) = p := by simpa using he
  omega
theorem wordsOk_iff (ws : List Int) (top : Nat) (S : List Bool) : ∀ (d i : Nat), wordsOk ws top S d i = true ↔ ∀ j, i ≤ j → j < i + d → wordAt ws top S j = true
 | 0, i => by
  simp only [wordsOk, true_iff]
  intro j h1 h2
  omega
 | d + 1, i => by
  simp only [wordsOk, Bool.and_eq_true]
  rw [wordsOk_iff ws top S d (i + 1)]
  constructor
  ·rintro ⟨h1, h2⟩ j h3 h4
   by_cases e : j = i
   ·rw [e]; exact h1
   ·exact h2 j (by omega) (by omega)
  ·intro h
   exact ⟨h i (by omega) (by omega), fun j h1 h2 => h j (by omega) (by omega)⟩
theorem getD_drop (ws : List Int) (t i : Nat) : (ws.drop t).getD i 0 = ws.getD (t + i) 0 := by
 simp [List.getD_eq_getElem?_getD, List.getElem?_drop]
theorem all_getD (f : Int → Bool) (xs : List Int) : xs.all f = true ↔ ∀ i, i < xs.length → f (xs.getD i 0) = true := by
 rw [List.all_eq_true]
 constructor
 ·intro h i hi
  exact h _ (getD_mem hi)
 ·intro h x hx
  obtain ⟨i, hi, rfl⟩ := List.mem_iff_getElem.1 hx
  have := h i hi
  rwa [List.getD_eq_getElem?_getD, List.getElem?_eq_getElem hi] at this
theorem fieldsAt_get {ws : List Int} {p n i : Nat} (hi : i < n) (h : p + 1 + n ≤ ws.length) : (fieldsAt ws p n).getD i 0 = ws.getD (p + 1 + i) 0 := by
 unfold fieldsAt
 rw [getD_drop]
 simp only [List.getD_eq_getElem?_getD, List.getElem?_take]
 rw [if_pos (by omega)]
theorem fieldsAt_length {ws : List Int} {p n : Nat} (h : p + 1 + n ≤ ws.length) : (fieldsAt ws p n).length = n := by
 unfold fieldsAt
 rw [List.length_drop, List.length_take]
 omega
/-- The words within the objects are valid just when all objects' fields are. -/
theorem fields_iff {ws : List Int} {top : Nat} {L : List (Nat × Nat)} (hT : Tiles top L) (ht : top ≤ ws.length) (f : Int → Bool) :
  (∀ i, i < top → (∃ q ∈ L, q.1 = i) ∨ f (ws.getD i 0) = true) ↔ ∀ q ∈ L, (fieldsAt ws q.1 q.2).all f = true := by
 constructor
 ·intro h q hq
  have hlow := hT.low q hq
  rw [all_getD]
  intro i hi
  rw [fieldsAt_length (by omega)] at hi
  rw [fieldsAt_get hi (by omega)]
  rcases h (q.1 + 1 + i) (by omega) with ⟨q', hq', he⟩ | h1
  ·have := hT.apart q hq q' hq' (by omega)
   omega
  ·exact h1
 ·intro h i hi
  obtain ⟨q, hq, h1, h2⟩ := hT.cover i hi
  by_cases he : q.1 = i
  ·exact .inl ⟨q, hq, he⟩
  ·right
   have hlow := hT.low q hq
   have h3 := (all_getD f _).1 (h q hq) (i - q.1 - 1) (by rw [fieldsAt_length (by omega)]; omega)
   rw [fieldsAt_get (by omega) (by omega)] at h3
   rwa [show q.1 + 1 + (i - q.1 - 1) = i by omega] at h3
theorem objectAt_iff {ws : List Int} {L : List (Nat × Nat)} {top : Nat} {q : Nat × Nat} (h : headAt ws top q.1 = true) (hq : q.2 = sizeAt ws q.1) (ht : top ≤ ws.length) :
  objectAt ws L q = true ↔ (fieldsAt ws q.1 q.2).all (wordF (isPlace L)) = true ∧ cl ws q = true := by
 unfold objectAt objF cl
 rw [Bool.and_eq_true]
 have hh := h
 unfold headAt at hh
 simp only [Bool.and_eq_true, decide_eq_true_eq] at hh
 obtain ⟨h0, h1, h2⟩ := hh
 by_cases hk : ws.getD q.1 0 % 4 = 2
 ·have hn : 0 < q.2 := by
   rw [hq]
   unfold sizeAt
   generalize ws.getD q.1 0 = h0 at *
   rw [hk] at h1
   simp [headF] at h1
   omega
  have hg : (fieldsAt ws q.1 q.2).getD 0 0 = ws.getD (q.1 + 1) 0 := by
   rw [fieldsAt_get hn (by rw [hq]; exact Nat.le_trans h2 ht)]
  rw [hg, hk, Bool.and_comm (x := ws.getD (q.1 + 1) 0 % 4 == 0)]
 ·have hb : (ws.getD q.1 0 % 4 != 2) = true := by simpa using hk
  rw [hb]
  simp

theorem specValidHeap_eq (ws : List Int) (top : Int) (roots : List Int) : specValidHeap ws top roots = validF ws top roots := by
 unfold specValidHeap specValid specStarts validF objsF
 by_cases h1 : ws.length > 20000
 ·rw [if_pos h1, if_pos h1]; rfl
 ·by_cases h2 : top < 0
  ·rw [if_neg h1, if_neg h1, if_pos h2, if_pos h2]; rfl
  ·by_cases h3 : top > (ws.length : Int)
   ·rw [if_neg h1, if_neg h1, if_neg h2, if_neg h2, if_pos h3, if_pos h3]; rfl
   ·rw [if_neg h1, if_neg h1, if_neg h2, if_neg h2, if_neg h3, if_neg h3]
    obtain ⟨t, rfl⟩ := Int.eq_ofNat_of_zero_le (show 0 ≤ top by omega)
    have ht : t ≤ ws.length := by omega
    simp only [Int.toNat_natCast]
    rcases scan_both ws t (t + 1) 0 (List.replicate t false) [] with ⟨h4, h5⟩ | ⟨L, h4, h5⟩
    ·rw [h4, h5]; rfl
    ·rw [List.nil_append] at h4
     rw [h4, h5]
     have hT := scanF_tiles (t + 1) 0 [] L (by omega) Tiles.nil h4
     have hm := scanF_mem (t + 1) 0 [] L (by simp) h4
     have hS := startAt_place hT
     have hobj : L.all (objectAt ws L) = true ↔ (∀ i, i < t → (∃ q ∈ L, q.1 = i) ∨ wordF (isPlace L) (ws.getD i 0) = true) ∧ L.all (cl ws) = true := by
      rw [fields_iff hT ht, List.all_eq_true, List.all_eq_true]
      constructor
      ·intro h
       exact ⟨fun q hq => ((objectAt_iff (hm q hq).1 (hm q hq).2 ht).1 (h q hq)).1, fun q hq => ((objectAt_iff (hm q hq).1 (hm q hq).2 ht).1 (h q hq)).2⟩
      ·intro h q hq
       exact (objectAt_iff (hm q hq).1 (hm q hq).2 ht).2 ⟨h.1 q hq, h.2 q hq⟩
     cases hcl : L.all (cl ws) with
     | false =>
      simp only [Bool.false_eq_true, if_false, Bool.false_and]
      symm
      split
      ·rfl
      ·rename_i L2 hL2
       have hLL : L2 = L := by
        split at hL2
        ·cases hL2; rfl
        ·cases hL2
       subst hLL
       have : L2.all (objectAt ws L2) = false := by
        rw [Bool.eq_false_iff]
        intro h
        have := (hobj.1 h).2
        rw [hcl] at this
        cases this
       rw [this, Bool.false_and, Bool.and_false]
     | true =>
      simp only [if_true]
      have hw : wordsOk ws t (setAll L (List.replicate t false)) ws.length 0 = ((ws.drop t).all (· == 0) && L.all (objectAt ws L)) := by
       rw [Bool.eq_iff_iff, wordsOk_iff, Bool.and_eq_true, hobj, all_getD]
       constructor
       ·intro h
        refine ⟨fun i hi => ?_, fun i hi => ?_, hcl⟩
        ·rw [List.length_drop] at hi
         have := h (t + i) (by omega) (by omega)
         unfold wordAt at this
         rw [if_neg (by omega)] at this
         rw [getD_drop]
         exact this
        ·have := h i (by omega) (by omega)
         unfold wordAt at this
         rw [if_pos hi, hS, setAll_get _ _ i (by simpa using hi)] at this
         have hr : (List.replicate t false).getD i false = false := by rw [List.getD_eq_getElem?_getD, List.getElem?_replicate]; split <;> rfl
         rw [hr, Bool.false_or, Bool.or_eq_true] at this
         rcases this with this | this
         ·obtain ⟨q, hq, he⟩ := List.any_eq_true.1 this
          exact .inl ⟨q, hq, by simpa using he⟩
         ·exact .inr this
       ·rintro ⟨h6, h7, _⟩ j _ hj
        unfold wordAt
        by_cases hjt : j < t
        ·rw [if_pos hjt, hS, setAll_get _ _ j (by simpa using hjt), Bool.or_eq_true, Bool.or_eq_true]
         rcases h7 j hjt with ⟨q, hq, he⟩ | h8
         ·exact .inl (.inr (List.any_eq_true.2 ⟨q, hq, by simpa using he⟩))
         ·exact .inr h8
        ·rw [if_neg hjt]
         have := h6 (j - t) (by rw [List.length_drop]; omega)
         rw [getD_drop] at this
         rwa [show t + (j - t) = j by omega] at this
      rw [hw]
      by_cases hz : (ws.drop t).all (· == 0) = true
      ·rw [if_pos hz, hz, Bool.true_and]
       cases ho : L.all (objectAt ws L) with
       | false => simp only [okPair, ho, Bool.false_and, Bool.and_false]
       | true =>
        simp only [okPair, ho, Bool.true_and]
        rw [hS]
      ·rw [if_neg hz, Bool.eq_false_iff.2 hz, Bool.false_and]
       simp only [okPair, Bool.false_and]
end Go.Proofs.Ytggkkgkjhfgipaa
