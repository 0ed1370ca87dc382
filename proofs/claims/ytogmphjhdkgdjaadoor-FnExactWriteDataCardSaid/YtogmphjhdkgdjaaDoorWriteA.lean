/- The text of rows of data, in plain Lean. -/
import Derived.Test.YtogmphjhdkgdjaaDoorDataA
import Derived.Lib.ItoaLen
namespace Go.Proofs.YtogmphjhdkgdjaaDoor
open Go.RowKit Go.Lib
set_option linter.unusedVariables false
set_option linter.unusedSimpArgs false
/-- The decimal numeral. -/
def decI (n : Int) : List Int := (Lib.itoa n).map fun b => (b.toNat : Int)
def atomT (d : Dat) : List Int := if d.k = 0 then decI d.n else if d.k = 1 then (if d.n = 1 then [35, 116] else [35, 102]) else d.t
/-- So many data, a space between them. -/
def kidsT (g : List Dat → Option (List Int × List Dat)) : Nat → Bool → List Dat → Option (List Int × List Dat)
  | 0, _, r => some ([], r)
  | c + 1, first, r => (g r).bind fun p => (kidsT g c false p.2).map fun q => ((if first then p.1 else 32 :: p.1) ++ q.1, q.2)
/-- The text of the first datum, and what is left behind it. -/
def textD : Nat → List Dat → Option (List Int × List Dat)
  | _, [] => none
  | 0, d :: r => if goodB d then (if d.k = 3 then none else some (atomT d, r)) else none
  | m + 1, d :: r => if goodB d then (if d.k = 3 then (kidsT (textD m) d.c.toNat true r).map fun p => (40 :: (p.1 ++ [41]), p.2) else some (atomT d, r)) else none
/-- The text of a row of whole data. -/
def rowsT : Nat → List Dat → Option (List Int)
  | _, [] => some []
  | 0, _ :: _ => none
  | f + 1, d :: r => (textD 100 (d :: r)).bind fun p => (rowsT f p.2).map fun t => p.1 ++ 10 :: t
def writeT (l : List Dat) : List Int := if validD l then (rowsT l.length l).getD [] else []
theorem kidsT_snd {g : List Dat → Option (List Int × List Dat)} {h : List Dat → Option (List Dat)} (hg : ∀ l, (g l).map (·.2) = h l) : ∀ (c : Nat) (b : Bool) (l : List Dat), (kidsT g c b l).map (·.2) = kidsF h c l
  | 0, b, l => rfl
  | c + 1, b, l => by
    simp only [kidsT, kidsF]
    rw [← hg l]
    cases g l with
    | none => rfl
    | some p =>
      simp only [Option.bind_some, Option.map_some]
      rw [← kidsT_snd hg c false p.2]
      cases kidsT g c false p.2 <;> rfl
theorem textD_snd : ∀ (m : Nat) (l : List Dat), (textD m l).map (·.2) = endD m l
  | m, [] => by cases m <;> rfl
  | 0, d :: l => by
    simp only [textD, endD]
    split
    · split <;> rfl
    · rfl
  | m + 1, d :: l => by
    simp only [textD, endD]
    split
    · split
      · rw [← kidsT_snd (textD_snd m) d.c.toNat true l]
        cases kidsT (textD m) d.c.toNat true l <;> rfl
      · rfl
    · rfl
theorem textD_some {m : Nat} {l r : List Dat} (h : endD m l = some r) : ∃ t, textD m l = some (t, r) := by
  rw [← textD_snd] at h
  cases ht : textD m l with
  | none => rw [ht] at h; cases h
  | some p => rw [ht] at h; simp at h; exact ⟨p.1, by rw [← h]⟩
theorem textD_end {m : Nat} {l r : List Dat} {t : List Int} (h : textD m l = some (t, r)) : endD m l = some r := by rw [← textD_snd, h]; rfl
theorem kidsT_end {m c : Nat} {b : Bool} {l r : List Dat} {t : List Int} (h : kidsT (textD m) c b l = some (t, r)) : kidsF (endD m) c l = some r := by rw [← kidsT_snd (textD_snd m) c b, h]; rfl
theorem rowsT_some : ∀ (f : Nat) (l : List Dat), (rowsT f l).isSome = rowsF f l
  | f, [] => by cases f <;> rfl
  | 0, d :: l => rfl
  | f + 1, d :: l => by
    simp only [rowsT, rowsF]
    cases he : endD 100 (d :: l) with
    | none =>
      rw [← textD_snd] at he
      cases ht : textD 100 (d :: l) with
      | none => rfl
      | some p => rw [ht] at he; cases he
    | some r =>
      obtain ⟨t, ht⟩ := textD_some he
      rw [ht]
      simp only [Option.bind_some]
      rw [← rowsT_some f r]
      cases rowsT f r <;> rfl
/-! ### How long a text is -/
theorem good_sym {d : Dat} (hg : goodB d = true) (h0 : ¬ d.k = 0) (h1 : ¬ d.k = 1) (h3 : ¬ d.k = 3) : d.k = 2 ∧ symB d.t = true ∧ d.c = 0 := by
  unfold goodB at hg
  rw [if_neg h0, if_neg h1] at hg
  split at hg
  · simp at hg; exact ⟨by assumption, hg.1.2, hg.2⟩
  · simp at hg; omega
theorem good_int {d : Dat} (hg : goodB d = true) (h0 : d.k = 0) : -2305843009213693952 ≤ d.n ∧ d.n ≤ 2305843009213693951 ∧ d.c = 0 := by
  unfold goodB smallB at hg
  rw [if_pos h0] at hg
  simp at hg
  exact ⟨hg.1.1.1, hg.1.1.2, hg.2⟩
theorem good_bool {d : Dat} (hg : goodB d = true) (h1 : d.k = 1) : (d.n = 0 ∨ d.n = 1) ∧ d.c = 0 := by
  unfold goodB at hg
  rw [h1, if_neg (by decide), if_pos rfl] at hg
  simp at hg
  exact ⟨hg.1.1, hg.2⟩
theorem atom_cnt {d : Dat} (hg : goodB d = true) (h3 : ¬ d.k = 3) : d.c = 0 := by
  by_cases h0 : d.k = 0
  · exact (good_int hg h0).2.2
  · by_cases h1 : d.k = 1
    · exact (good_bool hg h1).2
    · exact (good_sym hg h0 h1 h3).2.2
theorem symB_len {s : List Int} (h : symB s = true) : 1 ≤ s.length ∧ s.length ≤ 100 := by
  unfold symB at h
  simp at h
  obtain ⟨⟨⟨⟨h1, h2⟩, _⟩, _⟩, _⟩ := h
  refine ⟨?_, h2⟩
  cases s with
  | nil => exact absurd rfl h1
  | cons => simp
theorem atomT_len {d : Dat} (hg : goodB d = true) (h3 : ¬ d.k = 3) : (atomT d).length ≤ 100 := by
  unfold atomT
  split
  · rename_i h0
    have h := good_int hg h0
    unfold decI
    rw [List.length_map]
    have := Lib.itoa_length_le d.n (by omega) (by omega)
    omega
  · rename_i h0
    split
    · split <;> simp
    · rename_i h1
      exact (symB_len (good_sym hg h0 h1 h3).2.1).2
theorem kidsT_len {g : List Dat → Option (List Int × List Dat)} (hg : ∀ l t r, g l = some (t, r) → t.length + 1 + 103 * r.length ≤ 103 * l.length) : ∀ (c : Nat) (b : Bool) (l : List Dat) (t : List Int) (r : List Dat), kidsT g c b l = some (t, r) → t.length + 103 * r.length ≤ 103 * l.length
  | 0, b, l, t, r, h => by simp only [kidsT, Option.some.injEq, Prod.mk.injEq] at h; obtain ⟨rfl, rfl⟩ := h; simp
  | c + 1, b, l, t, r, h => by
    simp only [kidsT] at h
    cases hl : g l with
    | none => rw [hl] at h; cases h
    | some p =>
      obtain ⟨u, s⟩ := p
      rw [hl] at h
      simp only [Option.bind_some] at h
      cases hk : kidsT g c false s with
      | none => rw [hk] at h; cases h
      | some q =>
        obtain ⟨v, x⟩ := q
        rw [hk] at h
        simp only [Option.map_some, Option.some.injEq, Prod.mk.injEq] at h
        obtain ⟨rfl, rfl⟩ := h
        have h1 := hg l u s hl
        have h2 := kidsT_len hg c false s v x hk
        simp only [List.length_append]
        split
        · omega
        · simp only [List.length_cons]; omega
theorem textD_len : ∀ (m : Nat) (l : List Dat) (t : List Int) (r : List Dat), textD m l = some (t, r) → t.length + 1 + 103 * r.length ≤ 103 * l.length
  | m, [], t, r, h => by cases m <;> simp [textD] at h
  | 0, d :: l, t, r, h => by
    simp only [textD] at h
    split at h
    · rename_i hg
      split at h
      · cases h
      · rename_i h3
        simp only [Option.some.injEq, Prod.mk.injEq] at h
        obtain ⟨rfl, rfl⟩ := h
        have := atomT_len hg h3
        simp only [List.length_cons]; omega
    · cases h
  | m + 1, d :: l, t, r, h => by
    simp only [textD] at h
    split at h
    · rename_i hg
      split at h
      · cases hk : kidsT (textD m) d.c.toNat true l with
        | none => rw [hk] at h; cases h
        | some q =>
          obtain ⟨v, x⟩ := q
          rw [hk] at h
          simp only [Option.map_some, Option.some.injEq, Prod.mk.injEq] at h
          obtain ⟨rfl, rfl⟩ := h
          have := kidsT_len (textD_len m) _ _ _ _ _ hk
          simp only [List.length_cons, List.length_append, List.length_nil]; omega
      · rename_i h3
        simp only [Option.some.injEq, Prod.mk.injEq] at h
        obtain ⟨rfl, rfl⟩ := h
        have := atomT_len hg h3
        simp only [List.length_cons]; omega
    · cases h
theorem rowsT_len : ∀ (f : Nat) (l : List Dat) (t : List Int), rowsT f l = some t → t.length ≤ 103 * l.length
  | f, [], t, h => by cases f <;> (simp only [rowsT, Option.some.injEq] at h; subst h; simp)
  | 0, d :: l, t, h => by simp [rowsT] at h
  | f + 1, d :: l, t, h => by
    simp only [rowsT] at h
    cases ht : textD 100 (d :: l) with
    | none => rw [ht] at h; cases h
    | some p =>
      obtain ⟨u, s⟩ := p
      rw [ht] at h
      simp only [Option.bind_some] at h
      cases hk : rowsT f s with
      | none => rw [hk] at h; cases h
      | some v =>
        rw [hk] at h
        simp only [Option.map_some, Option.some.injEq] at h
        subst h
        have h1 := textD_len _ _ _ _ ht
        have h2 := rowsT_len f s v hk
        simp only [List.length_append, List.length_cons] at *; omega
/-! ### Bytes -/
def Byts (l : List Int) : Prop := ∀ b ∈ l, 0 ≤ b ∧ b < 256
theorem decI_byts (n : Int) : Byts (decI n) := by
  intro b hb
  obtain ⟨c, _, rfl⟩ := List.mem_map.1 hb
  have := c.toNat_lt
  omega
theorem atomT_byts {d : Dat} (h : Byts d.t) : Byts (atomT d) := by
  unfold atomT
  split
  · exact decI_byts _
  · split
    · split <;> (intro b hb; simp at hb; omega)
    · exact h
theorem kidsT_byts {g : List Dat → Option (List Int × List Dat)} (hg : ∀ l t r, (∀ d ∈ l, Byts d.t) → g l = some (t, r) → Byts t ∧ ∀ d ∈ r, Byts d.t) : ∀ (c : Nat) (b : Bool) (l : List Dat) (t : List Int) (r : List Dat), (∀ d ∈ l, Byts d.t) → kidsT g c b l = some (t, r) → Byts t ∧ ∀ d ∈ r, Byts d.t
  | 0, b, l, t, r, hl, h => by simp only [kidsT, Option.some.injEq, Prod.mk.injEq] at h; obtain ⟨rfl, rfl⟩ := h; exact ⟨fun b hb => by simp at hb, hl⟩
  | c + 1, b, l, t, r, hl, h => by
    simp only [kidsT] at h
    cases hp : g l with
    | none => rw [hp] at h; cases h
    | some p =>
      obtain ⟨u, s⟩ := p
      rw [hp] at h
      simp only [Option.bind_some] at h
      cases hk : kidsT g c false s with
      | none => rw [hk] at h; cases h
      | some q =>
        obtain ⟨v, x⟩ := q
        rw [hk] at h
        simp only [Option.map_some, Option.some.injEq, Prod.mk.injEq] at h
        obtain ⟨rfl, rfl⟩ := h
        obtain ⟨h1, h1'⟩ := hg l u s hl hp
        obtain ⟨h2, h2'⟩ := kidsT_byts hg c false s v x h1' hk
        refine ⟨fun y hy => ?_, h2'⟩
        rcases List.mem_append.1 hy with hy | hy
        · split at hy
          · exact h1 y hy
          · rcases List.mem_cons.1 hy with rfl | hy
            · omega
            · exact h1 y hy
        · exact h2 y hy
theorem textD_byts : ∀ (m : Nat) (l : List Dat) (t : List Int) (r : List Dat), (∀ d ∈ l, Byts d.t) → textD m l = some (t, r) → Byts t ∧ ∀ d ∈ r, Byts d.t
  | m, [], t, r, _, h => by cases m <;> simp [textD] at h
  | 0, d :: l, t, r, hl, h => by
    simp only [textD] at h
    split at h
    · split at h
      · cases h
      · simp only [Option.some.injEq, Prod.mk.injEq] at h
        obtain ⟨rfl, rfl⟩ := h
        exact ⟨atomT_byts (hl d (by simp)), fun x hx => hl x (by simp [hx])⟩
    · cases h
  | m + 1, d :: l, t, r, hl, h => by
    simp only [textD] at h
    split at h
    · split at h
      · cases hk : kidsT (textD m) d.c.toNat true l with
        | none => rw [hk] at h; cases h
        | some q =>
          obtain ⟨v, x⟩ := q
          rw [hk] at h
          simp only [Option.map_some, Option.some.injEq, Prod.mk.injEq] at h
          obtain ⟨rfl, rfl⟩ := h
          obtain ⟨h1, h2⟩ := kidsT_byts (textD_byts m) _ _ _ _ _ (fun x hx => hl x (by simp [hx])) hk
          refine ⟨fun y hy => ?_, h2⟩
          simp at hy
          rcases hy with rfl | hy | rfl
          · omega
          · exact h1 y hy
          · omega
      · simp only [Option.some.injEq, Prod.mk.injEq] at h
        obtain ⟨rfl, rfl⟩ := h
        exact ⟨atomT_byts (hl d (by simp)), fun x hx => hl x (by simp [hx])⟩
    · cases h
theorem rowsT_byts : ∀ (f : Nat) (l : List Dat) (t : List Int), (∀ d ∈ l, Byts d.t) → rowsT f l = some t → Byts t
  | f, [], t, _, h => by cases f <;> (simp only [rowsT, Option.some.injEq] at h; subst h; intro b hb; simp at hb)
  | 0, d :: l, t, _, h => by simp [rowsT] at h
  | f + 1, d :: l, t, hl, h => by
    simp only [rowsT] at h
    cases ht : textD 100 (d :: l) with
    | none => rw [ht] at h; cases h
    | some p =>
      obtain ⟨u, s⟩ := p
      rw [ht] at h
      simp only [Option.bind_some] at h
      cases hk : rowsT f s with
      | none => rw [hk] at h; cases h
      | some v =>
        rw [hk] at h
        simp only [Option.map_some, Option.some.injEq] at h
        subst h
        obtain ⟨h1, h1'⟩ := textD_byts _ _ _ _ hl ht
        have h2 := rowsT_byts f s v h1' hk
        intro y hy
        rcases List.mem_append.1 hy with hy | hy
        · exact h1 y hy
        · rcases List.mem_cons.1 hy with rfl | hy
          · omega
          · exact h2 y hy
end Go.Proofs.YtogmphjhdkgdjaaDoor
