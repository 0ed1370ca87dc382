/- What the laws' helper functions over rows of data (szDatumS, toDatumS, eqDatumS and those on bytes) come to. -/
import Derived.Test.YtogmphjhdkgdjaaDoorQFnExactWriteDatax2
import Derived.Test.YtogmphjhdkgdjaaDoorSymA
namespace Go.Proofs.YtogmphjhdkgdjaaDoor.DatVD
open Go.RowKit Go.Proofs.YtogmphjhdkgdjaaDoor.QFnExactWriteData Go.Proofs.YtogmphjhdkgdjaaDoorW.PrintWords Go.Proofs.YtogmphjhdkgdjaaDoorW.PrintLast
set_option linter.unusedVariables false
set_option linter.unusedSimpArgs false
theorem wrap_up (i : Nat) (h : i ≤ 4611686018427387904) : wrap64 ((i : Int) + 1) = ((i + 1 : Nat) : Int) := by unfold wrap64; omega
theorem rd_nat (xs : List Int) (n : Nat) : rd xs (n : Int) = xs.getD n 0 := rfl
/-- A copy that was made as far as i. -/
theorem copied_next {α β : Type} {g : α → β} {a : List α} {b : List β} {z : α} {i : Nat} (hi : i < a.length) (hb : b.length = a.length) (he : b.take i = (a.map g).take i) : (b.set i (g (a.getD i z))).take (i + 1) = (a.map g).take (i + 1) := by
  apply List.ext_getElem?
  intro j
  have hj := congrArg (fun l => l[j]?) he
  simp only [List.getElem?_take] at hj
  simp only [List.getElem?_take, List.getElem?_set]
  by_cases h1 : j < i + 1
  · rw [if_pos h1, if_pos h1]
    by_cases h2 : i = j
    · subst h2
      have hib : i < b.length := by omega
      simp [hib, hi, List.getD_eq_getElem?_getD]
    · rw [if_neg h2]
      rw [if_pos (by omega), if_pos (by omega)] at hj
      exact hj
  · rw [if_neg h1, if_neg h1]
theorem copied_all {α : Type} {a b : List α} (hb : b.length = a.length) (he : b.take a.length = a.take a.length) : b = a := by
  rw [List.take_length, ← hb, List.take_length] at he
  exact he
/-! ### bytes -/
theorem eqByteS_l0 (a : List Int) (ha : a.length ≤ 4611686018427387904) (d : Nat) : ∀ i : Nat, a.length - i = d → i ≤ a.length → Ev (fun k => laws_eqByteS.l0 k a a (i : Int)) true := by
  induction d with
  | zero =>
    intro i hd hi
    refine Ev.step (f := fun _ => some true) (fun k => ?_) (Ev.now _)
    simp only [laws_eqByteS.l0]; rw [if_neg (by omega)]
  | succ d ih =>
    intro i hd hi
    refine Ev.step (f := fun k => laws_eqByteS.l0 k a a ((i + 1 : Nat) : Int)) (fun k => ?_) (ih (i + 1) (by omega) (by omega))
    have h1 : (i : Int) < (a.length : Int) := by omega
    simp only [laws_eqByteS.l0]
    rw [if_pos h1, if_pos (by omega : (0 : Int) ≤ i), if_pos h1, wrap_up i (by omega)]
    simp only [if_true]
theorem eqByteS_refl (a : List Int) (ha : a.length ≤ 4611686018427387904) : Ev (fun k => laws_eqByteS.f k a a) true := by
  refine Ev.congr (f := fun k => laws_eqByteS.l0 k a a ((0 : Nat) : Int)) (fun k => ?_) (eqByteS_l0 a ha a.length 0 (by omega) (by omega))
  unfold laws_eqByteS.f
  rw [if_pos rfl]
  rfl
theorem toByteS_l0 (a : List Int) (ha : a.length ≤ 4611686018427387904) (d : Nat) : ∀ (i : Nat) (b : List Int), a.length - i = d → i ≤ a.length → b.length = a.length → b.take i = a.take i →
    Ev (fun k => laws_toByteS.l0 k a b (i : Int)) a := by
  induction d with
  | zero =>
    intro i b hd hi hb he
    obtain rfl : i = a.length := by omega
    refine Ev.step (f := fun _ => some a) (fun k => ?_) (Ev.now _)
    simp only [laws_toByteS.l0]; rw [if_neg (by omega), copied_all hb he]
  | succ d ih =>
    intro i b hd hi hb he
    refine Ev.step (f := fun k => laws_toByteS.l0 k a (b.set i (a.getD i 0)) ((i + 1 : Nat) : Int)) (fun k => ?_) (ih (i + 1) _ (by omega) (by omega) (by simpa using hb) ?_)
    · simp only [laws_toByteS.l0]
      rw [if_pos (by omega : (i : Int) < (a.length : Int)), if_pos (by omega : (0 : Int) ≤ i), if_pos (by omega : (i : Int) < (b.length : Int)), wrap_up i (by omega), Int.toNat_natCast, rd_nat]
    · have := copied_next (g := id) (z := 0) (show i < a.length by omega) hb (by simpa using he)
      simpa using this
theorem toByteS_ev (a : List Int) (ha : a.length ≤ 281474976710656) : Ev (fun k => laws_toByteS.f k a) a := by
  refine Ev.congr (f := fun k => laws_toByteS.l0 k a (List.replicate a.length 0) ((0 : Nat) : Int)) (fun k => ?_) (toByteS_l0 a (by omega) a.length 0 _ (by omega) (by omega) (by simp) (by simp))
  unfold laws_toByteS.f
  rw [if_pos (by omega), if_pos (by omega)]
  rfl
/-! ### data -/
def cvD (x : S55) : S57 := ⟨x.f0, x.f1, x.f2, x.f3⟩
theorem rd5_nat (l : List S55) (i : Nat) : rd_T55 l (i : Int) = l.getD i z55 := rfl
theorem rd7_nat (l : List S57) (i : Nat) : rd_T57 l (i : Int) = l.getD i z57 := rfl
theorem getD_in {α : Type} {l : List α} {i : Nat} {z : α} (h : i < l.length) : l.getD i z ∈ l := by
  rw [List.getD_eq_getElem?_getD, List.getElem?_eq_getElem h]
  exact List.getElem_mem _
theorem toDatumS_l0 (a : List S55) (ha : a.length ≤ 4611686018427387904) (ht : ∀ x ∈ a, x.f2.length ≤ 281474976710656) (d : Nat) : ∀ (i : Nat) (b : List S57), a.length - i = d → i ≤ a.length → b.length = a.length → b.take i = (a.map cvD).take i →
    Ev (fun k => laws_toDatumS.l0 k a b (i : Int)) (a.map cvD) := by
  induction d with
  | zero =>
    intro i b hd hi hb he
    obtain rfl : i = a.length := by omega
    refine Ev.step (f := fun _ => some (a.map cvD)) (fun k => ?_) (Ev.now _)
    simp only [laws_toDatumS.l0]; rw [if_neg (by omega), copied_all (a := a.map cvD) (b := b) (by simpa using hb) (by simpa using he)]
  | succ d ih =>
    intro i b hd hi hb he
    have hlt : i < a.length := by omega
    refine Ev.step (f := fun k => (laws_toByteS.f k (a.getD i z55).f2).bind fun t => laws_toDatumS.l0 k a (b.set i ⟨(a.getD i z55).f0, (a.getD i z55).f1, t, (a.getD i z55).f3⟩) ((i + 1 : Nat) : Int)) (fun k => ?_) ?_
    · simp only [laws_toDatumS.l0]
      rw [if_pos (by omega : (i : Int) < (a.length : Int)), if_pos (by omega : (0 : Int) ≤ i), rd5_nat, wrap_up i (by omega), Int.toNat_natCast]
      unfold laws_toDatum.f
      cases laws_toByteS.f k (a.getD i z55).f2 with
      | none => rfl
      | some t =>
        simp only [Option.bind_some]
        rw [if_pos (by omega : (i : Int) < (b.length : Int))]
    · refine Ev.bind (toByteS_ev _ (ht _ (getD_in hlt))) ?_
      exact ih (i + 1) _ (by omega) (by omega) (by simpa using hb) (copied_next (g := cvD) (z := z55) hlt hb he)
theorem toDatumS_ev (a : List S55) (ha : a.length ≤ 1048576) (ht : ∀ x ∈ a, x.f2.length ≤ 281474976710656) : Ev (fun k => laws_toDatumS.f k a) (a.map cvD) := by
  refine Ev.congr (f := fun k => laws_toDatumS.l0 k a (List.replicate a.length z57) ((0 : Nat) : Int)) (fun k => ?_) (toDatumS_l0 a (by omega) ht a.length 0 _ (by omega) (by omega) (by simp) (by simp))
  unfold laws_toDatumS.f
  rw [if_pos (by omega), if_pos (by omega)]
  rfl
theorem eqDatumS_l0 (a : List S57) (ha : a.length ≤ 4611686018427387904) (ht : ∀ x ∈ a, x.f2.length ≤ 4611686018427387904) (d : Nat) : ∀ i : Nat, a.length - i = d → i ≤ a.length → Ev (fun k => laws_eqDatumS.l0 k a a (i : Int)) true := by
  induction d with
  | zero =>
    intro i hd hi
    refine Ev.step (f := fun _ => some true) (fun k => ?_) (Ev.now _)
    simp only [laws_eqDatumS.l0]; rw [if_neg (by omega)]
  | succ d ih =>
    intro i hd hi
    have hlt : i < a.length := by omega
    refine Ev.step (f := fun k => (laws_eqByteS.f k (a.getD i z57).f2 (a.getD i z57).f2).bind fun t => if t = true then laws_eqDatumS.l0 k a a ((i + 1 : Nat) : Int) else some false) (fun k => ?_) ?_
    · have h1 : (i : Int) < (a.length : Int) := by omega
      simp only [laws_eqDatumS.l0]
      rw [if_pos h1, if_pos (by omega : (0 : Int) ≤ i), if_pos h1, wrap_up i (by omega), rd7_nat]
      unfold laws_eqDatum.f
      simp only [if_true]
      cases laws_eqByteS.f k (a.getD i z57).f2 (a.getD i z57).f2 with
      | none => rfl
      | some t => cases t <;> rfl
    · refine Ev.bind (eqByteS_refl _ (ht _ (getD_in hlt))) ?_
      simp only [if_true]
      exact ih (i + 1) (by omega) (by omega)
theorem eqDatumS_refl (a : List S57) (ha : a.length ≤ 4611686018427387904) (ht : ∀ x ∈ a, x.f2.length ≤ 4611686018427387904) : Ev (fun k => laws_eqDatumS.f k a a) true := by
  refine Ev.congr (f := fun k => laws_eqDatumS.l0 k a a ((0 : Nat) : Int)) (fun k => ?_) (eqDatumS_l0 a ha ht a.length 0 (by omega) (by omega))
  unfold laws_eqDatumS.f
  rw [if_pos rfl]
  rfl
/-! ### sizes -/
theorem szDatumS_l0 (a : List S55) (ha : a.length ≤ 1048576) (ht : ∀ x ∈ a, x.f2.length ≤ 9223372036854775807) (d : Nat) : ∀ (i : Nat) (left : Int), a.length - i = d → i ≤ a.length → 0 ≤ left → left ≤ 1048576 →
    ∃ r : Int, Ev (fun k => laws_szDatumS.l0 k a left (i : Int)) r ∧ (r < 0 ∨ r ≤ left ∧ ∀ j, i ≤ j → j < a.length → (a.getD j z55).f2.length ≤ 1048576) := by
  induction d with
  | zero =>
    intro i left hd hi h0 h1
    refine ⟨left, Ev.step (f := fun _ => some left) (fun k => ?_) (Ev.now _), .inr ⟨Int.le_refl _, fun j hj hl => by omega⟩⟩
    simp only [laws_szDatumS.l0]; rw [if_neg (by omega)]
  | succ d ih =>
    intro i left hd hi h0 h1
    have hlt : i < a.length := by omega
    have hx := ht _ (getD_in (z := z55) hlt)
    have hw : wrap64 (left - ((a.getD i z55).f2.length : Int)) = left - ((a.getD i z55).f2.length : Int) := by unfold wrap64; omega
    have hsz : laws_szDatum.f (a.getD i z55).f0 (a.getD i z55).f1 (a.getD i z55).f2 (a.getD i z55).f3 left = some (if left - ((a.getD i z55).f2.length : Int) < 0 then -1 else left - ((a.getD i z55).f2.length : Int)) := by
      unfold laws_szDatum.f laws_szByteS.f
      rw [hw]
      by_cases hn : left - ((a.getD i z55).f2.length : Int) < 0
      · rw [if_pos hn, if_pos hn]; rfl
      · rw [if_neg hn, if_neg hn]
        simp only [Option.bind_some]
        rw [if_neg hn]
    have hstep : ∀ k, laws_szDatumS.l0 (k + 1) a left (i : Int) = if left - ((a.getD i z55).f2.length : Int) < 0 then some (-1) else laws_szDatumS.l0 k a (left - ((a.getD i z55).f2.length : Int)) ((i + 1 : Nat) : Int) := by
      intro k
      simp only [laws_szDatumS.l0]
      rw [if_pos (by omega : (i : Int) < (a.length : Int)), if_pos (by omega : (0 : Int) ≤ i), rd5_nat, wrap_up i (by omega), hsz]
      simp only [Option.bind_some]
      by_cases hn : left - ((a.getD i z55).f2.length : Int) < 0
      · rw [if_pos hn, if_pos hn, if_pos (by omega)]
      · rw [if_neg hn, if_neg hn]
    by_cases hn : left - ((a.getD i z55).f2.length : Int) < 0
    · exact ⟨-1, Ev.step (f := fun _ => some (-1)) (fun k => by rw [hstep, if_pos hn]) (Ev.now _), .inl (by omega)⟩
    · obtain ⟨r, hr, hr2⟩ := ih (i + 1) (left - ((a.getD i z55).f2.length : Int)) (by omega) (by omega) (by omega) (by omega)
      refine ⟨r, Ev.step (fun k => by rw [hstep, if_neg hn]) hr, ?_⟩
      rcases hr2 with hr2 | ⟨hr2, hr3⟩
      · exact .inl hr2
      · refine .inr ⟨by omega, fun j hj hl => ?_⟩
        by_cases hji : j = i
        · subst hji; omega
        · exact hr3 j (by omega) hl
theorem szDatumS_ev (a : List S55) (ha : a.length ≤ 9223372036854775807) (ht : ∀ x ∈ a, x.f2.length ≤ 9223372036854775807) (left : Int) (h0 : 0 ≤ left) (h1 : left ≤ 1048576) :
    ∃ r : Int, Ev (fun k => laws_szDatumS.f k a left) r ∧ (r < 0 ∨ r ≤ left ∧ a.length ≤ 1048576 ∧ ∀ x ∈ a, x.f2.length ≤ 1048576) := by
  have hw : wrap64 (left - (a.length : Int)) = left - (a.length : Int) := by unfold wrap64; omega
  by_cases hn : left - (a.length : Int) < 0
  · refine ⟨-1, Ev.congr (fun k => ?_) (Ev.now _), .inl (by omega)⟩
    unfold laws_szDatumS.f
    rw [hw, if_pos hn]
  · obtain ⟨r, hr, hr2⟩ := szDatumS_l0 a (by omega) ht a.length 0 (left - a.length) (by omega) (by omega) (by omega) (by omega)
    refine ⟨r, Ev.congr (fun k => ?_) hr, ?_⟩
    · unfold laws_szDatumS.f
      rw [hw, if_neg hn]
      rfl
    · rcases hr2 with hr2 | ⟨hr2, hr3⟩
      · exact .inl hr2
      · refine .inr ⟨by omega, by omega, fun x hx => ?_⟩
        obtain ⟨j, hj, rfl⟩ := List.mem_iff_getElem.1 hx
        have := hr3 j (by omega) hj
        rwa [List.getD_eq_getElem?_getD, List.getElem?_eq_getElem hj] at this
end Go.Proofs.YtogmphjhdkgdjaaDoor.DatVD
