/- What the laws' helper functions over rows of data (szDatumS, toDatumS and those on bytes) come to. -/
import Derived.Test.YtogmphjhdkgdjaaDoorZQFnExactValidModulex8
import Derived.Test.YtogmphjhdkgdjaaDoorZQFnExactValidModulex1
import Derived.Test.YtogmphjhdkgdjaaDoorZDataA
namespace Go.Proofs.YtogmphjhdkgdjaaDoor.DatEnc
open Go.RowKit Go.Proofs.YtogmphjhdkgdjaaDoor.QFnExactValidModule Go.Proofs.YtogmphjhdkgdjaaDoorW.PrintWords
set_option linter.unusedVariables false
set_option linter.unusedSimpArgs false
theorem wrap_up (i : Nat) (h : i ≤ 4611686018427387904) : wrap64 ((i : Int) + 1) = ((i + 1 : Nat) : Int) := by unfold wrap64; omega
theorem rd_nat (xs : List Int) (n : Nat) : rd xs (n : Int) = xs.getD n 0 := rfl
/-- A copy that was made as far as i. -/
theorem copied_next {α β : Type} {g : α → β} {a : List α} {b : List β} {z : α} {i : Nat} (hi : i < a.length) (hb : b.length = a.length) (he : b.take i = (a.map g).take i) : (b.set i (g (a.getD i z))).take (i + 1) = (a.map g).take (i + 1) := by
  apply List.ext_getElem?
  intro j
  have hj := congrArg (fun l => l[j]?) he
  simp only [List.getElem?_take] at hj
  simp only [List.getElem?_take, List.getElem?_set]
  by_cases h1 : j < i + 1
  · rw [if_pos h1, if_pos h1]
    by_cases h2 : i = j
    · subst h2
      have hib : i < b.length := by omega
      simp [hib, hi, List.getD_eq_getElem?_getD]
    · rw [if_neg h2]
      rw [if_pos (by omega), if_pos (by omega)] at hj
      exact hj
  · rw [if_neg h1, if_neg h1]
theorem copied_all {α : Type} {a b : List α} (hb : b.length = a.length) (he : b.take a.length = a.take a.length) : b = a := by
  rw [List.take_length, ← hb, List.take_length] at he
  exact he
theorem toByteS_l0 (a : List Int) (ha : a.length ≤ 4611686018427387904) (d : Nat) : ∀ (i : Nat) (b : List Int), a.length - i = d → i ≤ a.length → b.length = a.length → b.take i = a.take i →
    Ev (fun k => laws_toByteS.l0 k a b (i : Int)) a := by
  induction d with
  | zero =>
    intro i b hd hi hb he
    obtain rfl : i = a.length := by omega
    refine Ev.step (f := fun _ => some a) (fun k => ?_) (Ev.now _)
    simp only [laws_toByteS.l0]; rw [if_neg (by omega), copied_all hb he]
  | succ d ih =>
    intro i b hd hi hb he
    refine Ev.step (f := fun k => laws_toByteS.l0 k a (b.set i (a.getD i 0)) ((i + 1 : Nat) : Int)) (fun k => ?_) (ih (i + 1) _ (by omega) (by omega) (by simpa using hb) ?_)
    · simp only [laws_toByteS.l0]
      rw [if_pos (by omega : (i : Int) < (a.length : Int)), if_pos (by omega : (0 : Int) ≤ i), if_pos (by omega : (i : Int) < (b.length : Int)), wrap_up i (by omega), Int.toNat_natCast, rd_nat]
    · have := copied_next (g := id) (z := 0) (show i < a.length by omega) hb (by simpa using he)
      simpa using this
theorem toByteS_ev (a : List Int) (ha : a.length ≤ 281474976710656) : Ev (fun k => laws_toByteS.f k a) a := by
  refine Ev.congr (f := fun k => laws_toByteS.l0 k a (List.replicate a.length 0) ((0 : Nat) : Int)) (fun k => ?_) (toByteS_l0 a (by omega) a.length 0 _ (by omega) (by omega) (by simp) (by simp))
  unfold laws_toByteS.f
  rw [if_pos (by omega), if_pos (by omega)]
  rfl
/-! ### data -/
def cvD (x : S55) : S57 := ⟨x.f0, x.f1, x.f2, x.f3⟩
theorem rd5_nat (l : List S55) (i : Nat) : rd_T55 l (i : Int) = l.getD i z55 := rfl
theorem rd7_nat (l : List S57) (i : Nat) : rd_T57 l (i : Int) = l.getD i z57 := rfl
theorem getD_in {α : Type} {l : List α} {i : Nat} {z : α} (h : i < l.length) : l.getD i z ∈ l := by
  rw [List.getD_eq_getElem?_getD, List.getElem?_eq_getElem h]
  exact List.getElem_mem _
theorem toDatumS_l0 (a : List S55) (ha : a.length ≤ 4611686018427387904) (ht : ∀ x ∈ a, x.f2.length ≤ 281474976710656) (d : Nat) : ∀ (i : Nat) (b : List S57), a.length - i = d → i ≤ a.length → b.length = a.length → b.take i = (a.map cvD).take i →
    Ev (fun k => laws_toDatumS.l0 k a b (i : Int)) (a.map cvD) := by
  induction d with
  | zero =>
    intro i b hd hi hb he
    obtain rfl : i = a.length := by omega
    refine Ev.step (f := fun _ => some (a.map cvD)) (fun k => ?_) (Ev.now _)
    simp only [laws_toDatumS.l0]; rw [if_neg (by omega), copied_all (a := a.map cvD) (b := b) (by simpa using hb) (by simpa using he)]
  | succ d ih =>
    intro i b hd hi hb he
    have hlt : i < a.length := by omega
    refine Ev.step (f := fun k => (laws_toByteS.f k (a.getD i z55).f2).bind fun t => laws_toDatumS.l0 k a (b.set i ⟨(a.getD i z55).f0, (a.getD i z55).f1, t, (a.getD i z55).f3⟩) ((i + 1 : Nat) : Int)) (fun k => ?_) ?_
    · simp only [laws_toDatumS.l0]
      rw [if_pos (by omega : (i : Int) < (a.length : Int)), if_pos (by omega : (0 : Int) ≤ i), rd5_nat, wrap_up i (by omega), Int.toNat_natCast]
      unfold laws_toDatum.f
      cases laws_toByteS.f k (a.getD i z55).f2 with
      | none => rfl
      | some t =>
        simp only [Option.bind_some]
        rw [if_pos (by omega : (i : Int) < (b.length : Int))]
    · refine Ev.bind (toByteS_ev _ (ht _ (getD_in hlt))) ?_
      exact ih (i + 1) _ (by omega) (by omega) (by simpa using hb) (copied_next (g := cvD) (z := z55) hlt hb he)
theorem toDatumS_ev (a : List S55) (ha : a.length ≤ 1048576) (ht : ∀ x ∈ a, x.f2.length ≤ 281474976710656) : Ev (fun k => laws_toDatumS.f k a) (a.map cvD) := by
  refine Ev.congr (f := fun k => laws_toDatumS.l0 k a (List.replicate a.length z57) ((0 : Nat) : Int)) (fun k => ?_) (toDatumS_l0 a (by omega) ht a.length 0 _ (by omega) (by omega) (by simp) (by simp))
  unfold laws_toDatumS.f
  rw [if_pos (by omega), if_pos (by omega)]
  rfl
/-! ### sizes -/
theorem szDatumS_l0 (a : List S55) (ha : a.length ≤ 1048576) (ht : ∀ x ∈ a, x.f2.length ≤ 9223372036854775807) (d : Nat) : ∀ (i : Nat) (left : Int), a.length - i = d → i ≤ a.length → 0 ≤ left → left ≤ 1048576 →
    ∃ r : Int, Ev (fun k => laws_szDatumS.l0 k a left (i : Int)) r ∧ (r < 0 ∨ r ≤ left ∧ ∀ j, i ≤ j → j < a.length → (a.getD j z55).f2.length ≤ 1048576) := by
  induction d with
  | zero =>
    intro i left hd hi h0 h1
    refine ⟨left, Ev.step (f := fun _ => some left) (fun k => ?_) (Ev.now _), .inr ⟨Int.le_refl _, fun j hj hl => by omega⟩⟩
    simp only [laws_szDatumS.l0]; rw [if_neg (by omega)]
  | succ d ih =>
    intro i left hd hi h0 h1
    have hlt : i < a.length := by omega
    have hx := ht _ (getD_in (z := z55) hlt)
    have hw : wrap64 (left - ((a.getD i z55).f2.length : Int)) = left - ((a.getD i z55).f2.length : Int) := by unfold wrap64; omega
    have hsz : laws_szDatum.f (a.getD i z55).f0 (a.getD i z55).f1 (a.getD i z55).f2 (a.getD i z55).f3 left = some (if left - ((a.getD i z55).f2.length : Int) < 0 then -1 else left - ((a.getD i z55).f2.length : Int)) := by
      unfold laws_szDatum.f laws_szByteS.f
      rw [hw]
      by_cases hn : left - ((a.getD i z55).f2.length : Int) < 0
      · rw [if_pos hn, if_pos hn]; rfl
      · rw [if_neg hn, if_neg hn]
        simp only [Option.bind_some]
        rw [if_neg hn]
    have hstep : ∀ k, laws_szDatumS.l0 (k + 1) a left (i : Int) = if left - ((a.getD i z55).f2.length : Int) < 0 then some (-1) else laws_szDatumS.l0 k a (left - ((a.getD i z55).f2.length : Int)) ((i + 1 : Nat) : Int) := by
      intro k
      simp only [laws_szDatumS.l0]
      rw [if_pos (by omega : (i : Int) < (a.length : Int)), if_pos (by omega : (0 : Int) ≤ i), rd5_nat, wrap_up i (by omega), hsz]
      simp only [Option.bind_some]
      by_cases hn : left - ((a.getD i z55).f2.length : Int) < 0
      · rw [if_pos hn, if_pos hn, if_pos (by omega)]
      · rw [if_neg hn, if_neg hn]
    by_cases hn : left - ((a.getD i z55).f2.length : Int) < 0
    · exact ⟨-1, Ev.step (f := fun _ => some (-1)) (fun k => by rw [hstep, if_pos hn]) (Ev.now _), .inl (by omega)⟩
    · obtain ⟨r, hr, hr2⟩ := ih (i + 1) (left - ((a.getD i z55).f2.length : Int)) (by omega) (by omega) (by omega) (by omega)
      refine ⟨r, Ev.step (fun k => by rw [hstep, if_neg hn]) hr, ?_⟩
      rcases hr2 with hr2 | ⟨hr2, hr3⟩
      · exact .inl hr2
      · refine .inr ⟨by omega, fun j hj hl => ?_⟩
        by_cases hji : j = i
        · subst hji; omega
        · exact hr3 j (by omega) hl
theorem szDatumS_ev (a : List S55) (ha : a.length ≤ 9223372036854775807) (ht : ∀ x ∈ a, x.f2.length ≤ 9223372036854775807) (left : Int) (h0 : 0 ≤ left) (h1 : left ≤ 1048576) :
    ∃ r : Int, Ev (fun k => laws_szDatumS.f k a left) r ∧ (r < 0 ∨ r ≤ left ∧ a.length ≤ 1048576 ∧ ∀ x ∈ a, x.f2.length ≤ 1048576) := by
  have hw : wrap64 (left - (a.length : Int)) = left - (a.length : Int) := by unfold wrap64; omega
  by_cases hn : left - (a.length : Int) < 0
  · refine ⟨-1, Ev.congr (fun k => ?_) (Ev.now _), .inl (by omega)⟩
    unfold laws_szDatumS.f
    rw [hw, if_pos hn]
  · obtain ⟨r, hr, hr2⟩ := szDatumS_l0 a (by omega) ht a.length 0 (left - a.length) (by omega) (by omega) (by omega) (by omega)
    refine ⟨r, Ev.congr (fun k => ?_) hr, ?_⟩
    · unfold laws_szDatumS.f
      rw [hw, if_neg hn]
      rfl
    · rcases hr2 with hr2 | ⟨hr2, hr3⟩
      · exact .inl hr2
      · refine .inr ⟨by omega, by omega, fun x hx => ?_⟩
        obtain ⟨j, hj, rfl⟩ := List.mem_iff_getElem.1 hx
        have := hr3 j (by omega) hj
        rwa [List.getD_eq_getElem?_getD, List.getElem?_eq_getElem hj] at this
end Go.Proofs.YtogmphjhdkgdjaaDoor.DatEnc
/- What the laws' helper functions over modules (szModule, toModule and theirs) come to. -/
namespace Go.Proofs.YtogmphjhdkgdjaaDoor.HelpEnc
open Go.RowKit Go.Proofs.YtogmphjhdkgdjaaDoor.QFnExactValidModule Go.Proofs.YtogmphjhdkgdjaaDoorW.PrintWords
open Go.Proofs.YtogmphjhdkgdjaaDoor.DatEnc (wrap_up copied_next copied_all cvD getD_in toDatumS_ev szDatumS_ev)
set_option linter.unusedVariables false
set_option linter.unusedSimpArgs false
abbrev LD := S55
abbrev LI := S150
abbrev LF := S110
abbrev ID := S57
abbrev II := S71
abbrev IF := S68
def cvI (x : LI) : II := ⟨x.f0, x.f1, x.f2⟩
def cvF (x : LF) : IF := ⟨x.f0, x.f1, x.f2.map cvI⟩
def cvC (l : List LD) : List ID := l.map cvD
theorem rdc_nat (l : List (List LD)) (i : Nat) : rd_L4 l (i : Int) = l.getD i [] := rfl
theorem rdd_nat (l : List (List ID)) (i : Nat) : rd_L14 l (i : Int) = l.getD i [] := rfl
theorem rdi_nat (l : List LI) (i : Nat) : rd_T150 l (i : Int) = l.getD i z150 := rfl
theorem rdj_nat (l : List II) (i : Nat) : rd_T71 l (i : Int) = l.getD i z71 := rfl
theorem rdf_nat (l : List LF) (i : Nat) : rd_T110 l (i : Int) = l.getD i z110 := rfl
theorem rdg_nat (l : List IF) (i : Nat) : rd_T68 l (i : Int) = l.getD i z68 := rfl
theorem rdb_nat (l : List Bool) (i : Nat) : rdOf false l (i : Int) = l.getD i false := rfl
/-! ### copies -/
theorem toDatumSS_l0 (a : List (List LD)) (ha : a.length ≤ 1048576) (ht : ∀ l ∈ a, l.length ≤ 1048576 ∧ ∀ x ∈ l, x.f2.length ≤ 1048576) (d : Nat) : ∀ (i : Nat) (b : List (List ID)), a.length - i = d → i ≤ a.length → b.length = a.length → b.take i = (a.map cvC).take i →
    Ev (fun k => laws_toDatumSS.l0 k a b (i : Int)) (a.map cvC) := by
  induction d with
  | zero =>
    intro i b hd hi hb he
    obtain rfl : i = a.length := by omega
    refine Ev.step (f := fun _ => some (a.map cvC)) (fun k => ?_) (Ev.now _)
    simp only [laws_toDatumSS.l0]; rw [if_neg (by omega), copied_all (a := a.map cvC) (b := b) (by simpa using hb) (by simpa using he)]
  | succ d ih =>
    intro i b hd hi hb he
    have hlt : i < a.length := by omega
    obtain ⟨t1, t2⟩ := ht _ (getD_in (z := []) hlt)
    refine Ev.step (f := fun k => (laws_toDatumS.f k (a.getD i [])).bind fun t => laws_toDatumSS.l0 k a (b.set i t) ((i + 1 : Nat) : Int)) (fun k => ?_) ?_
    · simp only [laws_toDatumSS.l0]
      rw [if_pos (by omega : (i : Int) < (a.length : Int)), if_pos (by omega : (0 : Int) ≤ i), rdc_nat, wrap_up i (by omega), Int.toNat_natCast]
      congr 1
      funext t
      rw [if_pos (by omega : (i : Int) < (b.length : Int))]
    · refine Ev.bind (toDatumS_ev _ t1 (fun x hx => by have := t2 x hx; omega)) ?_
      exact ih (i + 1) _ (by omega) (by omega) (by simpa using hb) (copied_next (g := cvC) (z := []) hlt hb he)
theorem toDatumSS_ev (a : List (List LD)) (ha : a.length ≤ 1048576) (ht : ∀ l ∈ a, l.length ≤ 1048576 ∧ ∀ x ∈ l, x.f2.length ≤ 1048576) : Ev (fun k => laws_toDatumSS.f k a) (a.map cvC) := by
  refine Ev.congr (f := fun k => laws_toDatumSS.l0 k a (List.replicate a.length []) ((0 : Nat) : Int)) (fun k => ?_) (toDatumSS_l0 a (by omega) ht a.length 0 _ (by omega) (by omega) (by simp) (by simp))
  unfold laws_toDatumSS.f
  rw [if_pos (by omega), if_pos (by omega)]
  rfl
theorem toBoolS_l0 (a : List Bool) (ha : a.length ≤ 4611686018427387904) (d : Nat) : ∀ (i : Nat) (b : List Bool), a.length - i = d → i ≤ a.length → b.length = a.length → b.take i = a.take i →
    Ev (fun k => laws_toBoolS.l0 k a b (i : Int)) a := by
  induction d with
  | zero =>
    intro i b hd hi hb he
    obtain rfl : i = a.length := by omega
    refine Ev.step (f := fun _ => some a) (fun k => ?_) (Ev.now _)
    simp only [laws_toBoolS.l0]; rw [if_neg (by omega), copied_all hb he]
  | succ d ih =>
    intro i b hd hi hb he
    refine Ev.step (f := fun k => laws_toBoolS.l0 k a (b.set i (a.getD i false)) ((i + 1 : Nat) : Int)) (fun k => ?_) (ih (i + 1) _ (by omega) (by omega) (by simpa using hb) ?_)
    · simp only [laws_toBoolS.l0]
      rw [if_pos (by omega : (i : Int) < (a.length : Int)), if_pos (by omega : (0 : Int) ≤ i), if_pos (by omega : (i : Int) < (b.length : Int)), wrap_up i (by omega), Int.toNat_natCast, rdb_nat]
    · have := copied_next (g := id) (z := false) (show i < a.length by omega) hb (by simpa using he)
      simpa using this
theorem toBoolS_ev (a : List Bool) (ha : a.length ≤ 281474976710656) : Ev (fun k => laws_toBoolS.f k a) a := by
  refine Ev.congr (f := fun k => laws_toBoolS.l0 k a (List.replicate a.length false) ((0 : Nat) : Int)) (fun k => ?_) (toBoolS_l0 a (by omega) a.length 0 _ (by omega) (by omega) (by simp) (by simp))
  unfold laws_toBoolS.f
  rw [if_pos (by omega), if_pos (by omega)]
  rfl
theorem toInsS_l0 (a : List LI) (ha : a.length ≤ 4611686018427387904) (d : Nat) : ∀ (i : Nat) (b : List II), a.length - i = d → i ≤ a.length → b.length = a.length → b.take i = (a.map cvI).take i →
    Ev (fun k => laws_toInsS.l0 k a b (i : Int)) (a.map cvI) := by
  induction d with
  | zero =>
    intro i b hd hi hb he
    obtain rfl : i = a.length := by omega
    refine Ev.step (f := fun _ => some (a.map cvI)) (fun k => ?_) (Ev.now _)
    simp only [laws_toInsS.l0]; rw [if_neg (by omega), copied_all (a := a.map cvI) (b := b) (by simpa using hb) (by simpa using he)]
  | succ d ih =>
    intro i b hd hi hb he
    have hlt : i < a.length := by omega
    refine Ev.step (f := fun k => laws_toInsS.l0 k a (b.set i (cvI (a.getD i z150))) ((i + 1 : Nat) : Int)) (fun k => ?_) (ih (i + 1) _ (by omega) (by omega) (by simpa using hb) (copied_next (g := cvI) (z := z150) hlt hb he))
    simp only [laws_toInsS.l0]
    rw [if_pos (by omega : (i : Int) < (a.length : Int)), if_pos (by omega : (0 : Int) ≤ i), rdi_nat, wrap_up i (by omega), Int.toNat_natCast]
    unfold laws_toIns.f
    simp only [Option.bind_some]
    rw [if_pos (by omega : (i : Int) < (b.length : Int))]
    rfl
theorem toInsS_ev (a : List LI) (ha : a.length ≤ 1048576) : Ev (fun k => laws_toInsS.f k a) (a.map cvI) := by
  refine Ev.congr (f := fun k => laws_toInsS.l0 k a (List.replicate a.length z71) ((0 : Nat) : Int)) (fun k => ?_) (toInsS_l0 a (by omega) a.length 0 _ (by omega) (by omega) (by simp) (by simp))
  unfold laws_toInsS.f
  rw [if_pos (by omega), if_pos (by omega)]
  rfl
theorem toFunc_ev (p : Int) (fr : List Bool) (code : List LI) (h1 : fr.length ≤ 1048576) (h2 : code.length ≤ 1048576) : Ev (fun k => laws_toFunc.f k p fr code) (p, fr, code.map cvI) := by
  unfold laws_toFunc.f
  refine Ev.bind (toBoolS_ev fr (by omega)) ?_
  refine Ev.bind (toInsS_ev code h2) ?_
  exact Ev.now _
theorem toFuncS_l0 (a : List LF) (ha : a.length ≤ 4611686018427387904) (ht : ∀ x ∈ a, x.f1.length ≤ 1048576 ∧ x.f2.length ≤ 1048576) (d : Nat) : ∀ (i : Nat) (b : List IF), a.length - i = d → i ≤ a.length → b.length = a.length → b.take i = (a.map cvF).take i →
    Ev (fun k => laws_toFuncS.l0 k a b (i : Int)) (a.map cvF) := by
  induction d with
  | zero =>
    intro i b hd hi hb he
    obtain rfl : i = a.length := by omega
    refine Ev.step (f := fun _ => some (a.map cvF)) (fun k => ?_) (Ev.now _)
    simp only [laws_toFuncS.l0]; rw [if_neg (by omega), copied_all (a := a.map cvF) (b := b) (by simpa using hb) (by simpa using he)]
  | succ d ih =>
    intro i b hd hi hb he
    have hlt : i < a.length := by omega
    obtain ⟨t1, t2⟩ := ht _ (getD_in (z := z110) hlt)
    refine Ev.step (f := fun k => (laws_toFunc.f k (a.getD i z110).f0 (a.getD i z110).f1 (a.getD i z110).f2).bind fun t => laws_toFuncS.l0 k a (b.set i ⟨t.1, t.2.1, t.2.2⟩) ((i + 1 : Nat) : Int)) (fun k => ?_) ?_
    · simp only [laws_toFuncS.l0]
      rw [if_pos (by omega : (i : Int) < (a.length : Int)), if_pos (by omega : (0 : Int) ≤ i), rdf_nat, wrap_up i (by omega), Int.toNat_natCast]
      congr 1
      funext t
      rw [if_pos (by omega : (i : Int) < (b.length : Int))]
    · refine Ev.bind (toFunc_ev _ _ _ t1 t2) ?_
      exact ih (i + 1) _ (by omega) (by omega) (by simpa using hb) (copied_next (g := cvF) (z := z110) hlt hb he)
theorem toFuncS_ev (a : List LF) (ha : a.length ≤ 1048576) (ht : ∀ x ∈ a, x.f1.length ≤ 1048576 ∧ x.f2.length ≤ 1048576) : Ev (fun k => laws_toFuncS.f k a) (a.map cvF) := by
  refine Ev.congr (f := fun k => laws_toFuncS.l0 k a (List.replicate a.length z68) ((0 : Nat) : Int)) (fun k => ?_) (toFuncS_l0 a (by omega) ht a.length 0 _ (by omega) (by omega) (by simp) (by simp))
  unfold laws_toFuncS.f
  rw [if_pos (by omega), if_pos (by omega)]
  rfl
/-- What is known of a module that passed szModule. -/
structure Small (cs : List (List LD)) (fs : List LF) : Prop where
  clen : cs.length ≤ 1048576
  con : ∀ l ∈ cs, l.length ≤ 1048576 ∧ ∀ x ∈ l, x.f2.length ≤ 1048576
  flen : fs.length ≤ 1048576
  fun_ : ∀ x ∈ fs, x.f1.length ≤ 1048576 ∧ x.f2.length ≤ 1048576
theorem toModule_ev {cs : List (List LD)} {fs : List LF} (h : Small cs fs) (g : Int) : Ev (fun k => laws_toModule.f k cs g fs) (cs.map cvC, g, fs.map cvF) := by
  unfold laws_toModule.f
  refine Ev.bind (toDatumSS_ev cs h.clen h.con) ?_
  refine Ev.bind (toFuncS_ev fs h.flen h.fun_) ?_
  exact Ev.now _
/-! ### sizes -/
theorem szDatumSS_l0 (a : List (List LD)) (ha : a.length ≤ 1048576) (ht : ∀ l ∈ a, l.length ≤ 9223372036854775807 ∧ ∀ x ∈ l, x.f2.length ≤ 9223372036854775807) (d : Nat) : ∀ (i : Nat) (left : Int), a.length - i = d → i ≤ a.length → 0 ≤ left → left ≤ 1048576 →
    ∃ r : Int, Ev (fun k => laws_szDatumSS.l0 k a left (i : Int)) r ∧ (r < 0 ∨ r ≤ left ∧ ∀ j, i ≤ j → j < a.length → (a.getD j []).length ≤ 1048576 ∧ ∀ x ∈ a.getD j [], x.f2.length ≤ 1048576) := by
  induction d with
  | zero =>
    intro i left hd hi h0 h1
    refine ⟨left, Ev.step (f := fun _ => some left) (fun k => ?_) (Ev.now _), .inr ⟨Int.le_refl _, fun j hj hl => by omega⟩⟩
    simp only [laws_szDatumSS.l0]; rw [if_neg (by omega)]
  | succ d ih =>
    intro i left hd hi h0 h1
    have hlt : i < a.length := by omega
    obtain ⟨t1, t2⟩ := ht _ (getD_in (z := []) hlt)
    obtain ⟨s, hs, hs2⟩ := szDatumS_ev _ t1 t2 left h0 h1
    have hgo : ∀ k, laws_szDatumSS.l0 (k + 1) a left (i : Int) = (laws_szDatumS.f k (a.getD i []) left).bind fun t => if t < 0 then some (-1) else laws_szDatumSS.l0 k a t ((i + 1 : Nat) : Int) := by
      intro k
      simp only [laws_szDatumSS.l0]
      rw [if_pos (by omega : (i : Int) < (a.length : Int)), if_pos (by omega : (0 : Int) ≤ i), rdc_nat, wrap_up i (by omega)]
    by_cases hn : s < 0
    · refine ⟨-1, Ev.step hgo (Ev.bind hs ?_), .inl (by omega)⟩
      simp only [if_pos hn]
      exact Ev.now _
    · obtain ⟨s1, s2, s3⟩ : s ≤ left ∧ (a.getD i []).length ≤ 1048576 ∧ ∀ x ∈ a.getD i [], x.f2.length ≤ 1048576 := by
        rcases hs2 with h | h
        · omega
        · exact h
      obtain ⟨r, hr, hr2⟩ := ih (i + 1) s (by omega) (by omega) (by omega) (by omega)
      refine ⟨r, Ev.step hgo (Ev.bind hs ?_), ?_⟩
      · simp only [if_neg hn]
        exact hr
      · rcases hr2 with hr2 | ⟨hr2, hr3⟩
        · exact .inl hr2
        · refine .inr ⟨by omega, fun j hj hl => ?_⟩
          by_cases hji : j = i
          · subst hji; exact ⟨s2, s3⟩
          · exact hr3 j (by omega) hl
theorem szDatumSS_ev (a : List (List LD)) (ha : a.length ≤ 9223372036854775807) (ht : ∀ l ∈ a, l.length ≤ 9223372036854775807 ∧ ∀ x ∈ l, x.f2.length ≤ 9223372036854775807) (left : Int) (h0 : 0 ≤ left) (h1 : left ≤ 1048576) :
    ∃ r : Int, Ev (fun k => laws_szDatumSS.f k a left) r ∧ (r < 0 ∨ r ≤ left ∧ a.length ≤ 1048576 ∧ ∀ l ∈ a, l.length ≤ 1048576 ∧ ∀ x ∈ l, x.f2.length ≤ 1048576) := by
  have hw : wrap64 (left - (a.length : Int)) = left - (a.length : Int) := by unfold wrap64; omega
  by_cases hn : left - (a.length : Int) < 0
  · refine ⟨-1, Ev.congr (fun k => ?_) (Ev.now _), .inl (by omega)⟩
    unfold laws_szDatumSS.f
    rw [hw, if_pos hn]
  · obtain ⟨r, hr, hr2⟩ := szDatumSS_l0 a (by omega) ht a.length 0 (left - a.length) (by omega) (by omega) (by omega) (by omega)
    refine ⟨r, Ev.congr (fun k => ?_) hr, ?_⟩
    · unfold laws_szDatumSS.f
      rw [hw, if_neg hn]
      rfl
    · rcases hr2 with hr2 | ⟨hr2, hr3⟩
      · exact .inl hr2
      · refine .inr ⟨by omega, by omega, fun x hx => ?_⟩
        obtain ⟨j, hj, rfl⟩ := List.mem_iff_getElem.1 hx
        have := hr3 j (by omega) hj
        rwa [List.getD_eq_getElem?_getD, List.getElem?_eq_getElem hj] at this
theorem szFunc_ev (p : Int) (fr : List Bool) (code : List LI) (h1 : fr.length ≤ 9223372036854775807) (h2 : code.length ≤ 9223372036854775807) (left : Int) (l0 : 0 ≤ left) (l1 : left ≤ 1048576) :
    ∃ r : Int, laws_szFunc.f p fr code left = some r ∧ (r < 0 ∨ r ≤ left ∧ fr.length ≤ 1048576 ∧ code.length ≤ 1048576) := by
  have hw : wrap64 (left - (fr.length : Int)) = left - (fr.length : Int) := by unfold wrap64; omega
  unfold laws_szFunc.f laws_szBoolS.f laws_szInsS.f
  rw [hw]
  by_cases hn : left - (fr.length : Int) < 0
  · rw [if_pos hn]
    exact ⟨-1, by rfl, .inl (by omega)⟩
  · rw [if_neg hn]
    simp only [Option.bind_some]
    rw [if_neg hn]
    have hw2 : wrap64 (left - (fr.length : Int) - (code.length : Int)) = left - (fr.length : Int) - (code.length : Int) := by unfold wrap64; omega
    rw [hw2]
    by_cases hm : left - (fr.length : Int) - (code.length : Int) < 0
    · rw [if_pos hm]
      exact ⟨-1, by rfl, .inl (by omega)⟩
    · rw [if_neg hm]
      simp only [Option.bind_some]
      rw [if_neg hm]
      exact ⟨_, rfl, .inr ⟨by omega, by omega, by omega⟩⟩
theorem szFuncS_l0 (a : List LF) (ha : a.length ≤ 1048576) (ht : ∀ x ∈ a, x.f1.length ≤ 9223372036854775807 ∧ x.f2.length ≤ 9223372036854775807) (d : Nat) : ∀ (i : Nat) (left : Int), a.length - i = d → i ≤ a.length → 0 ≤ left → left ≤ 1048576 →
    ∃ r : Int, Ev (fun k => laws_szFuncS.l0 k a left (i : Int)) r ∧ (r < 0 ∨ r ≤ left ∧ ∀ j, i ≤ j → j < a.length → (a.getD j z110).f1.length ≤ 1048576 ∧ (a.getD j z110).f2.length ≤ 1048576) := by
  induction d with
  | zero =>
    intro i left hd hi h0 h1
    refine ⟨left, Ev.step (f := fun _ => some left) (fun k => ?_) (Ev.now _), .inr ⟨Int.le_refl _, fun j hj hl => by omega⟩⟩
    simp only [laws_szFuncS.l0]; rw [if_neg (by omega)]
  | succ d ih =>
    intro i left hd hi h0 h1
    have hlt : i < a.length := by omega
    obtain ⟨t1, t2⟩ := ht _ (getD_in (z := z110) hlt)
    obtain ⟨s, hs, hs2⟩ := szFunc_ev (a.getD i z110).f0 _ _ t1 t2 left h0 h1
    have hgo : ∀ k, laws_szFuncS.l0 (k + 1) a left (i : Int) = if s < 0 then some (-1) else laws_szFuncS.l0 k a s ((i + 1 : Nat) : Int) := by
      intro k
      simp only [laws_szFuncS.l0]
      rw [if_pos (by omega : (i : Int) < (a.length : Int)), if_pos (by omega : (0 : Int) ≤ i), rdf_nat, wrap_up i (by omega), hs]
      rfl
    by_cases hn : s < 0
    · exact ⟨-1, Ev.step (f := fun _ => some (-1)) (fun k => by rw [hgo, if_pos hn]) (Ev.now _), .inl (by omega)⟩
    · obtain ⟨s1, s2, s3⟩ : s ≤ left ∧ (a.getD i z110).f1.length ≤ 1048576 ∧ (a.getD i z110).f2.length ≤ 1048576 := by
        rcases hs2 with h | h
        · omega
        · exact h
      obtain ⟨r, hr, hr2⟩ := ih (i + 1) s (by omega) (by omega) (by omega) (by omega)
      refine ⟨r, Ev.step (fun k => by rw [hgo, if_neg hn]) hr, ?_⟩
      rcases hr2 with hr2 | ⟨hr2, hr3⟩
      · exact .inl hr2
      · refine .inr ⟨by omega, fun j hj hl => ?_⟩
        by_cases hji : j = i
        · subst hji; exact ⟨s2, s3⟩
        · exact hr3 j (by omega) hl
theorem szFuncS_ev (a : List LF) (ha : a.length ≤ 9223372036854775807) (ht : ∀ x ∈ a, x.f1.length ≤ 9223372036854775807 ∧ x.f2.length ≤ 9223372036854775807) (left : Int) (h0 : 0 ≤ left) (h1 : left ≤ 1048576) :
    ∃ r : Int, Ev (fun k => laws_szFuncS.f k a left) r ∧ (r < 0 ∨ r ≤ left ∧ a.length ≤ 1048576 ∧ ∀ x ∈ a, x.f1.length ≤ 1048576 ∧ x.f2.length ≤ 1048576) := by
  have hw : wrap64 (left - (a.length : Int)) = left - (a.length : Int) := by unfold wrap64; omega
  by_cases hn : left - (a.length : Int) < 0
  · refine ⟨-1, Ev.congr (fun k => ?_) (Ev.now _), .inl (by omega)⟩
    unfold laws_szFuncS.f
    rw [hw, if_pos hn]
  · obtain ⟨r, hr, hr2⟩ := szFuncS_l0 a (by omega) ht a.length 0 (left - a.length) (by omega) (by omega) (by omega) (by omega)
    refine ⟨r, Ev.congr (fun k => ?_) hr, ?_⟩
    · unfold laws_szFuncS.f
      rw [hw, if_neg hn]
      rfl
    · rcases hr2 with hr2 | ⟨hr2, hr3⟩
      · exact .inl hr2
      · refine .inr ⟨by omega, by omega, fun x hx => ?_⟩
        obtain ⟨j, hj, rfl⟩ := List.mem_iff_getElem.1 hx
        have := hr3 j (by omega) hj
        rwa [List.getD_eq_getElem?_getD, List.getElem?_eq_getElem hj] at this
theorem szModule_ev (cs : List (List LD)) (g : Int) (fs : List LF) (hc : cs.length ≤ 9223372036854775807) (hcx : ∀ l ∈ cs, l.length ≤ 9223372036854775807 ∧ ∀ x ∈ l, x.f2.length ≤ 9223372036854775807) (hf : fs.length ≤ 9223372036854775807) (hfx : ∀ x ∈ fs, x.f1.length ≤ 9223372036854775807 ∧ x.f2.length ≤ 9223372036854775807) :
    ∃ r : Int, Ev (fun k => laws_szModule.f k cs g fs 1048576) r ∧ (r < 0 ∨ Small cs fs) := by
  obtain ⟨s, hs, hs2⟩ := szDatumSS_ev cs hc hcx 1048576 (by omega) (by omega)
  unfold laws_szModule.f
  by_cases hn : s < 0
  · refine ⟨-1, Ev.bind hs ?_, .inl (by omega)⟩
    simp only [if_pos hn]
    exact Ev.now _
  · obtain ⟨s1, s2, s3⟩ : s ≤ 1048576 ∧ cs.length ≤ 1048576 ∧ ∀ l ∈ cs, l.length ≤ 1048576 ∧ ∀ x ∈ l, x.f2.length ≤ 1048576 := by
      rcases hs2 with h | h
      · omega
      · exact h
    obtain ⟨t, ht, ht2⟩ := szFuncS_ev fs hf hfx s (by omega) s1
    by_cases hm : t < 0
    · refine ⟨-1, Ev.bind hs ?_, .inl (by omega)⟩
      simp only [if_neg hn]
      refine Ev.bind ht ?_
      simp only [if_pos hm]
      exact Ev.now _
    · refine ⟨t, Ev.bind hs ?_, .inr ?_⟩
      · simp only [if_neg hn]
        refine Ev.bind ht ?_
        simp only [if_neg hm]
        exact Ev.now _
      · rcases ht2 with h | ⟨_, h1, h2⟩
        · omega
        · exact ⟨s2, s3, h1, h2⟩
end Go.Proofs.YtogmphjhdkgdjaaDoor.HelpEnc
