/- What the laws' helper functions over modules (szModule, toModule, eqModule and theirs) come to. -/
import Derived.Test.YtogmphjhdkgdjaaDoorZQFnExactValidModulex14
import Derived.Test.YtogmphjhdkgdjaaDoorZDatVM
namespace Go.Proofs.YtogmphjhdkgdjaaDoor.HelpVM
open Go.RowKit Go.Proofs.YtogmphjhdkgdjaaDoor.QFnExactValidModule Go.Proofs.YtogmphjhdkgdjaaDoorW.PrintWords Go.Proofs.YtogmphjhdkgdjaaDoorW.PrintLast
open Go.Proofs.YtogmphjhdkgdjaaDoor.DatVM (wrap_up copied_next copied_all cvD getD_in toDatumS_ev eqDatumS_refl szDatumS_ev)
set_option linter.unusedVariables false
set_option linter.unusedSimpArgs false
abbrev LD := S55
abbrev LI := S150
abbrev LF := S110
abbrev ID := S57
abbrev II := S71
abbrev IF := S68
def cvI (x : LI) : II := ⟨x.f0, x.f1, x.f2⟩
def cvF (x : LF) : IF := ⟨x.f0, x.f1, x.f2.map cvI⟩
def cvC (l : List LD) : List ID := l.map cvD
theorem rdc_nat (l : List (List LD)) (i : Nat) : rd_L4 l (i : Int) = l.getD i [] := rfl
theorem rdd_nat (l : List (List ID)) (i : Nat) : rd_L14 l (i : Int) = l.getD i [] := rfl
theorem rdi_nat (l : List LI) (i : Nat) : rd_T150 l (i : Int) = l.getD i z150 := rfl
theorem rdj_nat (l : List II) (i : Nat) : rd_T71 l (i : Int) = l.getD i z71 := rfl
theorem rdf_nat (l : List LF) (i : Nat) : rd_T110 l (i : Int) = l.getD i z110 := rfl
theorem rdg_nat (l : List IF) (i : Nat) : rd_T68 l (i : Int) = l.getD i z68 := rfl
theorem rdb_nat (l : List Bool) (i : Nat) : rdOf false l (i : Int) = l.getD i false := rfl
/-! ### copies -/
theorem toDatumSS_l0 (a : List (List LD)) (ha : a.length ≤ 1048576) (ht : ∀ l ∈ a, l.length ≤ 1048576 ∧ ∀ x ∈ l, x.f2.length ≤ 1048576) (d : Nat) : ∀ (i : Nat) (b : List (List ID)), a.length - i = d → i ≤ a.length → b.length = a.length → b.take i = (a.map cvC).take i →
  Ev (fun k => laws_toDatumSS.l0 k a b (i : Int)) (a.map cvC) := by
 induction d with
 | zero =>
  intro i b hd hi hb he
  obtain rfl : i = a.length := by omega
  refine Ev.step (f := fun _ => some (a.map cvC)) (fun k => ?_) (Ev.now _)
  simp only [laws_toDatumSS.l0]; rw [if_neg (by omega), copied_all (a := a.map cvC) (b := b) (by simpa using hb) (by simpa using he)]
 | succ d ih =>
  intro i b hd hi hb he
  have hlt : i < a.length := by omega
  obtain ⟨t1, t2⟩ := ht _ (getD_in (z := []) hlt)
  refine Ev.step (f := fun k => (laws_toDatumS.f k (a.getD i [])).bind fun t => laws_toDatumSS.l0 k a (b.set i t) ((i + 1 : Nat) : Int)) (fun k => ?_) ?_
  ·simp only [laws_toDatumSS.l0]
   rw [if_pos (by omega : (i : Int) < (a.length : Int)), if_pos (by omega : (0 : Int) ≤ i), rdc_nat, wrap_up i (by omega), Int.toNat_natCast]
   congr 1
   funext t
   rw [if_pos (by omega : (i : Int) < (b.length : Int))]
  ·refine Ev.bind (toDatumS_ev _ t1 (fun x hx => by have := t2 x hx; omega)) ?_
   exact ih (i + 1) _ (by omega) (by omega) (by simpa using hb) (copied_next (g := cvC) (z := []) hlt hb he)
theorem toDatumSS_ev (a : List (List LD)) (ha : a.length ≤ 1048576) (ht : ∀ l ∈ a, l.length ≤ 1048576 ∧ ∀ x ∈ l, x.f2.length ≤ 1048576) : Ev (fun k => laws_toDatumSS.f k a) (a.map cvC) := by
 refine Ev.congr (f := fun k => laws_toDatumSS.l0 k a (List.replicate a.length []) ((0 : Nat) : Int)) (fun k => ?_) (toDatumSS_l0 a (by omega) ht a.length 0 _ (by omega) (by omega) (by simp) (by simp))
 unfold laws_toDatumSS.f
 rw [if_pos (by omega), if_pos (by omega)]
 rfl
theorem toBoolS_l0 (a : List Bool) (ha : a.length ≤ 4611686018427387904) (d : Nat) : ∀ (i : Nat) (b : List Bool), a.length - i = d → i ≤ a.length → b.length = a.length → b.take i = a.take i →
  Ev (fun k => laws_toBoolS.l0 k a b (i : Int)) a := by
 induction d with
 | zero =>
  intro i b hd hi hb he
  obtain rfl : i = a.length := by omega
  refine Ev.step (f := fun _ => some a) (fun k => ?_) (Ev.now _)
  simp only [laws_toBoolS.l0]; rw [if_neg (by omega), copied_all hb he]
 | succ d ih =>
  intro i b hd hi hb he
  refine Ev.step (f := fun k => laws_toBoolS.l0 k a (b.set i (a.getD i false)) ((i + 1 : Nat) : Int)) (fun k => ?_) (ih (i + 1) _ (by omega) (by omega) (by simpa using hb) ?_)
  ·simp only [laws_toBoolS.l0]
   rw [if_pos (by omega : (i : Int) < (a.length : Int)), if_pos (by omega : (0 : Int) ≤ i), if_pos (by omega : (i : Int) < (b.length : Int)), wrap_up i (by omega), Int.toNat_natCast, rdb_nat]
  ·have := copied_next (g := id) (z := false) (show i < a.length by omega) hb (by simpa using he)
   simpa using this
theorem toBoolS_ev (a : List Bool) (ha : a.length ≤ 281474976710656) : Ev (fun k => laws_toBoolS.f k a) a := by
 refine Ev.congr (f := fun k => laws_toBoolS.l0 k a (List.replicate a.length false) ((0 : Nat) : Int)) (fun k => ?_) (toBoolS_l0 a (by omega) a.length 0 _ (by omega) (by omega) (by simp) (by simp))
 unfold laws_toBoolS.f
 rw [if_pos (by omega), if_pos (by omega)]
 rfl
theorem toInsS_l0 (a : List LI) (ha : a.length ≤ 4611686018427387904) (d : Nat) : ∀ (i : Nat) (b : List II), a.length - i = d → i ≤ a.length → b.length = a.length → b.take i = (a.map cvI).take i →
  Ev (fun k => laws_toInsS.l0 k a b (i : Int)) (a.map cvI) := by
 induction d with
 | zero =>
  intro i b hd hi hb he
  obtain rfl : i = a.length := by omega
  refine Ev.step (f := fun _ => some (a.map cvI)) (fun k => ?_) (Ev.now _)
  simp only [laws_toInsS.l0]; rw [if_neg (by omega), copied_all (a := a.map cvI) (b := b) (by simpa using hb) (by simpa using he)]
 | succ d ih =>
  intro i b hd hi hb he
  have hlt : i < a.length := by omega
  refine Ev.step (f := fun k => laws_toInsS.l0 k a (b.set i (cvI (a.getD i z150))) ((i + 1 : Nat) : Int)) (fun k => ?_) (ih (i + 1) _ (by omega) (by omega) (by simpa using hb) (copied_next (g := cvI) (z := z150) hlt hb he))
  simp only [laws_toInsS.l0]
  rw [if_pos (by omega : (i : Int) < (a.length : Int)), if_pos (by omega : (0 : Int) ≤ i), rdi_nat, wrap_up i (by omega), Int.toNat_natCast]
  unfold laws_toIns.f
  simp only [Option.bind_some]
  rw [if_pos (by omega : (i : Int) < (b.length : Int))]
  rfl
theorem toInsS_ev (a : List LI) (ha : a.length ≤ 1048576) : Ev (fun k => laws_toInsS.f k a) (a.map cvI) := by
 refine Ev.congr (f := fun k => laws_toInsS.l0 k a (List.replicate a.length z71) ((0 : Nat) : Int)) (fun k => ?_) (toInsS_l0 a (by omega) a.length 0 _ (by omega) (by omega) (by simp) (by simp))
 unfold laws_toInsS.f
 rw [if_pos (by omega), if_pos (by omega)]
 rfl
theorem toFunc_ev (p : Int) (fr : List Bool) (code : List LI) (h1 : fr.length ≤ 1048576) (h2 : code.length ≤ 1048576) : Ev (fun k => laws_toFunc.f k p fr code) (p, fr, code.map cvI) := by
 unfold laws_toFunc.f
 refine Ev.bind (toBoolS_ev fr (by omega)) ?_
 refine Ev.bind (toInsS_ev code h2) ?_
 exact Ev.now _
theorem toFuncS_l0 (a : List LF) (ha : a.length ≤ 4611686018427387904) (ht : ∀ x ∈ a, x.f1.length ≤ 1048576 ∧ x.f2.length ≤ 1048576) (d : Nat) : ∀ (i : Nat) (b : List IF), a.length - i = d → i ≤ a.length → b.length = a.length → b.take i = (a.map cvF).take i →
  Ev (fun k => laws_toFuncS.l0 k a b (i : Int)) (a.map cvF) := by
 induction d with
 | zero =>
  intro i b hd hi hb he
  obtain rfl : i = a.length := by omega
  refine Ev.step (f := fun _ => some (a.map cvF)) (fun k => ?_) (Ev.now _)
  simp only [laws_toFuncS.l0]; rw [if_neg (by omega), copied_all (a := a.map cvF) (b := b) (by simpa using hb) (by simpa using he)]
 | succ d ih =>
  intro i b hd hi hb he
  have hlt : i < a.length := by omega
  obtain ⟨t1, t2⟩ := ht _ (getD_in (z := z110) hlt)
  refine Ev.step (f := fun k => (laws_toFunc.f k (a.getD i z110).f0 (a.getD i z110).f1 (a.getD i z110).f2).bind fun t => laws_toFuncS.l0 k a (b.set i ⟨t.1, t.2.1, t.2.2⟩) ((i + 1 : Nat) : Int)) (fun k => ?_) ?_
  ·simp only [laws_toFuncS.l0]
   rw [if_pos (by omega : (i : Int) < (a.length : Int)), if_pos (by omega : (0 : Int) ≤ i), rdf_nat, wrap_up i (by omega), Int.toNat_natCast]
   congr 1
   funext t
   rw [if_pos (by omega : (i : Int) < (b.length : Int))]
  ·refine Ev.bind (toFunc_ev _ _ _ t1 t2) ?_
   exact ih (i + 1) _ (by omega) (by omega) (by simpa using hb) (copied_next (g := cvF) (z := z110) hlt hb he)
theorem toFuncS_ev (a : List LF) (ha : a.length ≤ 1048576) (ht : ∀ x ∈ a, x.f1.length ≤ 1048576 ∧ x.f2.length ≤ 1048576) : Ev (fun k => laws_toFuncS.f k a) (a.map cvF) := by
 refine Ev.congr (f := fun k => laws_toFuncS.l0 k a (List.replicate a.length z68) ((0 : Nat) : Int)) (fun k => ?_) (toFuncS_l0 a (by omega) ht a.length 0 _ (by omega) (by omega) (by simp) (by simp))
 unfold laws_toFuncS.f
 rw [if_pos (by omega), if_pos (by omega)]
 rfl
/-- What is known of a module that passed szModule. -/
structure Small (cs : List (List LD)) (fs : List LF) : Prop where
 clen : cs.length ≤ 1048576
 con : ∀ l ∈ cs, l.length ≤ 1048576 ∧ ∀ x ∈ l, x.f2.length ≤ 1048576
 flen : fs.length ≤ 1048576
 fun_ : ∀ x ∈ fs, x.f1.length ≤ 1048576 ∧ x.f2.length ≤ 1048576
theorem toModule_ev {cs : List (List LD)} {fs : List LF} (h : Small cs fs) (g : Int) : Ev (fun k => laws_toModule.f k cs g fs) (cs.map cvC, g, fs.map cvF) := by
 unfold laws_toModule.f
 refine Ev.bind (toDatumSS_ev cs h.clen h.con) ?_
 refine Ev.bind (toFuncS_ev fs h.flen h.fun_) ?_
 exact Ev.now _
/-! ### a module equals itself -/
theorem eqDatumSS_l0 (a : List (List ID)) (ha : a.length ≤ 1048576) (ht : ∀ l ∈ a, l.length ≤ 1048576 ∧ ∀ x ∈ l, x.f2.length ≤ 1048576) (d : Nat) : ∀ i : Nat, a.length - i = d → i ≤ a.length → Ev (fun k => laws_eqDatumSS.l0 k a a (i : Int)) true := by
 induction d with
 | zero =>
  intro i hd hi
  refine Ev.step (f := fun _ => some true) (fun k => ?_) (Ev.now _)
  simp only [laws_eqDatumSS.l0]; rw [if_neg (by omega)]
 | succ d ih =>
  intro i hd hi
  have hlt : i < a.length := by omega
  obtain ⟨t1, t2⟩ := ht _ (getD_in (z := []) hlt)
  refine Ev.step (f := fun k => (laws_eqDatumS.f k (a.getD i []) (a.getD i [])).bind fun t => if t = true then laws_eqDatumSS.l0 k a a ((i + 1 : Nat) : Int) else some false) (fun k => ?_) ?_
  ·have h1 : (i : Int) < (a.length : Int) := by omega
   simp only [laws_eqDatumSS.l0]
   rw [if_pos h1, if_pos (by omega : (0 : Int) ≤ i), if_pos h1, wrap_up i (by omega), rdd_nat]
  ·refine Ev.bind (eqDatumS_refl _ (by omega) (fun x hx => by have := t2 x hx; omega)) ?_
   simp only [if_true]
   exact ih (i + 1) (by omega) (by omega)
theorem eqDatumSS_refl (a : List (List ID)) (ha : a.length ≤ 1048576) (ht : ∀ l ∈ a, l.length ≤ 1048576 ∧ ∀ x ∈ l, x.f2.length ≤ 1048576) : Ev (fun k => laws_eqDatumSS.f k a a) true := by
 refine Ev.congr (f := fun k => laws_eqDatumSS.l0 k a a ((0 : Nat) : Int)) (fun k => ?_) (eqDatumSS_l0 a ha ht a.length 0 (by omega) (by omega))
 unfold laws_eqDatumSS.f
 rw [if_pos rfl]
 rfl
theorem eqBoolS_l0 (a : List Bool) (ha : a.length ≤ 4611686018427387904) (d : Nat) : ∀ i : Nat, a.length - i = d → i ≤ a.length → Ev (fun k => laws_eqBoolS.l0 k a a (i : Int)) true := by
 induction d with
 | zero =>
  intro i hd hi
  refine Ev.step (f := fun _ => some true) (fun k => ?_) (Ev.now _)
  simp only [laws_eqBoolS.l0]; rw [if_neg (by omega)]
 | succ d ih =>
  intro i hd hi
  refine Ev.step (f := fun k => laws_eqBoolS.l0 k a a ((i + 1 : Nat) : Int)) (fun k => ?_) (ih (i + 1) (by omega) (by omega))
  have h1 : (i : Int) < (a.length : Int) := by omega
  simp only [laws_eqBoolS.l0]
  rw [if_pos h1, if_pos (by omega : (0 : Int) ≤ i), if_pos h1, wrap_up i (by omega)]
  simp
theorem eqBoolS_refl (a : List Bool) (ha : a.length ≤ 4611686018427387904) : Ev (fun k => laws_eqBoolS.f k a a) true := by
 refine Ev.congr (f := fun k => laws_eqBoolS.l0 k a a ((0 : Nat) : Int)) (fun k => ?_) (eqBoolS_l0 a ha a.length 0 (by omega) (by omega))
 unfold laws_eqBoolS.f
 rw [if_pos rfl]
 rfl
theorem eqInsS_l0 (a : List II) (ha : a.length ≤ 4611686018427387904) (d : Nat) : ∀ i : Nat, a.length - i = d → i ≤ a.length → Ev (fun k => laws_eqInsS.l0 k a a (i : Int)) true := by
 induction d with
 | zero =>
  intro i hd hi
  refine Ev.step (f := fun _ => some true) (fun k => ?_) (Ev.now _)
  simp only [laws_eqInsS.l0]; rw [if_neg (by omega)]
 | succ d ih =>
  intro i hd hi
  refine Ev.step (f := fun k => laws_eqInsS.l0 k a a ((i + 1 : Nat) : Int)) (fun k => ?_) (ih (i + 1) (by omega) (by omega))
  have h1 : (i : Int) < (a.length : Int) := by omega
  simp only [laws_eqInsS.l0]
  rw [if_pos h1, if_pos (by omega : (0 : Int) ≤ i), if_pos h1, wrap_up i (by omega)]
  unfold laws_eqIns.f
  simp only [if_true, Option.bind_some]
theorem eqInsS_refl (a : List II) (ha : a.length ≤ 4611686018427387904) : Ev (fun k => laws_eqInsS.f k a a) true := by
 refine Ev.congr (f := fun k => laws_eqInsS.l0 k a a ((0 : Nat) : Int)) (fun k => ?_) (eqInsS_l0 a ha a.length 0 (by omega) (by omega))
 unfold laws_eqInsS.f
 rw [if_pos rfl]
 rfl
theorem eqFunc_refl (p : Int) (fr : List Bool) (code : List II) (h1 : fr.length ≤ 1048576) (h2 : code.length ≤ 1048576) : Ev (fun k => laws_eqFunc.f k p fr code p fr code) true := by
 unfold laws_eqFunc.f
 simp only [if_true]
 refine Ev.bind (eqBoolS_refl fr (by omega)) ?_
 simp only [if_true]
 refine Ev.bind (eqInsS_refl code (by omega)) ?_
 simp only [if_true]
 exact Ev.now _
theorem eqFuncS_l0 (a : List IF) (ha : a.length ≤ 1048576) (ht : ∀ x ∈ a, x.f1.length ≤ 1048576 ∧ x.f2.length ≤ 1048576) (d : Nat) : ∀ i : Nat, a.length - i = d → i ≤ a.length → Ev (fun k => laws_eqFuncS.l0 k a a (i : Int)) true := by
 induction d with
 | zero =>
  intro i hd hi
  refine Ev.step (f := fun _ => some true) (fun k => ?_) (Ev.now _)
  simp only [laws_eqFuncS.l0]; rw [if_neg (by omega)]
 | succ d ih =>
  intro i hd hi
  have hlt : i < a.length := by omega
  obtain ⟨t1, t2⟩ := ht _ (getD_in (z := z68) hlt)
  obtain ⟨x, hx⟩ : ∃ x, a.getD i z68 = x := ⟨_, rfl⟩
  rw [hx] at t1 t2
  refine Ev.step (f := fun k => (laws_eqFunc.f k x.f0 x.f1 x.f2 x.f0 x.f1 x.f2).bind fun t => if t = true then laws_eqFuncS.l0 k a a ((i + 1 : Nat) : Int) else some false) (fun k => ?_) ?_
  ·have h1 : (i : Int) < (a.length : Int) := by omega
   simp only [laws_eqFuncS.l0]
   rw [if_pos h1, if_pos (by omega : (0 : Int) ≤ i), if_pos h1, wrap_up i (by omega), rdg_nat, hx]
  ·refine Ev.bind (eqFunc_refl _ _ _ t1 t2) ?_
   simp only [if_true]
   exact ih (i + 1) (by omega) (by omega)
theorem eqFuncS_refl (a : List IF) (ha : a.length ≤ 1048576) (ht : ∀ x ∈ a, x.f1.length ≤ 1048576 ∧ x.f2.length ≤ 1048576) : Ev (fun k => laws_eqFuncS.f k a a) true := by
 refine Ev.congr (f := fun k => laws_eqFuncS.l0 k a a ((0 : Nat) : Int)) (fun k => ?_) (eqFuncS_l0 a ha ht a.length 0 (by omega) (by omega))
 unfold laws_eqFuncS.f
 rw [if_pos rfl]
 rfl
theorem eqModule_refl {cs : List (List LD)} {fs : List LF} (h : Small cs fs) (g : Int) : Ev (fun k => laws_eqModule.f k (cs.map cvC) g (fs.map cvF) (cs.map cvC) g (fs.map cvF)) true := by
 unfold laws_eqModule.f
 refine Ev.bind (eqDatumSS_refl _ (by simpa using h.clen) (fun l hl => ?_)) ?_
 ·obtain ⟨c, hc, rfl⟩ := List.mem_map.1 hl
  obtain ⟨h1, h2⟩ := h.con c hc
  refine ⟨by simpa [cvC] using h1, fun x hx => ?_⟩
  obtain ⟨y, hy, rfl⟩ := List.mem_map.1 hx
  exact h2 y hy
 simp only [if_true]
 refine Ev.bind (eqFuncS_refl _ (by simpa using h.flen) (fun x hx => ?_)) ?_
 ·obtain ⟨y, hy, rfl⟩ := List.mem_map.1 hx
  obtain ⟨h1, h2⟩ := h.fun_ y hy
  exact ⟨h1, by simpa [cvF] using h2⟩
 simp only [if_true]
 exact Ev.now _
/-! ### sizes -/
theorem szDatumSS_l0 (a : List (List LD)) (ha : a.length ≤ 1048576) (ht : ∀ l ∈ a, l.length ≤ 9223372036854775807 ∧ ∀ x ∈ l, x.f2.length ≤ 9223372036854775807) (d : Nat) : ∀ (i : Nat) (left : Int), a.length - i = d → i ≤ a.length → 0 ≤ left → left ≤ 1048576 →
  ∃ r : Int, Ev (fun k => laws_szDatumSS.l0 k a left (i : Int)) r ∧ (r < 0 ∨ r ≤ left ∧ ∀ j, i ≤ j → j < a.length → (a.getD j []).length ≤ 1048576 ∧ ∀ x ∈ a.getD j [], x.f2.length ≤ 1048576) := by
 induction d with
 | zero =>
  intro i left hd hi h0 h1
  refine ⟨left, Ev.step (f := fun _ => some left) (fun k => ?_) (Ev.now _), .inr ⟨Int.le_refl _, fun j hj hl => by omega⟩⟩
  simp only [laws_szDatumSS.l0]; rw [if_neg (by omega)]
 | succ d ih =>
  intro i left hd hi h0 h1
  have hlt : i < a.length := by omega
  obtain ⟨t1, t2⟩ := ht _ (getD_in (z := []) hlt)
  obtain ⟨s, hs, hs2⟩ := szDatumS_ev _ t1 t2 left h0 h1
  have hgo : ∀ k, laws_szDatumSS.l0 (k + 1) a left (i : Int) = (laws_szDatumS.f k (a.getD i []) left).bind fun t => if t < 0 then some (-1) else laws_szDatumSS.l0 k a t ((i + 1 : Nat) : Int) := by
   intro k
   simp only [laws_szDatumSS.l0]
   rw [if_pos (by omega : (i : Int) < (a.length : Int)), if_pos (by omega : (0 : Int) ≤ i), rdc_nat, wrap_up i (by omega)]
  by_cases hn : s < 0
  ·refine ⟨-1, Ev.step hgo (Ev.bind hs ?_), .inl (by omega)⟩
   simp only [if_pos hn]
   exact Ev.now _
  ·obtain ⟨s1, s2, s3⟩ : s ≤ left ∧ (a.getD i []).length ≤ 1048576 ∧ ∀ x ∈ a.getD i [], x.f2.length ≤ 1048576 := by
    rcases hs2 with h | h
    ·omega
    ·exact h
   obtain ⟨r, hr, hr2⟩ := ih (i + 1) s (by omega) (by omega) (by omega) (by omega)
   refine ⟨r, Ev.step hgo (Ev.bind hs ?_), ?_⟩
   ·simp only [if_neg hn]
    exact hr
   ·rcases hr2 with hr2 | ⟨hr2, hr3⟩
    ·exact .inl hr2
    ·refine .inr ⟨by omega, fun j hj hl => ?_⟩
     by_cases hji : j = i
     ·subst hji; exact ⟨s2, s3⟩
     ·exact hr3 j (by omega) hl
theorem szDatumSS_ev (a : List (List LD)) (ha : a.length ≤ 9223372036854775807) (ht : ∀ l ∈ a, l.length ≤ 9223372036854775807 ∧ ∀ x ∈ l, x.f2.length ≤ 9223372036854775807) (left : Int) (h0 : 0 ≤ left) (h1 : left ≤ 1048576) :
  ∃ r : Int, Ev (fun k => laws_szDatumSS.f k a left) r ∧ (r < 0 ∨ r ≤ left ∧ a.length ≤ 1048576 ∧ ∀ l ∈ a, l.length ≤ 1048576 ∧ ∀ x ∈ l, x.f2.length ≤ 1048576) := by
 have hw : wrap64 (left - (a.length : Int)) = left - (a.length : Int) := by unfold wrap64; omega
 by_cases hn : left - (a.length : Int) < 0
 ·refine ⟨-1, Ev.congr (fun k => ?_) (Ev.now _), .inl (by omega)⟩
  unfold laws_szDatumSS.f
  rw [hw, if_pos hn]
 ·obtain ⟨r, hr, hr2⟩ := szDatumSS_l0 a (by omega) ht a.length 0 (left - a.length) (by omega) (by omega) (by omega) (by omega)
  refine ⟨r, Ev.congr (fun k => ?_) hr, ?_⟩
  ·unfold laws_szDatumSS.f
   rw [hw, if_neg hn]
   rfl
  ·rcases hr2 with hr2 | ⟨hr2, hr3⟩
   ·exact .inl hr2
   ·refine .inr ⟨by omega, by omega, fun x hx => ?_⟩
    obtain ⟨j, hj, rfl⟩ := List.mem_iff_getElem.1 hx
    have := hr3 j (by omega) hj
    rwa [List.getD_eq_getElem?_getD, List.getElem?_eq_getElem hj] at this
theorem szFunc_ev (p : Int) (fr : List Bool) (code : List LI) (h1 : fr.length ≤ 9223372036854775807) (h2 : code.length ≤ 9223372036854775807) (left : Int) (l0 : 0 ≤ left) (l1 : left ≤ 1048576) :
  ∃ r : Int, laws_szFunc.f p fr code left = some r ∧ (r < 0 ∨ r ≤ left ∧ fr.length ≤ 1048576 ∧ code.length ≤ 1048576) := by
 have hw : wrap64 (left - (fr.length : Int)) = left - (fr.length : Int) := by unfold wrap64; omega
 unfold laws_szFunc.f laws_szBoolS.f laws_szInsS.f
 rw [hw]
 by_cases hn : left - (fr.length : Int) < 0
 ·rw [if_pos hn]
  exact ⟨-1, by rfl, .inl (by omega)⟩
 ·rw [if_neg hn]
  simp only [Option.bind_some]
  rw [if_neg hn]
  have hw2 : wrap64 (left - (fr.length : Int) - (code.length : Int)) = left - (fr.length : Int) - (code.length : Int) := by unfold wrap64; omega
  rw [hw2]
  by_cases hm : left - (fr.length : Int) - (code.length : Int) < 0
  ·rw [if_pos hm]
   exact ⟨-1, by rfl, .inl (by omega)⟩
  ·rw [if_neg hm]
   simp only [Option.bind_some]
   rw [if_neg hm]
   exact ⟨_, rfl, .inr ⟨by omega, by omega, by omega⟩⟩
theorem szFuncS_l0 (a : List LF) (ha : a.length ≤ 1048576) (ht : ∀ x ∈ a, x.f1.length ≤ 9223372036854775807 ∧ x.f2.length ≤ 9223372036854775807) (d : Nat) : ∀ (i : Nat) (left : Int), a.length - i = d → i ≤ a.length → 0 ≤ left → left ≤ 1048576 →
  ∃ r : Int, Ev (fun k => laws_szFuncS.l0 k a left (i : Int)) r ∧ (r < 0 ∨ r ≤ left ∧ ∀ j, i ≤ j → j < a.length → (a.getD j z110).f1.length ≤ 1048576 ∧ (a.getD j z110).f2.length ≤ 1048576) := by
 induction d with
 | zero =>
  intro i left hd hi h0 h1
  refine ⟨left, Ev.step (f := fun _ => some left) (fun k => ?_) (Ev.now _), .inr ⟨Int.le_refl _, fun j hj hl => by omega⟩⟩
  simp only [laws_szFuncS.l0]; rw [if_neg (by omega)]
 | succ d ih =>
  intro i left hd hi h0 h1
  have hlt : i < a.length := by omega
  obtain ⟨t1, t2⟩ := ht _ (getD_in (z := z110) hlt)
  obtain ⟨s, hs, hs2⟩ := szFunc_ev (a.getD i z110).f0 _ _ t1 t2 left h0 h1
  have hgo : ∀ k, laws_szFuncS.l0 (k + 1) a left (i : Int) = if s < 0 then some (-1) else laws_szFuncS.l0 k a s ((i + 1 : Nat) : Int) := by
   intro k
   simp only [laws_szFuncS.l0]
   rw [if_pos (by omega : (i : Int) < (a.length : Int)), if_pos (by omega : (0 : Int) ≤ i), rdf_nat, wrap_up i (by omega), hs]
   rfl
  by_cases hn : s < 0
  ·exact ⟨-1, Ev.step (f := fun _ => some (-1)) (fun k => by rw [hgo, if_pos hn]) (Ev.now _), .inl (by omega)⟩
  ·obtain ⟨s1, s2, s3⟩ : s ≤ left ∧ (a.getD i z110).f1.length ≤ 1048576 ∧ (a.getD i z110).f2.length ≤ 1048576 := by
    rcases hs2 with h | h
    ·omega
    ·exact h
   obtain ⟨r, hr, hr2⟩ := ih (i + 1) s (by omega) (by omega) (by omega) (by omega)
   refine ⟨r, Ev.step (fun k => by rw [hgo, if_neg hn]) hr, ?_⟩
   rcases hr2 with hr2 | ⟨hr2, hr3⟩
   ·exact .inl hr2
   ·refine .inr ⟨by omega, fun j hj hl => ?_⟩
    by_cases hji : j = i
    ·subst hji; exact ⟨s2, s3⟩
    ·exact hr3 j (by omega) hl
theorem szFuncS_ev (a : List LF) (ha : a.length ≤ 9223372036854775807) (ht : ∀ x ∈ a, x.f1.length ≤ 9223372036854775807 ∧ x.f2.length ≤ 9223372036854775807) (left : Int) (h0 : 0 ≤ left) (h1 : left ≤ 1048576) :
  ∃ r : Int, Ev (fun k => laws_szFuncS.f k a left) r ∧ (r < 0 ∨ r ≤ left ∧ a.length ≤ 1048576 ∧ ∀ x ∈ a, x.f1.length ≤ 1048576 ∧ x.f2.length ≤ 1048576) := by
 have hw : wrap64 (left - (a.length : Int)) = left - (a.length : Int) := by unfold wrap64; omega
 by_cases hn : left - (a.length : Int) < 0
 ·refine ⟨-1, Ev.congr (fun k => ?_) (Ev.now _), .inl (by omega)⟩
  unfold laws_szFuncS.f
  rw [hw, if_pos hn]
 ·obtain ⟨r, hr, hr2⟩ := szFuncS_l0 a (by omega) ht a.length 0 (left - a.length) (by omega) (by omega) (by omega) (by omega)
  refine ⟨r, Ev.congr (fun k => ?_) hr, ?_⟩
  ·unfold laws_szFuncS.f
   rw [hw, if_neg hn]
   rfl
  ·rcases hr2 with hr2 | ⟨hr2, hr3⟩
   ·exact .inl hr2
   ·refine .inr ⟨by omega, by omega, fun x hx => ?_⟩
    obtain ⟨j, hj, rfl⟩ := List.mem_iff_getElem.1 hx
    have := hr3 j (by omega) hj
    rwa [List.getD_eq_getElem?_getD, List.getElem?_eq_getElem hj] at this
theorem szModule_ev (cs : List (List LD)) (g : Int) (fs : List LF) (hc : cs.length ≤ 9223372036854775807) (hcx : ∀ l ∈ cs, l.length ≤ 9223372036854775807 ∧ ∀ x ∈ l, x.f2.length ≤ 9223372036854775807) (hf : fs.length ≤ 9223372036854775807) (hfx : ∀ x ∈ fs, x.f1.length ≤ 9223372036854775807 ∧ x.f2.length ≤ 9223372036854775807) :
  ∃ r : Int, Ev (fun k => laws_szModule.f k cs g fs 1048576) r ∧ (r < 0 ∨ Small cs fs) := by
 obtain ⟨s, hs, hs2⟩ := szDatumSS_ev cs hc hcx 1048576 (by omega) (by omega)
 unfold laws_szModule.f
 by_cases hn : s < 0
 ·refine ⟨-1, Ev.bind hs ?_, .inl (by omega)⟩
  simp only [if_pos hn]
  exact Ev.now _
 ·obtain ⟨s1, s2, s3⟩ : s ≤ 1048576 ∧ cs.length ≤ 1048576 ∧ ∀ l ∈ cs, l.length ≤ 1048576 ∧ ∀ x ∈ l, x.f2.length ≤ 1048576 := by
   rcases hs2 with h | h
   ·omega
   ·exact h
  obtain ⟨t, ht, ht2⟩ := szFuncS_ev fs hf hfx s (by omega) s1
  by_cases hm : t < 0
  ·refine ⟨-1, Ev.bind hs ?_, .inl (by omega)⟩
   simp only [if_neg hn]
   refine Ev.bind ht ?_
   simp only [if_pos hm]
   exact Ev.now _
  ·refine ⟨t, Ev.bind hs ?_, .inr ?_⟩
   ·simp only [if_neg hn]
    refine Ev.bind ht ?_
    simp only [if_neg hm]
    exact Ev.now _
   ·rcases ht2 with h | ⟨_, h1, h2⟩
    ·omega
    ·exact ⟨s2, s3, h1, h2⟩
end Go.Proofs.YtogmphjhdkgdjaaDoor.HelpVM
