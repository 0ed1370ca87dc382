/- What the program's functions on modules (oneDatum, within, ValidModule) come to: validM. -/
import Derived.Test.YtogmphjhdkgdjaaDoorZQFnExactValidModulex10
import Derived.Test.YtogmphjhdkgdjaaDoorZImplVM
import Derived.Test.YtogmphjhdkgdjaaDoorZSpecMM
namespace Go.Proofs.YtogmphjhdkgdjaaDoor.ImplMM
open Go.RowKit Go.Lib Go.Proofs.YtogmphjhdkgdjaaDoor.QFnExactValidModule Go.Proofs.YtogmphjhdkgdjaaDoorW.PrintWords Go.Proofs.YtogmphjhdkgdjaaDoorW.PrintLast
open Go.Proofs.YtogmphjhdkgdjaaDoor.SpecVM (toD Byt wrap_up rd_nat drop_cons Fits rdT_nat mem_getD drop_map)
open Go.Proofs.YtogmphjhdkgdjaaDoor.SpecMM (insP funP conP FitsM rdL_nat conP_drop funs_drop rd8_nat rd1_nat rows_cnt good_cnt0)
set_option linter.unusedVariables false
set_option linter.unusedSimpArgs false
theorem scan_l0 {l : List S57} (hl : l.length ≤ 1048576) (hc : ∀ x ∈ l, 0 ≤ x.f3 ∧ x.f3 ≤ 9223372036854775807) (d : Nat) : ∀ (i n : Nat) (r : List Dat), l.length - i = d → i ≤ l.length → nextN ((l.map toD).drop i) n = some r →
  Ev (fun k => impl_oneDatum.l0 k l (n : Int) l (l.length : Int) (i : Int)) (scanB ((l.map toD).drop i) n) := by
 induction d with
 | zero =>
  intro i n r hd hi hn
  rw [List.drop_eq_nil_of_le (by simp; omega)]
  refine Ev.step (f := fun _ => some ((n : Int) == 0)) (fun k => ?_) ?_
  ·simp only [impl_oneDatum.l0]
   rw [if_neg (by omega)]
  ·have e : ((n : Int) == 0) = scanB [] n := by
    unfold scanB
    rw [Bool.eq_iff_iff]
    simp
    try omega
   rw [e]
   exact Ev.now _
 | succ d ih =>
  intro i n r hd hi hn
  have h : i < l.length := by omega
  have hdm := drop_map l i h
  rw [hdm] at hn ⊢
  simp only [nextN] at hn
  simp only [scanB]
  split at hn
  ·rename_i h0
   rw [if_pos h0]
   refine Ev.step (f := fun _ => some ((i : Int) == (l.length : Int))) (fun k => ?_) ?_
   ·simp only [impl_oneDatum.l0]
    rw [if_pos (by omega), if_pos (by omega), if_pos (by omega), if_pos (by omega)]
   ·have e : ((i : Int) == (l.length : Int)) = false := by
     rw [beq_eq_false_iff_ne]
     omega
    rw [e]
    exact Ev.now _
  ·rename_i h0
   rw [if_neg h0]
   have hlen := nextN_len _ _ _ hn
   simp only [List.length_drop, List.length_map] at hlen
   obtain ⟨c0, c1⟩ := hc _ (mem_getD (z := z57) h)
   have hcc : (toD (l.getD i z57)).c = (l.getD i z57).f3 := rfl
   rw [hcc] at hn hlen ⊢
   refine Ev.step (f := fun k => impl_oneDatum.l0 k l ((n - 1 + (l.getD i z57).f3.toNat : Nat) : Int) l (l.length : Int) ((i + 1 : Nat) : Int)) (fun k => ?_) (ih (i + 1) _ r (by omega) (by omega) hn)
   simp only [impl_oneDatum.l0]
   rw [if_pos (by omega), if_pos (by omega), if_pos (by omega), if_neg (by omega), rdT_nat, wrap_up i (by omega)]
   congr 1
   rw [show wrap64 ((l.getD i z57).f3 - 1) = (l.getD i z57).f3 - 1 by unfold wrap64; omega]
   unfold wrap64
   omega
theorem next_one {l : List Dat} (hr : rowsF l.length l = true) (h0 : l ≠ []) : ∃ r, nextN l 1 = some r := by
 cases l with
 | nil => exact absurd rfl h0
 | cons d l =>
  simp only [List.length_cons, rowsF] at hr
  cases he : endD 100 (d :: l) with
  | none => rw [he] at hr; cases hr
  | some r => exact ⟨r, by rw [show (1 : Nat) = 0 + 1 from rfl, end_next 100 _ _ he 0, nextN_zero]⟩
theorem one_ev {l : List S57} (hl : Fits l) : Ev (fun k => impl_oneDatum.f k l) (oneB (l.map toD)) := by
 have ht : Ev (fun k => impl_oneDatum.j0 k l true) false := Ev.step (f := fun _ => some false) (fun k => by simp only [impl_oneDatum.j0, if_true]) (Ev.now _)
 by_cases h0 : l = []
 ·subst h0
  refine Ev.congr (fun k => ?_) ht
  unfold impl_oneDatum.f
  rw [if_pos (by rfl)]
 ·have hpos : 0 < l.length := List.length_pos_iff.2 h0
  refine Ev.congr (f := fun k => (impl_ValidData.f k l).bind fun t => impl_oneDatum.j0 k l (!t)) (fun k => ?_) ?_
  ·unfold impl_oneDatum.f
   rw [if_neg (by omega)]
  ·refine Ev.bind (ImplVM.valid_ev hl) ?_
   unfold oneB
   cases hv : validD (l.map toD) with
   | false => simpa using ht
   | true =>
    have hr : rowsF (l.map toD).length (l.map toD) = true := by unfold validD at hv; simp only [Bool.and_eq_true] at hv; exact hv.2
    have hn0 : l.map toD ≠ [] := by simpa using h0
    have hc : ∀ x ∈ l, 0 ≤ x.f3 ∧ x.f3 ≤ 9223372036854775807 := fun x hx => ⟨good_cnt0 (rows_cnt _ _ hr (toD x) (List.mem_map.2 ⟨x, hx, rfl⟩)), hl.cnt x hx⟩
    obtain ⟨r, hn⟩ := next_one hr hn0
    have hs := scan_l0 hl.len hc l.length 0 1 r (by omega) (by omega) (by rw [List.drop_zero]; exact hn)
    rw [List.drop_zero, one_scan hr hn0] at hs
    refine Ev.step (f := fun k => impl_oneDatum.l0 k l ((1 : Nat) : Int) l (l.length : Int) ((0 : Nat) : Int)) (fun k => by simp only [impl_oneDatum.j0, Bool.not_true, Bool.false_eq_true, if_false]; rfl) ?_
    simpa using hs
theorem within_ev (a b c : Int) : impl_within.f a b c = some (decide (b ≤ a) && decide (a ≤ c)) := by
 unfold impl_within.f
 by_cases h : a ≥ b
 ·rw [if_pos h, decide_eq_true (show b ≤ a from h), Bool.true_and]
 ·rw [if_neg h, decide_eq_false (show ¬ b ≤ a from h), Bool.false_and]
/-- As the program asks it: the counts of a function, its instructions, the next one. -/
def stepsB (nc : Nat) (g : Int) (fs : List FunP) : Nat → List FunP → Bool
 | _, [] => true
 | acc, f :: r => decide (0 ≤ f.p) && decide (f.p ≤ 20) && decide (f.free.length ≤ 50) && decide (1 ≤ f.code.length) && decide (acc + f.code.length ≤ 5000) && (codeB nc g fs f && stepsB nc g fs (acc + f.code.length) r)
theorem steps_all (nc : Nat) (g : Int) (fs : List FunP) : ∀ (l : List FunP) (acc : Nat), stepsB nc g fs acc l = (funcsB acc l && l.all (codeB nc g fs))
 | [], acc => rfl
 | f :: l, acc => by
  simp only [stepsB, funcsB, List.all_cons]
  rw [steps_all nc g fs l]
  generalize (decide (0 ≤ f.p) && decide (f.p ≤ 20) && decide (f.free.length ≤ 50) && decide (1 ≤ f.code.length) && decide (acc + f.code.length ≤ 5000)) = a
  cases a <;> cases codeB nc g fs f <;> cases funcsB (acc + f.code.length) l <;> rfl
section
variable {cs : List (List S57)} {g : Int} {fs : List S68} (hM : FitsM cs fs)
include hM
/-- The instructions of one function, then the next one. -/
theorem code_l2 (a : Int) (R : Bool) (i : Nat) (hi : i < fs.length) (hR : Ev (fun k => impl_ValidModule.l1 k a fs (fs.length : Int) ((i + 1 : Nat) : Int) cs g fs) R) (d : Nat) : ∀ (j : Nat), (fs.getD i z68).f2.length - j = d → j ≤ (fs.getD i z68).f2.length →
  Ev (fun k => impl_ValidModule.l2 k a fs (fs.length : Int) (i : Int) (fs.getD i z68).f2 ((fs.getD i z68).f2.length : Int) (j : Int) cs g fs (fs.getD i z68).f0 (fs.getD i z68).f1 (fs.getD i z68).f2) ((((funP (fs.getD i z68)).code.drop j).all (insOkB (conP cs).length g (fs.map funP) (funP (fs.getD i z68)))) && R) := by
 have hf := hM.fun_ _ (mem_getD (z := z68) hi)
 have hfl := hM.flen
 obtain ⟨f, hfe⟩ : ∃ f, fs.getD i z68 = f := ⟨_, rfl⟩
 rw [hfe] at hf ⊢
 induction d with
 | zero =>
  intro j hd hj
  rw [List.drop_eq_nil_of_le (by simp [funP]; omega), List.all_nil, Bool.true_and]
  refine Ev.step (fun k => ?_) hR
  simp only [impl_ValidModule.l2]
  rw [if_neg (by omega), wrap_up i (by omega)]
 | succ d ih =>
  intro j hd hj
  have hlt : j < f.f2.length := by omega
  have hdr : (funP f).code.drop j = insP (f.f2.getD j z71) :: (funP f).code.drop (j + 1) := by
   show (f.f2.map insP).drop j = insP (f.f2.getD j z71) :: (f.f2.map insP).drop (j + 1)
   rw [← List.map_drop, drop_cons f.f2 j z71 hlt, List.map_cons, List.map_drop]
  have hb : insOkB (conP cs).length g (fs.map funP) (funP f) (insP (f.f2.getD j z71)) = insW cs.length fs.length f.f1.length f.f2.length ((rd_T68 fs (f.f2.getD j z71).f1).f1.length : Int) g (f.f2.getD j z71).f0 (f.f2.getD j z71).f1 (f.f2.getD j z71).f2 := by
   unfold insOkB freeOf
   have e : ((fs.map funP).getD (f.f2.getD j z71).f1.toNat ⟨0, [], []⟩).free.length = (rd_T68 fs (f.f2.getD j z71).f1).f1.length := by
    show _ = (fs.getD (f.f2.getD j z71).f1.toNat z68).f1.length
    rw [List.getD_eq_getElem?_getD, List.getD_eq_getElem?_getD (l := fs), List.getElem?_map]
    cases fs[(f.f2.getD j z71).f1.toNat]? <;> rfl
   show insW (conP cs).length (fs.map funP).length f.f1.length (f.f2.map insP).length (((fs.map funP).getD (f.f2.getD j z71).f1.toNat ⟨0, [], []⟩).free.length : Int) g _ _ _ = _
   rw [e, List.length_map, List.length_map]
   unfold conP
   rw [List.length_map]
   rfl
  rw [hdr, List.all_cons, hb]
  refine Ev.step (f := fun k => (impl_Module_insOk.f cs g fs f.f0 f.f1 f.f2 (f.f2.getD j z71).f0 (f.f2.getD j z71).f1 (f.f2.getD j z71).f2).bind fun t => if t = true then impl_ValidModule.l2 k a fs (fs.length : Int) (i : Int) f.f2 (f.f2.length : Int) ((j + 1 : Nat) : Int) cs g fs f.f0 f.f1 f.f2 else some false) (fun k => ?_) ?_
  ·simp only [impl_ValidModule.l2]
   rw [if_pos (by omega), if_pos (by omega), if_pos (by omega), rd1_nat, wrap_up j (by omega)]
  ·unfold impl_Module_insOk.f
   simp only [Option.bind_some]
   cases insW cs.length fs.length f.f1.length f.f2.length ((rd_T68 fs (f.f2.getD j z71).f1).f1.length : Int) g (f.f2.getD j z71).f0 (f.f2.getD j z71).f1 (f.f2.getD j z71).f2 with
   | true => simpa using ih (j + 1) (by omega) (by omega)
   | false => simpa using Ev.now false
theorem funs_l1 (d : Nat) : ∀ i acc : Nat, fs.length - i = d → i ≤ fs.length → acc ≤ 5000 →
  Ev (fun k => impl_ValidModule.l1 k (acc : Int) fs (fs.length : Int) (i : Int) cs g fs) (stepsB (conP cs).length g (fs.map funP) acc ((fs.map funP).drop i)) := by
 have hfl := hM.flen
 induction d with
 | zero =>
  intro i acc hd hi hacc
  rw [List.drop_eq_nil_of_le (by simp; omega)]
  refine Ev.step (f := fun _ => some true) (fun k => ?_) (Ev.now _)
  simp only [impl_ValidModule.l1]
  rw [if_neg (by omega)]
 | succ d ih =>
  intro i acc hd hi hacc
  have hlt : i < fs.length := by omega
  have hf := hM.fun_ _ (mem_getD (z := z68) hlt)
  have hcode := fun R (hR : Ev (fun k => impl_ValidModule.l1 k ((acc + (fs.getD i z68).f2.length : Nat) : Int) fs (fs.length : Int) ((i + 1 : Nat) : Int) cs g fs) R) => code_l2 hM ((acc + (fs.getD i z68).f2.length : Nat) : Int) R i hlt hR _ 0 rfl (by omega)
  rw [funs_drop fs i hlt]
  obtain ⟨f, hfe⟩ : ∃ f, fs.getD i z68 = f := ⟨_, rfl⟩
  rw [hfe] at hf hcode ⊢
  have el : (funP f).code.length = f.f2.length := by simp [funP]
  simp only [stepsB]
  rw [el, show (funP f).p = f.f0 from rfl, show (funP f).free = f.f1 from rfl]
  have hj : ∀ b : Bool, ∀ R, (b = false → Ev (fun k => impl_ValidModule.l2 k ((acc + f.f2.length : Nat) : Int) fs (fs.length : Int) (i : Int) f.f2 (f.f2.length : Int) ((0 : Nat) : Int) cs g fs f.f0 f.f1 f.f2) R) → Ev (fun k => impl_ValidModule.j3 k ((acc + f.f2.length : Nat) : Int) fs (fs.length : Int) (i : Int) b cs g fs f.f0 f.f1 f.f2) (!b && R) := by
   intro b R hR
   cases b with
   | true => exact Ev.step (f := fun _ => some false) (fun k => by simp only [impl_ValidModule.j3, if_true]) (Ev.now _)
   | false => exact Ev.step (f := fun k => impl_ValidModule.l2 k ((acc + f.f2.length : Nat) : Int) fs (fs.length : Int) (i : Int) f.f2 (f.f2.length : Int) ((0 : Nat) : Int) cs g fs f.f0 f.f1 f.f2) (fun k => by simp only [impl_ValidModule.j3, Bool.false_eq_true, if_false]; rfl) (by simpa using hR rfl)
  have hgo : ∀ k, impl_ValidModule.l1 (k + 1) (acc : Int) fs (fs.length : Int) (i : Int) cs g fs = if ((acc + f.f2.length : Nat) : Int) > 5000 then impl_ValidModule.j3 k ((acc + f.f2.length : Nat) : Int) fs (fs.length : Int) (i : Int) true cs g fs f.f0 f.f1 f.f2 else if (decide (0 ≤ f.f0) && decide (f.f0 ≤ 20)) = true then (if (f.f1.length : Int) > 50 then impl_ValidModule.j3 k ((acc + f.f2.length : Nat) : Int) fs (fs.length : Int) (i : Int) true cs g fs f.f0 f.f1 f.f2 else impl_ValidModule.j3 k ((acc + f.f2.length : Nat) : Int) fs (fs.length : Int) (i : Int) ((f.f2.length : Int) == 0) cs g fs f.f0 f.f1 f.f2) else impl_ValidModule.j3 k ((acc + f.f2.length : Nat) : Int) fs (fs.length : Int) (i : Int) true cs g fs f.f0 f.f1 f.f2 := by
   intro k
   simp only [impl_ValidModule.l1]
   rw [if_pos (by omega), if_pos (by omega), if_pos (by omega), rd8_nat, hfe, show wrap64 ((acc : Int) + (f.f2.length : Int)) = ((acc + f.f2.length : Nat) : Int) by unfold wrap64; omega, within_ev]
   simp only [Option.bind_some]
  have htrue : Ev (fun k => impl_ValidModule.j3 k ((acc + f.f2.length : Nat) : Int) fs (fs.length : Int) (i : Int) true cs g fs f.f0 f.f1 f.f2) false := hj true false (fun h => by cases h)
  by_cases c5 : ((acc + f.f2.length : Nat) : Int) > 5000
  ·rw [decide_eq_false (show ¬ acc + f.f2.length ≤ 5000 by omega), Bool.and_false, Bool.false_and]
   exact Ev.step (fun k => by rw [hgo, if_pos c5]) htrue
  rw [decide_eq_true (show acc + f.f2.length ≤ 5000 by omega), Bool.and_true]
  cases c1 : (decide (0 ≤ f.f0) && decide (f.f0 ≤ 20)) with
  | false =>
   rw [Bool.false_and, Bool.false_and, Bool.false_and]
   exact Ev.step (fun k => by rw [hgo, if_neg c5, c1, if_neg (by decide)]) htrue
  | true =>
   rw [Bool.true_and]
   by_cases c3 : (f.f1.length : Int) > 50
   ·rw [decide_eq_false (show ¬ f.f1.length ≤ 50 by omega), Bool.false_and, Bool.false_and]
    exact Ev.step (fun k => by rw [hgo, if_neg c5, c1, if_pos rfl, if_pos c3]) htrue
   rw [decide_eq_true (show f.f1.length ≤ 50 by omega), Bool.true_and]
   refine Ev.step (f := fun k => impl_ValidModule.j3 k ((acc + f.f2.length : Nat) : Int) fs (fs.length : Int) (i : Int) ((f.f2.length : Int) == 0) cs g fs f.f0 f.f1 f.f2) (fun k => by rw [hgo, if_neg c5, c1, if_pos rfl, if_neg c3]) ?_
   have e : decide (1 ≤ f.f2.length) = !((f.f2.length : Int) == 0) := by
    generalize f.f2.length = n
    cases n with
    | zero => rfl
    | succ n => rw [show (((n + 1 : Nat) : Int) == 0) = false by rw [beq_eq_false_iff_ne]; omega]; simp
   rw [e]
   refine hj _ _ (fun _ => ?_)
   exact hcode _ (ih (i + 1) (acc + f.f2.length) (by omega) (by omega) (by omega))
theorem cons_l0 (R : Bool) (hR : Ev (fun k => impl_ValidModule.l1 k 0 fs (fs.length : Int) 0 cs g fs) R) (d : Nat) : ∀ i acc : Nat, cs.length - i = d → i ≤ cs.length → acc ≤ 3000 → Ev (fun k => impl_ValidModule.l0 k (acc : Int) cs (cs.length : Int) (i : Int) cs g fs) (constsB acc ((conP cs).drop i) && R) := by
 have hcl := hM.clen
 induction d with
 | zero =>
  intro i acc hd hi hacc
  rw [List.drop_eq_nil_of_le (by simp [conP]; omega)]
  simp only [constsB, Bool.true_and]
  refine Ev.step (fun k => ?_) hR
  simp only [impl_ValidModule.l0]
  rw [if_neg (by omega)]
 | succ d ih =>
  intro i acc hd hi hacc
  have hlt : i < cs.length := by omega
  have hc := hM.con _ (mem_getD (z := []) hlt)
  rw [conP_drop cs i hlt]
  obtain ⟨c, hce⟩ : ∃ c, cs.getD i [] = c := ⟨_, rfl⟩
  rw [hce] at hc ⊢
  have hcl2 := hc.len
  simp only [constsB]
  rw [List.length_map]
  have hgo : ∀ k, impl_ValidModule.l0 (k + 1) (acc : Int) cs (cs.length : Int) (i : Int) cs g fs = if ((acc + c.length : Nat) : Int) > 3000 then some false else (impl_oneDatum.f k c).bind fun t => if t = true then impl_ValidModule.l0 k ((acc + c.length : Nat) : Int) cs (cs.length : Int) ((i + 1 : Nat) : Int) cs g fs else some false := by
   intro k
   simp only [impl_ValidModule.l0]
   rw [if_pos (by omega), if_pos (by omega), if_pos (by omega), rdL_nat, hce, wrap_up i (by omega), show wrap64 ((acc : Int) + (c.length : Int)) = ((acc + c.length : Nat) : Int) by unfold wrap64; omega]
  by_cases c1 : ((acc + c.length : Nat) : Int) > 3000
  ·rw [if_pos (show 3000 < acc + c.length by omega), Bool.false_and]
   exact Ev.step (f := fun _ => some false) (fun k => by rw [hgo, if_pos c1]) (Ev.now _)
  ·rw [if_neg (show ¬ 3000 < acc + c.length by omega)]
   refine Ev.step (f := fun k => (impl_oneDatum.f k c).bind fun t => if t = true then impl_ValidModule.l0 k ((acc + c.length : Nat) : Int) cs (cs.length : Int) ((i + 1 : Nat) : Int) cs g fs else some false) (fun k => by rw [hgo, if_neg c1]) ?_
   refine Ev.bind (one_ev hc) ?_
   cases oneB (c.map toD) with
   | true => simpa using ih (i + 1) (acc + c.length) (by omega) (by omega) (by omega)
   | false => simpa using Ev.now false
theorem valid_ev : Ev (fun k => impl_ValidModule.f k cs g fs) (validM (conP cs) g (fs.map funP)) := by
 have hfl := hM.flen
 have hcl := hM.clen
 unfold validM
 rw [List.length_map, show (conP cs).length = cs.length from List.length_map ..]
 have hj : ∀ b : Bool, Ev (fun k => impl_ValidModule.j0 k b cs g fs) (!b && (constsB 0 (conP cs) && stepsB cs.length g (fs.map funP) 0 (fs.map funP))) := by
  intro b
  cases b with
  | true => exact Ev.step (f := fun _ => some false) (fun k => by simp only [impl_ValidModule.j0, if_true]) (Ev.now _)
  | false =>
   have h1 := funs_l1 (g := g) hM fs.length 0 0 (by omega) (by omega) (by omega)
   rw [List.drop_zero, show (conP cs).length = cs.length from List.length_map ..] at h1
   have h0 := cons_l0 hM _ h1 cs.length 0 0 (by omega) (by omega) (by omega)
   rw [List.drop_zero] at h0
   exact Ev.step (f := fun k => impl_ValidModule.l0 k ((0 : Nat) : Int) cs (cs.length : Int) ((0 : Nat) : Int) cs g fs) (fun k => by simp only [impl_ValidModule.j0, Bool.false_eq_true, if_false]; rfl) (by simpa using h0)
 have hjt := hj true
 rw [Bool.not_true, Bool.false_and] at hjt
 have hgo : ∀ k, impl_ValidModule.f k cs g fs = if (decide (1 ≤ (fs.length : Int)) && decide ((fs.length : Int) ≤ 200)) = true then (if (cs.length : Int) > 500 then impl_ValidModule.j0 k true cs g fs else if (decide (0 ≤ g) && decide (g ≤ 200)) = true then (if 0 < (fs.length : Int) then (if (fs.getD 0 z68).f0 = 0 then impl_ValidModule.j0 k (((fs.getD 0 z68).f1.length : Int) != 0) cs g fs else impl_ValidModule.j0 k true cs g fs) else none) else impl_ValidModule.j0 k true cs g fs) else impl_ValidModule.j0 k true cs g fs := by
  intro k
  unfold impl_ValidModule.f
  rw [within_ev, within_ev, show rd_T68 fs 0 = fs.getD 0 z68 from rfl]
  simp only [Option.bind_some]
 by_cases c1 : 1 ≤ fs.length ∧ fs.length ≤ 200
 ·have d1 : (decide (1 ≤ (fs.length : Int)) && decide ((fs.length : Int) ≤ 200)) = true := by simp; omega
  rw [decide_eq_true c1.1, decide_eq_true c1.2, Bool.true_and, Bool.true_and]
  by_cases c2 : (cs.length : Int) > 500
  ·rw [decide_eq_false (show ¬ cs.length ≤ 500 by omega)]
   simp only [Bool.false_and]
   exact Ev.congr (fun k => by rw [hgo, if_pos d1, if_pos c2]) hjt
  rw [decide_eq_true (show cs.length ≤ 500 by omega), Bool.true_and]
  cases c3 : (decide (0 ≤ g) && decide (g ≤ 200)) with
  | false =>
   rw [Bool.false_and]
   exact Ev.congr (fun k => by rw [hgo, if_pos d1, if_neg c2, c3, if_neg (by decide)]) hjt
  | true =>
   rw [Bool.true_and]
   have hmain : mainB (fs.map funP) = ((fs.getD 0 z68).f0 == 0 && (fs.getD 0 z68).f1.isEmpty) := by
    unfold mainB
    obtain ⟨f, r, rfl⟩ : ∃ f r, fs = f :: r := by cases fs with | nil => simp at c1 | cons f r => exact ⟨f, r, rfl⟩
    rfl
   have hcomb : ∀ a b c d : Bool, (a && (b && (c && d))) = (c && (a && (b && d))) := by decide
   rw [hcomb, ← steps_all, hmain]
   by_cases h0 : (fs.getD 0 z68).f0 = 0
   ·refine Ev.congr (f := fun k => impl_ValidModule.j0 k (((fs.getD 0 z68).f1.length : Int) != 0) cs g fs) (fun k => by rw [hgo, if_pos d1, if_neg c2, c3, if_pos rfl, if_pos (by omega), if_pos h0]) ?_
    have := hj (((fs.getD 0 z68).f1.length : Int) != 0)
    have e : (!((((fs.getD 0 z68).f1).length : Int) != 0)) = ((fs.getD 0 z68).f0 == 0 && (fs.getD 0 z68).f1.isEmpty) := by
     rw [h0]
     generalize (fs.getD 0 z68).f1 = l
     cases l with
     | nil => rfl
     | cons a l =>
      rw [show ((((a :: l).length : Nat) : Int) != 0) = true by simp; omega]
      rfl
    rw [e] at this
    exact this
   ·rw [show ((fs.getD 0 z68).f0 == 0) = false by simpa using h0, Bool.false_and, Bool.false_and]
    exact Ev.congr (fun k => by rw [hgo, if_pos d1, if_neg c2, c3, if_pos rfl, if_pos (by omega), if_neg h0]) hjt
 ·have d1 : ¬ (decide (1 ≤ (fs.length : Int)) && decide ((fs.length : Int) ≤ 200)) = true := by simp; omega
  have d2 : (decide (1 ≤ fs.length) && decide (fs.length ≤ 200)) = false := by
   rw [Bool.and_eq_false_iff]
   by_cases h : 1 ≤ fs.length
   ·exact .inr (decide_eq_false (fun e => c1 ⟨h, e⟩))
   ·exact .inl (decide_eq_false h)
  rw [d2]
  simp only [Bool.false_and]
  exact Ev.congr (fun k => by rw [hgo, if_neg d1]) hjt
end
end Go.Proofs.YtogmphjhdkgdjaaDoor.ImplMM
