import Derived.Test.YtggkkgkjhfgipaaZQFnAllocx4
import Derived.Test.YtggkkgkjhfgipaaZSpecVF
import Derived.Test.YtggkkgkjhfgipaaZHeapH
import Derived.Test.YtggkkgkjhfgipaaZHandAlloc
namespace Go.Proofs.Ytggkkgkjhfgipaa.SpecAF
open Go.RowKit Go.Proofs.Ytggkkgkjhfgipaa.QFnAlloc Go.Proofs.YtggkkgkjhfgipaaW.PrintWords Go.Proofs.YtggkkgkjhfgipaaW.PrintLast
set_option linter.unusedVariables false
set_option linter.unusedSimpArgs false
def badF (kd : Int) (fs : List Int) : Bool := !(headF kd fs.length && (kd != 2 || (fs.getD 0 0 % 4 == 0 && decide (fs.getD 0 0 ≥ 0))))
theorem j0_true (k : Nat) (kd : Int) (fs : List Int) (S : List Bool) (n : Int) (ws : List Int) (top : Int) : spec_Alloc.j0 (k + 1) kd fs S n true ws top = some ([], 0, 0, 1) := by
 rw [spec_Alloc.j0, if_pos rfl]
theorem j1_true (k : Nat) (kd : Int) (fs : List Int) (S : List Bool) (n : Int) (ws : List Int) (top : Int) : spec_Alloc.j1 (k + 1) kd fs S n true ws top = some ([], 0, 0, 1) := by
 rw [spec_Alloc.j1, if_pos rfl]
theorem j1_false (k : Nat) (kd : Int) (fs : List Int) (S : List Bool) (n : Int) (ws : List Int) (top : Int) : spec_Alloc.j1 (k + 1) kd fs S n false ws top = spec_Alloc.l0 k kd fs S n 0 ws top := by
 rw [spec_Alloc.j1, if_neg (by decide)]
theorem j0_false (k : Nat) (kd : Int) (fs : List Int) (S : List Bool) (ws : List Int) (top : Int) (h0 : 0 ≤ kd) (h3 : kd ≤ 3) (hn : (fs.length : Int) ≤ 1000) :
  spec_Alloc.j0 (k + 1) kd fs S fs.length false ws top = spec_Alloc.j1 k kd fs S fs.length (badF kd fs) ws top := by
 rw [spec_Alloc.j0, if_neg (by decide)]
 have hk : kd = 0 ∨ kd = 1 ∨ kd = 2 ∨ kd = 3 := by omega
 have hz : rd fs 0 = fs.getD 0 0 := rfl
 generalize hy : fs.getD 0 0 = y at hz
 generalize hm : (fs.length : Int) = m at hn ⊢
 have hb : ∀ kd, badF kd fs = !(headF kd m && (kd != 2 || (y % 4 == 0 && decide (y ≥ 0)))) := by
  intro kd
  unfold badF
  rw [hm, hy]
 rw [hb, hz]
 have hm0 : 0 ≤ m := by omega
 rcases hk with rfl | rfl | rfl | rfl
 ·by_cases h2 : m = 2
  ·simp [h2, headF]
  ·have hb2 : (m == 2) = false := by simpa using h2
   simp [h2, hb2, headF]
 ·simp [headF, hn]
 ·by_cases h1 : m < 1
  ·have : ¬ 1 ≤ m := by omega
   simp [headF, h1, this]
  ·have h1' : 1 ≤ m := by omega
   have h0m : 0 < m := by omega
   by_cases hy0 : y < 0
   ·have : ¬ 0 ≤ y := by omega
    simp [headF, h1, h1', h0m, hn, hy0, this]
   ·have h : 0 ≤ y := by omega
    rw [Int.tmod_eq_emod_of_nonneg h]
    simp [headF, h1, h1', h0m, hn, hy0, h]
    rfl
 ·by_cases h2 : m = 1
  ·simp [h2, headF]
  ·have hb2 : (m == 1) = false := by simpa using h2
   simp [h2, hb2, headF]
def rowAt (ws fs : List Int) (t : Nat) (h : Int) (i : Nat) : List Int := ws.take t ++ h :: fs.take i ++ ws.drop (t + 1 + i)
theorem rowAt_zero (ws fs : List Int) (t : Nat) (h : Int) (ht : t < ws.length) : ws.set t h = rowAt ws fs t h 0 := by
 unfold rowAt
 rw [List.set_eq_take_append_cons_drop, if_pos ht]
 simp
theorem rowAt_length (ws fs : List Int) (t : Nat) (h : Int) (i : Nat) (hi : i ≤ fs.length) (hf : t + 1 + fs.length ≤ ws.length) : (rowAt ws fs t h i).length = ws.length := by
 unfold rowAt
 simp
 omega
theorem rowAt_succ (ws fs : List Int) (t : Nat) (h : Int) (i : Nat) (hi : i < fs.length) (hf : t + 1 + fs.length ≤ ws.length) : (rowAt ws fs t h i).set (t + 1 + i) (fs.getD i 0) = rowAt ws fs t h (i + 1) := by
 unfold rowAt
 have hl : (ws.take t ++ h :: fs.take i).length = t + 1 + i := by simp; omega
 have hd : ws.drop (t + 1 + i) = ws.getD (t + 1 + i) 0 :: ws.drop (t + 1 + (i + 1)) := by
  have hlt : t + 1 + i < ws.length := by omega
  rw [List.drop_eq_getElem_cons hlt, List.getD_eq_getElem?_getD, List.getElem?_eq_getElem hlt]
  rfl
 have ht : fs.take (i + 1) = fs.take i ++ [fs.getD i 0] := by
  rw [List.take_add_one, List.getElem?_eq_getElem hi, List.getD_eq_getElem?_getD, List.getElem?_eq_getElem hi]
  rfl
 rw [List.set_append_right _ _ (by omega), hl, Nat.sub_self, hd, ht]
 simp
theorem l1_ev (kd : Int) (fs ws : List Int) (t : Nat) (h t2 : Int) (hl : ws.length ≤ 20000) (hf : t + 1 + fs.length ≤ ws.length) (d : Nat) : ∀ i, fs.length - i = d → i ≤ fs.length →
  Ev (fun k => spec_Alloc.l1 k fs fs.length (i : Int) ws (t : Int) (rowAt ws fs t h i) t2) (rowAt ws fs t h fs.length, (t : Int) + 1 + fs.length, 4 * (t : Int) + 1, 0) := by
 induction d with
 | zero =>
  intro i hd hi
  obtain rfl : i = fs.length := by omega
  refine SpecVF.Ev.const fun k => ?_
  rw [spec_Alloc.l1, if_neg (by omega), SpecVF.wrap_in (x := (t : Int) + 1) (by omega) (by omega), SpecVF.wrap_in (x := (t : Int) + 1 + fs.length) (by omega) (by omega),
   SpecVF.wrap_in (x := 4 * (t : Int)) (by omega) (by omega), SpecVF.wrap_in (x := 4 * (t : Int) + 1) (by omega) (by omega)]
 | succ d ih =>
  intro i hd hi
  have hlt : i < fs.length := by omega
  refine Ev.step (fun k => ?_) (ih (i + 1) (by omega) (by omega))
  show spec_Alloc.l1 (k + 1) fs fs.length (i : Int) ws (t : Int) (rowAt ws fs t h i) t2 = spec_Alloc.l1 k fs fs.length ((i + 1 : Nat) : Int) ws (t : Int) (rowAt ws fs t h (i + 1)) t2
  have e1 : wrap64 ((t : Int) + 1) = (t : Int) + 1 := SpecVF.wrap_in (by omega) (by omega)
  have e2 : wrap64 ((t : Int) + 1 + (i : Int)) = (t : Int) + 1 + i := SpecVF.wrap_in (by omega) (by omega)
  have e3 : wrap64 ((i : Int) + 1) = ((i + 1 : Nat) : Int) := SpecVF.wrap_up i (by omega)
  have e4 : ((t : Int) + 1 + (i : Int)).toNat = t + 1 + i := by omega
  have e5 : ((t : Int) + 1 + (i : Int)) < ((rowAt ws fs t h i).length : Int) := by rw [rowAt_length ws fs t h i hi hf]; omega
  rw [spec_Alloc.l1, if_pos (by omega), if_pos (by omega), if_pos (by omega), e1, e2, e3, if_pos (by omega), if_pos e5, e4, SpecVF.rd_nat, rowAt_succ ws fs t h i hlt hf]
def finF (ws : List Int) (t : Nat) (kd : Int) (fs : List Int) : List Int × Int × Int × Int :=
 if (ws.length : Int) < (t : Int) + 1 + fs.length then ([], 0, 0, 13) else (rowAt ws fs t (4 * fs.length + kd) fs.length, (t : Int) + 1 + fs.length, 4 * (t : Int) + 1, 0)
theorem l0_end (ws fs : List Int) (t : Nat) (kd : Int) (S : List Bool) (hl : ws.length ≤ 20000) (ht : t ≤ ws.length) (hn : fs.length ≤ 1000) (h0 : 0 ≤ kd) (h3 : kd ≤ 3) :
  Ev (fun k => spec_Alloc.l0 k kd fs S fs.length (fs.length : Int) ws (t : Int)) (finF ws t kd fs) := by
 have e1 : wrap64 ((t : Int) + 1) = (t : Int) + 1 := SpecVF.wrap_in (by omega) (by omega)
 have e2 : wrap64 ((t : Int) + 1 + (fs.length : Int)) = (t : Int) + 1 + fs.length := SpecVF.wrap_in (by omega) (by omega)
 have e3 : wrap64 (4 * (fs.length : Int)) = 4 * (fs.length : Int) := SpecVF.wrap_in (by omega) (by omega)
 have e4 : wrap64 (4 * (fs.length : Int) + kd) = 4 * (fs.length : Int) + kd := SpecVF.wrap_in (by omega) (by omega)
 unfold finF
 by_cases hf : (ws.length : Int) < (t : Int) + 1 + fs.length
 ·rw [if_pos hf]
  refine SpecVF.Ev.const fun k => ?_
  rw [spec_Alloc.l0, if_neg (by omega), e1, e2, if_pos hf]
 ·rw [if_neg hf]
  refine Ev.step (f := fun k => spec_Alloc.l1 k fs fs.length 0 ws (t : Int) (rowAt ws fs t (4 * fs.length + kd) 0) (t : Int)) (fun k => ?_) (l1_ev kd fs ws t _ _ hl (by omega) fs.length 0 (by omega) (by omega))
  have hc : spec_l2copy.f ws (t : Int) = some (ws, (t : Int)) := by
   unfold spec_l2copy.f
   rw [if_pos (by simp; omega), List.nil_append]
  rw [spec_Alloc.l0, if_neg (by omega), e1, e2, if_neg hf, hc]
  simp only [Option.bind_some]
  rw [if_pos (by omega), if_pos (by omega), e3, e4, Int.toNat_natCast, rowAt_zero ws fs t _ (by omega)]
theorem l0_ev (ws fs : List Int) (t : Nat) (kd : Int) (S : List Bool) (hx2 : ∀ x ∈ fs, InI64 x) (hl : ws.length ≤ 20000) (ht : t ≤ ws.length) (hn : fs.length ≤ 1000) (h0 : 0 ≤ kd) (h3 : kd ≤ 3) (d : Nat) : ∀ i, fs.length - i = d → i ≤ fs.length →
  Ev (fun k => spec_Alloc.l0 k kd fs S fs.length (i : Int) ws (t : Int)) (if (fs.drop i).all (wordF (startAt S)) = true then finF ws t kd fs else ([], 0, 0, 1)) := by
 induction d with
 | zero =>
  intro i hd hi
  obtain rfl : i = fs.length := by omega
  rw [List.drop_eq_nil_of_le (Nat.le_refl _), List.all_nil, if_pos rfl]
  exact l0_end ws fs t kd S hl ht hn h0 h3
 | succ d ih =>
  intro i hd hi
  have hlt : i < fs.length := by omega
  have hgo := ih (i + 1) (by omega) (by omega)
  have hdr : (fs.drop i).all (wordF (startAt S)) = (wordF (startAt S) (fs.getD i 0) && (fs.drop (i + 1)).all (wordF (startAt S))) := by
   rw [List.drop_eq_getElem_cons hlt, List.all_cons, List.getD_eq_getElem?_getD, List.getElem?_eq_getElem hlt]
   rfl
  have hstep : ∀ k, spec_Alloc.l0 (k + 1) kd fs S fs.length (i : Int) ws (t : Int) = if wordF (startAt S) (fs.getD i 0) = true then spec_Alloc.l0 k kd fs S fs.length ((i + 1 : Nat) : Int) ws (t : Int) else some ([], 0, 0, 1) := by
   intro k
   rw [spec_Alloc.l0, if_pos (by omega), if_pos (by omega), if_pos (by omega), SpecVF.rd_nat, SpecVF.word_ev _ S (SpecVF.getD_in hx2 i), SpecVF.wrap_up i (by omega)]
   rfl
  rw [hdr]
  cases hv : wordF (startAt S) (fs.getD i 0) with
  | true =>
   rw [Bool.true_and]
   refine Ev.step (fun k => ?_) hgo
   rw [hstep, hv, if_pos rfl]
  | false =>
   rw [Bool.false_and, if_neg (by decide)]
   refine SpecVF.Ev.const fun k => ?_
   rw [hstep, hv, if_neg (by decide)]
theorem Alloc_ev (ws : List Int) (top kd : Int) (fs : List Int) (hx : ∀ x ∈ ws, InI64 x) (hx2 : ∀ x ∈ fs, InI64 x) : Ev (fun k => spec_Alloc.f k ws top kd fs) (allocF ws top kd fs) := by
 unfold spec_Alloc.f
 refine Ev.bind (SpecVF.l2valid_ev ws top hx) ?_
 have bad : newOk ws top kd fs = false → Ev (fun k => spec_Alloc.j0 k kd fs (specValid ws top).1 fs.length true ws top) (allocF ws top kd fs) := by
  intro hn
  unfold allocF
  rw [hn, if_neg (by decide)]
  exact SpecVF.Ev.const fun k => j0_true k _ _ _ _ _ _
 cases hv : (specValid ws top).2 with
 | false =>
  simp only [Bool.false_eq_true, if_false]
  refine bad ?_
  unfold newOk
  rw [valid_same, hv]
  split <;> rfl
 | true =>
  simp only [if_true]
  obtain ⟨L, hL, hS⟩ := valid_place hv
  have hno : newOk ws top kd fs = (decide (0 ≤ kd) && (decide (kd ≤ 3) && (headF kd fs.length && objF (isPlace L) kd fs))) := by
   unfold newOk
   rw [hL, valid_same, hv]
   simp
  obtain ⟨hlw, ht0, htl, _⟩ := objsF_mem hL
  by_cases h0 : kd < 0
  ·simp only [if_pos h0]
   exact bad (by rw [hno]; simp; omega)
  ·simp only [if_neg h0]
   by_cases h3 : kd > 3
   ·simp only [if_pos h3]
    exact bad (by rw [hno]; simp; omega)
   ·simp only [if_neg h3]
    by_cases hn : (fs.length : Int) > 1000
    ·simp only [decide_eq_true hn]
     refine bad ?_
     rw [hno, SpecVF.headF_big hn]
     simp
    ·simp only [decide_eq_false hn]
     refine Ev.step (fun k => j0_false k kd fs _ ws top (by omega) (by omega) (by omega)) ?_
     cases hb : badF kd fs with
     | true =>
      refine SpecVF.Ev.const fun k => ?_
      rw [j1_true]
      unfold allocF
      rw [if_neg]
      rw [hno]
      unfold badF at hb
      unfold objF
      revert hb
      cases headF kd fs.length <;> cases (kd != 2) <;> simp <;> intros <;> simp_all
     | false =>
      refine Ev.step (fun k => j1_false k _ _ _ _ _ _) ?_
      obtain ⟨t, rfl⟩ := Int.eq_ofNat_of_zero_le ht0
      have := l0_ev ws fs t kd (specValid ws (t : Int)).1 hx2 hlw (by omega) (by omega) (by omega) (by omega) fs.length 0 (by omega) (by omega)
      have he : allocF ws (t : Int) kd fs = if (fs.drop 0).all (wordF (startAt (specValid ws (t : Int)).1)) = true then finF ws t kd fs else ([], 0, 0, 1) := by
       rw [hS, List.drop_zero]
       unfold allocF
       have hnew : newOk ws (t : Int) kd fs = fs.all (wordF (isPlace L)) := by
        rw [hno]
        unfold badF at hb
        unfold objF
        rw [decide_eq_true (show 0 ≤ kd by omega), decide_eq_true (show kd ≤ 3 by omega)]
        have hb' : (headF kd fs.length && (kd != 2 || (fs.getD 0 0 % 4 == 0 && decide (fs.getD 0 0 ≥ 0)))) = true := by
         exact (Bool.not_eq_false' (b := _)).mp hb
        rw [Bool.and_eq_true] at hb'
        rw [hb'.1, hb'.2]
        simp
       rw [hnew]
       unfold finF rowAt
       simp only [Int.toNat_natCast, List.take_length]
      rw [he]
      exact this
end Go.Proofs.Ytggkkgkjhfgipaa.SpecAF
