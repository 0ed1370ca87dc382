import Derived.Test.YtggkkgkjhfgipaaZQFnAllocx10
import Derived.Test.YtggkkgkjhfgipaaZSpecDraw
import Derived.Test.YtggkkgkjhfgipaaZHandSameShape
namespace Go.Proofs.Ytggkkgkjhfgipaa.PureAlloc
open Go.RowKit Go.Proofs.Ytggkkgkjhfgipaa.QFnAlloc Go.Proofs.YtggkkgkjhfgipaaW.PrintWords Go.Proofs.YtggkkgkjhfgipaaW.PrintLast
set_option linter.unusedVariables false
set_option linter.unusedSimpArgs false
theorem same_true {ws vs roots others : List Int} {t u : Nat} {L M : List (Nat × Nat)} (h1 : Laid ws t L) (h2 : Laid vs u M) (hr : ∀ x ∈ roots, wordF (isPlace L) x = true) (ho : ∀ x ∈ others, wordF (isPlace M) x = true) (hl : roots.length ≤ 20000) (hl2 : others.length ≤ 20000)
  (hx : ∀ x ∈ ws, InI64 x) (hx1 : ∀ x ∈ roots, InI64 x) (hx2 : ∀ x ∈ vs, InI64 x) (hx3 : ∀ x ∈ others, InI64 x) (hs : ShapeP ws vs roots others) : impl_SameShape.f ws (t : Int) roots vs (u : Int) others = some true := by
 unfold impl_SameShape.f
 rw [if_pos (allIn_mk hx), if_pos (allIn_mk hx1), if_pos (allIn_mk hx2), if_pos (allIn_mk hx3), ← shapeF_eq]
 unfold shapeF
 rw [h1.valid hl hr, h2.valid hl2 ho, shapeB_true hs]
 obtain ⟨B, _, hlen, _⟩ := hs
 simp [hlen]
theorem same_false {ws vs roots others : List Int} {t u : Nat} (hx : ∀ x ∈ ws, InI64 x) (hx1 : ∀ x ∈ roots, InI64 x) (hx2 : ∀ x ∈ vs, InI64 x) (hx3 : ∀ x ∈ others, InI64 x) (hs : ¬ ShapeP ws vs roots others) : impl_SameShape.f ws (t : Int) roots vs (u : Int) others = some false := by
 unfold impl_SameShape.f
 rw [if_pos (allIn_mk hx), if_pos (allIn_mk hx1), if_pos (allIn_mk hx2), if_pos (allIn_mk hx3), ← shapeF_eq]
 unfold shapeF
 rw [shapeB_false hs]
 simp
theorem alloc_f {ws fs : List Int} (top kd : Int) (hx : ∀ x ∈ ws, InI64 x) (hx2 : ∀ x ∈ fs, InI64 x) : impl_Alloc.f ws top kd fs = some (allocF ws top kd fs) := by
 unfold impl_Alloc.f
 rw [if_pos (allIn_mk hx), if_pos (allIn_mk hx2)]
theorem one_in {n : Nat} (h : n ≤ 100000) : ∀ x ∈ [4 * (n : Int) + 1], InI64 x := by
 intro x hx
 rw [List.mem_singleton.1 hx]
 unfold InI64
 omega
theorem two_in {n m : Nat} (h : n ≤ 100000) (h2 : m ≤ 100000) : ∀ x ∈ [4 * (n : Int) + 1, 4 * (m : Int) + 1], InI64 x := by
 intro x hx
 simp only [List.mem_cons, List.not_mem_nil, or_false] at hx
 unfold InI64
 omega
theorem rest_ev {H fs : List Int} {t : Nat} {kd : Int} {L : List (Nat × Nat)} (m : Makes H t L kd fs) (hl : H.length ≤ 20000) (hx : ∀ x ∈ H, InI64 x) (hf : ∀ x ∈ fs, InI64 x) :
  Ev (fun k => laws_FnAlloc.j0 k kd fs fs (4 * (t : Int) + 1) false (rowN H t kd fs) ((t + 1 + fs.length : Nat) : Int)) true := by
 have hfit := m.fit
 have hn : fs.length ≤ 1000 := SpecDraw.headF_small m.head
 have hg : ∀ x ∈ rowN H t kd fs, InI64 x := SpecDraw.rowN_in hx hf hn m.lo m.hi
 have hgl : (rowN H t kd fs).length = H.length := rowN_length m.fit
 have hne : ¬ (4 * ((t + 1 + fs.length : Nat) : Int) + 1 = 4 * (t : Int) + 1) := by omega
 have hnew : newOk (rowN H t kd fs) ((t + 1 + fs.length : Nat) : Int) kd fs = true := Makes.newOk m.new m.lo m.hi m.head (objF_more m.obj)
 have hff : (false = true) ↔ False := by simp
 by_cases h2 : ((rowN H t kd fs).length : Int) < ((t + 1 + fs.length : Nat) : Int) + 1 + fs.length
 ·have ha : allocF (rowN H t kd fs) ((t + 1 + fs.length : Nat) : Int) kd fs = ([], 0, 0, 13) := by
   unfold allocF
   rw [if_pos hnew, if_pos h2]
  have w1 : wrap64 (((t + 1 + fs.length : Nat) : Int) + 1) = ((t + 1 + fs.length : Nat) : Int) + 1 := SpecVF.wrap_in (by omega) (by omega)
  have w2 : wrap64 (((t + 1 + fs.length : Nat) : Int) + 1 + (fs.length : Int)) = ((t + 1 + fs.length : Nat) : Int) + 1 + (fs.length : Int) := SpecVF.wrap_in (by omega) (by omega)
  refine SpecVF.Ev.const fun k => ?_
  rw [laws_FnAlloc.j0, if_neg (fun e => by cases e), alloc_f _ _ hg hf, ha, Option.bind_some]
  dsimp only
  rw [if_neg (by decide), if_pos rfl, w1, w2, decide_eq_true h2]
 ·have h3 : t + 1 + fs.length + 1 + fs.length ≤ H.length := by omega
  have m2 := m.again h3
  have ha : allocF (rowN H t kd fs) ((t + 1 + fs.length : Nat) : Int) kd fs = (rowN (rowN H t kd fs) (t + 1 + fs.length) kd fs, ((t + 1 + fs.length + 1 + fs.length : Nat) : Int), 4 * ((t + 1 + fs.length : Nat) : Int) + 1, 0) := by
   unfold allocF
   rw [if_pos hnew, if_neg h2, Int.toNat_natCast]
   rfl
  have hg2 : ∀ x ∈ rowN (rowN H t kd fs) (t + 1 + fs.length) kd fs, InI64 x := SpecDraw.rowN_in hg hf hn m.lo m.hi
  have r1 : ∀ x ∈ [4 * ((t + 1 + fs.length : Nat) : Int) + 1], wordF (isPlace (L ++ [(t, fs.length)] ++ [(t + 1 + fs.length, fs.length)])) x = true := by
   intro x hx'
   rw [List.mem_singleton.1 hx']
   exact Makes.root
  have r2 : ∀ x ∈ [4 * (t : Int) + 1], wordF (isPlace (L ++ [(t, fs.length)])) x = true := by
   intro x hx'
   rw [List.mem_singleton.1 hx']
   exact Makes.root
  have i1 := one_in (n := t + 1 + fs.length) (by omega)
  have i2 := one_in (n := t) (by omega)
  have s1 := same_true m2.new m.new r1 r2 (by simp) (by simp) hg2 i1 hg i2 (m.shape h3)
  have s2 := same_true m.new m.new r2 r2 (by simp) (by simp) hg i2 hg i2 (shape_refl m.new r2)
  have s3 := same_false (t := t + 1 + fs.length) (u := t + 1 + fs.length + 1 + fs.length) hg (two_in (n := t) (m := t) (by omega) (by omega)) hg2 (two_in (n := t + 1 + fs.length) (m := t) (by omega) (by omega))
   (m.notOne (rowN (rowN H t kd fs) (t + 1 + fs.length) kd fs) (rowN H t kd fs))
  refine SpecVF.Ev.const fun k => ?_
  rw [laws_FnAlloc.j0, if_neg (fun e => by cases e), alloc_f _ _ hg hf, ha, Option.bind_some]
  dsimp only
  rw [if_pos rfl, if_neg hne, s1, Option.bind_some, if_pos rfl, s2, Option.bind_some, if_pos rfl, s3, Option.bind_some]
  rfl
theorem law_true (l0 : List Int) (hb : ∀ x ∈ l0, 0 ≤ x ∧ x ≤ 255) : ∃ k, laws_FnAlloc.f k l0 = some true := by
 refine Ev.rounds (r := true) ?_
 by_cases h1 : (l0.length : Int) > 1048576
 ·exact Ev.congr (fun k => by unfold laws_FnAlloc.f; rw [if_pos h1]) (Ev.now _)
 obtain ⟨⟨H, T, kd, fs⟩, hr, hdraw⟩ := SpecDraw.draw_ev hb
 have hx : ∀ x ∈ H, InI64 x := hr.ints
 have hf : ∀ x ∈ fs, InI64 x := hr.fields
 have hlo : -1 ≤ T := hr.lo
 have hhi : T ≤ 301 := hr.hi
 have hfew : fs.length ≤ 1001 := hr.few
 unfold laws_FnAlloc.f
 simp only [if_neg h1]
 refine Ev.bind hdraw ?_
 refine Ev.bind (SpecAF.Alloc_ev H T kd fs hx hf) ?_
 refine Ev.bind hdraw ?_
 dsimp only
 rw [alloc_f T kd hx hf]
 simp only [Option.bind_some, if_true]
 rcases allocF_cases H T kd fs with ⟨t, L, e0, hl, h0, h3, hF, hO, e⟩ | e
 ·subst e0
  by_cases hfit : (H.length : Int) < t + 1 + fs.length
  ·rw [if_pos hfit] at e
   rw [e]
   exact Ev.now _
  ·rw [if_neg hfit] at e
   have m : Makes H t L kd fs := ⟨hl, by omega, h0, h3, hF, hO⟩
   have hmf := m.fit
   have hHl : H.length ≤ 20000 := (objsF_mem hl.objs).1
   have hn : fs.length ≤ 1000 := SpecDraw.headF_small hF
   have hg : ∀ x ∈ rowN H t kd fs, InI64 x := SpecDraw.rowN_in hx hf hn h0 h3
   have hgl : (rowN H t kd fs).length = H.length := rowN_length m.fit
   have htop : (t : Int) + 1 + (fs.length : Int) = ((t + 1 + fs.length : Nat) : Int) := by omega
   rw [e]
   dsimp only
   have w : (t : Int) + 1 + (fs.length : Int) = wrap64 (wrap64 ((t : Int) + 1) + (fs.length : Int)) := by
    rw [SpecVF.wrap_in (x := (t : Int) + 1) (by omega) (by omega), SpecVF.wrap_in (by omega) (by omega)]
   have c1 : (0 : Int) ≤ (t : Int) := Int.natCast_nonneg _
   have c2 : (t : Int) ≤ ((rowN H t kd fs).length : Int) := by clear w; omega
   have c3 : (t : Int) ≤ (H.length : Int) := by clear w; omega
   have c4 : ((rowN H t kd fs).length : Int) = (H.length : Int) := by clear w; omega
   have htk : (rowN H t kd fs).take (t : Int).toNat = H.take (t : Int).toNat := by
    rw [Int.toNat_natCast]
    exact rowN_take m.fit t (Nat.le_refl _)
   have hv : specValidHeap (rowN H t kd fs) ((t + 1 + fs.length : Nat) : Int) [4 * (t : Int) + 1] = true := by
    rw [specValidHeap_eq]
    refine m.new.valid (by simp) (fun x hx' => ?_)
    rw [List.mem_singleton.1 hx']
    exact Makes.root
   have hV := SpecVF.ValidHeap_ev (rowN H t kd fs) ((t + 1 + fs.length : Nat) : Int) [4 * (t : Int) + 1] hg (one_in (n := t) (by clear w; omega))
   rw [hv] at hV
   simp only [if_pos w, if_pos c1, if_pos c2, if_pos c3, if_pos c4, if_true, htk]
   refine Ev.bind (SpecDraw.sameN_ev (H.take (t : Int).toNat) (Nat.le_trans (List.length_take_le _ _) (by clear w; omega))) ?_
   simp only [if_true]
   rw [htop]
   refine Ev.bind hV ?_
   exact rest_ev m hHl hx hf
 ·rw [e]
  exact Ev.now _
end Go.Proofs.Ytggkkgkjhfgipaa.PureAlloc
