/- What the specification's SameShape comes to: 'sameF'. -/
import Derived.Test.YtggkkgkjhfgipaaQFnExactSameShapex6
import Derived.Test.YtggkkgkjhfgipaaSpecVS
import Derived.Test.YtggkkgkjhfgipaaSpecCS
import Derived.Test.YtggkkgkjhfgipaaHandSameShape
namespace Go.Proofs.Ytggkkgkjhfgipaa.SpecSS
open Go.RowKit Go.Proofs.Ytggkkgkjhfgipaa.QFnExactSameShape Go.Proofs.YtggkkgkjhfgipaaW.PrintWords Go.Proofs.YtggkkgkjhfgipaaW.PrintLast
set_option linter.unusedVariables false
set_option linter.unusedSimpArgs false
theorem cons_eq_dec (x y : Int) (a b : List Int) : decide (x :: a = y :: b) = (decide (x = y) && decide (a = b)) := by
  by_cases h1 : x = y <;> by_cases h2 : a = b <;> simp [h1, h2]
theorem l1_ev (a b : List Int) (hl : a.length = b.length) (hn : a.length ≤ 20000) (d : Nat) : ∀ i : Nat, a.length - i = d → i ≤ a.length → Ev (fun k => spec_SameShape.l1 k a b (i : Int)) (decide (a.drop i = b.drop i)) := by
  induction d with
  | zero =>
    intro i hd hi
    have e1 : a.drop i = [] := List.drop_eq_nil_of_le (by omega)
    have e2 : b.drop i = [] := List.drop_eq_nil_of_le (by omega)
    rw [e1, e2, decide_eq_true rfl]
    refine SpecVS.Ev.const fun k => ?_
    rw [spec_SameShape.l1, if_neg (by omega)]
  | succ d ih =>
    intro i hd hi
    have hlt : i < a.length := by omega
    have hlt2 : i < b.length := by omega
    rw [drop_cons hlt, drop_cons hlt2, cons_eq_dec]
    by_cases he : a.getD i 0 = b.getD i 0
    · rw [decide_eq_true he, Bool.true_and]
      refine Ev.step (fun k => ?_) (ih (i + 1) (by omega) (by omega))
      show spec_SameShape.l1 (k + 1) a b (i : Int) = spec_SameShape.l1 k a b ((i + 1 : Nat) : Int)
      rw [spec_SameShape.l1, if_pos (by omega), if_pos (by omega), if_pos (by omega), SpecVS.rd_nat, SpecVS.rd_nat, if_pos he, SpecVS.wrap_up i (by omega)]
    · rw [decide_eq_false he, Bool.false_and]
      refine SpecVS.Ev.const fun k => ?_
      rw [spec_SameShape.l1, if_pos (by omega), if_pos (by omega), if_pos (by omega), SpecVS.rd_nat, SpecVS.rd_nat, if_neg he]
theorem take_drop_cons {a : List Int} {n i : Nat} (hn : n ≤ a.length) (hi : i < n) : (a.take n).drop i = a.getD i 0 :: (a.take n).drop (i + 1) := by
  have hl : i < (a.take n).length := by rw [List.length_take]; omega
  rw [drop_cons hl, List.getD_eq_getElem?_getD, List.getD_eq_getElem?_getD, List.getElem?_take_of_lt hi]
theorem l0_ev (x y a b : List Int) (n : Nat) (tb : Int) (ha : n ≤ a.length) (hb : n ≤ b.length) (hn : n ≤ 20000) (hl : x.length = y.length) (hx : x.length ≤ 20000) (d : Nat) : ∀ i : Nat, n - i = d → i ≤ n →
    Ev (fun k => spec_SameShape.l0 k x y (i : Int) a (n : Int) b tb) (decide ((a.take n).drop i = (b.take n).drop i) && decide (x = y)) := by
  induction d with
  | zero =>
    intro i hd hi
    have e1 : (a.take n).drop i = [] := List.drop_eq_nil_of_le (by rw [List.length_take]; omega)
    have e2 : (b.take n).drop i = [] := List.drop_eq_nil_of_le (by rw [List.length_take]; omega)
    rw [e1, e2, decide_eq_true rfl, Bool.true_and]
    have h1 := l1_ev x y hl hx x.length 0 (by omega) (by omega)
    refine Ev.step (fun k => ?_) h1
    show spec_SameShape.l0 (k + 1) x y (i : Int) a (n : Int) b tb = spec_SameShape.l1 k x y ((0 : Nat) : Int)
    rw [spec_SameShape.l0, if_neg (by omega)]
    rfl
  | succ d ih =>
    intro i hd hi
    have hlt : i < n := by omega
    rw [take_drop_cons ha hlt, take_drop_cons hb hlt, cons_eq_dec]
    by_cases he : a.getD i 0 = b.getD i 0
    · rw [decide_eq_true he, Bool.true_and]
      refine Ev.step (fun k => ?_) (ih (i + 1) (by omega) (by omega))
      show spec_SameShape.l0 (k + 1) x y (i : Int) a (n : Int) b tb = spec_SameShape.l0 k x y ((i + 1 : Nat) : Int) a (n : Int) b tb
      rw [spec_SameShape.l0, if_pos (by omega), if_pos (by omega), if_pos (by omega), if_pos (by omega), SpecVS.rd_nat, SpecVS.rd_nat, if_pos he, SpecVS.wrap_up i (by omega)]
    · rw [decide_eq_false he, Bool.false_and, Bool.false_and]
      refine SpecVS.Ev.const fun k => ?_
      rw [spec_SameShape.l0, if_pos (by omega), if_pos (by omega), if_pos (by omega), if_pos (by omega), SpecVS.rd_nat, SpecVS.rd_nat, if_neg he]
theorem j0_true (k : Nat) (roots others ws : List Int) (top : Int) (vs : List Int) (top2 : Int) : spec_SameShape.j0 (k + 1) roots others true ws top vs top2 = some false := by
  rw [spec_SameShape.j0, if_pos rfl]
theorem j0_ev (ws : List Int) (top : Int) (roots vs : List Int) (top2 : Int) (others : List Int) (hx : ∀ x ∈ ws, InI64 x) (hx2 : ∀ x ∈ roots, InI64 x) (hy : ∀ x ∈ vs, InI64 x) (hy2 : ∀ x ∈ others, InI64 x) (h1 : validF ws top roots = true) (h2 : validF vs top2 others = true) (hl : roots.length = others.length) :
    Ev (fun k => spec_SameShape.j0 k roots others false ws top vs top2) (decide (offO ws (orderO ws roots) = offO vs (orderO vs others)) && (decide ((orderO ws roots).flatMap (mapObj ws (orderO ws roots)) = (orderO vs others).flatMap (mapObj vs (orderO vs others))) &&
      decide (roots.map (movedO ws (orderO ws roots)) = others.map (movedO vs (orderO vs others))))) := by
  obtain ⟨L, hL, hrl, ho, hr⟩ := validF_parts h1
  obtain ⟨M, hM, hol, ho2, hr2⟩ := validF_parts h2
  obtain ⟨t, rfl⟩ := Int.eq_ofNat_of_zero_le (objsF_mem hL).2.1
  obtain ⟨u, rfl⟩ := Int.eq_ofNat_of_zero_le (objsF_mem hM).2.1
  obtain ⟨g1, _, _⟩ := orderO_good hL ho hr
  obtain ⟨g2, _, _⟩ := orderO_good hM ho2 hr2
  have f1 := flat_length hL (orderO ws roots) _ g1.inn
  have f2 := flat_length hM (orderO vs others) _ g2.inn
  have b1 := g1.off_le hL
  have b2 := g2.off_le hM
  have l1 := objsF_mem hL
  have l2 := objsF_mem hM
  have hc1 := SpecCS.Collect_ev ws (t : Int) roots hx hx2
  have hc2 := SpecCS.Collect_ev vs (u : Int) others hy hy2
  have e1 : collectF ws (t : Int) roots = ((orderO ws roots).flatMap (mapObj ws (orderO ws roots)) ++ List.replicate (ws.length - offO ws (orderO ws roots)) 0, (offO ws (orderO ws roots) : Int), roots.map (movedO ws (orderO ws roots)), 0) := by unfold collectF; rw [if_pos h1]
  have e2 : collectF vs (u : Int) others = ((orderO vs others).flatMap (mapObj vs (orderO vs others)) ++ List.replicate (vs.length - offO vs (orderO vs others)) 0, (offO vs (orderO vs others) : Int), others.map (movedO vs (orderO vs others)), 0) := by unfold collectF; rw [if_pos h2]
  rw [e1] at hc1
  rw [e2] at hc2
  generalize (orderO ws roots).flatMap (mapObj ws (orderO ws roots)) = F1 at *
  generalize (orderO vs others).flatMap (mapObj vs (orderO vs others)) = F2 at *
  have m1 : (roots.map (movedO ws (orderO ws roots))).length = roots.length := by simp
  have m2 : (others.map (movedO vs (orderO vs others))).length = others.length := by simp
  generalize roots.map (movedO ws (orderO ws roots)) = x at *
  generalize others.map (movedO vs (orderO vs others)) = y at *
  generalize offO ws (orderO ws roots) = n1 at *
  generalize offO vs (orderO vs others) = n2 at *
  refine Ev.step (f := fun k => (spec_Collect.f k ws (t : Int) roots).bind fun bt197 => ((spec_Collect.f k vs (u : Int) others).bind fun bt206 => (if bt197.2.1 = bt206.2.1 then (spec_SameShape.l0 k bt197.2.2.1 bt206.2.2.1 0 bt197.1 bt197.2.1 bt206.1 bt206.2.1) else (some false)))) (fun k => by rw [spec_SameShape.j0, if_neg (by decide)]) ?_
  refine Ev.bind hc1 ?_
  refine Ev.bind hc2 ?_
  simp only
  by_cases he : n1 = n2
  · subst he
    rw [decide_eq_true rfl, Bool.true_and]
    simp only [if_true]
    have h0 := l0_ev x y (F1 ++ List.replicate (ws.length - n1) 0) (F2 ++ List.replicate (vs.length - n1) 0) n1 (n1 : Int) (by simp; omega) (by simp; omega) (by omega) (by omega) (by omega) n1 0 (by omega) (by omega)
    rw [List.drop_zero, List.drop_zero, List.take_append_of_le_length (by omega), List.take_append_of_le_length (by omega), List.take_of_length_le (by omega), List.take_of_length_le (by omega)] at h0
    exact h0
  · rw [decide_eq_false he, Bool.false_and]
    have hne : ¬ ((n1 : Int) = (n2 : Int)) := by omega
    simp only [if_neg hne]
    exact Ev.now _
theorem SameShape_ev (ws : List Int) (top : Int) (roots vs : List Int) (top2 : Int) (others : List Int) (hx : ∀ x ∈ ws, InI64 x) (hx2 : ∀ x ∈ roots, InI64 x) (hy : ∀ x ∈ vs, InI64 x) (hy2 : ∀ x ∈ others, InI64 x) :
    Ev (fun k => spec_SameShape.f k ws top roots vs top2 others) (sameF ws top roots vs top2 others) := by
  unfold spec_SameShape.f
  have hv := SpecVS.ValidHeap_ev ws top roots hx hx2
  rw [specValidHeap_eq] at hv
  have hv2 := SpecVS.ValidHeap_ev vs top2 others hy hy2
  rw [specValidHeap_eq] at hv2
  refine Ev.bind hv ?_
  unfold sameF
  cases h1 : validF ws top roots with
  | false =>
    simp only [Bool.false_and, Bool.false_eq_true, if_false]
    exact SpecVS.Ev.const fun k => j0_true k _ _ _ _ _ _
  | true =>
    simp only [Bool.true_and, if_true]
    refine Ev.bind hv2 ?_
    cases h2 : validF vs top2 others with
    | false =>
      simp only [Bool.false_and, Bool.false_eq_true, if_false]
      exact SpecVS.Ev.const fun k => j0_true k _ _ _ _ _ _
    | true =>
      simp only [Bool.true_and, if_true]
      by_cases hl : roots.length = others.length
      · have hb : ((roots.length : Int) != (others.length : Int)) = false := by rw [bne_eq_false_iff_eq]; omega
        rw [decide_eq_true hl, Bool.true_and, hb]
        exact j0_ev ws top roots vs top2 others hx hx2 hy hy2 h1 h2 hl
      · have hb : ((roots.length : Int) != (others.length : Int)) = true := by rw [bne_iff_ne]; omega
        rw [decide_eq_false hl, Bool.false_and, hb]
        exact SpecVS.Ev.const fun k => j0_true k _ _ _ _ _ _
end Go.Proofs.Ytggkkgkjhfgipaa.SpecSS
