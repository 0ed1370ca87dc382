-- Written by a program of this session (wip/tools/ownprint.py) over hand-proved contracts.
import Derived.Test.YtggkkgkjhfgipaaQFnExactAllocx0
import Derived.Test.YtggkkgkjhfgipaaQFnExactAllocx1
import Derived.Test.YtggkkgkjhfgipaaQFnExactAllocx4
namespace Go.Proofs.Ytggkkgkjhfgipaa.QFnExactAlloc
open Go.RowKit Go.Proofs.YtggkkgkjhfgipaaW.PrintWords Go.Proofs.YtggkkgkjhfgipaaW.PrintLast Go.Proofs.YtggkkgkjhfgipaaW.PrintMore
attribute [local go_sem] max2_int min2_int max_two min_two max_three min_three max_four min_four   -- for this text's walks alone
set_option linter.unusedVariables false
set_option linter.unusedSimpArgs false

-- BY HAND: function 27 (impl_Alloc)

/-! ### laws_FnExactAlloc: function 7 -/
mutual
def laws_FnExactAlloc.j0 : Nat → Int → List Int → Int → Int → List Int → Int → Int → Bool → List Int → Int → List Int → Int → List Int → Int → List Int → Int → Option (Bool)
 | 0, _, _, _, _, _, _, _, _, _, _, _, _, _, _, _, _ => none
 | k + 1, x1, x2, x9, x10, x12, x14, x15, x65, x176000, x176001, x191000, x191001, x196000, x196001, x206000, x206001 => if x65 = true then (some false) else ((laws_toHeap.f k x176000 x176001).bind fun bt207 => ((laws_eqHeap.f k x196000 x196001 bt207.1 bt207.2).bind fun t211 => (if t211 = true then ((laws_toIntS.f k x2).bind fun t212 => ((laws_eqIntS.f k x12 t212).bind fun t215 => (if t215 = true then ((laws_markHeap.f k x196000 x196001 1).bind fun bt216 => ((laws_markIntS.f k x12 bt216.1).bind fun bt218 => (if bt218.1 < 0 then (laws_FnExactAlloc.j1 k x1 x2 x9 x10 true x176000 x176001 x191000 x191001 x206000 x206001) else ((laws_eqHeap.f k x206000 x206001 x191000 x191001).bind fun t220 => (if t220 = true then (if x14 = x9 then (laws_FnExactAlloc.j1 k x1 x2 x9 x10 (x15 != x10) x176000 x176001 x191000 x191001 x206000 x206001) else (laws_FnExactAlloc.j1 k x1 x2 x9 x10 true x176000 x176001 x191000 x191001 x206000 x206001)) else (laws_FnExactAlloc.j1 k x1 x2 x9 x10 true x176000 x176001 x191000 x191001 x206000 x206001)))))) else (some false)))) else (some false))))
def laws_FnExactAlloc.j1 : Nat → Int → List Int → Int → Int → Bool → List Int → Int → List Int → Int → List Int → Int → Option (Bool)
 | 0, _, _, _, _, _, _, _, _, _, _, _ => none
 | k + 1, x1, x2, x9, x10, x99, x176000, x176001, x191000, x191001, x206000, x206001 => if x99 = true then (some false) else ((laws_markHeap.f k x206000 x206001 1).bind fun bt221 => ((laws_heldHeap.f k bt221.2 x206001 1).bind fun t223 => (if t223 < 0 then (some false) else (if t223 = bt221.1 then ((laws_toHeap.f k x176000 x176001).bind fun bt224 => ((laws_toIntS.f k x2).bind fun t228 => ((impl_Alloc.f bt224.1 bt224.2 x1 t228).bind fun bt231 => ((laws_eqHeap.f k bt231.1 bt231.2.1 x191000 x191001).bind fun t238 => (if t238 = true then (if bt231.2.2.1 = x9 then (laws_FnExactAlloc.j2 k bt221.1 (bt231.2.2.2 != x10) bt221.2 x206001) else (laws_FnExactAlloc.j2 k bt221.1 true bt221.2 x206001)) else (laws_FnExactAlloc.j2 k bt221.1 true bt221.2 x206001)))))) else (some false)))))
def laws_FnExactAlloc.j2 : Nat → Int → Bool → List Int → Int → Option (Bool)
 | 0, _, _, _, _ => none
 | k + 1, x17, x134, x206000, x206001 => if x134 = true then (some false) else ((laws_heldHeap.f k x206000 x206001 1).bind fun t239 => (if t239 < 0 then (some false) else (if t239 = x17 then (some true) else (some false))))
end
def laws_FnExactAlloc.f (k : Nat) (l0_0 : List Int) (a0_1 : Int) (a1 : Int) (l2 : List Int) : Option (Bool) := if (l2.length : Int) > 1048576 then (some true) else ((laws_szHeap.f l0_0 a0_1 1048576).bind fun t176 => (if t176 < 0 then (some true) else ((laws_toHeap.f k l0_0 a0_1).bind fun bt177 => ((laws_toIntS.f k l2).bind fun t181 => ((spec_Alloc.f k bt177.1 bt177.2 a1 t181).bind fun bt184 => ((laws_toHeap.f k l0_0 a0_1).bind fun bt191 => ((laws_toIntS.f k l2).bind fun t196 => ((impl_Alloc.f bt191.1 bt191.2 a1 t196).bind fun bt199 => ((laws_eqHeap.f k bt199.1 bt199.2.1 bt184.1 bt184.2.1).bind fun t206 => (if t206 = true then (if bt199.2.2.1 = bt184.2.2.1 then (laws_FnExactAlloc.j0 k a1 l2 bt184.2.2.1 bt184.2.2.2 t196 bt199.2.2.1 bt199.2.2.2 (bt199.2.2.2 != bt184.2.2.2) l0_0 a0_1 bt184.1 bt184.2.1 bt191.1 bt191.2 bt199.1 bt199.2.1) else (laws_FnExactAlloc.j0 k a1 l2 bt184.2.2.1 bt184.2.2.2 t196 bt199.2.2.1 bt199.2.2.2 true l0_0 a0_1 bt184.1 bt184.2.1 bt191.1 bt191.2 bt199.1 bt199.2.1)) else (laws_FnExactAlloc.j0 k a1 l2 bt184.2.2.1 bt184.2.2.2 t196 bt199.2.2.1 bt199.2.2.2 true l0_0 a0_1 bt184.1 bt184.2.1 bt191.1 bt191.2 bt199.1 bt199.2.1)))))))))))
theorem laws_FnExactAlloc.mono_l : ∀ k, (∀ y0 y1 y2 y3 y4 y5 y6 y7 y8 y9 y10 y11 y12 y13 y14 y15, LeO (laws_FnExactAlloc.j0 k y0 y1 y2 y3 y4 y5 y6 y7 y8 y9 y10 y11 y12 y13 y14 y15) (laws_FnExactAlloc.j0 (k + 1) y0 y1 y2 y3 y4 y5 y6 y7 y8 y9 y10 y11 y12 y13 y14 y15)) ∧ (∀ y0 y1 y2 y3 y4 y5 y6 y7 y8 y9 y10, LeO (laws_FnExactAlloc.j1 k y0 y1 y2 y3 y4 y5 y6 y7 y8 y9 y10) (laws_FnExactAlloc.j1 (k + 1) y0 y1 y2 y3 y4 y5 y6 y7 y8 y9 y10)) ∧ (∀ y0 y1 y2 y3, LeO (laws_FnExactAlloc.j2 k y0 y1 y2 y3) (laws_FnExactAlloc.j2 (k + 1) y0 y1 y2 y3))
 | 0 => ⟨fun _ _ _ _ _ _ _ _ _ _ _ _ _ _ _ _ r h => by simp [laws_FnExactAlloc.j0] at h, fun _ _ _ _ _ _ _ _ _ _ _ r h => by simp [laws_FnExactAlloc.j1] at h, fun _ _ _ _ r h => by simp [laws_FnExactAlloc.j2] at h⟩
 | k + 1 => by
  obtain ⟨ih0, ih1, ih2⟩ := laws_FnExactAlloc.mono_l k
  refine ⟨?_, ?_, ?_⟩
  ·intro y0 y1 y2 y3 y4 y5 y6 y7 y8 y9 y10 y11 y12 y13 y14 y15
   unfold laws_FnExactAlloc.j0
   repeat' first
   | (with_reducible exact ih0 _ _ _ _ _ _ _ _ _ _ _ _ _ _ _ _)
   | (with_reducible exact ih1 _ _ _ _ _ _ _ _ _ _ _)
   | (with_reducible exact ih2 _ _ _ _)
   | (with_reducible exact laws_eqHeap.mono _ _ _ _ _)
   | (with_reducible exact laws_eqIntS.mono _ _ _)
   | (with_reducible exact laws_heldHeap.mono _ _ _ _)
   | (with_reducible exact laws_markHeap.mono _ _ _ _)
   | (with_reducible exact laws_markIntS.mono _ _ _)
   | (with_reducible exact laws_toHeap.mono _ _ _)
   | (with_reducible exact laws_toIntS.mono _ _)
   | (with_reducible exact spec_Alloc.mono _ _ _ _ _)
   | (with_reducible exact LeO.refl _)
   | (with_reducible exact LeO.none _)
   | (with_reducible refine LeO.ite ?_ ?_)
   | (with_reducible refine LeO.bind ?_ (fun _ => ?_))
   | exact ih0 _ _ _ _ _ _ _ _ _ _ _ _ _ _ _ _
   | exact ih1 _ _ _ _ _ _ _ _ _ _ _
   | exact ih2 _ _ _ _
   | exact laws_eqHeap.mono _ _ _ _ _
   | exact laws_eqIntS.mono _ _ _
   | exact laws_heldHeap.mono _ _ _ _
   | exact laws_markHeap.mono _ _ _ _
   | exact laws_markIntS.mono _ _ _
   | exact laws_toHeap.mono _ _ _
   | exact laws_toIntS.mono _ _
   | exact spec_Alloc.mono _ _ _ _ _
   | exact LeO.none _
   | refine LeO.ite ?_ ?_
   | refine LeO.bind ?_ (fun _ => ?_)
  ·intro y0 y1 y2 y3 y4 y5 y6 y7 y8 y9 y10
   unfold laws_FnExactAlloc.j1
   repeat' first
   | (with_reducible exact ih0 _ _ _ _ _ _ _ _ _ _ _ _ _ _ _ _)
   | (with_reducible exact ih1 _ _ _ _ _ _ _ _ _ _ _)
   | (with_reducible exact ih2 _ _ _ _)
   | (with_reducible exact laws_eqHeap.mono _ _ _ _ _)
   | (with_reducible exact laws_eqIntS.mono _ _ _)
   | (with_reducible exact laws_heldHeap.mono _ _ _ _)
   | (with_reducible exact laws_markHeap.mono _ _ _ _)
   | (with_reducible exact laws_markIntS.mono _ _ _)
   | (with_reducible exact laws_toHeap.mono _ _ _)
   | (with_reducible exact laws_toIntS.mono _ _)
   | (with_reducible exact spec_Alloc.mono _ _ _ _ _)
   | (with_reducible exact LeO.refl _)
   | (with_reducible exact LeO.none _)
   | (with_reducible refine LeO.ite ?_ ?_)
   | (with_reducible refine LeO.bind ?_ (fun _ => ?_))
   | exact ih0 _ _ _ _ _ _ _ _ _ _ _ _ _ _ _ _
   | exact ih1 _ _ _ _ _ _ _ _ _ _ _
   | exact ih2 _ _ _ _
   | exact laws_eqHeap.mono _ _ _ _ _
   | exact laws_eqIntS.mono _ _ _
   | exact laws_heldHeap.mono _ _ _ _
   | exact laws_markHeap.mono _ _ _ _
   | exact laws_markIntS.mono _ _ _
   | exact laws_toHeap.mono _ _ _
   | exact laws_toIntS.mono _ _
   | exact spec_Alloc.mono _ _ _ _ _
   | exact LeO.none _
   | refine LeO.ite ?_ ?_
   | refine LeO.bind ?_ (fun _ => ?_)
  ·intro y0 y1 y2 y3
   unfold laws_FnExactAlloc.j2
   repeat' first
   | (with_reducible exact ih0 _ _ _ _ _ _ _ _ _ _ _ _ _ _ _ _)
   | (with_reducible exact ih1 _ _ _ _ _ _ _ _ _ _ _)
   | (with_reducible exact ih2 _ _ _ _)
   | (with_reducible exact laws_eqHeap.mono _ _ _ _ _)
   | (with_reducible exact laws_eqIntS.mono _ _ _)
   | (with_reducible exact laws_heldHeap.mono _ _ _ _)
   | (with_reducible exact laws_markHeap.mono _ _ _ _)
   | (with_reducible exact laws_markIntS.mono _ _ _)
   | (with_reducible exact laws_toHeap.mono _ _ _)
   | (with_reducible exact laws_toIntS.mono _ _)
   | (with_reducible exact spec_Alloc.mono _ _ _ _ _)
   | (with_reducible exact LeO.refl _)
   | (with_reducible exact LeO.none _)
   | (with_reducible refine LeO.ite ?_ ?_)
   | (with_reducible refine LeO.bind ?_ (fun _ => ?_))
   | exact ih0 _ _ _ _ _ _ _ _ _ _ _ _ _ _ _ _
   | exact ih1 _ _ _ _ _ _ _ _ _ _ _
   | exact ih2 _ _ _ _
   | exact laws_eqHeap.mono _ _ _ _ _
   | exact laws_eqIntS.mono _ _ _
   | exact laws_heldHeap.mono _ _ _ _
   | exact laws_markHeap.mono _ _ _ _
   | exact laws_markIntS.mono _ _ _
   | exact laws_toHeap.mono _ _ _
   | exact laws_toIntS.mono _ _
   | exact spec_Alloc.mono _ _ _ _ _
   | exact LeO.none _
   | refine LeO.ite ?_ ?_
   | refine LeO.bind ?_ (fun _ => ?_)
theorem laws_FnExactAlloc.mono : ∀ a0 a1 a2 a3 k, LeO (laws_FnExactAlloc.f k a0 a1 a2 a3) (laws_FnExactAlloc.f (k + 1) a0 a1 a2 a3) := by
 intro a0 a1 a2 a3 k
 obtain ⟨ih0, ih1, ih2⟩ := laws_FnExactAlloc.mono_l k
 unfold laws_FnExactAlloc.f
 repeat' first
   | (with_reducible exact ih0 _ _ _ _ _ _ _ _ _ _ _ _ _ _ _ _)
   | (with_reducible exact ih1 _ _ _ _ _ _ _ _ _ _ _)
   | (with_reducible exact ih2 _ _ _ _)
   | (with_reducible exact laws_eqHeap.mono _ _ _ _ _)
   | (with_reducible exact laws_eqIntS.mono _ _ _)
   | (with_reducible exact laws_heldHeap.mono _ _ _ _)
   | (with_reducible exact laws_markHeap.mono _ _ _ _)
   | (with_reducible exact laws_markIntS.mono _ _ _)
   | (with_reducible exact laws_toHeap.mono _ _ _)
   | (with_reducible exact laws_toIntS.mono _ _)
   | (with_reducible exact spec_Alloc.mono _ _ _ _ _)
   | (with_reducible exact LeO.refl _)
   | (with_reducible exact LeO.none _)
   | (with_reducible refine LeO.ite ?_ ?_)
   | (with_reducible refine LeO.bind ?_ (fun _ => ?_))
   | exact ih0 _ _ _ _ _ _ _ _ _ _ _ _ _ _ _ _
   | exact ih1 _ _ _ _ _ _ _ _ _ _ _
   | exact ih2 _ _ _ _
   | exact laws_eqHeap.mono _ _ _ _ _
   | exact laws_eqIntS.mono _ _ _
   | exact laws_heldHeap.mono _ _ _ _
   | exact laws_markHeap.mono _ _ _ _
   | exact laws_markIntS.mono _ _ _
   | exact laws_toHeap.mono _ _ _
   | exact laws_toIntS.mono _ _
   | exact spec_Alloc.mono _ _ _ _ _
   | exact LeO.none _
   | refine LeO.ite ?_ ?_
   | refine LeO.bind ?_ (fun _ => ?_)

end Go.Proofs.Ytggkkgkjhfgipaa.QFnExactAlloc
