-- Written by a program of this session (wip/tools/ownprint.py) over hand-proved contracts.
import Derived.Test.YtggkkgkjhfgipaaQFnExactCollectx0
import Derived.Test.YtggkkgkjhfgipaaQFnExactCollectx1
import Derived.Test.YtggkkgkjhfgipaaQFnExactCollectx5
import Derived.Test.YtggkkgkjhfgipaaHandCollect
namespace Go.Proofs.Ytggkkgkjhfgipaa.QFnExactCollect
open Go.RowKit Go.Proofs.YtggkkgkjhfgipaaW.PrintWords Go.Proofs.YtggkkgkjhfgipaaW.PrintLast Go.Proofs.YtggkkgkjhfgipaaW.PrintMore
attribute [local go_sem] max2_int min2_int max_two min_two max_three min_three max_four min_four   -- for this text's walks alone
set_option linter.unusedVariables false
set_option linter.unusedSimpArgs false

-- BY HAND: function 32 (impl_Collect)

/-! ### laws_FnExactCollect: function 9 -/
mutual
def laws_FnExactCollect.j0 : Nat → List Int → List Int → Int → List Int → List Int → Int → Bool → List Int → Int → List Int → Int → List Int → Int → List Int → Int → Option (Bool)
 | 0, _, _, _, _, _, _, _, _, _, _, _, _, _, _, _ => none
 | k + 1, x1, x7, x8, x10, x12, x13, x62, x201000, x201001, x218000, x218001, x223000, x223001, x235000, x235001 => if x62 = true then (some false) else ((laws_toHeap.f k x201000 x201001).bind fun bt237 => ((laws_eqHeap.f k x223000 x223001 bt237.1 bt237.2).bind fun t241 => (if t241 = true then ((laws_toIntS.f k x1).bind fun t242 => ((laws_eqIntS.f k x10 t242).bind fun t245 => (if t245 = true then ((laws_markHeap.f k x223000 x223001 1).bind fun bt246 => ((laws_markIntS.f k x10 bt246.1).bind fun bt248 => (if bt248.1 < 0 then (laws_FnExactCollect.j1 k x1 x7 x8 x12 true x201000 x201001 x218000 x218001 x235000 x235001) else ((laws_eqHeap.f k x235000 x235001 x218000 x218001).bind fun t250 => (if t250 = true then ((laws_eqIntS.f k x12 x7).bind fun t251 => (if t251 = true then (laws_FnExactCollect.j1 k x1 x7 x8 x12 (x13 != x8) x201000 x201001 x218000 x218001 x235000 x235001) else (laws_FnExactCollect.j1 k x1 x7 x8 x12 true x201000 x201001 x218000 x218001 x235000 x235001))) else (laws_FnExactCollect.j1 k x1 x7 x8 x12 true x201000 x201001 x218000 x218001 x235000 x235001)))))) else (some false)))) else (some false))))
def laws_FnExactCollect.j1 : Nat → List Int → List Int → Int → List Int → Bool → List Int → Int → List Int → Int → List Int → Int → Option (Bool)
 | 0, _, _, _, _, _, _, _, _, _, _, _ => none
 | k + 1, x1, x7, x8, x12, x97, x201000, x201001, x218000, x218001, x235000, x235001 => if x97 = true then (some false) else ((laws_markHeap.f k x235000 x235001 1).bind fun bt252 => ((laws_markIntS.f k x12 bt252.1).bind fun bt254 => ((laws_heldHeap.f k bt252.2 x235001 1).bind fun t256 => (if t256 < 0 then (some false) else ((laws_heldIntS.f k bt254.2 t256).bind fun t257 => (if t257 < 0 then (some false) else (if t257 = bt254.1 then ((laws_toHeap.f k x201000 x201001).bind fun bt258 => ((laws_toIntS.f k x1).bind fun t262 => ((impl_Collect.f bt258.1 bt258.2 t262).bind fun bt265 => ((laws_eqHeap.f k bt265.1 bt265.2.1 x218000 x218001).bind fun t274 => (if t274 = true then ((laws_eqIntS.f k bt265.2.2.1 x7).bind fun t275 => (if t275 = true then (laws_FnExactCollect.j2 k bt254.2 bt254.1 (bt265.2.2.2 != x8) bt252.2 x235001) else (laws_FnExactCollect.j2 k bt254.2 bt254.1 true bt252.2 x235001))) else (laws_FnExactCollect.j2 k bt254.2 bt254.1 true bt252.2 x235001)))))) else (some false))))))))
def laws_FnExactCollect.j2 : Nat → List Int → Int → Bool → List Int → Int → Option (Bool)
 | 0, _, _, _, _, _ => none
 | k + 1, x12, x15, x140, x235000, x235001 => if x140 = true then (some false) else ((laws_heldHeap.f k x235000 x235001 1).bind fun t276 => (if t276 < 0 then (some false) else ((laws_heldIntS.f k x12 t276).bind fun t277 => (if t277 < 0 then (some false) else (if t277 = x15 then (some true) else (some false))))))
end
def laws_FnExactCollect.f (k : Nat) (l0_0 : List Int) (a0_1 : Int) (l1 : List Int) : Option (Bool) := if (l1.length : Int) > 1048576 then (some true) else ((laws_szHeap.f l0_0 a0_1 1048576).bind fun t201 => (if t201 < 0 then (some true) else ((laws_toHeap.f k l0_0 a0_1).bind fun bt202 => ((laws_toIntS.f k l1).bind fun t206 => ((spec_Collect.f k bt202.1 bt202.2 t206).bind fun bt209 => ((laws_toHeap.f k l0_0 a0_1).bind fun bt218 => ((laws_toIntS.f k l1).bind fun t223 => ((impl_Collect.f bt218.1 bt218.2 t223).bind fun bt226 => ((laws_eqHeap.f k bt226.1 bt226.2.1 bt209.1 bt209.2.1).bind fun t235 => (if t235 = true then ((laws_eqIntS.f k bt226.2.2.1 bt209.2.2.1).bind fun t236 => (if t236 = true then (laws_FnExactCollect.j0 k l1 bt209.2.2.1 bt209.2.2.2 t223 bt226.2.2.1 bt226.2.2.2 (bt226.2.2.2 != bt209.2.2.2) l0_0 a0_1 bt209.1 bt209.2.1 bt218.1 bt218.2 bt226.1 bt226.2.1) else (laws_FnExactCollect.j0 k l1 bt209.2.2.1 bt209.2.2.2 t223 bt226.2.2.1 bt226.2.2.2 true l0_0 a0_1 bt209.1 bt209.2.1 bt218.1 bt218.2 bt226.1 bt226.2.1))) else (laws_FnExactCollect.j0 k l1 bt209.2.2.1 bt209.2.2.2 t223 bt226.2.2.1 bt226.2.2.2 true l0_0 a0_1 bt209.1 bt209.2.1 bt218.1 bt218.2 bt226.1 bt226.2.1)))))))))))
theorem laws_FnExactCollect.mono_l : ∀ k, (∀ y0 y1 y2 y3 y4 y5 y6 y7 y8 y9 y10 y11 y12 y13 y14, LeO (laws_FnExactCollect.j0 k y0 y1 y2 y3 y4 y5 y6 y7 y8 y9 y10 y11 y12 y13 y14) (laws_FnExactCollect.j0 (k + 1) y0 y1 y2 y3 y4 y5 y6 y7 y8 y9 y10 y11 y12 y13 y14)) ∧ (∀ y0 y1 y2 y3 y4 y5 y6 y7 y8 y9 y10, LeO (laws_FnExactCollect.j1 k y0 y1 y2 y3 y4 y5 y6 y7 y8 y9 y10) (laws_FnExactCollect.j1 (k + 1) y0 y1 y2 y3 y4 y5 y6 y7 y8 y9 y10)) ∧ (∀ y0 y1 y2 y3 y4, LeO (laws_FnExactCollect.j2 k y0 y1 y2 y3 y4) (laws_FnExactCollect.j2 (k + 1) y0 y1 y2 y3 y4))
 | 0 => ⟨fun _ _ _ _ _ _ _ _ _ _ _ _ _ _ _ r h => by simp [laws_FnExactCollect.j0] at h, fun _ _ _ _ _ _ _ _ _ _ _ r h => by simp [laws_FnExactCollect.j1] at h, fun _ _ _ _ _ r h => by simp [laws_FnExactCollect.j2] at h⟩
 | k + 1 => by
  obtain ⟨ih0, ih1, ih2⟩ := laws_FnExactCollect.mono_l k
  refine ⟨?_, ?_, ?_⟩
  ·intro y0 y1 y2 y3 y4 y5 y6 y7 y8 y9 y10 y11 y12 y13 y14
   unfold laws_FnExactCollect.j0
   repeat' first
   | (with_reducible exact ih0 _ _ _ _ _ _ _ _ _ _ _ _ _ _ _)
   | (with_reducible exact ih1 _ _ _ _ _ _ _ _ _ _ _)
   | (with_reducible exact ih2 _ _ _ _ _)
   | (with_reducible exact laws_eqHeap.mono _ _ _ _ _)
   | (with_reducible exact laws_eqIntS.mono _ _ _)
   | (with_reducible exact laws_heldHeap.mono _ _ _ _)
   | (with_reducible exact laws_heldIntS.mono _ _ _)
   | (with_reducible exact laws_markHeap.mono _ _ _ _)
   | (with_reducible exact laws_markIntS.mono _ _ _)
   | (with_reducible exact laws_toHeap.mono _ _ _)
   | (with_reducible exact laws_toIntS.mono _ _)
   | (with_reducible exact spec_Collect.mono _ _ _ _)
   | (with_reducible exact LeO.refl _)
   | (with_reducible exact LeO.none _)
   | (with_reducible refine LeO.ite ?_ ?_)
   | (with_reducible refine LeO.bind ?_ (fun _ => ?_))
   | exact ih0 _ _ _ _ _ _ _ _ _ _ _ _ _ _ _
   | exact ih1 _ _ _ _ _ _ _ _ _ _ _
   | exact ih2 _ _ _ _ _
   | exact laws_eqHeap.mono _ _ _ _ _
   | exact laws_eqIntS.mono _ _ _
   | exact laws_heldHeap.mono _ _ _ _
   | exact laws_heldIntS.mono _ _ _
   | exact laws_markHeap.mono _ _ _ _
   | exact laws_markIntS.mono _ _ _
   | exact laws_toHeap.mono _ _ _
   | exact laws_toIntS.mono _ _
   | exact spec_Collect.mono _ _ _ _
   | exact LeO.none _
   | refine LeO.ite ?_ ?_
   | refine LeO.bind ?_ (fun _ => ?_)
  ·intro y0 y1 y2 y3 y4 y5 y6 y7 y8 y9 y10
   unfold laws_FnExactCollect.j1
   repeat' first
   | (with_reducible exact ih0 _ _ _ _ _ _ _ _ _ _ _ _ _ _ _)
   | (with_reducible exact ih1 _ _ _ _ _ _ _ _ _ _ _)
   | (with_reducible exact ih2 _ _ _ _ _)
   | (with_reducible exact laws_eqHeap.mono _ _ _ _ _)
   | (with_reducible exact laws_eqIntS.mono _ _ _)
   | (with_reducible exact laws_heldHeap.mono _ _ _ _)
   | (with_reducible exact laws_heldIntS.mono _ _ _)
   | (with_reducible exact laws_markHeap.mono _ _ _ _)
   | (with_reducible exact laws_markIntS.mono _ _ _)
   | (with_reducible exact laws_toHeap.mono _ _ _)
   | (with_reducible exact laws_toIntS.mono _ _)
   | (with_reducible exact spec_Collect.mono _ _ _ _)
   | (with_reducible exact LeO.refl _)
   | (with_reducible exact LeO.none _)
   | (with_reducible refine LeO.ite ?_ ?_)
   | (with_reducible refine LeO.bind ?_ (fun _ => ?_))
   | exact ih0 _ _ _ _ _ _ _ _ _ _ _ _ _ _ _
   | exact ih1 _ _ _ _ _ _ _ _ _ _ _
   | exact ih2 _ _ _ _ _
   | exact laws_eqHeap.mono _ _ _ _ _
   | exact laws_eqIntS.mono _ _ _
   | exact laws_heldHeap.mono _ _ _ _
   | exact laws_heldIntS.mono _ _ _
   | exact laws_markHeap.mono _ _ _ _
   | exact laws_markIntS.mono _ _ _
   | exact laws_toHeap.mono _ _ _
   | exact laws_toIntS.mono _ _
   | exact spec_Collect.mono _ _ _ _
   | exact LeO.none _
   | refine LeO.ite ?_ ?_
   | refine LeO.bind ?_ (fun _ => ?_)
  ·intro y0 y1 y2 y3 y4
   unfold laws_FnExactCollect.j2
   repeat' first
   | (with_reducible exact ih0 _ _ _ _ _ _ _ _ _ _ _ _ _ _ _)
   | (with_reducible exact ih1 _ _ _ _ _ _ _ _ _ _ _)
   | (with_reducible exact ih2 _ _ _ _ _)
   | (with_reducible exact laws_eqHeap.mono _ _ _ _ _)
   | (with_reducible exact laws_eqIntS.mono _ _ _)
   | (with_reducible exact laws_heldHeap.mono _ _ _ _)
   | (with_reducible exact laws_heldIntS.mono _ _ _)
   | (with_reducible exact laws_markHeap.mono _ _ _ _)
   | (with_reducible exact laws_markIntS.mono _ _ _)
   | (with_reducible exact laws_toHeap.mono _ _ _)
   | (with_reducible exact laws_toIntS.mono _ _)
   | (with_reducible exact spec_Collect.mono _ _ _ _)
   | (with_reducible exact LeO.refl _)
   | (with_reducible exact LeO.none _)
   | (with_reducible refine LeO.ite ?_ ?_)
   | (with_reducible refine LeO.bind ?_ (fun _ => ?_))
   | exact ih0 _ _ _ _ _ _ _ _ _ _ _ _ _ _ _
   | exact ih1 _ _ _ _ _ _ _ _ _ _ _
   | exact ih2 _ _ _ _ _
   | exact laws_eqHeap.mono _ _ _ _ _
   | exact laws_eqIntS.mono _ _ _
   | exact laws_heldHeap.mono _ _ _ _
   | exact laws_heldIntS.mono _ _ _
   | exact laws_markHeap.mono _ _ _ _
   | exact laws_markIntS.mono _ _ _
   | exact laws_toHeap.mono _ _ _
   | exact laws_toIntS.mono _ _
   | exact spec_Collect.mono _ _ _ _
   | exact LeO.none _
   | refine LeO.ite ?_ ?_
   | refine LeO.bind ?_ (fun _ => ?_)
theorem laws_FnExactCollect.mono : ∀ a0 a1 a2 k, LeO (laws_FnExactCollect.f k a0 a1 a2) (laws_FnExactCollect.f (k + 1) a0 a1 a2) := by
 intro a0 a1 a2 k
 obtain ⟨ih0, ih1, ih2⟩ := laws_FnExactCollect.mono_l k
 unfold laws_FnExactCollect.f
 repeat' first
   | (with_reducible exact ih0 _ _ _ _ _ _ _ _ _ _ _ _ _ _ _)
   | (with_reducible exact ih1 _ _ _ _ _ _ _ _ _ _ _)
   | (with_reducible exact ih2 _ _ _ _ _)
   | (with_reducible exact laws_eqHeap.mono _ _ _ _ _)
   | (with_reducible exact laws_eqIntS.mono _ _ _)
   | (with_reducible exact laws_heldHeap.mono _ _ _ _)
   | (with_reducible exact laws_heldIntS.mono _ _ _)
   | (with_reducible exact laws_markHeap.mono _ _ _ _)
   | (with_reducible exact laws_markIntS.mono _ _ _)
   | (with_reducible exact laws_toHeap.mono _ _ _)
   | (with_reducible exact laws_toIntS.mono _ _)
   | (with_reducible exact spec_Collect.mono _ _ _ _)
   | (with_reducible exact LeO.refl _)
   | (with_reducible exact LeO.none _)
   | (with_reducible refine LeO.ite ?_ ?_)
   | (with_reducible refine LeO.bind ?_ (fun _ => ?_))
   | exact ih0 _ _ _ _ _ _ _ _ _ _ _ _ _ _ _
   | exact ih1 _ _ _ _ _ _ _ _ _ _ _
   | exact ih2 _ _ _ _ _
   | exact laws_eqHeap.mono _ _ _ _ _
   | exact laws_eqIntS.mono _ _ _
   | exact laws_heldHeap.mono _ _ _ _
   | exact laws_heldIntS.mono _ _ _
   | exact laws_markHeap.mono _ _ _ _
   | exact laws_markIntS.mono _ _ _
   | exact laws_toHeap.mono _ _ _
   | exact laws_toIntS.mono _ _
   | exact spec_Collect.mono _ _ _ _
   | exact LeO.none _
   | refine LeO.ite ?_ ?_
   | refine LeO.bind ?_ (fun _ => ?_)

end Go.Proofs.Ytggkkgkjhfgipaa.QFnExactCollect
