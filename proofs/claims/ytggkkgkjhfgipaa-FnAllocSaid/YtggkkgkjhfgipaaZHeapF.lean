/- Contract of the program's functions validHeap and ValidHeap. -/
import Derived.Test.YtggkkgkjhfgipaaZHeapE
namespace Go.Proofs.Ytggkkgkjhfgipaa
open Go.RowKit Go.Proofs.YtggkkgkjhfgipaaW.PrintWords Go.Proofs.YtggkkgkjhfgipaaW.PrintLast Go.Proofs.YtggkkgkjhfgipaaW.PrintMore
open Go.ChangeMaps (setBlock)
set_option linter.unusedVariables false
set_option linter.unusedSimpArgs false

/-- What validHeap answers. -/
def ValidPost (w : World) (ws : List Int) (top : Int) (roots : List Int) (e : Ending) (w' : World) : Prop :=
 Below w.heap.size w w' ∧ ((validF ws top roots = false ∧ e = .returned (.tuple #[.map none, .bool false])) ∨
  (validF ws top roots = true ∧ ∃ b es L, e = .returned (.tuple #[.map (some b), .bool true]) ∧ objsF ws top = some L ∧ EntsOf w' ws L es ∧ w'.heap[b]? = some (.map es.toArray L.length)))
theorem ValidPost.no {w w' : World} {ws : List Int} {top : Int} {roots : List Int} (h : validF ws top roots = false) (hb : Below w.heap.size w w') : ValidPost w ws top roots (.returned (.tuple #[.map none, .bool false])) w' :=
 ⟨hb, .inl ⟨h, rfl⟩⟩
theorem ValidPost.yes {w w' : World} {ws : List Int} {top : Int} {roots : List Int} (h : validF ws top roots = true) (hb : Below w.heap.size w w') {b : Nat} {es : List MapEntry} {L : List (Nat × Nat)} (hL : objsF ws top = some L) (he : EntsOf w' ws L es) (hm : w'.heap[b]? = some (.map es.toArray L.length)) :
  ValidPost w ws top roots (.returned (.tuple #[.map (some b), .bool true])) w' := ⟨hb, .inr ⟨h, b, es, L, rfl, hL, he, hm⟩⟩
theorem validF_none {ws : List Int} {top : Int} {roots : List Int} (h : objsF ws top = none) : validF ws top roots = false := by unfold validF; rw [h]
theorem validF_long {ws : List Int} {top : Int} {roots : List Int} (h : 20000 < roots.length) : validF ws top roots = false := by
 unfold validF
 split
 ·rfl
 ·rw [decide_eq_false (by omega)]; rfl
theorem validF_object {ws : List Int} {top : Int} {roots : List Int} {L : List (Nat × Nat)} (h : objsF ws top = some L) {i : Nat} {q : Nat × Nat} (hq : L[i]? = some q) (ho : objectAt ws L q = false) : validF ws top roots = false := by
 unfold validF
 rw [h]
 have : L.all (objectAt ws L) = false := by
  rw [Bool.eq_false_iff]
  intro ha
  have := List.all_eq_true.1 ha q (List.mem_of_getElem? hq)
  rw [ho] at this
  cases this
 simp only [this, Bool.false_and, Bool.and_false]
theorem validF_root {ws : List Int} {top : Int} {roots : List Int} {L : List (Nat × Nat)} (h : objsF ws top = some L) {j : Nat} (hj : j < roots.length) (ho : wordF (isPlace L) (roots.getD j 0) = false) : validF ws top roots = false := by
 unfold validF
 rw [h]
 simp only [all_false_of _ roots j hj ho, Bool.and_false]
theorem validF_true {ws : List Int} {top : Int} {roots : List Int} {L : List (Nat × Nat)} (h : objsF ws top = some L) (hl : roots.length ≤ 20000) (ho : L.all (objectAt ws L) = true) (hr : AllTo (wordF (isPlace L)) roots roots.length) : validF ws top roots = true := by
 unfold validF
 rw [h]
 simp only [decide_eq_true hl, ho, hr.whole, Bool.and_self]
theorem fieldsAt_mem {ws : List Int} {p n : Nat} {x : Int} (h : x ∈ fieldsAt ws p n) : x ∈ ws := by
 unfold fieldsAt at h
 exact List.mem_of_mem_take (List.mem_of_mem_drop h)

theorem scanF_mem {ws : List Int} {t : Nat} : ∀ (k p : Nat) (L L' : List (Nat × Nat)), (∀ q ∈ L, headAt ws t q.1 = true ∧ q.2 = sizeAt ws q.1) → scanF ws t k p L = some L' → ∀ q ∈ L', headAt ws t q.1 = true ∧ q.2 = sizeAt ws q.1
 | 0, _, _, _, _, h => by simp [scanF] at h
 | k + 1, p, L, L', hL, h => by
  simp only [scanF] at h
  split at h
  ·split at h
   ·rename_i hh
    refine scanF_mem k _ _ L' (fun q hq => ?_) h
    rcases List.mem_append.1 hq with hq | hq
    ·exact hL q hq
    ·rw [List.mem_singleton] at hq
     subst hq
     exact ⟨hh, rfl⟩
   ·cases h
  ·cases h
   exact hL
theorem objsF_mem {ws : List Int} {top : Int} {L : List (Nat × Nat)} (h : objsF ws top = some L) : ws.length ≤ 20000 ∧ 0 ≤ top ∧ top ≤ ws.length ∧ (∀ q ∈ L, headAt ws top.toNat q.1 = true ∧ q.2 = sizeAt ws q.1) := by
 unfold objsF at h
 split at h
 ·cases h
 ·split at h
  ·cases h
  ·split at h
   ·cases h
   ·refine ⟨by omega, by omega, by omega, ?_⟩
    split at h
    ·cases h
    ·rename_i hs
     split at h
     ·cases h
      exact scanF_mem _ _ _ _ (by simp) hs
     ·cases h
theorem objsF_closure {ws : List Int} {top : Int} {L : List (Nat × Nat)} (h : objsF ws top = some L) {i p n : Nat} (hi : L[i]? = some (p, n)) (hk : ws.getD p 0 % 4 = 2) : 0 < n := by
 obtain ⟨_, _, _, hm⟩ := objsF_mem h
 obtain ⟨h1, h2⟩ := hm (p, n) (List.mem_of_getElem? hi)
 simp only at h1 h2
 rw [h2]
 unfold sizeAt
 unfold headAt at h1
 generalize ws.getD p 0 = h0 at *
 rw [hk] at h1
 simp [headF] at h1
 omega
theorem fieldsAt_short {ws : List Int} {top : Int} {L : List (Nat × Nat)} (h : objsF ws top = some L) (p n : Nat) : (fieldsAt ws p n).length ≤ 4611686018427387904 := by
 have := (objsF_mem h).1
 unfold fieldsAt
 rw [List.length_drop, List.length_take]
 omega
def seenOf (w : World) (r : Nat) : Array Nat := match w.heap[r]? with
 | some (.mapIter _ _ s _) => s
 | _ => #[]

set_option maxHeartbeats 2000000 in
set_option maxRecDepth 100000 in
theorem validHeap_calls (A : Option Addr) (c : Nat) (ws : List Int) (top : Int) (R : Option Addr) (cr : Nat) (roots : List Int) (w : World) (hr : Kd.C (Kd.int .i64) w A ws.length ws) (hc : ws.length ≤ c) (hx : ∀ x ∈ ws, InI64 x)
  (hr2 : Kd.C (Kd.int .i64) w R roots.length roots) (hc2 : roots.length ≤ cr) (hx2 : ∀ x ∈ roots, InI64 x) :
  Calls Try.prog 39 #[.agg #[.slice A ws.length c, .int .i64 top], .slice R roots.length cr] w (ValidPost w ws top roots) := by
 have HR := Lib.hid hr
 have HX := Lib.hid hx
 have HR2 := Lib.hid hr2
 have HX2 := Lib.hid hx2
 have hlr : roots.length ≤ 9223372036854775807 := hr2.2.1
 clear hr hx hr2 hx2
 have hu := Try.underlying31
 go_enter Try.func39, Try.ntmps39
 go_wp2_with fail
 refine (objects_calls A c ws top _ (Kd.C_alloc HR.out _) hc HX.out).mono ?_
 intro e w1 hpost
 have hb1 : Below w.heap.size w w1 := ((Below.refl _ _).alloc (Nat.le_refl _) _).trans (hpost.1.mono (by simp))
 have hsz1 : w.heap.size < w1.heap.size := by
  have := hpost.1.size
  simp at this
  omega
 have HB := Lib.hid hb1
 cases hobj : objsF ws top with
 | none =>
  have he := hpost.2
  rw [hobj] at he
  simp only [] at he
  have HV : Hid (validF ws top roots = false) := validF_none hobj
  clear hpost hb1 hobj
  subst he
  go_wp2_with fail
  go_ret2
  exact ValidPost.no HV.out HB.out
 | some L =>
  have he := hpost.2
  rw [hobj] at he
  simp only [] at he
  obtain ⟨b, es, he, hes, hblk⟩ := he
  have HO := Lib.hid hobj
  have HE : Hid (EntsOf w1 ws L es) := hes.below hpost.1
  have HM := Lib.hid hblk
  clear hpost hb1 hobj hes hblk
  subst he
  by_cases hlong : 20000 < roots.length
  ·have HV : Hid (validF ws top roots = false) := validF_long hlong
   have bl : decide ((20000 : Int) < (roots.length : Int)) = true := decide_eq_true (by omega)
   clear hlong
   go_wp2_with fail
   go_ret2
   exact ValidPost.no HV.out HB.out
  ·have bl : decide ((20000 : Int) < (roots.length : Int)) = false := decide_eq_false (by omega)
   have HRL : Hid (roots.length ≤ 20000) := Lib.hid (by omega)
   have hrg := run_range_map (P := Try.prog) w1 59 3 66 b es.toArray L.length Try.underlying59 HM.out
   go_wp2_with fail
   clear hrg bl
   go_loopw [27] (fun _ wr => ∃ seen : Array Nat, Hid (wr.heap[w1.heap.size]? = some (.mapIter (some b) L.length seen L.length)) ∧ SeenOk ws L seen ∧ Hid (Below w1.heap.size w1 wr)) (fun _ wr => (leftOf es.toArray (seenOf wr w1.heap.size)).size)
   case atStart => exact ⟨#[], Lib.hid (heap_alloc_new w1 _), SeenOk.none _ _, Lib.hid ((Below.refl _ _).alloc (Nat.le_refl _) _)⟩
   case round =>
    obtain ⟨seen, HI, HS, HB1⟩ := hrel
    have hmw : wr.heap[b]? = some (.map es.toArray L.length) := (HB1.out.block b (Array.getElem?_eq_some_iff.1 HM.out).1).trans HM.out
    have HMW := Lib.hid hmw
    have HBW : Hid (Below w.heap.size w wr) := Lib.hid (HB.out.trans (HB1.out.mono (by omega)))
    have hes : EntsOf w1 ws L es := HE.out
    rcases run_next_at (P := Try.prog) wr 0 w1.heap.size b L.length L.length seen es.toArray L.length HI.out hmw (by simpa using hes.born_lt) (Nat.le_refl _) with ⟨h0, hrun⟩ | ⟨e0, he0, w2, hw2, hrun⟩
    ·have HALL : Hid (L.all (objectAt ws L) = true) := HS.whole hes h0
     have HW : Hid (∀ (x : Int) (W : World), x ≤ 9223372036854775807 → ObjMap W b es → Calls Try.prog 59 #[.int .i64 x, .map (some b)] W fun e w' => e = .returned (.bool (wordF (isPlace L) x)) ∧ Below W.heap.size W w') := by
      refine Lib.hid (fun x W h1 hm => ?_)
      have := wordOk_calls x b es W h1 hm
      rwa [hes.isP] at this
     have HEW : Hid (EntsOf wr ws L es) := Lib.hid (hes.below HB1.out)
     clear h0 hmw hes HE
     go_wp2_with fail
     clear hrun
     obtain ⟨wo, rfl⟩ : ∃ wo : World, wo = wr := ⟨_, rfl⟩
     go_loopw [36] (fun v w3 => ∃ j : Nat, j ≤ roots.length ∧ v = .int .i64 j ∧ AllTo (wordF (isPlace L)) roots j ∧ Hid (Below wo.heap.size wo w3)) (fun v _ => roots.length - (intOf v).toNat)
     case atStart => exact ⟨0, Nat.zero_le _, rfl, AllTo.zero _ _, Lib.hid (Below.refl _ _)⟩
     case round =>
      obtain ⟨j, hj, rfl, HA, HB2⟩ := hrel
      by_cases hlt : j < roots.length
      ·obtain ⟨ad, ha, hcell⟩ := Kd.at_int HR2.out (j : Int) (by omega) (by omega)
       have hcell' := (HB2.out.cell (World.block_lt_of_cell? wo _ ((HBW.out.cell (World.block_lt_of_cell? w _ hcell)).trans hcell))).trans ((HBW.out.cell (World.block_lt_of_cell? w _ hcell)).trans hcell)
       rw [Int.toNat_natCast] at hcell'
       obtain ⟨x, hxd⟩ : ∃ x, x = roots.getD j 0 := ⟨_, rfl⟩
       rw [show rd roots (j : Int) = x from hxd.symm] at hcell'
       have hx1 : x ≤ 9223372036854775807 := (HX2.out x (by rw [hxd]; exact getD_mem hlt)).2
       have HXD := Lib.hid hxd
       have HM3 : Hid (ObjMap wr b es) := Lib.hid ((HEW.out.objMap HMW.out).below HB2.out)
       clear hcell hxd
       cases ha
       cases hv : wordF (isPlace L) x with
       | true =>
        have HV := Lib.hid hv
        clear hv
        go_wp2_with (go_at_call 59; refine (HW.out x _ hx1 HM3.out).mono ?_; rintro e w4 ⟨rfl, hb4⟩; rw [HV.out])
        have HB3 := Lib.hid hb4
        clear hb4
        go_roundw
        case rel => exact ⟨j + 1, by omega, by go_num, HA.succ hlt (by rw [← HXD.out]; exact HV.out), Lib.hid (HB2.out.trans (HB3.out.mono HB2.out.size))⟩
        case measure => simp [intOf]; omega
       | false =>
        have HV := Lib.hid hv
        have HF : Hid (validF ws top roots = false) := validF_root HO.out hlt (by rw [← HXD.out]; exact hv)
        clear hv
        go_wp2_with (go_at_call 59; refine (HW.out x _ hx1 HM3.out).mono ?_; rintro e w4 ⟨rfl, hb4⟩; rw [HV.out])
        go_ret2
        exact ValidPost.no HF.out (HBW.out.trans ((HB2.out.trans (hb4.mono HB2.out.size)).mono HBW.out.size))
      ·obtain rfl : j = roots.length := by omega
       have HF : Hid (validF ws top roots = true) := validF_true HO.out HRL.out HALL.out HA
       go_wp2_with fail
       go_ret2
       exact ValidPost.yes HF.out (HBW.out.trans (HB2.out.mono HBW.out.size)) HO.out (HEW.out.below HB2.out) ((HB2.out.block _ (Array.getElem?_eq_some_iff.1 HMW.out).1).trans HMW.out)
    ·obtain ⟨i, p, n, a, c', hi, he0', hfl, hfr⟩ := hes.whole e0 (left_mem he0)
     obtain ⟨hn1, hn2, hn3⟩ := next_world (o := .mapIter (some b) L.length (seen.push e0.born) L.length) HB1.out (Nat.le_refl _) hw2 HI.out hmw (by have := (Array.getElem?_eq_some_iff.1 HM.out).1; omega)
     have hen := run_entry_at (P := Try.prog) _ w1.heap.size b L.length seen es.toArray L.length e0 hn1 hn2 (by simpa using left_mem he0) (by simpa using hes.nodup)
     have hless := left_less he0
     generalize setBlock w2 w1.heap.size (.mapIter (some b) L.length (seen.push e0.born) L.length) = W2 at hrun hn1 hn2 hn3 hen
     have HW : Hid (∀ (k : Int) (a : Option Addr) (c : Nat) (xs : List Int) (W : World), Kd.C (Kd.int .i64) W a xs.length xs → xs.length ≤ 4611686018427387904 → (∀ x ∈ xs, x ≤ 9223372036854775807) → ObjMap W b es → (k = 2 → 0 < xs.length) →
       Calls Try.prog 42 #[.agg #[.int .i64 k, .slice a xs.length c], .map (some b)] W fun e w' => e = .returned (.bool (objF (isPlace L) k xs)) ∧ Below W.heap.size W w') := by
      refine Lib.hid (fun k a c xs W h1 h2 h3 h4 h5 => ?_)
      have := objectOk_calls k a c xs b es W h1 h2 h3 h4 h5
      rwa [hes.isP] at this
     obtain ⟨k, hk⟩ : ∃ k, k = ws.getD p 0 % 4 := ⟨_, rfl⟩
     obtain ⟨xs, hxs⟩ : ∃ xs, xs = fieldsAt ws p n := ⟨_, rfl⟩
     rw [← hk] at he0'
     rw [← hxs] at hfl hfr
     subst hfl
     have hsound : k = 2 → 0 < xs.length := by
      intro h2
      exact objsF_closure HO.out hi (by rw [← hk]; exact h2)
     have hlx : xs.length ≤ 4611686018427387904 := by rw [hxs]; exact fieldsAt_short HO.out p xs.length
     have hxx : ∀ x ∈ xs, x ≤ 9223372036854775807 := by
      intro x hx
      rw [hxs] at hx
      exact (HX.out x (fieldsAt_mem hx)).2
     have HOA : Hid (objectAt ws L (p, xs.length) = objF (isPlace L) k xs) := Lib.hid (by unfold objectAt; rw [← hk, ← hxs])
     have hborn : e0.born = i := by rw [he0']
     rw [he0'] at hen
     rw [hborn] at hless hn1
     have HEW2 : Hid (ObjMap W2 b es) := Lib.hid (hes.objMap hn2)
     have HF2 : Hid (Kd.C (Kd.int .i64) W2 a xs.length xs) := Lib.hid (Kd.C_below hfr (hn3.mono (Nat.le_refl _)))
     have HN1 := Lib.hid hn1
     have HN3 := Lib.hid hn3
     have HI2 := Lib.hid hi
     have HLESS := Lib.hid hless
     have HSND := Lib.hid hsound
     have HXX := Lib.hid hxx
     have HSEEN : Hid (seenOf wr w1.heap.size = seen) := Lib.hid (by unfold seenOf; rw [HI.out])
     clear hn1 hn2 hn3 he0' he0 hborn hk hxs hsound hxx hi hless hfr hmw hes HE hw2
     cases hv : objF (isPlace L) k xs with
     | false =>
      have HV := Lib.hid hv
      have HF : Hid (validF ws top roots = false) := validF_object HO.out HI2.out (by rw [HOA.out]; exact hv)
      clear hv
      go_wp2_with (go_at_call 42; refine (HW.out k a c' xs _ (Kd.C_alloc HF2.out _) hlx HXX.out (HEW2.out.alloc _) HSND.out).mono ?_; rintro e w4 ⟨rfl, hb4⟩; rw [HV.out])
      go_ret2
      have hb5 : Below W2.heap.size W2 w4 := ((Below.refl W2.heap.size W2).alloc (Nat.le_refl _) _).trans (hb4.mono (by simp))
      exact ValidPost.no HF.out (HB.out.trans ((HN3.out.trans (hb5.mono HN3.out.size)).mono (by omega)))
     | true =>
      have HV := Lib.hid hv
      clear hv
      go_wp2_with (go_at_call 42; refine (HW.out k a c' xs _ (Kd.C_alloc HF2.out _) hlx HXX.out (HEW2.out.alloc _) HSND.out).mono ?_; rintro e w4 ⟨rfl, hb4⟩; rw [HV.out])
      have HB4 := Lib.hid hb4
      clear hb4
      have hsz2 : W2.heap.size < w4.heap.size := by
       have := HB4.out.size
       simp at this
       omega
      have hb5 : Below W2.heap.size W2 w4 := ((Below.refl W2.heap.size W2).alloc (Nat.le_refl _) _).trans (HB4.out.mono (by simp))
      have hi4 : w4.heap[w1.heap.size]? = some (.mapIter (some b) L.length (seen.push i) L.length) := (hb5.block _ (Array.getElem?_eq_some_iff.1 HN1.out).1).trans HN1.out
      go_roundw
      case rel => exact ⟨seen.push i, Lib.hid hi4, HS.push i HI2.out (by rw [HOA.out]; exact HV.out), Lib.hid (HN3.out.trans (hb5.mono HN3.out.size))⟩
      case measure =>
       rw [HSEEN.out]
       have : seenOf w4 w1.heap.size = seen.push i := by unfold seenOf; rw [hi4]
       rw [this]
       exact HLESS.out

/-- ValidHeap answers 'validF'. -/
theorem ValidHeap_calls (A : Option Addr) (c : Nat) (ws : List Int) (top : Int) (R : Option Addr) (cr : Nat) (roots : List Int) (w : World) (hr : Kd.C (Kd.int .i64) w A ws.length ws) (hc : ws.length ≤ c) (hx : ∀ x ∈ ws, InI64 x)
  (hr2 : Kd.C (Kd.int .i64) w R roots.length roots) (hc2 : roots.length ≤ cr) (hx2 : ∀ x ∈ roots, InI64 x) :
  Calls Try.prog 24 #[.agg #[.slice A ws.length c, .int .i64 top], .slice R roots.length cr] w fun e w' => e = .returned (.bool (validF ws top roots)) ∧ Below w.heap.size w w' := by
 have HR := Lib.hid hr
 have HX := Lib.hid hx
 have HR2 := Lib.hid hr2
 have HX2 := Lib.hid hx2
 clear hr hx hr2 hx2
 have hu := Try.underlying31
 go_enter Try.func24, Try.ntmps24
 go_wp2_with fail
 refine (validHeap_calls A c ws top R cr roots _ (Kd.C_alloc HR.out _) hc HX.out (Kd.C_alloc HR2.out _) hc2 HX2.out).mono ?_
 rintro e w1 ⟨hb, ⟨hv, rfl⟩ | ⟨hv, b, es, L, rfl, -⟩⟩
 all_goals
  have HV := Lib.hid hv
  have HB : Hid (Below w.heap.size w w1) := Lib.hid (((Below.refl _ _).alloc (Nat.le_refl _) _).trans (hb.mono (by simp)))
  clear hv hb
  go_wp2_with fail
  go_ret
  exact ⟨ret_bool HV.out.symm, HB.out⟩
end Go.Proofs.Ytggkkgkjhfgipaa
