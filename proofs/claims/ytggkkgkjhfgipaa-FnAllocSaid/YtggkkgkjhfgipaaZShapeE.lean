/- The program's SameShape: its inner function, at all words; the function itself. -/
import Derived.Test.YtggkkgkjhfgipaaZShapeD
import Derived.Laws.EntriesVeiled
namespace Go.Proofs.Ytggkkgkjhfgipaa
open Go.RowKit Go.Proofs.YtggkkgkjhfgipaaW.PrintWords Go.Proofs.YtggkkgkjhfgipaaW.PrintLast Go.Proofs.YtggkkgkjhfgipaaW.PrintMore
open Go.ChangeMaps (setBlock)
set_option linter.unusedVariables false
set_option linter.unusedSimpArgs false
theorem same_calls (wb : World) (T U A B S mt mu ba bb : Nat) (ws vs : List Int) (t u : Nat) (L M : List (Nat × Nat)) (es1 es2 : List MapEntry) (hw : Laid ws t L) (hv : Laid vs u M) (hx1 : ∀ x ∈ ws, InI64 x) (hx2 : ∀ x ∈ vs, InI64 x)
  (he1 : EntsOf wb ws L es1) (he2 : EntsOf wb vs M es2) (hf1 : wb.heap[ba]? = some (.map es1.toArray L.length)) (hf2 : wb.heap[bb]? = some (.map es2.toArray M.length)) (n : Nat) : ∀ (ps : List (Nat × Nat)) (v w : Int) (W : World), t - ps.length < n → PsOk ws vs L M ps → wordF (isPlace L) v = true → wordF (isPlace M) w = true → InI64 v → InI64 w →
   Shp wb T U A B S mt mu ba bb (FV T U A B S) ps W →
   Calls Try.prog 45 #[.int .i64 v, .int .i64 w, .pointer (some ⟨T, 0, none⟩), .pointer (some ⟨U, 0, none⟩), .pointer (some ⟨A, 0, none⟩), .pointer (some ⟨B, 0, none⟩), .pointer (some ⟨S, 0, none⟩)] W (SP wb T U A B S mt mu ba bb (FV T U A B S) ws vs L M ps v w W) := by
 induction n with
 | zero => exact fun ps v w W h => absurd h (Nat.not_lt_zero _)
 | succ n ih =>
  intro ps v w W hn hok hwv hww hv1 hw1 hS
  by_cases h1 : v % 4 = 1
  ·by_cases h2 : w % 4 = 1
   ·obtain ⟨a0, ain⟩ := place_in hw.objs hwv h1
    obtain ⟨b0, bin⟩ := place_in hv.objs hww h2
    obtain ⟨af1, af2, af3, af4, af5⟩ := obj_fits hw.objs ain
    obtain ⟨bf1, bf2, bf3, bf4, bf5⟩ := obj_fits hv.objs bin
    have al := objsF_mem hw.objs
    have bl := objsF_mem hv.objs
    have hvp : v = 4 * (plc v : Int) + 1 := by unfold plc; omega
    have hwq : w = 4 * (plc w : Int) + 1 := by unfold plc; omega
    by_cases hnew : lookP ps (plc v) = none ∧ lookQ ps (plc w) = none
    ·obtain ⟨a1, c1, hla, hca⟩ := he1.look hw.objs ain
     obtain ⟨a2, c2, hlb, hcb⟩ := he2.look hv.objs bin
     refine same_new wb T U A B S mt mu ba bb ws vs L M ps v w (plc v) (plc w) (sizeAt ws (plc v)) (sizeAt vs (plc w)) c1 c2 (ws.getD (plc v) 0 % 4) (vs.getD (plc w) 0 % 4) a1 a2 W hS hvp hwq (by omega) (by omega) hnew.1 hnew.2 (by omega) (by omega) (by omega) (by omega) (by omega) (by omega) rfl rfl hca hcb af5 bf5 rfl ain bin hok
      (fun x hx => ⟨fields_ok hw.ok ain x hx, hx1 x (fieldsAt_mem hx)⟩) (fun x hx => ⟨fields_ok hv.ok bin x hx, hx2 x (fieldsAt_mem hx)⟩) ?_ ?_ ?_
     ·intro cs v' w' W' hlen hok' q1 q2 q3 q4 hS'
      have := hok'.le hw.objs
      exact ih cs v' w' W' (by omega) hok' q1 q2 q3 q4 hS'
     ·intro W' hb
      have hfb : W'.heap[ba]? = some (.map es1.toArray L.length) := (hb.block ba (blk_lt hf1)).trans hf1
      have := run_lookup_one Try.underlying59 Try.underlying3 hfb he1.intKeys (plc v : Int) (zero_object W')
      rw [hla] at this
      exact this
     ·intro W' hb
      have hfb : W'.heap[bb]? = some (.map es2.toArray M.length) := (hb.block bb (blk_lt hf2)).trans hf2
      have := run_lookup_one Try.underlying59 Try.underlying3 hfb he2.intKeys (plc w : Int) (zero_object W')
      rw [hlb] at this
      exact this
    ·obtain ⟨ts, k1, t1, t2, t3⟩ := hS.mT
     obtain ⟨us, k2, u1, u2, u3⟩ := hS.mU
     have hl1 := run_lookup_ok Try.underlying68 Try.underlying3 t1 t2 (plc v : Int) (zero_int W)
     rw [t3] at hl1
     have hl2 := run_lookup_ok Try.underlying68 Try.underlying3 u1 u2 (plc w : Int) (zero_int W)
     rw [u3] at hl2
     obtain ⟨r1, hr1⟩ : ∃ r1 : Int, ((lookP ps (plc v)).map fun (q : Nat) => Value.int .i64 (q : Int)).getD (.int .i64 0) = .int .i64 r1 ∧ ∀ q, lookP ps (plc v) = some q → r1 = (q : Int) := by
      cases lookP ps (plc v) with
      | none => exact ⟨0, rfl, fun q h => by cases h⟩
      | some q => exact ⟨(q : Int), rfl, fun q' h => by cases h; rfl⟩
     obtain ⟨r2, hr2⟩ : ∃ r2 : Int, ((lookQ ps (plc w)).map fun (p : Nat) => Value.int .i64 (p : Int)).getD (.int .i64 0) = .int .i64 r2 ∧ ∀ p, lookQ ps (plc w) = some p → r2 = (p : Int) := by
      cases lookQ ps (plc w) with
      | none => exact ⟨0, rfl, fun q h => by cases h⟩
      | some q => exact ⟨(q : Int), rfl, fun q' h => by cases h; rfl⟩
     rw [hr1.1, Option.isSome_map] at hl1
     rw [hr2.1, Option.isSome_map] at hl2
     have hsome : (lookP ps (plc v)).isSome = true ∨ (lookQ ps (plc w)).isSome = true := by
      cases hP : lookP ps (plc v) with
      | some q => exact .inl rfl
      | none =>
       cases hQ : lookQ ps (plc w) with
       | some q => exact .inr rfl
       | none => exact absurd ⟨hP, hQ⟩ hnew
     refine (same_seen v w (plc v) (plc w) r1 r2 _ _ T U A B S mt mu W h1 h2 (by omega) hv1.2 (by omega) hw1.2 (by omega) (by omega) (blk_cell hS.cT 0) (blk_cell hS.cU 0) hl1 hl2 hsome).mono ?_
     rintro e W' ⟨rfl, rfl⟩
     refine ⟨_, ps, rfl, same_met hok h1 h2 ?_ ?_, fun _ => hS, But.refl _ _⟩
     ·rcases hsome with h | h
      ·exact .inl (fun e => by rw [e] at h; cases h)
      ·exact .inr (fun e => by rw [e] at h; cases h)
     ·cases hP : lookP ps (plc v) with
      | none => simp
      | some q =>
       cases hQ : lookQ ps (plc w) with
       | none => simp
       | some p =>
        rw [hr1.2 q hP, hr2.2 p hQ]
        simp
        omega
   ·refine (same_second v w T U A B S W h1 h2).mono ?_
    rintro e W' ⟨rfl, rfl⟩
    exact ⟨_, ps, rfl, same_plain hok (fun e => h2 e.2), fun _ => hS, But.refl _ _⟩
  ·refine (same_first v w T U A B S W h1).mono ?_
   rintro e W' ⟨rfl, rfl⟩
   exact ⟨_, ps, rfl, same_plain hok (fun e => h1 e.1), fun _ => hS, But.refl _ _⟩
open Classical in
/-- Is there a matching? -/
noncomputable def shapeB (ws vs roots others : List Int) : Bool := decide (ShapeP ws vs roots others)
theorem shapeB_true {ws vs roots others : List Int} (h : ShapeP ws vs roots others) : shapeB ws vs roots others = true := by
 unfold shapeB
 simp [h]
theorem shapeB_false {ws vs roots others : List Int} (h : ¬ ShapeP ws vs roots others) : shapeB ws vs roots others = false := by
 unfold shapeB
 simp [h]
theorem of_shapeB {ws vs roots others : List Int} (h : shapeB ws vs roots others = true) : ShapeP ws vs roots others := by
 unfold shapeB at h
 simpa using h
/-- What SameShape answers. -/
noncomputable def shapeF (ws : List Int) (top : Int) (roots : List Int) (vs : List Int) (top2 : Int) (others : List Int) : Bool :=
 validF ws top roots && (validF vs top2 others && (decide (roots.length = others.length) && shapeB ws vs roots others))
/-- What validHeap answers, in one form. -/
def ValidOne (w : World) (ws : List Int) (top : Int) (roots : List Int) (e : Ending) (w' : World) : Prop :=
 ∃ (mo : Option Nat) (b : Bool), e = .returned (.tuple #[.map mo, .bool b]) ∧ validF ws top roots = b ∧ Below w.heap.size w w' ∧
  (b = true → ∃ bm es L, mo = some bm ∧ objsF ws top = some L ∧ EntsOf w' ws L es ∧ w'.heap[bm]? = some (.map es.toArray L.length))
theorem ValidPost.one {w : World} {ws : List Int} {top : Int} {roots : List Int} {e : Ending} {w' : World} (h : ValidPost w ws top roots e w') : ValidOne w ws top roots e w' := by
 rcases h with ⟨hb, ⟨hv, rfl⟩ | ⟨hv, b, es, L, rfl, hL, hes, hblk⟩⟩
 ·exact ⟨none, false, rfl, hv, hb, fun e => by cases e⟩
 ·exact ⟨some b, true, rfl, hv, hb, fun _ => ⟨b, es, L, rfl, hL, hes, hblk⟩⟩
theorem laid_of {ws : List Int} {t : Nat} {roots : List Int} {L : List (Nat × Nat)} (hv : validF ws (t : Int) roots = true) (hL : objsF ws (t : Int) = some L) : Laid ws t L ∧ (∀ x ∈ roots, wordF (isPlace L) x = true) ∧ roots.length ≤ 20000 := by
 obtain ⟨L', h1, h2, h3, h4⟩ := validF_parts hv
 rw [hL] at h1
 cases h1
 exact ⟨⟨hL, h3⟩, h4, h2⟩
set_option maxHeartbeats 4000000 in
set_option maxRecDepth 100000 in
theorem SameShape_calls (A0 : Option Addr) (c0 : Nat) (ws : List Int) (top : Int) (R : Option Addr) (cr : Nat) (roots : List Int) (A1 : Option Addr) (c1 : Nat) (vs : List Int) (top2 : Int) (O : Option Addr) (co : Nat) (others : List Int) (w : World)
  (hr : Kd.C (Kd.int .i64) w A0 ws.length ws) (hc : ws.length ≤ c0) (hx : ∀ x ∈ ws, InI64 x) (hr2 : Kd.C (Kd.int .i64) w R roots.length roots) (hc2 : roots.length ≤ cr) (hx2 : ∀ x ∈ roots, InI64 x)
  (hs : Kd.C (Kd.int .i64) w A1 vs.length vs) (hd : vs.length ≤ c1) (hy : ∀ x ∈ vs, InI64 x) (hs2 : Kd.C (Kd.int .i64) w O others.length others) (hd2 : others.length ≤ co) (hy2 : ∀ x ∈ others, InI64 x) :
  Calls Try.prog 30 #[.agg #[.slice A0 ws.length c0, .int .i64 top], .slice R roots.length cr, .agg #[.slice A1 vs.length c1, .int .i64 top2], .slice O others.length co] w fun e w' => e = .returned (.bool (shapeF ws top roots vs top2 others)) ∧ Below w.heap.size w w' := by
 have HR := Lib.hid hr
 have HX := Lib.hid hx
 have HR2 := Lib.hid hr2
 have HX2 := Lib.hid hx2
 have HS := Lib.hid hs
 have HY := Lib.hid hy
 have HS2 := Lib.hid hs2
 have HY2 := Lib.hid hy2
 have hlr : roots.length ≤ 9223372036854775807 := hr2.2.1
 have hlo : others.length ≤ 9223372036854775807 := hs2.2.1
 clear hr hx hr2 hx2 hs hy hs2 hy2
 have hu := Try.underlying31
 go_enter Try.func30, Try.ntmps30
 go_wp2_with fail
 refine (validHeap_calls A0 c0 ws top R cr roots _ (Kd.C_alloc (Kd.C_alloc HR.out _) _) hc HX.out (Kd.C_alloc (Kd.C_alloc HR2.out _) _) hc2 HX2.out).mono ?_
 intro e w1 hpost
 obtain ⟨mo1, b1, rfl, hv1, hb1, hm1⟩ := hpost.one
 have HB1 : Hid (Below w.heap.size w w1) := Lib.hid (((Below.refl _ _).alloc (Nat.le_refl _) _).trans (((Below.refl _ _).alloc (Nat.le_refl _) _).trans (hb1.mono (by simp))|>.mono (by simp)))
 have hbox : w1.heap[w.heap.size + 1]? = some (.cells #[.slice A1 vs.length c1, .int .i64 top2] 31 (0, 0)) := blk_below (by have := blk_new (w.alloc (.cells #[.slice A0 ws.length c0, .int .i64 top] 31 (0, 0))) (.cells #[.slice A1 vs.length c1, .int .i64 top2] 31 (0, 0)); simpa using this) hb1
 have cb0 : w1.cell? ⟨w.heap.size + 1, 0, none⟩ = some (.slice A1 vs.length c1) := blk_cell hbox 0
 have cb1 : w1.cell? ⟨w.heap.size + 1, 1, none⟩ = some (.int .i64 top2) := blk_cell hbox 1
 have lb := blk_lt hbox
 have HV1 := Lib.hid hv1
 have HM1 := Lib.hid hm1
 clear hpost hv1 hb1 hm1 hbox
 go_wp2_with fail
 refine (validHeap_calls A1 c1 vs top2 O co others _ (Kd.C_alloc (Kd.C_below HS.out HB1.out) _) hd HY.out (Kd.C_alloc (Kd.C_below HS2.out HB1.out) _) hd2 HY2.out).mono ?_
 intro e w2 hpost
 obtain ⟨mo2, b2, rfl, hv2, hb2, hm2⟩ := hpost.one
 have HB2 := Lib.hid hb2
 have HV2 := Lib.hid hv2
 have HM2 := Lib.hid hm2
 have HBW : Hid (Below w.heap.size w w2) := Lib.hid (HB1.out.trans ((((Below.refl _ _).alloc (Nat.le_refl _) _).trans (hb2.mono (by simp))).mono HB1.out.size))
 have cA : w2.heap[w1.heap.size]? = some (.cells #[.map mo1] 59 (0, 0)) := blk_below (blk_new w1 _) hb2
 have HCA := Lib.hid cA
 clear hpost hv2 hb2 hm2 cA cb0 cb1 lb
 have BW : Hid (Below w.heap.size w (w2.alloc (.cells #[.map mo2] 59 (0, 0)))) := Lib.hid (HBW.out.alloc HBW.out.size _)
 cases b1 with
 | false =>
  have HF : Hid (shapeF ws top roots vs top2 others = false) := Lib.hid (by unfold shapeF; rw [HV1.out]; rfl)
  go_wp2_with fail
  go_ret
  exact ⟨ret_bool HF.out.symm, BW.out⟩
 | true =>
  cases b2 with
  | false =>
   have HF : Hid (shapeF ws top roots vs top2 others = false) := Lib.hid (by unfold shapeF; rw [HV1.out, HV2.out]; rfl)
   go_wp2_with fail
   go_ret
   exact ⟨ret_bool HF.out.symm, BW.out⟩
  | true =>
   by_cases hlen : roots.length = others.length
   ·have HL0 := Lib.hid hlen
    have hle1 : roots.length ≤ others.length := by omega
    have hle2 : others.length ≤ roots.length := by omega
    have hlb : ((roots.length : Int) != (others.length : Int)) = false := by rw [bne_eq_false_iff_eq]; omega
    clear hlen
    have hmm := @run_makeMap Try.prog
    go_wp2_with fail
    obtain ⟨ba, es1, L, rfl, hL, hes1, hblk1⟩ := HM1.out (by trivial)
    obtain ⟨bb, es2, M, rfl, hM, hes2, hblk2⟩ := HM2.out (by trivial)
    obtain ⟨t, rfl⟩ := Int.eq_ofNat_of_zero_le (objsF_mem hL).2.1
    obtain ⟨u, rfl⟩ := Int.eq_ofNat_of_zero_le (objsF_mem hM).2.1
    obtain ⟨hw, hwr, hrl⟩ := laid_of HV1.out hL
    obtain ⟨hv, hvr, hol⟩ := laid_of HV2.out hM
    obtain ⟨A, hA⟩ : ∃ A, A = w1.heap.size := ⟨_, rfl⟩
    obtain ⟨N, hN⟩ : ∃ N, N = w2.heap.size := ⟨_, rfl⟩
    have hAN : A < N := by rw [hA, hN]; exact blk_lt HCA.out
    obtain ⟨wb, hwb⟩ : ∃ wb, wb = w2.alloc (.cells #[.map (some bb)] 59 (0, 0)) := ⟨_, rfl⟩
    have hwbs : wb.heap.size = N + 1 := by rw [hwb, hN]; simp
    have b12 : Below w1.heap.size w1 wb := by
     rw [hwb]
     have h1 := HB2.out.size
     simp at h1
     exact ((((Below.refl _ _).alloc (Nat.le_refl _) _).trans (HB2.out.mono (by simp))).alloc (by omega) _)
    have b2b : Below w2.heap.size w2 wb := by rw [hwb]; exact (Below.refl _ _).alloc (Nat.le_refl _) _
    have HE1 : Hid (EntsOf wb ws L es1) := Lib.hid (hes1.below b12)
    have HE2 : Hid (EntsOf wb vs M es2) := Lib.hid (hes2.below b2b)
    have HF1 : Hid (wb.heap[ba]? = some (.map es1.toArray L.length)) := Lib.hid (blk_below hblk1 b12)
    have HF2 : Hid (wb.heap[bb]? = some (.map es2.toArray M.length)) := Lib.hid (blk_below hblk2 b2b)
    have hwW : Below w.heap.size w wb := by rw [hwb]; exact BW.out
    have HWW := Lib.hid hwW
    have hAb : wb.heap[A]? = some (.cells #[.map (some ba)] 59 (0, 0)) := by rw [hA]; exact blk_below HCA.out b2b
    have hBb : wb.heap[N]? = some (.cells #[.map (some bb)] 59 (0, 0)) := by rw [hwb, hN]; exact blk_new w2 _
    rw [← hwb, ← hA, ← hN]
    obtain ⟨W5, hW5⟩ : ∃ W5, W5 = ((((wb.alloc (Obj.map #[] 0)).alloc (Obj.map #[] 0)).alloc (Obj.cells #[Value.map (some (N + 1))] 68)).alloc (Obj.cells #[Value.map (some (N + 1 + 1))] 68)).alloc (Obj.cells #[FV (N + 1 + 1 + 1) (N + 1 + 1 + 1 + 1) A N (N + 1 + 1 + 1 + 1 + 1)] 63) := ⟨_, rfl⟩
    have HSH : Hid (Shp wb (N + 1 + 1 + 1) (N + 1 + 1 + 1 + 1) A N (N + 1 + 1 + 1 + 1 + 1) (N + 1) (N + 1 + 1) ba bb (FV (N + 1 + 1 + 1) (N + 1 + 1 + 1 + 1) A N (N + 1 + 1 + 1 + 1 + 1)) [] W5) := by
     refine Lib.hid ?_
     rw [hW5]
     have s1 := blk_new wb (Obj.map #[] 0)
     have s2 := blk_new (wb.alloc (Obj.map #[] 0)) (Obj.map #[] 0)
     have s3 := blk_new ((wb.alloc (Obj.map #[] 0)).alloc (Obj.map #[] 0)) (Obj.cells #[Value.map (some (N + 1))] 68)
     have s4 := blk_new (((wb.alloc (Obj.map #[] 0)).alloc (Obj.map #[] 0)).alloc (Obj.cells #[Value.map (some (N + 1))] 68)) (Obj.cells #[Value.map (some (N + 1 + 1))] 68)
     have s5 := blk_new ((((wb.alloc (Obj.map #[] 0)).alloc (Obj.map #[] 0)).alloc (Obj.cells #[Value.map (some (N + 1))] 68)).alloc (Obj.cells #[Value.map (some (N + 1 + 1))] 68)) (Obj.cells #[FV (N + 1 + 1 + 1) (N + 1 + 1 + 1 + 1) A N (N + 1 + 1 + 1 + 1 + 1)] 63)
     simp only [World.size_alloc, hwbs] at s1 s2 s3 s4 s5
     refine ⟨blk_alloc (blk_alloc s3 _) _, blk_alloc s4 _, blk_alloc (blk_alloc (blk_alloc (blk_alloc (blk_alloc hAb _) _) _) _) _, blk_alloc (blk_alloc (blk_alloc (blk_alloc (blk_alloc hBb _) _) _) _) _, s5,
      ⟨[], 0, blk_alloc (blk_alloc (blk_alloc (blk_alloc s1 _) _) _) _, by intro e he; simp at he, fun p => rfl⟩, ⟨[], 0, blk_alloc (blk_alloc (blk_alloc s2 _) _) _, by intro e he; simp at he, fun p => rfl⟩, ?_, by omega, by omega, by omega⟩
     exact (((((Below.refl _ _).alloc (Nat.le_refl _) _).alloc (by simp) _).alloc (by simp; omega) _).alloc (by simp; omega) _).alloc (by simp; omega) _
    have hFV : FV (N + 1 + 1 + 1) (N + 1 + 1 + 1 + 1) A N (N + 1 + 1 + 1 + 1 + 1) = Value.func (Fn.func 45) #[] #[Value.pointer (some { block := N + 1 + 1 + 1, off := 0 }), Value.pointer (some { block := N + 1 + 1 + 1 + 1, off := 0 }), Value.pointer (some { block := A, off := 0 }), Value.pointer (some { block := N, off := 0 }), Value.pointer (some { block := N + 1 + 1 + 1 + 1 + 1, off := 0 })] := rfl
    rw [hFV] at hW5
    rw [← hW5]
    obtain ⟨T, hT⟩ : ∃ T, T = N + 1 + 1 + 1 := ⟨_, rfl⟩
    obtain ⟨U, hU⟩ : ∃ U, U = T + 1 := ⟨_, rfl⟩
    obtain ⟨Sb, hSb⟩ : ∃ Sb, Sb = U + 1 := ⟨_, rfl⟩
    obtain ⟨mu, hmu⟩ : ∃ mu, mu = N + 1 + 1 := ⟨_, rfl⟩
    obtain ⟨mt, hmt⟩ : ∃ mt, mt = N + 1 := ⟨_, rfl⟩
    rw [← hT, ← hU, ← hSb, ← hmu, ← hmt] at HSH
    have HWL := Lib.hid hw
    have HVL := Lib.hid hv
    have HWR := Lib.hid hwr
    have HVR := Lib.hid hvr
    clear hmm hFV hW5 hes1 hblk1 hes2 hblk2 b12 b2b hwW hAb hBb hwb hw hv hwr hvr hL hM HCA HB1 HB2 HBW BW HM1 HM2
    rw [← hT, ← hU, ← hSb, ← hmu, ← hmt]
    clear hT hU hSb hmu hmt hAN hwbs hA hN
    go_loopw [47] (fun i wr => ∃ (j : Nat) (ps : List (Nat × Nat)), i = .int .i64 (j : Int) ∧ j ≤ roots.length ∧ Hid (Top ws vs L M roots others j ps) ∧ Hid (Shp wb T U A N Sb mt mu ba bb (FV T U A N Sb) ps wr)) (fun i _ => roots.length - (intOf i).toNat)
    case atStart => exact ⟨0, [], rfl, Nat.zero_le _, Lib.hid (Top.start _ _ _ _ _ _), HSH⟩
    case round =>
     clear HSH
     obtain ⟨j, ps, rfl, hj, HTP, HSH⟩ := hrel
     have HBB : Hid (Below w.heap.size w wr) := Lib.hid (HWW.out.trans (HSH.out.below.mono HWW.out.size))
     by_cases hlt : j < roots.length
     ·obtain ⟨ad1, ha1, hcell1⟩ := Kd.at_int HR2.out (j : Int) (by omega) (by omega)
      obtain ⟨ad2, ha2, hcell2⟩ := Kd.at_int HS2.out (j : Int) (by omega) (by omega)
      have e1 := (HBB.out.cell (World.block_lt_of_cell? w _ hcell1)).trans hcell1
      have e2 := (HBB.out.cell (World.block_lt_of_cell? w _ hcell2)).trans hcell2
      have hbk1 := World.block_lt_of_cell? w _ hcell1
      have hbk2 := World.block_lt_of_cell? w _ hcell2
      rw [Int.toNat_natCast] at e1 e2 hbk1 hbk2
      obtain ⟨x, hx⟩ : ∃ x, x = roots.getD j 0 := ⟨_, rfl⟩
      obtain ⟨y, hy⟩ : ∃ y, y = others.getD j 0 := ⟨_, rfl⟩
      rw [show rd roots (j : Int) = x from hx.symm] at e1
      rw [show rd others (j : Int) = y from hy.symm] at e2
      have HX0 := Lib.hid hx
      have HY0 := Lib.hid hy
      clear hcell1 hcell2 hx hy
      cases ha1
      cases ha2
      have HWX : Hid (wordF (isPlace L) x = true ∧ InI64 x) := Lib.hid (by rw [HX0.out]; exact ⟨HWR.out _ (getD_mem hlt), HX2.out _ (getD_mem hlt)⟩)
      have HWY : Hid (wordF (isPlace M) y = true ∧ InI64 y) := Lib.hid (by rw [HY0.out]; exact ⟨HVR.out _ (getD_mem (by omega)), HY2.out _ (getD_mem (by omega))⟩)
      have sS : wr.cell? ⟨Sb, 0, none⟩ = some (.func (.func 45) #[] #[.pointer (some ⟨T, 0, none⟩), .pointer (some ⟨U, 0, none⟩), .pointer (some ⟨A, 0, none⟩), .pointer (some ⟨N, 0, none⟩), .pointer (some ⟨Sb, 0, none⟩)]) := blk_cell HSH.out.cS 0
      have hb1 := HSH.out.b1
      have hb2 := HSH.out.b2
      have hwz := HWW.out.size
      have HSM : Hid (¬ (Sb = mt ∨ Sb = mu)) := Lib.hid (HSH.out.cell_ne HSH.out.cS)
      have HSD : Hid (Shp wb T U A N Sb mt mu ba bb (FV T U A N Sb) ps wr.drew) := Lib.hid (HSH.out.keep (Below.refl _ _).drew)
      have h9 : wr.drew.cell? ⟨Sb, 0, none⟩ = some (.func (.func 45) #[] #[.pointer (some ⟨T, 0, none⟩), .pointer (some ⟨U, 0, none⟩), .pointer (some ⟨A, 0, none⟩), .pointer (some ⟨N, 0, none⟩), .pointer (some ⟨Sb, 0, none⟩)]) ∧ wr.drew.cell? (ad1.add j) = some (.int .i64 x) ∧ wr.drew.cell? (ad2.add j) = some (.int .i64 y) := ⟨sS, e1, e2⟩
      have H9 : Hid (∀ w', But (fun j => j = mt ∨ j = mu) wr.drew w' → w'.cell? ⟨Sb, 0, none⟩ = some (.func (.func 45) #[] #[.pointer (some ⟨T, 0, none⟩), .pointer (some ⟨U, 0, none⟩), .pointer (some ⟨A, 0, none⟩), .pointer (some ⟨N, 0, none⟩), .pointer (some ⟨Sb, 0, none⟩)]) ∧ w'.cell? (ad1.add j) = some (.int .i64 x) ∧ w'.cell? (ad2.add j) = some (.int .i64 y)) :=
       Lib.hid (fun w' hb => ⟨hb.cell h9.1 HSM.out, hb.cell h9.2.1 (by omega), hb.cell h9.2.2 (by omega)⟩)
      have HCALL : Hid (Calls Try.prog 45 #[.int .i64 x, .int .i64 y, .pointer (some ⟨T, 0, none⟩), .pointer (some ⟨U, 0, none⟩), .pointer (some ⟨A, 0, none⟩), .pointer (some ⟨N, 0, none⟩), .pointer (some ⟨Sb, 0, none⟩)] wr.drew (SP wb T U A N Sb mt mu ba bb (FV T U A N Sb) ws vs L M ps x y wr.drew)) :=
       Lib.hid (same_calls wb T U A N Sb mt mu ba bb ws vs t u L M es1 es2 HWL.out HVL.out HX.out HY.out HE1.out HE2.out HF1.out HF2.out (t + 1) ps x y wr.drew (by omega) HTP.out.ok HWX.out.1 HWY.out.1 HWX.out.2 HWY.out.2 HSD.out)
      have hi0 : (0 : Int) ≤ (j : Int) := by omega
      have hi1 : (j : Int) < (roots.length : Int) := by omega
      have hi2 : (j : Int) < (others.length : Int) := by omega
      clear sS e1 e2 hb1 hb2 hbk1 hbk2 hwz
      go_wp2_with fail
      go_region_held3 (fun w' => w'.cell? ⟨Sb, 0, none⟩ = some (.func (.func 45) #[] #[.pointer (some ⟨T, 0, none⟩), .pointer (some ⟨U, 0, none⟩), .pointer (some ⟨A, 0, none⟩), .pointer (some ⟨N, 0, none⟩), .pointer (some ⟨Sb, 0, none⟩)]) ∧ w'.cell? (ad1.add j) = some (.int .i64 x) ∧ w'.cell? (ad2.add j) = some (.int .i64 y))
       (first | exact h9 | exact H9.out _ HB4.out)
       ((go_at_call 45; refine (HCALL.out).mono ?_; rintro e w4 ⟨b, cs2, rfl, hres, hshp, hbut⟩; have HB4 := Lib.hid hbut; have HRES := Lib.hid hres; have HSHP := Lib.hid hshp; clear hres hshp hbut))
      have HBW4 : Hid (Below w.heap.size w w4) := Lib.hid (HB4.out.below HBB.out.drew (fun k hk => by have := HWW.out.size; have := HSH.out.b1; have := HSH.out.b2; rcases hk with rfl | rfl <;> omega) (by have := HBB.out.size; exact this))
      clear h9 hi0 hi1 hi2
      cases b with
      | true =>
       go_wp2_with fail
       go_roundw
       case rel =>
        refine ⟨j + 1, cs2, by go_num, by omega, ?_, HSHP.out rfl⟩
        refine Lib.hid (HTP.out.next hlt ?_)
        rw [← HX0.out, ← HY0.out]
        exact HRES.out.1 rfl
       case measure => simp [intOf]; omega
      | false =>
       have HF : Hid (shapeF ws (t : Int) roots vs (u : Int) others = false) := by
        refine Lib.hid ?_
        have h1 := HRES.out.2 rfl
        rw [HX0.out, HY0.out] at h1
        have := HTP.out.no hlt h1
        unfold shapeF
        rw [shapeB_false this]
        simp
       go_wp2_with fail
       go_ret
       exact ⟨ret_bool HF.out.symm, HBW4.out⟩
     ·have hjn : j = roots.length := by omega
      have HF : Hid (shapeF ws (t : Int) roots vs (u : Int) others = true) := by
       refine Lib.hid ?_
       have := HTP.out.done HL0.out hjn
       unfold shapeF
       rw [HV1.out, HV2.out, shapeB_true this, decide_eq_true HL0.out]
       rfl
      clear hjn
      go_wp2_with fail
      go_ret
      exact ⟨ret_bool HF.out.symm, HBB.out⟩
   ·have HF : Hid (shapeF ws top roots vs top2 others = false) := Lib.hid (by unfold shapeF; rw [HV1.out, HV2.out]; simp [hlen])
    have hlb : ((roots.length : Int) != (others.length : Int)) = true := by rw [bne_iff_ne]; omega
    clear hlen
    go_wp2_with fail
    go_ret
    exact ⟨ret_bool HF.out.symm, BW.out⟩
end Go.Proofs.Ytggkkgkjhfgipaa
