/- FnExactDecodeImage, walked: every call has its answer, the last one is true. -/
import Derived.Test.YtogmphjhdkgdjaaDoorDiN
import Derived.Test.YtogmphjhdkgdjaaDoorDiE
import Derived.Test.YtogmphjhdkgdjaaDoorRows
import Derived.Test.YtogmphjhdkgdjaaDoorCards
import Derived.Test.YtogmphjhdkgdjaaDoorTie
import Derived.Test.YtogmphjhdkgdjaaDoorZRowData
import Derived.WalkKit
import Derived.ProofKit
import Derived.OpenShut
import Derived.ShutString
import Derived.ChangeOld
import Derived.Below
import Derived.SizedLaws
import Derived.Lib.SmallJoins
import Derived.LaidMore
import Derived.Lay
import Derived.SevenTiedAt
import Derived.Stop.Joined
namespace Go.Proofs.YtogmphjhdkgdjaaDoor
open Go.RowKit Go.Proofs.YtogmphjhdkgdjaaDoorW.PrintWords Go.Proofs.YtogmphjhdkgdjaaDoor.QFnExactValidModule
open Go.Proofs.YtogmphjhdkgdjaaDoor.SpecMM (FitsM conP funP insP)
set_option linter.unusedVariables false
set_option linter.unusedSimpArgs false
set_option maxHeartbeats 1000000 in
theorem law_long (A : Option Addr) (c : Nat) (b : List Int) (w : World) (hl : 1048576 < b.length) :
    Calls Tryd.prog 7 #[.slice A b.length c] w fun e w' => e = .returned (.bool true) ∧ Below w.heap.size w w' := by
  have hl2 : (1048576 : Int) < (b.length : Int) := by omega
  go_enter Tryd.func7, Tryd.ntmps7
  go_wp2_with fail
  go_ret
  exact ⟨rfl, Below.refl _ _⟩
/-- What is known of what is read. -/
theorem dec_small {b : List Int} (hb : Bys b) : SmC (decT b).1.cs ∧ SmF (decT b).1.fs := by
  have h0 : SmC [] ∧ SmF [] := ⟨⟨by simp, fun c hc => by cases hc⟩, ⟨by simp, fun c hc => by cases hc⟩⟩
  unfold decT
  split
  · rename_i m hm
    split
    · have h := mod_ok hb hm
      exact ⟨⟨h.nc, fun c hc => ⟨(h.con c hc).1, fun x hx => ((h.con c hc).2 x hx).len⟩⟩, ⟨h.nf, fun f hf => ⟨by have := (h.fn f hf).l1; omega, (h.fn f hf).l2⟩⟩⟩
    · exact h0
  · exact h0
set_option maxHeartbeats 8000000 in
set_option maxRecDepth 100000 in
theorem law_dec (A : Option Addr) (c : Nat) (b : List Int) (w : World) (hC : Kd.C (Kd.int .u8) w A b.length b) (hc : b.length ≤ c) (hlen : b.length ≤ 1048576) (hby : Bys b) :
    Calls Tryd.prog 7 #[.slice A b.length c] w fun e w' => e = .returned (.bool true) ∧ Below w.heap.size w w' := by
  have HC := Lib.hid hC
  have HBY := Lib.hid hby
  have HSM := Lib.hid (dec_small hby)
  obtain ⟨m, code, hdt⟩ : ∃ m code, decT b = (m, code) := ⟨_, _, rfl⟩
  have HDT := Lib.hid hdt
  rw [hdt] at HSM
  have hlen2 : ¬ (1048576 : Int) < (b.length : Int) := by omega
  clear hC hby hdt
  go_enter Tryd.func7, Tryd.ntmps7
  go_wp2_with fail
  refine (toB_calls A c b w HC.out hlen).mono ?_
  rintro e w1 ⟨x1, rfl, hr1, hb1⟩
  obtain ⟨A1, c1, rfl, hc1⟩ := hr1.form
  have HC1 := Lib.hid (own_E hr1).2.2
  have HB1 := Lib.hid hb1
  clear hr1 hb1
  go_wp2_with fail
  refine (specDecode_calls A1 c1 b w1 HC1.out hc1 hlen HBY.out).mono ?_
  unfold DecPost
  rw [HDT.out]
  rintro e w2 ⟨v0, v2, lo1, hi1, lo2, hi2, rfl, hs0, hs2, hb2⟩
  obtain ⟨S0, d0, rfl, _⟩ := hs0.form
  obtain ⟨S2, d2, rfl, _⟩ := hs2.form
  have HS0 := Lib.hid hs0
  have HS2 := Lib.hid hs2
  have HB2 : Hid (Below w.heap.size w w2) := Lib.hid (HB1.out.trans (hb2.mono HB1.out.size))
  clear hs0 hs2 hb2 HC1 HB1
  go_wp2_with fail
  obtain ⟨W2, hW2⟩ : ∃ W2, W2 = w2.alloc (.cells #[.slice S0 m.cs.length d0, .int .i64 m.g, .slice S2 m.fs.length d2] 38) := ⟨_, rfl⟩
  have hbw := (Below.refl w2.heap.size w2).alloc (Nat.le_refl _) (.cells #[.slice S0 m.cs.length d0, .int .i64 m.g, .slice S2 m.fs.length d2] 38)
  have hx := blk_new2 w2 (.cells #[.slice S0 m.cs.length d0, .int .i64 m.g, .slice S2 m.fs.length d2] 38)
  obtain ⟨M2, hM2⟩ : ∃ M2, M2 = w2.heap.size := ⟨_, rfl⟩
  have hww : w.heap.size ≤ M2 := by rw [hM2]; exact HB2.out.size
  rw [← hW2] at hbw hx ⊢
  have HX2 : Hid (W2.heap[M2]? = some (.cells #[.slice S0 m.cs.length d0, .int .i64 m.g, .slice S2 m.fs.length d2] 38 (0, 0))) := Lib.hid (by rw [hM2]; exact hx)
  have HT0 := Lib.hid (HS0.out.below hbw)
  have HT2 := Lib.hid (HS2.out.below hbw)
  have HBW2 : Hid (Below w.heap.size w W2) := Lib.hid (HB2.out.trans (hbw.mono HB2.out.size))
  rw [← hM2]
  clear hW2 hbw hx hM2 HS0 HS2 HB2
  refine (toB_calls A c b W2 (Kd.C_below HC.out HBW2.out) hlen).mono ?_
  rintro e w3 ⟨x3, rfl, hr3, hb3⟩
  obtain ⟨A3, c3, rfl, hc3⟩ := hr3.form
  have HR3 := Lib.hid hr3
  have HB23 := Lib.hid hb3
  clear hr3 hb3
  go_wp2_with fail
  refine (implDecode_calls A3 c3 b w3 (own_E HR3.out).2.2 hc3 hlen HBY.out).mono ?_
  unfold DecPost2
  rw [HDT.out]
  rintro e w4 ⟨u0, u2, mid, rfl, hg0, hg2, hb4⟩
  obtain ⟨G0, e0, rfl, _⟩ := hg0.form
  obtain ⟨G2, e2, rfl, _⟩ := hg2.form
  have hmd : w3.heap.size ≤ mid := hg0.bounds
  have hmh : mid ≤ w4.heap.size := hg2.bounds
  have HG4 : Hid (MdR w3.heap.size mid w4.heap.size w4 (.slice G0 m.cs.length e0) (.slice G2 m.fs.length e2) m.cs m.fs) := Lib.hid ⟨hg0, hg2⟩
  have HB24 : Hid (Below W2.heap.size W2 w4) := Lib.hid (HB23.out.trans (hb4.mono HB23.out.size))
  have HB34 := Lib.hid hb4
  have hcc : (code != code) = false := by simp
  have HRL : Hid (∀ W', Below W2.heap.size W2 W' → W'.cell? ⟨M2, 0, none⟩ = some (.slice S0 m.cs.length d0) ∧ W'.cell? ⟨M2, 1, none⟩ = some (.int .i64 m.g) ∧ W'.cell? ⟨M2, 2, none⟩ = some (.slice S2 m.fs.length d2) ∧ M2 < W'.heap.size) := Lib.hid (fun W' hb => by
    have h1 := blk_below HX2.out hb
    exact ⟨by simp [World.cell?, h1], by simp [World.cell?, h1], by simp [World.cell?, h1], blk_lt2 h1⟩)
  have hu := Tryd.underlying38
  obtain ⟨q0, q1, q2, ql⟩ := HRL.out w4 HB24.out
  clear hg0 hg2 hb4
  go_wp2_with fail
  obtain ⟨W4, hW4⟩ : ∃ W4, W4 = w4.alloc (.cells #[.slice G0 m.cs.length e0, .int .i64 m.g, .slice G2 m.fs.length e2] 38) := ⟨_, rfl⟩
  have hbw := (Below.refl w4.heap.size w4).alloc (Nat.le_refl _) (.cells #[.slice G0 m.cs.length e0, .int .i64 m.g, .slice G2 m.fs.length e2] 38)
  have hx := blk_new2 w4 (.cells #[.slice G0 m.cs.length e0, .int .i64 m.g, .slice G2 m.fs.length e2] 38)
  rw [← hW4] at hbw hx ⊢
  obtain ⟨M4, hM4⟩ : ∃ M4, M4 = w4.heap.size := ⟨_, rfl⟩
  rw [← hM4] at hx HG4 hmh ⊢
  have HX4 := Lib.hid hx
  have HG := Lib.hid (HG4.out.below hbw)
  have HB24' : Hid (Below W2.heap.size W2 W4) := Lib.hid (HB24.out.trans (hbw.mono HB24.out.size))
  have HB34' : Hid (Below w3.heap.size w3 W4) := Lib.hid (HB34.out.trans (hbw.mono HB34.out.size))
  have HR4 := Lib.hid (HR3.out.below HB34'.out)
  have hz4 : M4 < W4.heap.size := blk_lt2 hx
  have hz2 : W2.heap.size ≤ w3.heap.size := HB23.out.size
  clear hW4 hbw hx hM4 HG4 HB24 HB34 HR3 q0 q1 q2 ql
  have HEQ : Hid (∀ (W' : World) (J0 J2 : Option Addr) (j0 j2 lo md hi : Nat), Below W2.heap.size W2 W' → MdR lo md hi W' (.slice J0 m.cs.length j0) (.slice J2 m.fs.length j2) m.cs m.fs → Calls Tryd.prog 17 #[.agg #[.slice J0 m.cs.length j0, .int .i64 m.g, .slice J2 m.fs.length j2], .agg #[.slice S0 m.cs.length d0, .int .i64 m.g, .slice S2 m.fs.length d2]] W' fun e w' => e = .returned (.bool true) ∧ Below W'.heap.size W' w') := Lib.hid (fun W' J0 J2 j0 j2 lo md hi hb hm => by
    obtain ⟨_, _, C0⟩ := dats_E hm.con
    obtain ⟨_, _, C2⟩ := fun_E hm.fun_
    obtain ⟨_, _, D0⟩ := dats_E (HT0.out.below hb)
    obtain ⟨_, _, D2⟩ := fun_E (HT2.out.below hb)
    exact eqM_calls m.cs m.g m.fs J0 S0 J2 S2 j0 d0 j2 d2 W' C0 D0 C2 D2)
  clear HT0 HT2
  refine (HEQ.out W4 G0 G2 e0 e2 _ _ _ HB24'.out HG.out).mono ?_
  rintro e w5 ⟨rfl, hb5⟩
  have HB45 := Lib.hid hb5
  clear hb5
  go_wp2_with fail
  refine (toB_calls A c b w5 (Kd.C_below HC.out (HBW2.out.trans ((HB24'.out.trans (HB45.out.mono HB24'.out.size)).mono HBW2.out.size))) hlen).mono ?_
  rintro e w6 ⟨x6, rfl, hr6, hb6⟩
  obtain ⟨A6, c6, rfl, _⟩ := hr6.form
  have HR6 := Lib.hid hr6
  have HB46 : Hid (Below W4.heap.size W4 w6) := Lib.hid (HB45.out.trans (hb6.mono HB45.out.size))
  clear hr6 hb6 HB45
  go_wp2_with fail
  refine (eqB_calls A3 A6 c3 c6 b w6 (own_E (HR4.out.below HB46.out)).2.2 (own_E HR6.out).2.2).mono ?_
  rintro e w7 ⟨rfl, hb7⟩
  have HB47 : Hid (Below W4.heap.size W4 w7) := Lib.hid (HB46.out.trans (hb7.mono HB46.out.size))
  clear hb7 HR6 HB46
  go_wp2_with fail
  refine (markB_row _ _ _ b 1 w7 (HR4.out.below HB47.out) (by omega) (by omega) (by omega)).mono ?_
  rintro e w8 ⟨rfl, _, hm8⟩
  have hz7 : w8.heap.size = w7.heap.size := hm8.size
  have hz8 : W4.heap.size ≤ w7.heap.size := HB47.out.size
  have HB28 : Hid (Below W2.heap.size W2 w8) := Lib.hid ((HB24'.out.trans (HB47.out.mono HB24'.out.size)).trans hm8.below)
  have HG8 : Hid (MdR w3.heap.size mid M4 w8 (.slice G0 m.cs.length e0) (.slice G2 m.fs.length e2) m.cs m.fs) := Lib.hid ⟨(HG.out.con.below HB47.out).above lc_dats hm8 (Nat.le_refl _), (HG.out.fun_.below HB47.out).above lc_fun hm8 hmd⟩
  have HX8 : Hid (w8.heap[M4]? = some (.cells #[.slice G0 m.cs.length e0, .int .i64 m.g, .slice G2 m.fs.length e2] 38 (0, 0))) := Lib.hid ((hm8.others M4 (fun _ h => by omega)).trans (blk_below HX4.out HB47.out))
  have k8 : decide ((1 : Int) + (b.length : Int) < 0) = false := decide_eq_false (by omega)
  clear hm8 HG HX4 HR4 HB47
  obtain ⟨q0, q1, q2, ql⟩ := HRL.out w8 HB28.out
  obtain ⟨g0, g1, g2, gf0, gf1, gf2, gl⟩ := boxF HX8.out
  go_wp2_with fail
  refine (HEQ.out w8 G0 G2 e0 e2 _ _ _ HB28.out HG8.out).mono ?_
  rintro e w9 ⟨rfl, hb9⟩
  have HB29 : Hid (Below W2.heap.size W2 w9) := Lib.hid (HB28.out.trans (hb9.mono HB28.out.size))
  have HG9 := Lib.hid (HG8.out.below hb9)
  have HX9 := Lib.hid (blk_below HX8.out hb9)
  have hz9 : w8.heap.size ≤ w9.heap.size := hb9.size
  clear hb9 q0 q1 q2 ql g0 g1 g2 gf0 gf1 gf2 gl HB28 HG8 HX8
  obtain ⟨g0, g1, g2, gf0, gf1, gf2, gl⟩ := boxF HX9.out
  obtain ⟨sz, hsz⟩ : ∃ sz, sz = szM m.cs m.fs := ⟨_, rfl⟩
  have hszb := szM_bd HSM.out.1 HSM.out.2
  rw [← hsz] at hszb
  have HSZ := Lib.hid hsz
  have hs0 : 1 ≤ sz := hszb.1
  have ks : (sz != sz) = false := by simp
  have ks2 : decide (sz < 0) = false := decide_eq_false (by omega)
  clear hszb hsz
  go_wp2_with fail
  refine (markM_row w3.heap.size mid M4 _ _ m.g m.cs m.fs w9 HG9.out (by omega) hmd (by omega) HSM.out.1 HSM.out.2).mono ?_
  rw [← HSZ.out]
  rintro e w10 ⟨rfl, hg10, hb10, ho10⟩
  have HG10 := Lib.hid hg10
  have HB210 : Hid (Below W2.heap.size W2 w10) := Lib.hid (HB29.out.trans (hb10.mono hz2))
  have HX10 : Hid (w10.heap[M4]? = some (.cells #[.slice G0 m.cs.length e0, .int .i64 m.g, .slice G2 m.fs.length e2] 38 (0, 0))) := Lib.hid ((ho10 M4 (by omega) (Or.inr (Nat.le_refl _)) (Or.inr hmh)).trans HX9.out)
  clear hg10 hb10 ho10 g0 g1 g2 gf0 gf1 gf2 gl HG9 HB29 HX9
  obtain ⟨g0, g1, g2, gf0, gf1, gf2, gl⟩ := boxF HX10.out
  have l0 : (mkDS 1 m.cs).length = m.cs.length := mkL_length _ _
  have l2 : (mkF (1 + szL (szL szD) m.cs) m.fs).length = m.fs.length := mkL_length _ _
  have HL0 := Lib.hid l0
  clear l0 l2
  go_wp2_with fail
  refine (heldM_row w3.heap.size mid M4 _ _ m.g m.cs m.fs w10 HG10.out HSM.out.1 HSM.out.2).mono ?_
  rw [← HSZ.out]
  rintro e w11 ⟨rfl, hb11⟩
  have HB1011 := Lib.hid hb11
  clear hb11 g0 g1 g2 gf0 gf1 gf2 gl
  go_wp2_with fail
  refine (toB_calls A c b w11 (Kd.C_below HC.out (HBW2.out.trans ((HB210.out.trans (HB1011.out.mono HB210.out.size)).mono HBW2.out.size))) hlen).mono ?_
  rintro e w12 ⟨x12, rfl, hr12, hb12⟩
  obtain ⟨A12, c12, rfl, hc12⟩ := hr12.form
  have HC12 := Lib.hid (own_E hr12).2.2
  have HB1012 : Hid (Below w10.heap.size w10 w12) := Lib.hid (HB1011.out.trans (hb12.mono HB1011.out.size))
  clear hr12 hb12 HB1011
  go_wp2_with fail
  refine (implDecode_calls A12 c12 b w12 HC12.out hc12 hlen HBY.out).mono ?_
  unfold DecPost2
  rw [HDT.out]
  rintro e w13 ⟨t0, t2, mi2, rfl, hh0, hh2, hb13⟩
  obtain ⟨J0, f0, rfl, _⟩ := hh0.form
  obtain ⟨J2, f2, rfl, _⟩ := hh2.form
  have HH := Lib.hid hh0
  have HH2 := Lib.hid hh2
  have HB1013 : Hid (Below w10.heap.size w10 w13) := Lib.hid (HB1012.out.trans (hb13.mono HB1012.out.size))
  obtain ⟨q0, q1, q2, ql⟩ := HRL.out w13 (HB210.out.trans (HB1013.out.mono HB210.out.size))
  obtain ⟨g0, g1, g2, gf0, gf1, gf2, gl⟩ := boxF (blk_below HX10.out HB1013.out)
  clear hh0 hh2 hb13 HB1012 HC12
  go_wp2_with fail
  obtain ⟨W13, hW13⟩ : ∃ W13, W13 = w13.alloc (.cells #[.slice J0 m.cs.length f0, .int .i64 m.g, .slice J2 m.fs.length f2] 38) := ⟨_, rfl⟩
  have hbw := (Below.refl w13.heap.size w13).alloc (Nat.le_refl _) (.cells #[.slice J0 m.cs.length f0, .int .i64 m.g, .slice J2 m.fs.length f2] 38)
  rw [← hW13] at hbw ⊢
  have HB1013' : Hid (Below w10.heap.size w10 W13) := Lib.hid (HB1013.out.trans (hbw.mono HB1013.out.size))
  have HM13 : Hid (MdR w12.heap.size mi2 w13.heap.size W13 (.slice J0 m.cs.length f0) (.slice J2 m.fs.length f2) m.cs m.fs) := Lib.hid ⟨HH.out.below hbw, HH2.out.below hbw⟩
  clear hW13 hbw HH HH2 q0 q1 q2 ql g0 g1 g2 gf0 gf1 gf2 gl HB1013
  refine (HEQ.out W13 J0 J2 f0 f2 _ _ _ (HB210.out.trans (HB1013'.out.mono HB210.out.size)) HM13.out).mono ?_
  rintro e w14 ⟨rfl, hb14⟩
  have HB1014 : Hid (Below w10.heap.size w10 w14) := Lib.hid (HB1013'.out.trans (hb14.mono HB1013'.out.size))
  obtain ⟨g0, g1, g2, gf0, gf1, gf2, gl⟩ := boxF (blk_below HX10.out HB1014.out)
  clear hb14 HM13 HB1013'
  go_wp2_with fail
  refine (heldM_row w3.heap.size mid M4 _ _ m.g m.cs m.fs w14 (HG10.out.below HB1014.out) HSM.out.1 HSM.out.2).mono ?_
  rw [← HSZ.out]
  rintro e w15 ⟨rfl, hb15⟩
  have HB215 : Hid (Below W2.heap.size W2 w15) := Lib.hid (HB210.out.trans ((HB1014.out.trans (hb15.mono HB1014.out.size)).mono HB210.out.size))
  have HBE : Hid (Below w.heap.size w w15) := Lib.hid (HBW2.out.trans (HB215.out.mono HBW2.out.size))
  clear hb15 g0 g1 g2 gf0 gf1 gf2 gl
  go_wp2_with fail
  go_ret
  exact ⟨rfl, HBE.out⟩
end Go.Proofs.YtogmphjhdkgdjaaDoor
/- PROVED: for every row of bytes, FnExactDecodeImage returns true, and its argument reads behind the call as it read before: the program's DecodeImage answers what the specification's answers, field by field; it writes into no argument, keeps nothing of one, and what it answers is its own, behind another call too. Conditions: none but the card's own (Go's tables utf8.first and utf8.acceptRanges start as the program lays them). -/
namespace Go.Proofs.YtogmphjhdkgdjaaDoor.fnExactDecodeImage
open Go.ChangeShapes Go.WideShapes Go.ChangeAt Go.RowKit Go.Joins
open Go.Proofs.YtogmphjhdkgdjaaDoor.QFnExactValidModule Go.Proofs.YtogmphjhdkgdjaaDoorW.PrintWords
set_option linter.unusedVariables false
set_option linter.unusedSimpArgs false
theorem own : ownKnob Tryd.prog.godebug = none := by kernel_rfl
theorem laidOut : laidOutB Tryd.prog = true := by kernel_rfl
set_option maxHeartbeats 1000000 in
set_option maxRecDepth 100000 in
theorem lifted (os : Os) (started : os.Started) (H : Type) (enc : TypeId × Value → H) :
    ReturnsInHanded {} Tryd.checked os 7 .any (fun w args => (Rows.fnExactDecodeImageSpec.pre enc Tryd.prog Tryd.f7 Rows.fnExactDecodeImageRow.domain false w args ∧ laidMetH Tryd.prog Rows.fnExactDecodeImageRow.laid w) ∧ sizedMet enc Tryd.prog Tryd.f7 (OpenSpec.ofChange Rows.fnExactDecodeImageSpec) false w args)
      (Rows.fnExactDecodeImageSpec.post enc Tryd.prog Tryd.f7 false true false false) := by
  refine returnsInHanded_of_change_and (C := Tryd.checked) (X := fun w _ => laidMetH Tryd.prog Rows.fnExactDecodeImageRow.laid w) (fun _ _ _ hh h => h.of_heap hh) own started (by kernel_rfl) Tryd.func7
    (ChangeSpec.witness_shaped (enc := enc) (C := Tryd.checked) (os := os) (X := fun w _ => laidMetH Tryd.prog Rows.fnExactDecodeImageRow.laid w) false (World.laidAll Tryd.prog os Rows.fnExactDecodeImageRow.laid) #[.slice none 0 0] 8 (World.laidAll_os _ _ _)
      (World.shaped_of_ZipB (by kernel_rfl) (by kernel_rfl)) (by kernel_rfl) (by kernel_rfl) (by kernel_rfl)
      (by rw [MakeChecks.laidMetH_plain _ _ _ (by kernel_rfl)]; exact laidMet_laidAll _ (by kernel_rfl) (by kernel_rfl))) ?_
  intro W base args ds gs before hval0 hW _ _ _ _
  have hval : ∀ (j : Nat) t v, Tryd.f7.params[j]? = some t → args[j]? = some v → Value.okWide Tryd.prog W .any base t v := hval0
  have hW' := hW
  obtain ⟨p, q, hA0, hV, rfl, hfz, hnd⟩ := hW
  have hA : DataW.TrodAll enc Tryd.prog W 0 (fun _ => true) true Tryd.f7.params.toList args.toList ds p := hA0
  rw [Tryd.params7] at hA hval
  obtain ⟨v0, d0, rfl, rfl, h0⟩ := trodAll_one hA
  obtain ⟨rfl, rfl⟩ := trodVars_none hV
  have k0 := h0
  have lt0 : ∀ x ∈ p, x.block < W.heap.size := by obtain ⟨m, hm⟩ := k0; exact DataW.trod_lt m _ _ _ hm
  obtain ⟨a1, len1, cap1, rfl⟩ := okWide_slice Tryd.underlying42 (hval 0 42 v0 rfl rfl)
  obtain ⟨fuel1, hf1⟩ := h0
  obtain ⟨A1, cap1', l1, e2, hc1, hr1, hm1, hw1⟩ := opens_row Tryd.underlying42 (by kernel_rfl) (opens_int Tryd.underlying5) hf1
  have e3 : [Value.slice A1 l1.length cap1'] = [Value.slice a1 len1 cap1] := e2.symm
  obtain ⟨rfl, rfl, rfl⟩ : A1 = a1 ∧ l1.length = len1 ∧ cap1' = cap1 := by simpa using e3
  by_cases hlen : l1.length ≤ 1048576
  case neg =>
    refine (law_long A1 cap1' l1 W (by omega)).mono fun e W' ⟨he, bel⟩ => ?_
    subst he
    exact ⟨_, rfl, _, _, _, [], _, [], hW', trodAll_mk1 (shut_bool Tryd.underlying4 _), trodAll_mk1 (Below.trod laidOut (by kernel_rfl) (of_decide_eq_true (by kernel_rfl)) k0 bel lt0), rfl, bel.frame _, fun h => by cases h⟩
  refine (law_dec A1 cap1' l1 W hr1 hc1 hlen (fun x hx => wf_u8 (hw1 x hx))).mono fun e W' ⟨he, bel⟩ => ?_
  subst he
  exact ⟨_, rfl, _, _, _, [], _, [], hW', trodAll_mk1 (shut_bool Tryd.underlying4 _), trodAll_mk1 (Below.trod laidOut (by kernel_rfl) (of_decide_eq_true (by kernel_rfl)) k0 bel lt0), rfl, bel.frame _, fun h => by cases h⟩
theorem over : Rows.fnExactDecodeImageRow.holds Tryd.pinned (OpenSpec.ofChange Rows.fnExactDecodeImageSpec) :=
  OpenClaim.holds_of_wide 7 Tryd.f7 rfl rfl rfl rfl rfl rfl rfl ⟨rfl, rfl, rfl, rfl, rfl⟩ rfl rfl rfl rfl rfl (by kernel_rfl) Tryd.func7 (by kernel_rfl)
    (of_decide_eq_true (by kernel_rfl)) (by unfold Func.isWrapper; first | (rw [if_pos (by decide +kernel)]; kernel_rfl) | (rw [if_neg (by decide +kernel)]; exact ⟨rfl, rfl⟩))
    (fun os started H enc _ => lifted os started H enc)
theorem card_holds : Rows.FnExactDecodeImageCardSaid :=
  Claim7.holds_tied_plain_at .later [] [.data, .pinned] true (true, "ddc44d16ed9f75b0bfc2b346388576c34828f2b129e4250f19a4f31c52d866bc") true over (fun _ h => by cases h) (by kernel_rfl) (fun _ h => by cases h) fnExactDecodeImage_row_tie rfl ⟨rfl, rfl⟩ (by kernel_rfl) rfl
    (fun f fn hf hfn => by
      obtain rfl : f = 7 := Option.some.inj ((show Tryd.prog.funcNamed "loop.example/s01541/laws.FnExactDecodeImage" = some 7 by kernel_rfl).symm.trans hf) |>.symm
      obtain rfl : fn = Tryd.f7 := (Option.some.inj (Tryd.func7.symm.trans hfn)).symm
      exact ⟨by kernel_rfl, fun j t ht => by
        rw [Tryd.params7] at ht
        have hm : t ∈ [42] := by simpa using Array.mem_of_getElem? ht
        have hall : ([42].all fun u => !Tryd.prog.wantsStandIn u) = true := by kernel_rfl
        exact (show Tryd.prog.wantsStandIn t = false by simpa using List.all_eq_true.1 hall t hm)⟩)
    (by kernel_rfl)
#print axioms card_holds
end Go.Proofs.YtogmphjhdkgdjaaDoor.fnExactDecodeImage
namespace Go.Proofs.YtogmphjhdkgdjaaDoor
/-- The tied card, under a short name, for the claim. -/
theorem fnExactDecodeImage_holds : Rows.FnExactDecodeImageCardSaid := fnExactDecodeImage.card_holds
end Go.Proofs.YtogmphjhdkgdjaaDoor
