/- FnExactWriteData, walked: every call has its answer, the last one is true. -/
import Derived.Test.YtogmphjhdkgdjaaDoorWriteC
import Derived.Test.YtogmphjhdkgdjaaDoorMarkB
import Derived.Test.YtogmphjhdkgdjaaDoorSpecWD
import Derived.Test.YtogmphjhdkgdjaaDoorImplVD
import Derived.Test.YtogmphjhdkgdjaaDoorDatVD
namespace Go.Proofs.YtogmphjhdkgdjaaDoor
open Go.RowKit Go.Lib Go.Proofs.YtogmphjhdkgdjaaDoor.QFnExactWriteData Go.Proofs.YtogmphjhdkgdjaaDoorW.PrintWords Go.Proofs.YtogmphjhdkgdjaaDoorW.PrintLast Go.Proofs.YtogmphjhdkgdjaaDoorW.PrintMore
set_option linter.unusedVariables false
set_option linter.unusedSimpArgs false
theorem ev_and {β : Type} {g : Nat → Option β} {b : β} {p : Nat → Prop} (h : ∃ K, ∀ k, K ≤ k → p k) (h2 : Ev g b) : ∃ K, ∀ k, K ≤ k → p k ∧ g k = some b := by
  obtain ⟨K, h⟩ := h
  obtain ⟨K2, h2⟩ := h2
  exact ⟨max K K2, fun k hk => ⟨h k (by omega), h2 k (by omega)⟩⟩
theorem OwnB.C {base : Nat} {w : World} {A : Option Addr} {n c : Nat} {xs : List Int} (h : OwnB base w (.slice A n c) xs) : xs.length ≤ c ∧ Kd.C (Kd.int .u8) w A xs.length xs := by
  obtain ⟨A', c', e, h1, h2⟩ := h.reads
  cases e
  exact ⟨h1, h2⟩
/-- The law's calls, in numbers and lists alone. -/
structure WdPure (k : Nat) (l : List S55) (x : List S57) (t : List Int) : Prop where
  conv : laws_toDatumS.f k l = some x
  spec : spec_WriteData.f k x = some t
  valid : impl_ValidData.f k x = some (validD (x.map cvT))
  eqB : laws_eqByteS.f k t t = some true
  eqD : laws_eqDatumS.f k x x = some true
  held : laws_heldByteS.f k (marksI 1 t.length) 1 = some (1 + (t.length : Int))
theorem law_wd (A : Option Addr) (c : Nat) (l : List S55) (w : World) (hr : Kd.C k55 w A l.length l) (hc : l.length ≤ c) (k : Nat) (r : Int) (x : List S57) (t : List Int) (hsz : laws_szDatumS.f k l 1048576 = some r) (hp : ¬ r < 0 → WdPure k l x t)
    (ht : t = writeT (x.map cvT)) (hby : ¬ r < 0 → ∀ y ∈ x, Byts y.f2) (hlx : ¬ r < 0 → x.length ≤ 1048576 ∧ ∀ y ∈ x, y.f2.length ≤ 1048576) (htl : t.length ≤ 1000000000) (htab : Lib.TabIs Tryd.prog w "internal/strconv.uint64pow10" .u64 Lib.pow10Tab) :
    Calls Tryd.prog 5 #[.slice A l.length c] w fun e w' => e = .returned (.bool true) ∧ Below w.heap.size w w' := by
  have HR := Lib.hid hr
  have HT := Lib.hid htab
  have HSZ := Lib.hid hsz
  clear hr htab hsz
  by_cases hn : r < 0
  · clear hp hby hlx ht htl
    go_enter Tryd.func5, Tryd.ntmps5
    go_wp2_with (go_at_call 8; refine (laws_szDatumS.calls k A c l 1048576 r w HR.out hc HSZ.out).mono ?_; rintro e w1 ⟨rfl, hb1⟩; have HB1 := Lib.hid hb1; clear hb1)
    go_ret
    exact ⟨rfl, HB1.out⟩
  · have HP := Lib.hid (hp hn)
    have HBY := Lib.hid (hby hn)
    have HLX := Lib.hid (hlx hn)
    have HTE := Lib.hid ht
    have htr : decide (r < 0) = false := decide_eq_false hn
    have c11 : ((1 + (t.length : Int)) != 1 + (t.length : Int)) = false := by simp
    have c12 : decide ((1 + (t.length : Int)) < 0) = false := decide_eq_false (by omega)
    clear hp hby hlx ht
    go_enter Tryd.func5, Tryd.ntmps5
    go_wp2_with fail
    refine (laws_szDatumS.calls k A c l 1048576 r w HR.out hc HSZ.out).mono ?_
    rintro e w1 ⟨rfl, hb1⟩
    have HB1 := Lib.hid hb1
    clear hb1
    go_wp2_with fail
    refine (laws_toDatumS.calls k A c l x w1 (Kd.C_below HR.out HB1.out) hc HP.out.conv).mono ?_
    rintro e w2 ⟨v2, rfl, hs2, hb2⟩
    obtain ⟨A2, c2, rfl, hl2, hC2⟩ := Kd.R_reads (Kd.S_R hs2)
    have HC2 := Lib.hid hC2
    have HB2 : Hid (Below w.heap.size w w2) := Lib.hid (HB1.out.trans (hb2.mono HB1.out.size))
    clear hs2 hb2 hC2
    go_wp2_with fail
    refine (spec_WriteData.calls k A2 c2 x t w2 HC2.out hl2 HP.out.spec).mono ?_
    rintro e w3 ⟨v3, rfl, hr3, hb3⟩
    have ho3 := OwnB.of_R hr3
    obtain ⟨A3, c3, rfl, hl3, _⟩ := ho3.reads
    have HO3 := Lib.hid ho3
    have HB3 : Hid (Below w.heap.size w w3) := Lib.hid (HB2.out.trans (hb3.mono HB2.out.size))
    have hs23 : w2.heap.size ≤ w3.heap.size := hb3.size
    clear hr3 hb3 HC2 hl2 ho3
    go_wp2_with fail
    refine (laws_toDatumS.calls k A c l x w3 (Kd.C_below HR.out HB3.out) hc HP.out.conv).mono ?_
    rintro e w4 ⟨v4, rfl, hs4, hb4⟩
    have he4 := RowE.of_R (Kd.S_R hs4)
    obtain ⟨A4, c4, rfl, hl4, hC4⟩ := Kd.R_reads (Kd.S_R hs4)
    have HE4 := Lib.hid he4
    have HC4 := Lib.hid hC4
    have HO4 : Hid (OwnB w2.heap.size w4 (.slice A3 t.length c3) t) := Lib.hid (HO3.out.below hb4)
    have HN4 : Hid (∀ g, (Value.slice A3 t.length c3).ownBlock = some g → g < w3.heap.size) := Lib.hid (fun g hg => by
      rcases HO3.out with ⟨e, _⟩ | ⟨g', cap, cells, fz, e, _, hg', _⟩
      · rw [e] at hg; cases hg
      · rw [e] at hg; simp [Value.ownBlock] at hg; subst hg; exact (Array.getElem?_eq_some_iff.1 hg').1)
    have HB4 : Hid (Below w.heap.size w w4) := Lib.hid (HB3.out.trans (hb4.mono HB3.out.size))
    have hs34 : w3.heap.size ≤ w4.heap.size := hb4.size
    clear hs4 hb4 hC4 he4 HO3
    go_wp2_with fail
    refine (writeData_any k A4 c4 x w4 HC4.out hl4 HP.out.valid HBY.out (tab_below HT.out HB4.out)).mono ?_
    rintro e w5 ⟨v5, rfl, ho5, hb5⟩
    rw [← HTE.out] at ho5
    obtain ⟨A5, c5, rfl, hl5, _⟩ := ho5.reads
    have HO5 := Lib.hid ho5
    have HE5 := Lib.hid (HE4.out.below hb5)
    have HC5 := Lib.hid (Kd.C_below HC4.out hb5)
    have HW5 := Lib.hid (HO4.out.below hb5)
    have HB5 : Hid (Below w.heap.size w w5) := Lib.hid (HB4.out.trans (hb5.mono HB4.out.size))
    have hs45 : w4.heap.size ≤ w5.heap.size := hb5.size
    clear ho5 hb5 HE4 HC4 HO4
    go_wp2_with fail
    refine (laws_eqByteS.calls k A5 c5 t A3 c3 t true w5 HO5.out.C.2 HO5.out.C.1 HW5.out.C.2 HW5.out.C.1 HP.out.eqB).mono ?_
    rintro e w6 ⟨rfl, hd6⟩
    have hb6 := hd6.below
    have HO6 := Lib.hid (HO5.out.below hb6)
    have HE6 := Lib.hid (HE5.out.below hb6)
    have HC6 := Lib.hid (Kd.C_below HC5.out hb6)
    have HW6 := Lib.hid (HW5.out.below hb6)
    have HB6 : Hid (Below w.heap.size w w6) := Lib.hid (HB5.out.trans (hb6.mono HB5.out.size))
    have hs56 : w5.heap.size ≤ w6.heap.size := hb6.size
    clear hb6 hd6 HO5 HE5 HC5 HW5
    go_wp2_with fail
    refine (laws_toDatumS.calls k A c l x w6 (Kd.C_below HR.out HB6.out) hc HP.out.conv).mono ?_
    rintro e w7 ⟨v7, rfl, hs7, hb7⟩
    obtain ⟨A7, c7, rfl, hl7, hC7⟩ := Kd.R_reads (Kd.S_R hs7)
    have HC7 := Lib.hid hC7
    have HO7 := Lib.hid (HO6.out.below hb7)
    have HE7 := Lib.hid (HE6.out.below hb7)
    have HX7 := Lib.hid (Kd.C_below HC6.out hb7)
    have HW7 := Lib.hid (HW6.out.below hb7)
    have HB7 : Hid (Below w.heap.size w w7) := Lib.hid (HB6.out.trans (hb7.mono HB6.out.size))
    have hs67 : w6.heap.size ≤ w7.heap.size := hb7.size
    clear hs7 hb7 hC7 HO6 HE6 HC6 HW6
    go_wp2_with fail
    refine (laws_eqDatumS.calls k A4 c4 x A7 c7 x true w7 HX7.out hl4 HC7.out hl7 HP.out.eqD).mono ?_
    rintro e w8 ⟨rfl, hb8⟩
    have HO8 := Lib.hid (HO7.out.below hb8)
    have HE8 := Lib.hid (HE7.out.below hb8)
    have HW8 := Lib.hid (HW7.out.below hb8)
    have HB8 : Hid (Below w.heap.size w w8) := Lib.hid (HB7.out.trans (hb8.mono HB7.out.size))
    have hs78 : w7.heap.size ≤ w8.heap.size := hb8.size
    clear hb8 HO7 HE7 HX7 HW7 HC7 hl7
    go_wp2_with fail
    refine (markDatumS_any (fun q => w3.heap.size ≤ q ∧ q < w4.heap.size) w.heap.size _ x w8 HE8.out (fun q hq => by have := HB3.out.size; omega) HLX.out.2 HLX.out.1).mono ?_
    rintro e w9 ⟨r9, rfl, hr0, hr1, hz9, ho9, hb9⟩
    have HO9 : Hid (OwnB w4.heap.size w9 (.slice A5 t.length c5) t) := Lib.hid (HO8.out.keep (fun q hq hq1 _ => ho9 q (by omega)))
    have HW9 : Hid (OwnB w2.heap.size w9 (.slice A3 t.length c3) t) := Lib.hid (HW8.out.keep (fun q hq _ _ => ho9 q (by have := HN4.out q hq; omega)))
    have HB9 : Hid (Below w.heap.size w w9) := Lib.hid (HB8.out.trans hb9)
    have h9 : decide (r9 < 0) = false := decide_eq_false (by omega)
    have hs89 : w8.heap.size ≤ w9.heap.size := by omega
    clear ho9 hb9 HE8 HO8 HW8 hz9
    go_wp2_with fail
    refine (laws_eqByteS.calls k A5 c5 t A3 c3 t true w9 HO9.out.C.2 HO9.out.C.1 HW9.out.C.2 HW9.out.C.1 HP.out.eqB).mono ?_
    rintro e w10 ⟨rfl, hd10⟩
    have hb10 := hd10.below
    have HO10 := Lib.hid (HO9.out.below hb10)
    have HW10 := Lib.hid (HW9.out.below hb10)
    have HB10 : Hid (Below w.heap.size w w10) := Lib.hid (HB9.out.trans (hb10.mono HB9.out.size))
    have hs910 : w9.heap.size ≤ w10.heap.size := hb10.size
    clear hb10 hd10 HO9 HW9
    go_wp2_with fail
    refine (markByteS_any w4.heap.size _ t w10 HO10.out (by omega)).mono ?_
    rintro e w11 ⟨rfl, hm11, hz11, ho11, hb11⟩
    have HM11 := Lib.hid hm11
    have hn5 : ∀ g, (Value.slice A5 t.length c5).ownBlock = some g → w4.heap.size ≤ g := fun g hg => by
      rcases HO10.out with ⟨e, _⟩ | ⟨g', cap, cells, fz, e, hb, hg', _⟩
      · rw [e] at hg; cases hg
      · rw [e] at hg; simp [Value.ownBlock] at hg; subst hg; exact hb
    have HW11 : Hid (OwnB w2.heap.size w11 (.slice A3 t.length c3) t) := Lib.hid (HW10.out.keep (fun q hq _ _ => ho11 q (fun e => by have := HN4.out q hq; have := hn5 q e; omega)))
    have HB11 : Hid (Below w.heap.size w w11) := Lib.hid (HB10.out.trans (hb11.mono HB4.out.size))
    have HL5 : Hid (t.length = (marksI 1 t.length).length) := Lib.hid (marksI_length 1 t.length).symm
    obtain ⟨M, hM⟩ : ∃ M, M = marksI 1 t.length := ⟨_, rfl⟩
    have HH := HP.out.held
    rw [← hM] at HM11 HL5 HH
    have HHE := Lib.hid HH
    have hML : M.length = t.length := HL5.out.symm
    have HMC : Hid (∀ w', Below w11.heap.size w11 w' → M.length ≤ c5 ∧ Kd.C (Kd.int .u8) w' A5 M.length M) := Lib.hid (fun w' hb => by
      have := (HM11.out.below hb)
      rw [← hML] at this
      exact this.C)
    have HSL : Hid (Value.slice A5 t.length c5 = Value.slice A5 M.length c5) := Lib.hid (by rw [hML])
    have hs1011 : w10.heap.size ≤ w11.heap.size := by omega
    clear hm11 ho11 hb11 hn5 HO10 HW10 hz11 hM HH HL5 hML
    go_wp2_with fail
    rw [HSL.out]
    refine (laws_heldByteS.calls k A5 c5 M 1 (1 + (t.length : Int)) w11 (HMC.out _ (Below.refl _ _)).2 (HMC.out _ (Below.refl _ _)).1 HHE.out).mono ?_
    rintro e w12 ⟨rfl, hd12⟩
    have hb12 := hd12.below
    have HB1112 := Lib.hid hb12
    have HW12 := Lib.hid (HW11.out.below hb12)
    have HB12 : Hid (Below w.heap.size w w12) := Lib.hid (HB11.out.trans (hb12.mono HB11.out.size))
    clear hb12 hd12 HW11
    go_wp2_with fail
    refine (laws_toDatumS.calls k A c l x w12 (Kd.C_below HR.out HB12.out) hc HP.out.conv).mono ?_
    rintro e w13 ⟨v13, rfl, hs13, hb13⟩
    obtain ⟨A13, c13, rfl, hl13, hC13⟩ := Kd.R_reads (Kd.S_R hs13)
    have HC13 := Lib.hid hC13
    have HB1113 : Hid (Below w11.heap.size w11 w13) := Lib.hid (HB1112.out.trans (hb13.mono HB1112.out.size))
    have HW13 := Lib.hid (HW12.out.below hb13)
    have HB13 : Hid (Below w.heap.size w w13) := Lib.hid (HB12.out.trans (hb13.mono HB12.out.size))
    clear hs13 hb13 hC13 HW12 HB1112
    go_wp2_with fail
    refine (writeData_any k A13 c13 x w13 HC13.out hl13 HP.out.valid HBY.out (tab_below HT.out HB13.out)).mono ?_
    rintro e w14 ⟨v14, rfl, ho14, hb14⟩
    rw [← HTE.out] at ho14
    obtain ⟨A14, c14, rfl, hl14, _⟩ := ho14.reads
    have HO14 := Lib.hid ho14
    have HB1114 : Hid (Below w11.heap.size w11 w14) := Lib.hid (HB1113.out.trans (hb14.mono HB1113.out.size))
    have HW14 := Lib.hid (HW13.out.below hb14)
    have HB14 : Hid (Below w.heap.size w w14) := Lib.hid (HB13.out.trans (hb14.mono HB13.out.size))
    clear ho14 hb14 HW13 HB1113 HC13
    go_wp2_with fail
    refine (laws_eqByteS.calls k A14 c14 t A3 c3 t true w14 HO14.out.C.2 HO14.out.C.1 HW14.out.C.2 HW14.out.C.1 HP.out.eqB).mono ?_
    rintro e w15 ⟨rfl, hd15⟩
    have hb15 := hd15.below
    have HB1115 : Hid (Below w11.heap.size w11 w15) := Lib.hid (HB1114.out.trans (hb15.mono HB1114.out.size))
    have HB15 : Hid (Below w.heap.size w w15) := Lib.hid (HB14.out.trans (hb15.mono HB14.out.size))
    clear hb15 hd15 HO14 HW14 HB1114
    go_wp2_with fail
    refine (laws_heldByteS.calls k A5 c5 M 1 (1 + (t.length : Int)) w15 (HMC.out _ HB1115.out).2 (HMC.out _ HB1115.out).1 HHE.out).mono ?_
    rintro e w16 ⟨rfl, hd16⟩
    have HB16 : Hid (Below w.heap.size w w16) := Lib.hid (HB15.out.trans (hd16.below.mono HB15.out.size))
    clear hd16
    go_wp2_with fail
    go_ret
    exact ⟨rfl, HB16.out⟩
end Go.Proofs.YtogmphjhdkgdjaaDoor
