/- What the law's marks do to the image's bytes; the law's modules. -/
import Derived.Test.YtogmphjhdkgdjaaDoorEiM
import Derived.Test.YtogmphjhdkgdjaaDoorEiC
import Derived.Test.YtogmphjhdkgdjaaDoorEiH
namespace Go.Proofs.YtogmphjhdkgdjaaDoor
open Go.RowKit Go.Proofs.YtogmphjhdkgdjaaDoorW.PrintWords Go.Proofs.YtogmphjhdkgdjaaDoor.QFnExactValidModule
open Go.Proofs.YtogmphjhdkgdjaaDoor.SpecMM (FitsM conP funP insP)
set_option linter.unusedVariables false
set_option linter.unusedSimpArgs false
/-- So many bytes of the row g are marked. -/
structure MkB (g : Nat) (cells : Array Value) (fz : Nat × Nat) (k : Int) (i : Nat) (w w' : World) : Prop where
  row : ∃ cells' : Array Value, w'.heap[g]? = some (.cells cells' 5 fz) ∧ cells'.size = cells.size ∧ (∀ j, j < i → cells'[j]? = some (Value.int .u8 ((k + (j : Int)) % 256))) ∧ ∀ j, i ≤ j → cells'[j]? = cells[j]?
  size : w'.heap.size = w.heap.size
  others : ∀ q, q ≠ g → w'.heap[q]? = w.heap[q]?
  below : ∀ B, B ≤ g → Below B w w'
theorem MkB.step {g : Nat} {cells : Array Value} {fz : Nat × Nat} {k : Int} {i : Nat} {w w' : World} (h : MkB g cells fz k i w w') (hi : i < cells.size) : MkB g cells fz k (i + 1) w (w'.setCell ⟨g, i, none⟩ (.int .u8 ((k + (i : Int)) % 256))) := by
  obtain ⟨cells', h1, h2, h3, h4⟩ := h.row
  refine ⟨⟨cells'.setIfInBounds i (.int .u8 ((k + (i : Int)) % 256)), Go.Joins.block_setCell h1 _, by simp [h2], fun j hj => ?_, fun j hj => ?_⟩, ?_, fun q hq => ?_, fun B hB => (h.below B hB).setCell (p := ⟨g, i, none⟩) hB _⟩
  · rw [Array.getElem?_setIfInBounds]
    by_cases e : i = j
    · subst e; simp [h2, hi]
    · rw [if_neg e]; exact h3 j (by omega)
  · rw [Array.getElem?_setIfInBounds, if_neg (by omega)]; exact h4 j (by omega)
  · rw [← h.size]; simp [World.setCell]
  · rw [← h.others q hq]; exact Below.heap_setCell _ _ _ _ hq
set_option maxHeartbeats 4000000 in
theorem markByteS_own (g cap n : Nat) (cells : Array Value) (fz : Nat × Nat) (k : Int) (w : World) (hg : w.heap[g]? = some (.cells cells 5 fz)) (hn : n ≤ cells.size) (hf : ∀ i, i < n → ¬ (fz.1 ≤ i ∧ i < fz.2)) (hk0 : 0 ≤ k) (hk1 : k ≤ 1000000000000000) (hn2 : n ≤ 1000000000000000) :
    Calls Tryd.prog 22 #[.slice (some ⟨g, 0, none⟩) n cap, .int .i64 k] w fun e w' => e = .returned (.int .i64 (k + n)) ∧ MkB g cells fz k n w w' := by
  have H0 : Hid (MkB g cells fz k 0 w w) := Lib.hid ⟨⟨cells, hg, rfl, fun j hj => by omega, fun _ _ => rfl⟩, rfl, fun _ _ => rfl, fun _ _ => Below.refl _ _⟩
  have HF := Lib.hid hf
  clear hg hf
  go_enter Tryd.func22, Tryd.ntmps22
  go_wp2
  go_loopw [1, 5] (fun v1 v5 wr => ∃ i : Nat, i ≤ n ∧ v5 = .int .i64 i ∧ v1 = .int .i64 (k + (i : Int)) ∧ Hid (MkB g cells fz k i w wr)) (fun _ v5 _ => n - (RowKit.intOf v5).toNat)
  case atStart => exact ⟨0, Nat.zero_le _, rfl, by simp, H0⟩
  case round =>
    obtain ⟨i, hi, rfl, rfl, HM⟩ := hrel
    by_cases hlt : i < n
    · obtain ⟨cells', h1, h2, h3, h4⟩ := HM.out.row
      have hc0 : ∃ v, wr.cell? ⟨g, i, none⟩ = some v := by
        refine ⟨cells'[i]'(by omega), ?_⟩
        simp [World.cell?, h1]
      obtain ⟨v, hc⟩ := hc0
      have hfz : wr.frozen? ⟨g, i, none⟩ = false := by
        have := HF.out i hlt
        simp [World.frozen?, h1]
        omega
      clear h1 h2 h3 h4
      go_wp2
      go_roundw
      case rel => exact ⟨i + 1, by omega, by go_num, by congr 1; simp; omega, Lib.hid (HM.out.step (by omega))⟩
      case measure => simp [RowKit.intOf]; omega
    · obtain rfl : i = n := by omega
      go_wp2
      go_ret
      exact ⟨rfl, HM.out⟩
set_option maxHeartbeats 4000000 in
theorem markByteS_zero (A : Option Addr) (cap : Nat) (k : Int) (w : World) :
    Calls Tryd.prog 22 #[.slice A 0 cap, .int .i64 k] w fun e w' => e = .returned (.int .i64 k) ∧ w' = w := by
  go_enter Tryd.func22, Tryd.ntmps22
  go_wp2
  go_loopw [1, 5] (fun v1 v5 wr => v5 = .int .i64 0 ∧ v1 = .int .i64 k ∧ wr = w) (fun _ _ _ => 0)
  case atStart => exact ⟨rfl, rfl, rfl⟩
  case round =>
    obtain ⟨rfl, rfl, rfl⟩ := hrel
    go_wp2
    go_ret
    exact ⟨rfl, rfl⟩
theorem markByteS_any (base : Nat) (v : Value) (t : List Int) (w : World) (h : OwnB base w v t) (hl : t.length ≤ 1000000000000000) :
    Calls Tryd.prog 22 #[v, .int .i64 1] w fun e w' => e = .returned (.int .i64 (1 + (t.length : Int))) ∧ OwnB base w' v (marksI 1 t.length) ∧ w'.heap.size = w.heap.size ∧ (∀ q, v.ownBlock ≠ some q → w'.heap[q]? = w.heap[q]?) ∧ Below base w w' := by
  rcases h with ⟨rfl, rfl⟩ | ⟨g, cap, cells, fz, rfl, hb, hg, hf, hc, hm, hx⟩
  · refine (markByteS_zero none 0 1 w).mono ?_
    rintro e w' ⟨rfl, rfl⟩
    exact ⟨rfl, Or.inl ⟨rfl, rfl⟩, rfl, fun _ _ => rfl, Below.refl _ _⟩
  · have hn : t.length ≤ cells.size := by
      rcases Nat.eq_zero_or_pos t.length with h0 | h0
      · omega
      · have h1 := hx (t.length - 1) _ (List.getElem?_eq_getElem (by omega))
        have := (Array.getElem?_eq_some_iff.1 h1).1
        omega
    refine (markByteS_own g cap t.length cells fz 1 w hg hn hf (by omega) (by omega) hl).mono ?_
    rintro e w' ⟨rfl, hM⟩
    obtain ⟨cells', r1, r2, r3, _⟩ := hM.row
    refine ⟨rfl, Or.inr ⟨g, cap, cells', fz, by rw [marksI_length], hb, r1, by rw [marksI_length]; exact hf, by rw [marksI_length]; exact hc, by rw [marksI_length]; exact hm, fun j p hp => ?_⟩, hM.size, fun q hq => hM.others q (fun e => hq (by rw [e]; rfl)), hM.below base hb⟩
    have hj : j < t.length := by have := (List.getElem?_eq_some_iff.1 hp).1; rwa [marksI_length] at this
    rw [marksI_get 1 _ j hj] at hp
    cases hp
    exact r3 j hj
/-- A module that the law has made, within lo .. hi. -/
structure MAt (lo hi : Nat) (w : World) (B0 B2 : Option Addr) (d0 d2 : Nat) (cs : List (List S57)) (fs : List S68) : Prop where
  con : Kd.C (Kd.slice 57 k57) w B0 cs.length cs
  cl : cs.length ≤ d0
  fun_ : Kd.C k68 w B2 fs.length fs
  fl : fs.length ≤ d2
  dats : DatsR (fun q => lo ≤ q ∧ q < hi) w (.slice B0 cs.length d0) cs
  funs : FunR (fun q => lo ≤ q ∧ q < hi) w (.slice B2 fs.length d2) fs
theorem MAt.below {lo hi : Nat} {w w' : World} {B0 B2 : Option Addr} {d0 d2 : Nat} {cs : List (List S57)} {fs : List S68} (h : MAt lo hi w B0 B2 d0 d2 cs fs) (hb : Below w.heap.size w w') : MAt lo hi w' B0 B2 d0 d2 cs fs :=
  ⟨Kd.C_below h.con hb, h.cl, Kd.C_below h.fun_ hb, h.fl, h.dats.mk (KpS.of_below hb), h.funs.mk (KpS.of_below hb)⟩
theorem toM_calls (k : Nat) (A0 A2 : Option Addr) (c0 c2 : Nat) (cs : List (List S55)) (g : Int) (fs : List S110) (r1 : List (List S57)) (r3 : List S68) (w : World) (hr0 : Kd.C (Kd.slice 55 k55) w A0 cs.length cs) (hc0 : cs.length ≤ c0) (hr2 : Kd.C k110 w A2 fs.length fs) (hc2 : fs.length ≤ c2) (h : laws_toModule.f k cs g fs = some (r1, g, r3)) :
    Calls Tryd.prog 15 #[.agg #[.slice A0 cs.length c0, .int .i64 g, .slice A2 fs.length c2]] w fun e w' => ∃ B0 B2 d0 d2, e = .returned (.agg #[.slice B0 r1.length d0, .int .i64 g, .slice B2 r3.length d2]) ∧ MAt w.heap.size w'.heap.size w' B0 B2 d0 d2 r1 r3 ∧ Below w.heap.size w w' := by
  refine (laws_toModule.calls k A0 c0 cs g A2 c2 fs r1 g r3 w hr0 hc0 hr2 hc2 h).mono ?_
  rintro e w' ⟨v0, v2, rfl, h0, h2, hb⟩
  obtain ⟨B0, d0, rfl, hl0, hC0⟩ := Kd.R_reads h0
  obtain ⟨B2, d2, rfl, hl2, hC2⟩ := Kd.R_reads (Kd.S_R h2)
  exact ⟨B0, B2, d0, d2, rfl, ⟨hC0, hl0, hC2, hl2, DatsR.of_R h0, FunR.of_S h2⟩, hb⟩
theorem own_lt {base : Nat} {w : World} {v : Value} {xs : List Int} (h : OwnB base w v xs) : ∀ g, v.ownBlock = some g → base ≤ g ∧ g < w.heap.size := fun g hg => by
  rcases h with ⟨e, _⟩ | ⟨g', cap, cells, fz, e, hb, hg', _⟩
  · rw [e] at hg; cases hg
  · rw [e] at hg; simp [Value.ownBlock] at hg; subst hg; exact ⟨hb, blk_lt2 hg'⟩
theorem own_form {base : Nat} {w : World} {v : Value} {xs : List Int} (h : OwnB base w v xs) : ∃ A c, v = .slice A xs.length c := by
  obtain ⟨A, c, e, _⟩ := h.reads
  exact ⟨A, c, e⟩
theorem encT_len {cs : List (List Dat)} {g : Int} {fs : List FunP} : (encT cs g fs).length ≤ 1000000000 := by
  unfold encT
  split
  · rename_i hv
    have hs := valid_small hv
    unfold imageT
    rw [List.length_append, leI_len]
    unfold bodyT
    simp only [List.length_append, leI_len, List.length_cons, List.length_nil]
    have h1 := flatMap_len (f := conT) (K := 333002) cs (fun c hc => conT_len (hs.con c hc))
    have h2 := flatMap_len (f := funT) (K := 20054) fs (fun c hc => funT_len (hs.fn c hc))
    have h3 := hs.nc
    have h4 := hs.nf
    have h5 : cs.length * 333002 ≤ 500 * 333002 := Nat.mul_le_mul_right _ h3
    have h6 : fs.length * 20054 ≤ 200 * 20054 := Nat.mul_le_mul_right _ h4
    omega
  · simp
end Go.Proofs.YtogmphjhdkgdjaaDoor
/- FnExactEncodeImage, walked: every call has its answer, the last one is true. -/
namespace Go.Proofs.YtogmphjhdkgdjaaDoor
open Go.RowKit Go.Proofs.YtogmphjhdkgdjaaDoorW.PrintWords Go.Proofs.YtogmphjhdkgdjaaDoor.QFnExactValidModule
open Go.Proofs.YtogmphjhdkgdjaaDoor.SpecMM (FitsM conP funP insP)
set_option linter.unusedVariables false
set_option linter.unusedSimpArgs false
/-- What is known of a module that was read. -/
structure EncPure (k : Nat) (cs : List (List S55)) (g : Int) (fs : List S110) (cs' : List (List S57)) (fs' : List S68) : Prop where
  conv : laws_toModule.f k cs g fs = some (cs', g, fs')
  fits : FitsM cs' fs'
  num : I64 g
  dat : ∀ c ∈ cs', ∀ x ∈ c, I64 x.f0 ∧ I64 x.f1 ∧ I64 x.f3
  fun_ : ∀ f ∈ fs', I64 f.f0 ∧ ∀ x ∈ f.f2, I64 x.f0 ∧ I64 x.f1 ∧ I64 x.f2
  small : (∀ c ∈ cs', c.length ≤ 1048576 ∧ ∀ x ∈ c, x.f2.length ≤ 1048576) ∧ ∀ f ∈ fs', f.f1.length ≤ 1048576 ∧ f.f2.length ≤ 1048576
set_option maxHeartbeats 8000000 in
set_option maxRecDepth 100000 in
theorem law_enc (A0 A2 : Option Addr) (c0 c2 : Nat) (cs : List (List S55)) (g : Int) (fs : List S110) (w : World) (hr0 : Kd.C (Kd.slice 55 k55) w A0 cs.length cs) (hc0 : cs.length ≤ c0) (hr2 : Kd.C k110 w A2 fs.length fs) (hc2 : fs.length ≤ c2)
    (k : Nat) (r : Int) (cs' : List (List S57)) (fs' : List S68) (hsz : laws_szModule.f k cs g fs 1048576 = some r) (hp : ¬ r < 0 → EncPure k cs g fs cs' fs') :
    Calls Tryd.prog 6 #[.agg #[.slice A0 cs.length c0, .int .i64 g, .slice A2 fs.length c2]] w fun e w' => e = .returned (.bool true) ∧ Below w.heap.size w w' := by
  have HR0 := Lib.hid hr0
  have HR2 := Lib.hid hr2
  have HSZ := Lib.hid hsz
  have hu := Tryd.underlying32
  have hu2 := Tryd.underlying38
  have hb0 := (Below.refl w.heap.size w).alloc (Nat.le_refl _) (.cells #[.slice A0 cs.length c0, .int .i64 g, .slice A2 fs.length c2] 32)
  have e0 := blk_new2 w (.cells #[.slice A0 cs.length c0, .int .i64 g, .slice A2 fs.length c2] 32)
  obtain ⟨W, hW⟩ : ∃ W, W = w.alloc (.cells #[.slice A0 cs.length c0, .int .i64 g, .slice A2 fs.length c2] 32) := ⟨_, rfl⟩
  rw [← hW] at hb0 e0
  have HB0 := Lib.hid hb0
  have E0 := Lib.hid e0
  clear hr0 hr2 hsz hb0 e0
  by_cases hn1 : r < 0
  · have hd1 : decide (r < 0) = true := decide_eq_true hn1
    clear hp
    go_enter Tryd.func6, Tryd.ntmps6
    go_wp2_with fail
    rw [← hW]
    clear hW
    refine (laws_szModule.calls k A0 c0 cs g A2 c2 fs 1048576 r W (Kd.C_below HR0.out HB0.out) hc0 (Kd.C_below HR2.out HB0.out) hc2 HSZ.out).mono ?_
    rintro e w1 ⟨rfl, hb1⟩
    have HB1 : Hid (Below w.heap.size w w1) := Lib.hid (HB0.out.trans (hb1.mono HB0.out.size))
    clear hb1
    go_wp2_with fail
    go_ret
    exact ⟨rfl, HB1.out⟩
  have hd1 : decide (r < 0) = false := decide_eq_false hn1
  have HP := Lib.hid (hp hn1)
  obtain ⟨t, ht⟩ : ∃ t, t = encT (conP cs') g (fs'.map funP) := ⟨_, rfl⟩
  have htl : t.length ≤ 1000000000 := by rw [ht]; exact encT_len
  have HTE := Lib.hid ht
  have c11 : ((1 + (t.length : Int)) != 1 + (t.length : Int)) = false := by simp
  have c12 : decide ((1 + (t.length : Int)) < 0) = false := decide_eq_false (by omega)
  have HTO : Hid (∀ W', Below w.heap.size w W' → Calls Tryd.prog 15 #[.agg #[.slice A0 cs.length c0, .int .i64 g, .slice A2 fs.length c2]] W' fun e w' => ∃ B0 B2 d0 d2, e = .returned (.agg #[.slice B0 cs'.length d0, .int .i64 g, .slice B2 fs'.length d2]) ∧ MAt W'.heap.size w'.heap.size w' B0 B2 d0 d2 cs' fs' ∧ Below W'.heap.size W' w') :=
    Lib.hid (fun W' hb => toM_calls k A0 A2 c0 c2 cs g fs cs' fs' W' (Kd.C_below HR0.out hb) hc0 (Kd.C_below HR2.out hb) hc2 HP.out.conv)
  clear hp ht
  go_enter Tryd.func6, Tryd.ntmps6
  go_wp2_with fail
  rw [← hW]
  clear hW
  refine (laws_szModule.calls k A0 c0 cs g A2 c2 fs 1048576 r W (Kd.C_below HR0.out HB0.out) hc0 (Kd.C_below HR2.out HB0.out) hc2 HSZ.out).mono ?_
  rintro e w1 ⟨rfl, hb1⟩
  have HB1 : Hid (Below w.heap.size w w1) := Lib.hid (HB0.out.trans (hb1.mono HB0.out.size))
  have E1 := Lib.hid (blk_below E0.out hb1)
  clear hb1
  have g0 : w1.cell? ⟨w.heap.size, 0, none⟩ = some (.slice A0 cs.length c0) := by simp [World.cell?, E1.out]
  have g1 : w1.cell? ⟨w.heap.size, 1, none⟩ = some (.int .i64 g) := by simp [World.cell?, E1.out]
  have g2 : w1.cell? ⟨w.heap.size, 2, none⟩ = some (.slice A2 fs.length c2) := by simp [World.cell?, E1.out]
  have gl : w.heap.size < w1.heap.size := blk_lt2 E1.out
  go_wp2_with fail
  refine (HTO.out w1 HB1.out).mono ?_
  rintro e w2 ⟨B0, B2, d0, d2, rfl, hm2, hb2⟩
  have HM2 := Lib.hid hm2
  have HB2 : Hid (Below w.heap.size w w2) := Lib.hid (HB1.out.trans (hb2.mono HB1.out.size))
  have E2 := Lib.hid (blk_below E1.out hb2)
  clear hm2 hb2 g0 g1 g2 gl
  go_wp2_with fail
  refine (specEncode_calls B0 B2 d0 d2 cs' g fs' w2 HM2.out.con HM2.out.cl HM2.out.fun_ HM2.out.fl HP.out.fits HP.out.num HP.out.dat HP.out.fun_).mono ?_
  rw [← HTE.out]
  rintro e w3 ⟨v3, rfl, ho3, hb3⟩
  obtain ⟨A5, c5, rfl⟩ := own_form ho3
  have HO5 := Lib.hid ho3
  have HB5 : Hid (Below w.heap.size w w3) := Lib.hid (HB2.out.trans (hb3.mono HB2.out.size))
  have E5 := Lib.hid (blk_below E2.out hb3)
  clear ho3 hb3 HM2 E1 E2
  have g0 : w3.cell? ⟨w.heap.size, 0, none⟩ = some (.slice A0 cs.length c0) := by simp [World.cell?, E5.out]
  have g1 : w3.cell? ⟨w.heap.size, 1, none⟩ = some (.int .i64 g) := by simp [World.cell?, E5.out]
  have g2 : w3.cell? ⟨w.heap.size, 2, none⟩ = some (.slice A2 fs.length c2) := by simp [World.cell?, E5.out]
  have gl : w.heap.size < w3.heap.size := blk_lt2 E5.out
  go_wp2_with fail
  refine (HTO.out w3 HB5.out).mono ?_
  rintro e w6 ⟨B6, C6, d6, f6, rfl, hm6, hb6⟩
  have HM6 := Lib.hid hm6
  have HB6 : Hid (Below w.heap.size w w6) := Lib.hid (HB5.out.trans (hb6.mono HB5.out.size))
  have HB56 := Lib.hid hb6
  clear hm6 hb6 g0 g1 g2 gl
  go_wp2_with fail
  obtain ⟨W6, hW6⟩ : ∃ W6, W6 = w6.alloc (.cells #[.slice B6 cs'.length d6, .int .i64 g, .slice C6 fs'.length f6] 38) := ⟨_, rfl⟩
  have hbw := (Below.refl w6.heap.size w6).alloc (Nat.le_refl _) (.cells #[.slice B6 cs'.length d6, .int .i64 g, .slice C6 fs'.length f6] 38)
  have hf6 := blk_new2 w6 (.cells #[.slice B6 cs'.length d6, .int .i64 g, .slice C6 fs'.length f6] 38)
  rw [← hW6] at hbw hf6 ⊢
  have hz6 : w6.heap.size < W6.heap.size := blk_lt2 hf6
  have F6 := Lib.hid hf6
  have HM6' := Lib.hid (HM6.out.below hbw)
  have HBW6 : Hid (Below w.heap.size w W6) := Lib.hid (HB6.out.trans (hbw.mono HB6.out.size))
  have HB56' : Hid (Below w3.heap.size w3 W6) := Lib.hid (HB56.out.trans (hbw.mono HB56.out.size))
  have hz5 : w3.heap.size ≤ w6.heap.size := HB56.out.size
  clear hW6 hbw hf6 HM6 HB6 HB56
  refine (EncodeImage_calls B6 C6 d6 f6 cs' g fs' W6 HM6'.out.con HM6'.out.cl HM6'.out.fun_ HM6'.out.fl HP.out.fits HP.out.num HP.out.dat HP.out.fun_).mono ?_
  rw [← HTE.out]
  rintro e w8 ⟨v8, rfl, ho8, hb8⟩
  obtain ⟨A8, c8, rfl⟩ := own_form ho8
  have HG8 := Lib.hid (own_lt ho8)
  have HO8 := Lib.hid ho8
  have F8 := Lib.hid (blk_below F6.out hb8)
  have HM8 := Lib.hid (HM6'.out.below hb8)
  have HB8 : Hid (Below w.heap.size w w8) := Lib.hid (HBW6.out.trans (hb8.mono HBW6.out.size))
  have HB58 : Hid (Below w3.heap.size w3 w8) := Lib.hid (HB56'.out.trans (hb8.mono HB56'.out.size))
  have hz8 : W6.heap.size ≤ w8.heap.size := hb8.size
  clear ho8 hb8 HM6' HBW6 HB56' F6
  go_wp2_with fail
  have HW8 := Lib.hid (HO5.out.below HB58.out)
  refine (eqB_calls A8 A5 c8 c5 t w8 (own_C HO8.out).2.2 (own_C HW8.out).2.2).mono ?_
  rintro e w9 ⟨rfl, hb9⟩
  have HO9 := Lib.hid (HO8.out.below hb9)
  have F9 := Lib.hid (blk_below F8.out hb9)
  have HM9 := Lib.hid (HM8.out.below hb9)
  have HB9 : Hid (Below w.heap.size w w9) := Lib.hid (HB8.out.trans (hb9.mono HB8.out.size))
  have HB59 : Hid (Below w3.heap.size w3 w9) := Lib.hid (HB58.out.trans (hb9.mono HB58.out.size))
  have hz9 : w8.heap.size ≤ w9.heap.size := hb9.size
  clear hb9 HO8 HW8 HM8 HB8 HB58 F8
  have E9 := Lib.hid (blk_below E5.out HB59.out)
  have g0 : w9.cell? ⟨w.heap.size, 0, none⟩ = some (.slice A0 cs.length c0) := by simp [World.cell?, E9.out]
  have g1 : w9.cell? ⟨w.heap.size, 1, none⟩ = some (.int .i64 g) := by simp [World.cell?, E9.out]
  have g2 : w9.cell? ⟨w.heap.size, 2, none⟩ = some (.slice A2 fs.length c2) := by simp [World.cell?, E9.out]
  have g3 : w9.cell? ⟨w6.heap.size, 0, none⟩ = some (.slice B6 cs'.length d6) := by simp [World.cell?, F9.out]
  have g4 : w9.cell? ⟨w6.heap.size, 1, none⟩ = some (.int .i64 g) := by simp [World.cell?, F9.out]
  have g5 : w9.cell? ⟨w6.heap.size, 2, none⟩ = some (.slice C6 fs'.length f6) := by simp [World.cell?, F9.out]
  have gl : w.heap.size < w9.heap.size := blk_lt2 E9.out
  have gm : w6.heap.size < w9.heap.size := blk_lt2 F9.out
  have HRL : Hid (∀ W', Below w9.heap.size w9 W' → (W'.cell? ⟨w.heap.size, 0, none⟩ = some (.slice A0 cs.length c0) ∧ W'.cell? ⟨w.heap.size, 1, none⟩ = some (.int .i64 g) ∧ W'.cell? ⟨w.heap.size, 2, none⟩ = some (.slice A2 fs.length c2)) ∧ (W'.cell? ⟨w6.heap.size, 0, none⟩ = some (.slice B6 cs'.length d6) ∧ W'.cell? ⟨w6.heap.size, 1, none⟩ = some (.int .i64 g) ∧ W'.cell? ⟨w6.heap.size, 2, none⟩ = some (.slice C6 fs'.length f6))) := Lib.hid (fun W' hb => by
    have h1 := blk_below E9.out hb
    have h2 := blk_below F9.out hb
    simp [World.cell?, h1, h2])
  go_wp2_with fail
  go_region_held3 (fun W => W.cell? ⟨w6.heap.size, 0, none⟩ = some (.slice B6 cs'.length d6) ∧ W.cell? ⟨w6.heap.size, 1, none⟩ = some (.int .i64 g) ∧ W.cell? ⟨w6.heap.size, 2, none⟩ = some (.slice C6 fs'.length f6) ∧ W.cell? ⟨w.heap.size, 0, none⟩ = some (.slice A0 cs.length c0) ∧ W.cell? ⟨w.heap.size, 1, none⟩ = some (.int .i64 g) ∧ W.cell? ⟨w.heap.size, 2, none⟩ = some (.slice A2 fs.length c2)) (exact ⟨g3, g4, g5, g0, g1, g2⟩)
    (first
    | (go_at_call 15; refine (HTO.out w9.drew HB9.out.drew).mono ?_; rintro e w10 ⟨B10, C10, d10, f10, rfl, hm10, hb10⟩; have HM10 := Lib.hid hm10; have HB910 : Hid (Below w9.heap.size w9 w10) := Lib.hid ((Below.refl w9.heap.size w9).drew.trans hb10); clear hm10 hb10 g0 g1 g2 g3 g4 g5; obtain ⟨⟨g0, g1, g2⟩, g3, g4, g5⟩ := HRL.out w10 HB910.out)
    | (go_at_call 17; refine (eqM_calls cs' g fs' B6 B10 C6 C10 d6 d10 f6 f10 w10 (Kd.C_below HM9.out.con HB910.out) HM10.out.con (Kd.C_below HM9.out.fun_ HB910.out) HM10.out.fun_).mono ?_; rintro e w11 ⟨rfl, hb11⟩; have HB911 : Hid (Below w9.heap.size w9 w11) := Lib.hid (HB910.out.trans (hb11.mono HB910.out.size)); clear hb11 g0 g1 g2 g3 g4 g5; obtain ⟨⟨g0, g1, g2⟩, g3, g4, g5⟩ := HRL.out w11 HB911.out))
  have HO11 := Lib.hid (HO9.out.below HB911.out)
  have F11 := Lib.hid (blk_below F9.out HB911.out)
  have HM11 := Lib.hid (HM9.out.below HB911.out)
  have HB11 : Hid (Below w.heap.size w w11) := Lib.hid (HB9.out.trans (HB911.out.mono HB9.out.size))
  have HB511 : Hid (Below w3.heap.size w3 w11) := Lib.hid (HB59.out.trans (HB911.out.mono HB59.out.size))
  have hz11 : w9.heap.size ≤ w11.heap.size := HB911.out.size
  clear g0 g1 g2 HO9 F9 HM9 HB9 HB59 HM10 HB910 HB911 E9 HRL gl gm
  have gm : w6.heap.size < w11.heap.size := blk_lt2 F11.out
  go_wp2_with fail
  refine (markM_mk (fun q => w3.heap.size ≤ q ∧ q < w6.heap.size) w3.heap.size _ _ g cs' fs' w11 HM11.out.dats HM11.out.funs (fun q hq => hq.1) (fun q hq => by have := hq.2; omega) (by omega) HP.out.small.1 HP.out.fits.clen HP.out.small.2 HP.out.fits.flen).mono ?_
  rintro e w14 ⟨r14, rfl, hr14, hz14, ho14, hb14⟩
  have HO14 := Lib.hid (HO11.out.keep (fun q _ hq hlt => ho14 q hlt (fun h => by have := h.2; omega)))
  have HB514 : Hid (Below w3.heap.size w3 w14) := Lib.hid (HB511.out.trans hb14)
  have HB14 : Hid (Below w.heap.size w w14) := Lib.hid (HB5.out.trans (HB514.out.mono HB5.out.size))
  have HW14 := Lib.hid (HO5.out.below HB514.out)
  have h14 : decide (r14 < 0) = false := decide_eq_false (by omega)
  clear ho14 hb14 HO11 HM11 HB11 HB511 F11 g3 g4 g5 gm
  go_wp2_with fail
  refine (eqB_calls A8 A5 c8 c5 t w14 (own_C HO14.out).2.2 (own_C HW14.out).2.2).mono ?_
  rintro e w16 ⟨rfl, hb16⟩
  have HO16 := Lib.hid (HO14.out.below hb16)
  have HB516 : Hid (Below w3.heap.size w3 w16) := Lib.hid (HB514.out.trans (hb16.mono HB514.out.size))
  clear hb16 HO14 HW14 HB14 HB514
  go_wp2_with fail
  refine (markByteS_any W6.heap.size _ t w16 HO16.out (by omega)).mono ?_
  rintro e w17 ⟨rfl, hm17, hz17, ho17, hb17⟩
  have HM17 := Lib.hid hm17
  have HB517 : Hid (Below w3.heap.size w3 w17) := Lib.hid (HB516.out.trans (hb17.mono (by omega)))
  have HB17 : Hid (Below w.heap.size w w17) := Lib.hid (HB5.out.trans (HB517.out.mono HB5.out.size))
  have HMC : Hid (∀ w', Below w17.heap.size w17 w' → Kd.C (Kd.int .u8) w' A8 t.length (marksI 1 t.length)) := Lib.hid (fun w' hb => by
    have h := (HM17.out.below hb)
    have h2 := own_C h
    have h3 := h2.2.2
    rw [← h2.1] at h3
    exact h3)
  clear hm17 ho17 hb17 HO16 HB516 hz17
  go_wp2_with fail
  refine (heldB_calls A8 c8 t.length w17 (by omega) (HMC.out _ (Below.refl _ _))).mono ?_
  rintro e w18 ⟨rfl, hw18⟩
  have HB1718 : Hid (Below w17.heap.size w17 w18) := Lib.hid (by rw [hw18]; exact Below.refl _ _)
  have HB518 : Hid (Below w3.heap.size w3 w18) := Lib.hid (by rw [hw18]; exact HB517.out)
  have HB18 : Hid (Below w.heap.size w w18) := Lib.hid (by rw [hw18]; exact HB17.out)
  have E18 := Lib.hid (blk_below E5.out HB518.out)
  clear hw18 HB17 HB517
  have g0 : w18.cell? ⟨w.heap.size, 0, none⟩ = some (.slice A0 cs.length c0) := by simp [World.cell?, E18.out]
  have g1 : w18.cell? ⟨w.heap.size, 1, none⟩ = some (.int .i64 g) := by simp [World.cell?, E18.out]
  have g2 : w18.cell? ⟨w.heap.size, 2, none⟩ = some (.slice A2 fs.length c2) := by simp [World.cell?, E18.out]
  have gl : w.heap.size < w18.heap.size := blk_lt2 E18.out
  go_wp2_with fail
  refine (HTO.out w18 HB18.out).mono ?_
  rintro e w19 ⟨B19, C19, d19, f19, rfl, hm19, hb19⟩
  have HM19 := Lib.hid hm19
  have HB1719 : Hid (Below w17.heap.size w17 w19) := Lib.hid (HB1718.out.trans (hb19.mono HB1718.out.size))
  have HB519 : Hid (Below w3.heap.size w3 w19) := Lib.hid (HB518.out.trans (hb19.mono HB518.out.size))
  clear hm19 hb19 g0 g1 g2 gl E18 HB1718 HB18 HB518
  go_wp2_with fail
  refine (EncodeImage_calls B19 C19 d19 f19 cs' g fs' w19 HM19.out.con HM19.out.cl HM19.out.fun_ HM19.out.fl HP.out.fits HP.out.num HP.out.dat HP.out.fun_).mono ?_
  rw [← HTE.out]
  rintro e w21 ⟨v21, rfl, ho21, hb21⟩
  obtain ⟨A21, c21, rfl⟩ := own_form ho21
  have HO21 := Lib.hid ho21
  have HB1721 : Hid (Below w17.heap.size w17 w21) := Lib.hid (HB1719.out.trans (hb21.mono HB1719.out.size))
  have HB521 : Hid (Below w3.heap.size w3 w21) := Lib.hid (HB519.out.trans (hb21.mono HB519.out.size))
  have HB21 : Hid (Below w.heap.size w w21) := Lib.hid (HB5.out.trans (HB521.out.mono HB5.out.size))
  have HW21 := Lib.hid (HO5.out.below HB521.out)
  clear ho21 hb21 HM19 HB1719 HB519
  go_wp2_with fail
  refine (eqB_calls A21 A5 c21 c5 t w21 (own_C HO21.out).2.2 (own_C HW21.out).2.2).mono ?_
  rintro e w22 ⟨rfl, hb22⟩
  have HB1722 : Hid (Below w17.heap.size w17 w22) := Lib.hid (HB1721.out.trans (hb22.mono HB1721.out.size))
  have HB22 : Hid (Below w.heap.size w w22) := Lib.hid (HB21.out.trans (hb22.mono HB21.out.size))
  clear hb22 HO21 HW21 HB1721 HB21
  go_wp2_with fail
  refine (heldB_calls A8 c8 t.length w22 (by omega) (HMC.out _ HB1722.out)).mono ?_
  rintro e w23 ⟨rfl, hw23⟩
  have HB23 : Hid (Below w.heap.size w w23) := Lib.hid (by rw [hw23]; exact HB22.out)
  clear hw23
  go_wp2_with fail
  go_ret
  exact ⟨rfl, HB23.out⟩
end Go.Proofs.YtogmphjhdkgdjaaDoor
