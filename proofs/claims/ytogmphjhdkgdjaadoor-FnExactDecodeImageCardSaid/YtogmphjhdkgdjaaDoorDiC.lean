/- The specification's image. -/
import Derived.Test.YtogmphjhdkgdjaaDoorDiB
import Derived.Lib.SmallJoins
namespace Go.Proofs.YtogmphjhdkgdjaaDoor
open Go.RowKit Go.Proofs.YtogmphjhdkgdjaaDoorW.PrintWords Go.Proofs.YtogmphjhdkgdjaaDoor.QFnExactValidModule
open Go.Proofs.YtogmphjhdkgdjaaDoor.SpecMM (FitsM conP funP insP)
open Go.Proofs.YtogmphjhdkgdjaaDoor.SpecVM (toD)
set_option linter.unusedVariables false
set_option linter.unusedSimpArgs false
set_option maxHeartbeats 16000000 in
set_option maxRecDepth 100000 in
theorem l4image_calls (A0 A2 : Option Addr) (c0 c2 : Nat) (cs : List (List S57)) (g : Int) (fs : List S68) (w : World) (hr0 : Kd.C (Kd.slice 57 k57) w A0 cs.length cs) (hr2 : Kd.C k68 w A2 fs.length fs)
    (hM : FitsM cs fs) (hSm : Small (conP cs) (fs.map funP)) (hg : I64 g) (hd : ∀ c ∈ cs, ∀ x ∈ c, I64 x.f0 ∧ I64 x.f1 ∧ I64 x.f3) (hf : ∀ f ∈ fs, I64 f.f0 ∧ ∀ x ∈ f.f2, I64 x.f0 ∧ I64 x.f1 ∧ I64 x.f2) :
    Calls Tryd.prog 51 #[.agg #[.slice A0 cs.length c0, .int .i64 g, .slice A2 fs.length c2]] w fun e w' => ∃ v, e = .returned v ∧ RowB w.heap.size (imageT (conP cs) g (fs.map funP)) w' v ∧ Below w.heap.size w w' := by
  have HR0 := Lib.hid hr0
  have HR2 := Lib.hid hr2
  have HM := Lib.hid hM
  have HSM := Lib.hid hSm
  have HD := Lib.hid hd
  have HF := Lib.hid hf
  have hu := Tryd.underlying38
  have hu2 := Tryd.underlying68
  clear hr0 hr2 hM hSm hd hf
  obtain ⟨FIN, hFIN⟩ : ∃ F, F = imageT (conP cs) g (fs.map funP) := ⟨_, rfl⟩
  rw [← hFIN]
  have HFIN := Lib.hid hFIN
  clear hFIN
  have kc := Go.Joins.run_convert_bytes_const_at (P := Tryd.prog) (w.alloc (.cells #[.slice A0 cs.length c0, .int .i64 g, .slice A2 fs.length c2] 38)) 42 5 #[.int .u8 83, .int .u8 76, .int .u8 65, .int .u8 49] 4 4 (w.heap.size + 1) (by simp) Tryd.underlying42 Tryd.underlying5
  obtain ⟨W, hW⟩ : ∃ W, W = (w.alloc (.cells #[.slice A0 cs.length c0, .int .i64 g, .slice A2 fs.length c2] 38)).alloc (.cells #[.int .u8 83, .int .u8 76, .int .u8 65, .int .u8 49] 5 ((#[.int .u8 83, .int .u8 76, .int .u8 65, .int .u8 49] : Array Value).size, (#[.int .u8 83, .int .u8 76, .int .u8 65, .int .u8 49] : Array Value).size + 1)) := ⟨_, rfl⟩
  rw [← hW] at kc
  have hbW : Below w.heap.size w W := by rw [hW]; exact ((Below.refl _ _).alloc (Nat.le_refl _) _).alloc (by simp) _
  have hMB : W.heap[w.heap.size]? = some (.cells #[.slice A0 cs.length c0, .int .i64 g, .slice A2 fs.length c2] 38 (0, 0)) := by rw [hW]; exact blk_old2 (blk_new2 _ _) _
  have hLB : W.heap[w.heap.size + 1]? = some (.cells (cel [83, 76, 65, 49]).toArray 5 (4, 5)) := by
    have := blk_new2 (w.alloc (.cells #[.slice A0 cs.length c0, .int .i64 g, .slice A2 fs.length c2] 38)) (.cells #[.int .u8 83, .int .u8 76, .int .u8 65, .int .u8 49] 5 ((#[.int .u8 83, .int .u8 76, .int .u8 65, .int .u8 49] : Array Value).size, (#[.int .u8 83, .int .u8 76, .int .u8 65, .int .u8 49] : Array Value).size + 1))
    rw [show (w.alloc (.cells #[.slice A0 cs.length c0, .int .i64 g, .slice A2 fs.length c2] 38)).heap.size = w.heap.size + 1 by simp, ← hW] at this
    exact this
  have HBW := Lib.hid hbW
  have HMB := Lib.hid hMB
  have HLB := Lib.hid hLB
  have hzl : w.heap.size < W.heap.size := blk_lt2 hMB
  have e1 : W.cell? ⟨w.heap.size, 1, none⟩ = some (.int .i64 g) := by simp [World.cell?, hMB]
  have hml : (conP cs).length = cs.length := by simp [conP]
  have hn500 : cs.length ≤ 500 := by have := HSM.out.nc; omega
  have hf200 : fs.length ≤ 200 := by have := HSM.out.nf; rw [List.length_map] at this; exact this
  clear hW hbW hMB hLB hml
  go_enter Tryd.func51, Tryd.ntmps51
  go_wp2_with fail
  refine (little_calls g 2 W (by omega) hg).mono ?_
  rintro e w2 ⟨r, rfl, hr2, hb2⟩
  obtain ⟨ao, cap, rfl⟩ := hr2.form
  have HC2 := Lib.hid hr2.C
  have HL2 := Lib.hid ((hb2.block _ (blk_lt2 HLB.out)).trans HLB.out)
  have HB2 : Hid (Below w.heap.size w w2) := Lib.hid (HBW.out.trans (hb2.mono HBW.out.size))
  have HM2 := Lib.hid ((hb2.block _ (blk_lt2 HMB.out)).trans HMB.out)
  have hl2 : (leI g 2).length = 2 := leI_len _ _
  clear hr2 hb2 e1 kc
  go_wp2_with (at_builtin; refine app_mark (out := [83, 76, 65, 49]) (fz := (4, 5)) rfl _ _ rfl rfl rfl HL2.out HC2.out.2.2 (by rw [hl2]; omega) HB2.out.size (by simp [leI_len]) ?_; intro v1 w3 HO1 HG1)
  obtain ⟨ao1, cap1, rfl⟩ := HO1.out.form
  have HS3 : Hid (Spc w [(w.heap.size, #[.slice A0 cs.length c0, .int .i64 g, .slice A2 fs.length c2], 38)] ([83, 76, 65, 49] ++ leI g 2) w3 (.slice ao1 ([83, 76, 65, 49] ++ leI g 2).length cap1)) := Lib.hid ⟨HO1.out, HB2.out.trans (HG1.out.mono HB2.out.size), fun q hq => by
    rw [List.mem_singleton.1 hq]
    exact ⟨(HG1.out.block _ (blk_lt2 HM2.out)).trans HM2.out, show (38 : Nat) ≠ 5 by decide⟩⟩
  obtain ⟨bx, hbx⟩ : ∃ bx : List (Nat × Array Value × TypeId), bx = [(w.heap.size, #[.slice A0 cs.length c0, .int .i64 g, .slice A2 fs.length c2], 38)] := ⟨_, rfl⟩
  have hmem : ∀ q : Nat × Array Value × TypeId, q = (w.heap.size, #[.slice A0 cs.length c0, .int .i64 g, .slice A2 fs.length c2], 38) → q ∈ bx := fun q hq => by rw [hbx, hq]; exact List.mem_singleton.2 rfl
  have HME : Hid ((w.heap.size, #[.slice A0 cs.length c0, .int .i64 g, .slice A2 fs.length c2], 38) ∈ bx) := Lib.hid (hmem _ rfl)
  rw [← hbx] at HS3
  obtain ⟨o3, ho3⟩ : ∃ o3, o3 = [83, 76, 65, 49] ++ leI g 2 := ⟨_, rfl⟩
  have hl3 : o3.length ≤ 6 := by rw [ho3, List.length_append, leI_len]; simp
  rw [← ho3] at HS3 ⊢
  have HO3 := Lib.hid ho3
  have e0 : w3.cell? ⟨w.heap.size, 0, none⟩ = some (.slice A0 cs.length c0) := (HS3.out.cell _ _ _ HME.out 0).trans rfl
  have hz3 : w.heap.size < w3.heap.size := HS3.out.lt _ _ _ HME.out
  clear HO1 HG1 HB2 HM2 HL2 HC2 hbx hmem ho3 hl2 HMB HLB HBW hzl
  refine Lib.hid ?_
  go_wp2_with fail
  refine (little_calls (cs.length : Int) 2 w3 (by omega) ⟨by omega, by omega⟩).mono ?_
  rintro e w4 ⟨r, rfl, hr4, hb4⟩
  obtain ⟨ao4, cap4, rfl⟩ := hr4.form
  have HC4 := Lib.hid hr4.C
  have HS4 := Lib.hid (HS3.out.below hb4)
  have hz4 := HS4.out.bel.size
  clear hr4 hb4 e0 HS3
  go_wp2_with (at_builtin; refine app_rows rfl _ _ rfl rfl rfl HS4.out.row HC4.out.2.2 (by rw [leI_len]; omega) hz4 (by rw [leI_len]; omega) ?_; intro v1 w5 HO1 HG1)
  obtain ⟨ao5, cap5, rfl⟩ := HO1.out.form
  obtain ⟨P3, hP3⟩ : ∃ P, P = o3 ++ leI (cs.length : Int) 2 := ⟨_, rfl⟩
  have hp3 : P3.length ≤ 8 := by rw [hP3, List.length_append, leI_len]; omega
  have HS5 := Lib.hid (HS4.out.app HO1.out HG1.out)
  rw [← hP3] at HS5 ⊢
  have HP3 := Lib.hid hP3
  clear HO1 HG1 HC4 HS4 hP3
  refine Lib.hid ?_
  go_wp2_with fail
  have HL1 : Hid (∀ i, (((conP cs).take i).flatMap conT).length ≤ 500 * 333002) := Lib.hid (fun i => by
    have h1 := flatMap_len (f := conT) (K := 333002) ((conP cs).take i) (fun c hc => conT_len (HSM.out.con c (List.mem_of_mem_take hc)))
    have h2 : ((conP cs).take i).length ≤ 500 := by rw [List.length_take]; have := HSM.out.nc; omega
    exact Nat.le_trans h1 (Nat.mul_le_mul_right _ h2))
  have H0 : Hid (Spc w bx (P3 ++ ((conP cs).take 0).flatMap conT) w5 (.slice ao5 P3.length cap5)) := Lib.hid (by simpa using HS5.out)
  go_loopw [3, 4] (fun v3 v4 wr => ∃ i : Nat, i ≤ cs.length ∧ v4 = .int .i64 i ∧ Hid (Spc w bx (P3 ++ ((conP cs).take i).flatMap conT) wr v3)) (fun _ v4 _ => cs.length - (RowKit.intOf v4).toNat)
  case atStart => exact ⟨0, Nat.zero_le _, rfl, H0⟩
  case round =>
    clear H0 HS5
    obtain ⟨i, hi, rfl, HE⟩ := hrel
    obtain ⟨aor, capr, rfl⟩ := HE.out.row.form
    have e0 : wr.cell? ⟨w.heap.size, 0, none⟩ = some (.slice A0 cs.length c0) := (HE.out.cell _ _ _ HME.out 0).trans rfl
    have hzr : w.heap.size < wr.heap.size := HE.out.lt _ _ _ HME.out
    by_cases hlt : i < cs.length
    · obtain ⟨ad, A1, c1, hA, k0, k1, k2⟩ := at_L14 HR0.out (i : Int) (by omega) (by omega)
      subst hA
      rw [Int.toNat_natCast] at k0
      obtain ⟨ci, hci⟩ : ∃ ci, ci = rd_L14 cs (i : Int) := ⟨_, rfl⟩
      have hcm : cs[i]? = some ci := by rw [hci]; unfold rd_L14; rw [Int.toNat_natCast, List.getD_eq_getElem?_getD, List.getElem?_eq_getElem hlt]; rfl
      rw [← hci] at k0 k1 k2
      have hcP : (conP cs)[i]? = some (ci.map toD) := by simp [conP, hcm]
      have hcs := HSM.out.con _ (List.mem_of_getElem? hcP)
      have hcl3 : ci.length ≤ 3000 := by simpa using hcs.1
      have HDI := Lib.hid (HD.out ci (List.mem_of_getElem? hcm))
      have HGD := Lib.hid hcs.2
      have cc : wr.cell? (ad.add i) = some (.slice A1 ci.length c1) := HE.out.old k0
      obtain ⟨o1, ho1⟩ : ∃ o1, o1 = P3 ++ ((conP cs).take i).flatMap conT := ⟨_, rfl⟩
      have hl1 : o1.length ≤ 8 + 500 * 333002 := by rw [ho1, List.length_append]; have := HL1.out i; omega
      have HNX : Hid (o1 ++ leI (ci.length : Int) 2 ++ (ci.map toD).flatMap datT = P3 ++ ((conP cs).take (i + 1)).flatMap conT) := Lib.hid (by
        rw [take_step hcP, ho1]; unfold conT; simp)
      have HE1 : Hid (Spc w bx o1 wr (.slice aor o1.length capr)) := Lib.hid (by rw [ho1]; exact HE.out)
      rw [← ho1]
      have HC2 := Lib.hid k2
      have HK0 := Lib.hid k0
      clear HE k0 k2 hcm hcP hcs ho1 hci
      go_wp2_with fail
      refine (little_calls (ci.length : Int) 2 wr (by omega) ⟨by omega, by omega⟩).mono ?_
      rintro e w4 ⟨r, rfl, hr4, hb4⟩
      obtain ⟨ao4, cap4, rfl⟩ := hr4.form
      have HC4 := Lib.hid hr4.C
      have HS4 := Lib.hid (HE1.out.below hb4)
      have hz4 := HS4.out.bel.size
      clear hr4 hb4 cc HE1 e0
      go_wp2_with (at_builtin; refine app_rows rfl _ _ rfl rfl rfl HS4.out.row HC4.out.2.2 (by rw [leI_len]; omega) hz4 (by rw [leI_len]; omega) ?_; intro v1 w5 HO1 HG1)
      obtain ⟨ao5, cap5, rfl⟩ := HO1.out.form
      obtain ⟨o2, ho2⟩ : ∃ o2, o2 = o1 ++ leI (ci.length : Int) 2 := ⟨_, rfl⟩
      have hl2 : o2.length ≤ 10 + 500 * 333002 := by rw [ho2, List.length_append, leI_len]; omega
      have HS5 := Lib.hid (HS4.out.app HO1.out HG1.out)
      rw [← ho2] at HS5 HNX ⊢
      clear HO1 HG1 HC4 HS4 ho2
      refine Lib.hid ?_
      go_wp2_with fail
      have HL2 : Hid (∀ j, (((ci.map toD).take j).flatMap datT).length ≤ 333000) := Lib.hid (fun j => by
        have h1 := flatMap_len (f := datT) (K := 111) ((ci.map toD).take j) (fun d hd => (datT_len (HGD.out d (List.mem_of_mem_take hd))).1)
        have h2 : ((ci.map toD).take j).length ≤ 3000 := by rw [List.length_take, List.length_map]; omega
        exact Nat.le_trans h1 (Nat.mul_le_mul_right _ h2))
      have H1 : Hid (Spc w bx (o2 ++ ((ci.map toD).take 0).flatMap datT) w5 (.slice ao5 o2.length cap5)) := Lib.hid (by simpa using HS5.out)
      go_loopw [3, 5] (fun v3 v5 wr => ∃ j : Nat, j ≤ ci.length ∧ v5 = .int .i64 j ∧ Hid (Spc w bx (o2 ++ ((ci.map toD).take j).flatMap datT) wr v3)) (fun _ v5 _ => ci.length - (RowKit.intOf v5).toNat)
      case atStart => exact ⟨0, Nat.zero_le _, rfl, H1⟩
      case round =>
        clear H1 HS5
        obtain ⟨j, hj, rfl, HQ⟩ := hrel
        obtain ⟨aoq, capq, rfl⟩ := HQ.out.row.form
        have e0 : wr.cell? ⟨w.heap.size, 0, none⟩ = some (.slice (some ad) cs.length c0) := (HQ.out.cell _ _ _ HME.out 0).trans rfl
        have cc : wr.cell? (ad.add i) = some (.slice A1 ci.length c1) := HQ.out.old HK0.out
        have hzq : w.heap.size < wr.heap.size := HQ.out.lt _ _ _ HME.out
        by_cases hjl : j < ci.length
        · obtain ⟨ad2, A3, c3, hA, k0, k1, k2, k3, k4, k5⟩ := at_T57 HC2.out (j : Int) (by omega) (by omega)
          subst hA
          rw [Int.toNat_natCast] at k0 k1 k2 k3
          obtain ⟨x, hx⟩ : ∃ x, x = rd_T57 ci (j : Int) := ⟨_, rfl⟩
          have hxm : ci[j]? = some x := by rw [hx]; unfold rd_T57; rw [Int.toNat_natCast, List.getD_eq_getElem?_getD, List.getElem?_eq_getElem hjl]; rfl
          rw [← hx] at k0 k1 k2 k3 k4 k5
          have hxP : (ci.map toD)[j]? = some (toD x) := by simp [hxm]
          have hxg := datT_len (HGD.out _ (List.mem_of_getElem? hxP))
          have hxd := HDI.out x (List.mem_of_getElem? hxm)
          have q0 := HQ.out.old k0
          have q1 := HQ.out.old k1
          have q2 := HQ.out.old k2
          have q3 := HQ.out.old k3
          obtain ⟨o3', ho3⟩ : ∃ o3, o3 = o2 ++ ((ci.map toD).take j).flatMap datT := ⟨_, rfl⟩
          have hl3 : o3'.length ≤ 10 + 501 * 333002 := by rw [ho3, List.length_append]; have := HL2.out j; omega
          have HNJ : Hid (o3' ++ datT (toD x) = o2 ++ ((ci.map toD).take (j + 1)).flatMap datT) := Lib.hid (by rw [take_step hxP, ho3, List.append_assoc])
          have HE5 : Hid (Spc w bx o3' wr (.slice aoq o3'.length capq)) := Lib.hid (by rw [ho3]; exact HQ.out)
          rw [← ho3]
          have HK5 := Lib.hid (Kd.C_below k5 HQ.out.bel)
          have hdl : (datT (toD x)).length ≤ 111 := hxg.1
          have hxt : x.f2.length ≤ 1000000 := by have := hxg.2.1; show (toD x).t.length ≤ _; omega
          have hdp : 0 < (datT (toD x)).length := by unfold datT; rw [List.length_append, leI_len]; omega
          have HXP : Hid (x.f0 = 2 → 0 < x.f2.length) := Lib.hid hxg.2.2
          have HXD := Lib.hid hxd
          clear HQ k0 k1 k2 k3 k5 hxm hxP hxg hxd ho3 hx
          go_wp2_with fail
          refine (datumS_calls x.f2 x.f0 x.f1 x.f3 A3 c3 wr HK5.out k4 HXP.out hxt HXD.out.1 HXD.out.2.1 HXD.out.2.2).mono ?_
          rintro e w6 ⟨r, rfl, hr6, hb6⟩
          have hr6 : RowB wr.heap.size (datT (toD x)) w6 r := hr6
          obtain ⟨ao6, cap6, rfl⟩ := hr6.form
          have HC6 := Lib.hid hr6.C
          have HS6 := Lib.hid (HE5.out.below hb6)
          have hz6 := HS6.out.bel.size
          clear hr6 hb6 cc HE5 e0 q0 q1 q2 q3
          go_wp2_with (at_builtin; refine app_rows rfl _ _ rfl rfl rfl HS6.out.row HC6.out.2.2 hdp hz6 (by omega) ?_; intro v1 w7 HO1 HG1)
          obtain ⟨ao7, cap7, rfl⟩ := HO1.out.form
          have HN := Lib.hid (HS6.out.app HO1.out HG1.out)
          rw [HNJ.out] at HN ⊢
          obtain ⟨n7, hn7⟩ : ∃ n, n = (o2 ++ ((ci.map toD).take (j + 1)).flatMap datT).length := ⟨_, rfl⟩
          rw [← hn7] at HN ⊢
          clear HO1 HG1 HC6 HS6 hn7
          refine Lib.hid ?_
          go_wp2_with fail
          go_roundw
          case rel => exact ⟨j + 1, by omega, by go_num, HN⟩
          case measure => simp [RowKit.intOf]; omega
        · obtain rfl : j = ci.length := by omega
          have HN : Hid (Spc w bx (P3 ++ ((conP cs).take (i + 1)).flatMap conT) wr (.slice aoq (P3 ++ ((conP cs).take (i + 1)).flatMap conT).length capq)) := Lib.hid (by
            rw [← HNX.out]
            have := HQ.out
            rwa [List.take_of_length_le (by simp)] at this)
          have HNL : Hid ((o2 ++ ((ci.map toD).take ci.length).flatMap datT).length = (P3 ++ ((conP cs).take (i + 1)).flatMap conT).length) := Lib.hid (by rw [← HNX.out, List.take_of_length_le (by simp)])
          rw [HNL.out]
          obtain ⟨n7, hn7⟩ : ∃ n, n = (P3 ++ ((conP cs).take (i + 1)).flatMap conT).length := ⟨_, rfl⟩
          rw [← hn7] at HN ⊢
          clear HQ HNL hn7
          go_wp2_with fail
          go_roundw
          case rel => exact ⟨i + 1, by omega, by go_num, HN⟩
          case measure => simp [RowKit.intOf]; omega
    · obtain rfl : i = cs.length := by omega
      obtain ⟨P4, hP4⟩ : ∃ P, P = P3 ++ (conP cs).flatMap conT := ⟨_, rfl⟩
      have hp4 : P4.length ≤ 8 + 500 * 333002 := by
        have := HL1.out cs.length
        rw [List.take_of_length_le (by simp [conP])] at this
        rw [hP4, List.length_append]; omega
      have hE := HE.out
      rw [List.take_of_length_le (by simp [conP]), ← hP4] at hE
      rw [List.take_of_length_le (by simp [conP]), ← hP4]
      have HEX := Lib.hid hE
      have HP4 := Lib.hid hP4
      have e2 : wr.cell? ⟨w.heap.size, 2, none⟩ = some (.slice A2 fs.length c2) := (hE.cell _ _ _ HME.out 2).trans rfl
      clear HE hE hP4
      go_wp2_with fail
      refine (little_calls (fs.length : Int) 2 wr (by omega) ⟨by omega, by omega⟩).mono ?_
      rintro e w4 ⟨r, rfl, hr4, hb4⟩
      obtain ⟨ao4, cap4, rfl⟩ := hr4.form
      have HC4 := Lib.hid hr4.C
      have HS4 := Lib.hid (HEX.out.below hb4)
      have hz4 := HS4.out.bel.size
      clear hr4 hb4 e0 e2 HEX
      go_wp2_with (at_builtin; refine app_rows rfl _ _ rfl rfl rfl HS4.out.row HC4.out.2.2 (by rw [leI_len]; omega) hz4 (by rw [leI_len]; omega) ?_; intro v1 w5 HO1 HG1)
      obtain ⟨ao5, cap5, rfl⟩ := HO1.out.form
      obtain ⟨P5, hP5⟩ : ∃ P, P = P4 ++ leI (fs.length : Int) 2 := ⟨_, rfl⟩
      have hp5 : P5.length ≤ 10 + 500 * 333002 := by rw [hP5, List.length_append, leI_len]; omega
      have HS5 := Lib.hid (HS4.out.app HO1.out HG1.out)
      rw [← hP5] at HS5 ⊢
      have HP5 := Lib.hid hP5
      clear HO1 HG1 HC4 HS4 hP5
      refine Lib.hid ?_
      go_wp2_with fail
      have HL6 : Hid (∀ i, (((fs.map funP).take i).flatMap funT).length ≤ 200 * 20054) := Lib.hid (fun i => by
        have h1 := flatMap_len (f := funT) (K := 20054) ((fs.map funP).take i) (fun c hc => funT_len (HSM.out.fn c (List.mem_of_mem_take hc)))
        have h2 : ((fs.map funP).take i).length ≤ 200 := by rw [List.length_take]; have := HSM.out.nf; omega
        exact Nat.le_trans h1 (Nat.mul_le_mul_right _ h2))
      have H6 : Hid (Spc w bx (P5 ++ ((fs.map funP).take 0).flatMap funT) w5 (.slice ao5 P5.length cap5)) := Lib.hid (by simpa using HS5.out)
      go_loopw [3, 6] (fun v3 v6 wr => ∃ i : Nat, i ≤ fs.length ∧ v6 = .int .i64 i ∧ Hid (Spc w bx (P5 ++ ((fs.map funP).take i).flatMap funT) wr v3)) (fun _ v6 _ => fs.length - (RowKit.intOf v6).toNat)
      case atStart => exact ⟨0, Nat.zero_le _, rfl, H6⟩
      case round =>
        clear H6 HS5
        obtain ⟨i, hi2, rfl, HE⟩ := hrel
        obtain ⟨aor, capr, rfl⟩ := HE.out.row.form
        have e2 : wr.cell? ⟨w.heap.size, 2, none⟩ = some (.slice A2 fs.length c2) := (HE.out.cell _ _ _ HME.out 2).trans rfl
        have hzr : w.heap.size < wr.heap.size := HE.out.lt _ _ _ HME.out
        by_cases hlt2 : i < fs.length
        · obtain ⟨ad, A1, n1, A3, n3, hA, k0, k1, k2, k3, k4, k5, k6⟩ := at_T68 HR2.out (i : Int) (by omega) (by omega)
          subst hA
          rw [Int.toNat_natCast] at k0 k1 k2
          obtain ⟨f, hfe⟩ : ∃ f, f = rd_T68 fs (i : Int) := ⟨_, rfl⟩
          have hfm : fs[i]? = some f := by rw [hfe]; unfold rd_T68; rw [Int.toNat_natCast, List.getD_eq_getElem?_getD, List.getElem?_eq_getElem hlt2]; rfl
          rw [← hfe] at k0 k1 k2 k3 k4 k5 k6
          have hfP : (fs.map funP)[i]? = some (funP f) := by simp [hfm]
          have hfs := HSM.out.fn _ (List.mem_of_getElem? hfP)
          have hf1 : f.f1.length ≤ 50 := hfs.1
          have hf2 : f.f2.length ≤ 5000 := by simpa [funP] using hfs.2
          have hfd := HF.out f (List.mem_of_getElem? hfm)
          have q0 := HE.out.old k0
          have q1 := HE.out.old k1
          have q2 := HE.out.old k2
          obtain ⟨o1, ho1⟩ : ∃ o1, o1 = P5 ++ ((fs.map funP).take i).flatMap funT := ⟨_, rfl⟩
          have hl1 : o1.length ≤ 10 + 500 * 333002 + 200 * 20054 := by rw [ho1, List.length_append]; have := HL6.out i; omega
          have HNX : Hid (o1 ++ funT (funP f) = P5 ++ ((fs.map funP).take (i + 1)).flatMap funT) := Lib.hid (by rw [take_step hfP, ho1, List.append_assoc])
          have HE1 : Hid (Spc w bx o1 wr (.slice aor o1.length capr)) := Lib.hid (by rw [ho1]; exact HE.out)
          rw [← ho1]
          have HK4 := Lib.hid k4
          have HK6 := Lib.hid k6
          have HFD := Lib.hid hfd.2
          have hff := hfd.1
          have HE7 := Lib.hid (HE1.out.cons #[.int .i64 f.f0, .slice A1 f.f1.length n1, .slice A3 f.f2.length n3] 68 (by decide))
          obtain ⟨bx2, hbx2⟩ : ∃ b, b = (wr.heap.size, (#[.int .i64 f.f0, .slice A1 f.f1.length n1, .slice A3 f.f2.length n3] : Array Value), 68) :: bx := ⟨_, rfl⟩
          have HMF : Hid ((wr.heap.size, (#[.int .i64 f.f0, .slice A1 f.f1.length n1, .slice A3 f.f2.length n3] : Array Value), 68) ∈ bx2) := Lib.hid (by rw [hbx2]; exact List.mem_cons_self)
          have HTL : Hid (∀ o w' v, Spc w bx2 o w' v → Spc w bx o w' v) := Lib.hid (fun o w' v h => by rw [hbx2] at h; exact h.tail)
          rw [← hbx2] at HE7
          have hz7 : w.heap.size ≤ (wr.alloc (.cells #[.int .i64 f.f0, .slice A1 f.f1.length n1, .slice A3 f.f2.length n3] 68)).heap.size := HE7.out.bel.size
          have HSZ : Hid ((wr.alloc (.cells #[.int .i64 f.f0, .slice A1 f.f1.length n1, .slice A3 f.f2.length n3] 68)).heap.size = wr.heap.size + 1) := Lib.hid (by simp)
          have HZ7 := Lib.hid hz7
          obtain ⟨F, hF⟩ : ∃ F, F = wr.heap.size := ⟨_, rfl⟩
          clear HE k0 k1 k2 k4 k6 hfe hfm hfP hfs hfd ho1 hbx2 hz7
          go_wp2_with (at_builtin; refine app_two rfl _ _ rfl rfl (by rw [HSZ.out]; rfl) HE7.out.row HZ7.out (by omega) ?_; intro v1 w8 HO1 HG1)
          have HO8 : Hid (RowB w.heap.size (o1 ++ leI f.f0 1 ++ leI (f.f1.length : Int) 1) w8 v1) := Lib.hid (by
            have h := HO1.out
            have e : [f.f0 % 256, (f.f1.length : Int)] = leI f.f0 1 ++ leI (f.f1.length : Int) 1 := by simp [leI]; omega
            rw [e, ← List.append_assoc] at h
            exact h)
          have HG8 : Hid ((wr.alloc (.cells #[.int .i64 f.f0, .slice A1 f.f1.length n1, .slice A3 f.f2.length n3] 68)).grownBy w8 (Value.slice aor o1.length capr).ownBlock) := HG1
          obtain ⟨ao8, cap8, rfl⟩ := HO8.out.form
          have HS8 := Lib.hid (HE7.out.app HO8.out HG8.out)
          obtain ⟨o2, ho2⟩ : ∃ o2, o2 = o1 ++ leI f.f0 1 ++ leI (f.f1.length : Int) 1 := ⟨_, rfl⟩
          have hl2 : o2.length ≤ 12 + 500 * 333002 + 200 * 20054 := by rw [ho2, List.length_append, List.length_append, leI_len, leI_len]; omega
          rw [← ho2] at HS8 ⊢
          have HO2 := Lib.hid ho2
          rw [← hF] at HMF ⊢
          have H8 : Hid (Spc w bx2 (o2 ++ (f.f1.take 0).flatMap freeT) w8 (.slice ao8 o2.length cap8)) := Lib.hid (by simpa using HS8.out)
          have e1 : w8.cell? ⟨F, 1, none⟩ = some (.slice A1 f.f1.length n1) := (HS8.out.cell _ _ _ HMF.out 1).trans rfl
          have hzF : F < w8.heap.size := HS8.out.lt _ _ _ HMF.out
          clear HO1 HG1 HO8 HG8 HS8 ho2 HE7 HZ7 HSZ HE1 q0 q1 q2 e2 hzr hF
          refine Lib.hid ?_
          go_wp2_with fail
          go_loopw [3, 8] (fun v3 v8 wr => ∃ j : Nat, j ≤ f.f1.length ∧ v8 = .int .i64 j ∧ Hid (Spc w bx2 (o2 ++ (f.f1.take j).flatMap freeT) wr v3)) (fun _ v8 _ => f.f1.length - (RowKit.intOf v8).toNat)
          case atStart => exact ⟨0, Nat.zero_le _, rfl, H8⟩
          case round =>
            clear H8 e1 hzF
            obtain ⟨j, hj, rfl, HQ⟩ := hrel
            obtain ⟨aoq, capq, rfl⟩ := HQ.out.row.form
            have e1 : wr.cell? ⟨F, 1, none⟩ = some (.slice A1 f.f1.length n1) := (HQ.out.cell _ _ _ HMF.out 1).trans rfl
            have hzF : F < wr.heap.size := HQ.out.lt _ _ _ HMF.out
            by_cases hjl : j < f.f1.length
            · obtain ⟨ad2, hA, k0⟩ := Kd.at_bool HK4.out (j : Int) (by omega) (by omega)
              subst hA
              rw [Int.toNat_natCast] at k0
              obtain ⟨y, hy⟩ : ∃ y, y = rdOf false f.f1 (j : Int) := ⟨_, rfl⟩
              have hym : f.f1[j]? = some y := by rw [hy]; unfold rdOf; rw [Int.toNat_natCast, List.getD_eq_getElem?_getD, List.getElem?_eq_getElem hjl]; rfl
              rw [← hy] at k0
              have cc : wr.cell? (ad2.add j) = some (.bool y) := HQ.out.old k0
              obtain ⟨o3', ho3⟩ : ∃ o3, o3 = o2 ++ (f.f1.take j).flatMap freeT := ⟨_, rfl⟩
              have hl3 : o3'.length ≤ 62 + 500 * 333002 + 200 * 20054 := by
                have := flatMap_len (f := freeT) (K := 1) (f.f1.take j) (fun d _ => by unfold freeT; rw [leI_len]; omega)
                rw [List.length_take] at this
                rw [ho3, List.length_append]; omega
              have HNJ : Hid (o3' ++ freeT y = o2 ++ (f.f1.take (j + 1)).flatMap freeT) := Lib.hid (by rw [take_step hym, ho3, List.append_assoc])
              have HE9 : Hid (Spc w bx2 o3' wr (.slice aoq o3'.length capq)) := Lib.hid (by rw [ho3]; exact HQ.out)
              rw [← ho3]
              have hz9 := HE9.out.bel.size
              clear HQ k0 hy hym ho3
              cases y with
              | true =>
                go_wp2_with (at_builtin; refine app_one rfl _ _ rfl rfl rfl HE9.out.row hz9 (by omega) ?_; intro v1 w9 HO1 HG1)
                have HO9 : Hid (RowB w.heap.size (o3' ++ freeT true) w9 v1) := Lib.hid HO1.out
                obtain ⟨ao9, cap9, rfl⟩ := HO9.out.form
                have HN := Lib.hid (HE9.out.app HO9.out HG1.out)
                rw [HNJ.out] at HN ⊢
                obtain ⟨n7, hn7⟩ : ∃ n, n = (o2 ++ (f.f1.take (j + 1)).flatMap freeT).length := ⟨_, rfl⟩
                rw [← hn7] at HN ⊢
                clear HO1 HG1 HO9 hn7 cc e1
                refine Lib.hid ?_
                go_wp2_with fail
                go_roundw
                case rel => exact ⟨j + 1, by omega, by go_num, HN⟩
                case measure => simp [RowKit.intOf]; omega
              | false =>
                go_wp2_with (at_builtin; refine app_one rfl _ _ rfl rfl rfl HE9.out.row hz9 (by omega) ?_; intro v1 w9 HO1 HG1)
                have HO9 : Hid (RowB w.heap.size (o3' ++ freeT false) w9 v1) := Lib.hid HO1.out
                obtain ⟨ao9, cap9, rfl⟩ := HO9.out.form
                have HN := Lib.hid (HE9.out.app HO9.out HG1.out)
                rw [HNJ.out] at HN ⊢
                obtain ⟨n7, hn7⟩ : ∃ n, n = (o2 ++ (f.f1.take (j + 1)).flatMap freeT).length := ⟨_, rfl⟩
                rw [← hn7] at HN ⊢
                clear HO1 HG1 HO9 hn7 cc e1
                refine Lib.hid ?_
                go_wp2_with fail
                go_roundw
                case rel => exact ⟨j + 1, by omega, by go_num, HN⟩
                case measure => simp [RowKit.intOf]; omega
            · obtain rfl : j = f.f1.length := by omega
              have hQ := HQ.out
              rw [List.take_of_length_le (Nat.le_refl _)] at hQ
              rw [List.take_of_length_le (Nat.le_refl _)]
              obtain ⟨o4, ho4⟩ : ∃ o4, o4 = o2 ++ f.f1.flatMap freeT := ⟨_, rfl⟩
              have hl4 : o4.length ≤ 62 + 500 * 333002 + 200 * 20054 := by
                have := flatMap_len (f := freeT) (K := 1) f.f1 (fun d _ => by unfold freeT; rw [leI_len]; omega)
                rw [ho4, List.length_append]; omega
              rw [← ho4] at hQ ⊢
              have HO4 := Lib.hid ho4
              have HQ4 := Lib.hid hQ
              have e2 : wr.cell? ⟨F, 2, none⟩ = some (.slice A3 f.f2.length n3) := (hQ.cell _ _ _ HMF.out 2).trans rfl
              clear HQ hQ ho4
              go_wp2_with fail
              refine (little_calls (f.f2.length : Int) 2 wr (by omega) ⟨by omega, by omega⟩).mono ?_
              rintro e w4 ⟨r, rfl, hr4, hb4⟩
              obtain ⟨ao4, cap4, rfl⟩ := hr4.form
              have HC4 := Lib.hid hr4.C
              have HS4 := Lib.hid (HQ4.out.below hb4)
              have hz4 := HS4.out.bel.size
              clear hr4 hb4 e1 e2 HQ4
              go_wp2_with (at_builtin; refine app_rows rfl _ _ rfl rfl rfl HS4.out.row HC4.out.2.2 (by rw [leI_len]; omega) hz4 (by rw [leI_len]; omega) ?_; intro v1 w5 HO1 HG1)
              obtain ⟨ao5, cap5, rfl⟩ := HO1.out.form
              obtain ⟨o5, ho5⟩ : ∃ P, P = o4 ++ leI (f.f2.length : Int) 2 := ⟨_, rfl⟩
              have hl5 : o5.length ≤ 64 + 500 * 333002 + 200 * 20054 := by rw [ho5, List.length_append, leI_len]; omega
              have HS5 := Lib.hid (HS4.out.app HO1.out HG1.out)
              rw [← ho5] at HS5 ⊢
              have HNXT : Hid (o5 ++ (f.f2.map insP).flatMap insT = P5 ++ ((fs.map funP).take (i + 1)).flatMap funT) := Lib.hid (by
                rw [← HNX.out, ho5, HO4.out, HO2.out]; unfold funT funP; simp)
              clear HO1 HG1 HC4 HS4 ho5
              refine Lib.hid ?_
              go_wp2_with fail
              have H9 : Hid (Spc w bx2 (o5 ++ ((f.f2.map insP).take 0).flatMap insT) w5 (.slice ao5 o5.length cap5)) := Lib.hid (by simpa using HS5.out)
              go_loopw [3, 10] (fun v3 v10 wr => ∃ j : Nat, j ≤ f.f2.length ∧ v10 = .int .i64 j ∧ Hid (Spc w bx2 (o5 ++ ((f.f2.map insP).take j).flatMap insT) wr v3)) (fun _ v10 _ => f.f2.length - (RowKit.intOf v10).toNat)
              case atStart => exact ⟨0, Nat.zero_le _, rfl, H9⟩
              case round =>
                clear H9 HS5
                obtain ⟨j, hj9, rfl, HQ⟩ := hrel
                obtain ⟨aoq, capq, rfl⟩ := HQ.out.row.form
                have e2 : wr.cell? ⟨F, 2, none⟩ = some (.slice A3 f.f2.length n3) := (HQ.out.cell _ _ _ HMF.out 2).trans rfl
                have hzF : F < wr.heap.size := HQ.out.lt _ _ _ HMF.out
                by_cases hjl9 : j < f.f2.length
                · obtain ⟨ad3, hA, k0, k1, k2⟩ := at_T71 HK6.out (j : Int) (by omega) (by omega)
                  subst hA
                  rw [Int.toNat_natCast] at k0 k1 k2
                  obtain ⟨y, hy⟩ : ∃ y, y = rd_T71 f.f2 (j : Int) := ⟨_, rfl⟩
                  have hym : f.f2[j]? = some y := by rw [hy]; unfold rd_T71; rw [Int.toNat_natCast, List.getD_eq_getElem?_getD, List.getElem?_eq_getElem hjl9]; rfl
                  rw [← hy] at k0 k1 k2
                  have hyP : (f.f2.map insP)[j]? = some (insP y) := by simp [hym]
                  obtain ⟨y0, y1, y2⟩ := HFD.out y (List.mem_of_getElem? hym)
                  have q0 := HQ.out.old k0
                  obtain ⟨o6, ho6⟩ : ∃ o6, o6 = o5 ++ ((f.f2.map insP).take j).flatMap insT := ⟨_, rfl⟩
                  have hl6 : o6.length ≤ 20064 + 500 * 333002 + 200 * 20054 := by
                    have h1 := flatMap_len (f := insT) (K := 4) ((f.f2.map insP).take j) (fun d _ => by unfold insT; rw [List.length_append, List.length_append, leI_len, leI_len, leI_len]; omega)
                    rw [List.length_take, List.length_map] at h1
                    rw [ho6, List.length_append]; omega
                  have HNJ : Hid (o6 ++ leI y.f0 1 ++ leI y.f1 2 ++ leI y.f2 1 = o5 ++ ((f.f2.map insP).take (j + 1)).flatMap insT) := Lib.hid (by rw [take_step hyP, ho6]; unfold insT insP; simp)
                  have HE6 : Hid (Spc w bx2 o6 wr (.slice aoq o6.length capq)) := Lib.hid (by rw [ho6]; exact HQ.out)
                  rw [← ho6]
                  have hz6 := HE6.out.bel.size
                  have HK1 := Lib.hid k1
                  have HK2 := Lib.hid k2
                  clear HQ k0 k1 k2 hy hym hyP ho6
                  go_wp2_with (at_builtin; refine app_one rfl _ _ rfl rfl rfl HE6.out.row hz6 (by omega) ?_; intro v1 wa HO1 HG1)
                  have HOa : Hid (RowB w.heap.size (o6 ++ leI y.f0 1) wa v1) := Lib.hid HO1.out
                  obtain ⟨aoa, capa, rfl⟩ := HOa.out.form
                  have HEA := Lib.hid (HE6.out.app HOa.out HG1.out)
                  obtain ⟨o7, ho7⟩ : ∃ o7, o7 = o6 ++ leI y.f0 1 := ⟨_, rfl⟩
                  have hl7 : o7.length ≤ 20065 + 500 * 333002 + 200 * 20054 := by rw [ho7, List.length_append, leI_len]; omega
                  rw [← ho7] at HEA HNJ ⊢
                  have q1 := HEA.out.old HK1.out
                  have e2 : wa.cell? ⟨F, 2, none⟩ = some (.slice (some ad3) f.f2.length n3) := (HEA.out.cell _ _ _ HMF.out 2).trans rfl
                  have hza : F < wa.heap.size := HEA.out.lt _ _ _ HMF.out
                  clear HO1 HG1 HOa HE6 q0 ho7
                  refine Lib.hid ?_
                  go_wp2_with fail
                  refine (little_calls y.f1 2 wa (by omega) y1).mono ?_
                  rintro e wb ⟨r, rfl, hrb, hbb⟩
                  obtain ⟨aob, capb, rfl⟩ := hrb.form
                  have HCb := Lib.hid hrb.C
                  have HSb := Lib.hid (HEA.out.below hbb)
                  have hzb := HSb.out.bel.size
                  clear hrb hbb q1 e2 HEA
                  go_wp2_with (at_builtin; refine app_rows rfl _ _ rfl rfl rfl HSb.out.row HCb.out.2.2 (by rw [leI_len]; omega) hzb (by rw [leI_len]; omega) ?_; intro v1 wc HO1 HG1)
                  obtain ⟨aoc, capc, rfl⟩ := HO1.out.form
                  have HEC := Lib.hid (HSb.out.app HO1.out HG1.out)
                  obtain ⟨o8, ho8⟩ : ∃ o8, o8 = o7 ++ leI y.f1 2 := ⟨_, rfl⟩
                  have hl8 : o8.length ≤ 20067 + 500 * 333002 + 200 * 20054 := by rw [ho8, List.length_append, leI_len]; omega
                  rw [← ho8] at HEC HNJ ⊢
                  have q2 := HEC.out.old HK2.out
                  have e2 : wc.cell? ⟨F, 2, none⟩ = some (.slice (some ad3) f.f2.length n3) := (HEC.out.cell _ _ _ HMF.out 2).trans rfl
                  have hzc := HEC.out.bel.size
                  have hzc2 : F < wc.heap.size := HEC.out.lt _ _ _ HMF.out
                  clear HO1 HG1 HSb HCb ho8
                  refine Lib.hid ?_
                  go_wp2_with (at_builtin; refine app_one rfl _ _ rfl rfl rfl HEC.out.row hzc (by omega) ?_; intro v1 wd HO1 HG1)
                  have HOd : Hid (RowB w.heap.size (o8 ++ leI y.f2 1) wd v1) := Lib.hid HO1.out
                  obtain ⟨aod, capd, rfl⟩ := HOd.out.form
                  have HN := Lib.hid (HEC.out.app HOd.out HG1.out)
                  rw [HNJ.out] at HN ⊢
                  obtain ⟨n7, hn7⟩ : ∃ n, n = (o5 ++ ((f.f2.map insP).take (j + 1)).flatMap insT).length := ⟨_, rfl⟩
                  rw [← hn7] at HN ⊢
                  clear HO1 HG1 HOd HEC q2 e2 hn7
                  refine Lib.hid ?_
                  go_wp2_with fail
                  go_roundw
                  case rel => exact ⟨j + 1, by omega, by go_num, HN⟩
                  case measure => simp [RowKit.intOf]; omega
                · obtain rfl : j = f.f2.length := by omega
                  have HN : Hid (Spc w bx (P5 ++ ((fs.map funP).take (i + 1)).flatMap funT) wr (.slice aoq (P5 ++ ((fs.map funP).take (i + 1)).flatMap funT).length capq)) := Lib.hid (by
                    rw [← HNXT.out]
                    have := HTL.out _ _ _ HQ.out
                    rwa [List.take_of_length_le (by simp)] at this)
                  have HNL : Hid ((o5 ++ ((f.f2.map insP).take f.f2.length).flatMap insT).length = (P5 ++ ((fs.map funP).take (i + 1)).flatMap funT).length) := Lib.hid (by rw [← HNXT.out, List.take_of_length_le (by simp)])
                  rw [HNL.out]
                  obtain ⟨n7, hn7⟩ : ∃ n, n = (P5 ++ ((fs.map funP).take (i + 1)).flatMap funT).length := ⟨_, rfl⟩
                  rw [← hn7] at HN ⊢
                  clear HQ HNL hn7
                  go_wp2_with fail
                  go_roundw
                  case rel => exact ⟨i + 1, by omega, by go_num, HN⟩
                  case measure => simp [RowKit.intOf]; omega
        · obtain rfl : i = fs.length := by omega
          have hE := HE.out
          rw [List.take_of_length_le (by simp)] at hE
          rw [List.take_of_length_le (by simp)]
          obtain ⟨BD, hBD⟩ : ∃ B, B = P5 ++ (fs.map funP).flatMap funT := ⟨_, rfl⟩
          have hbl : BD.length ≤ 10 + 500 * 333002 + 200 * 20054 := by
            have := HL6.out fs.length
            rw [List.take_of_length_le (by simp)] at this
            rw [hBD, List.length_append]; omega
          rw [← hBD] at hE ⊢
          have HBD : Hid (BD = bodyT (conP cs) g (fs.map funP)) := Lib.hid (by
            rw [hBD, HP5.out, HP4.out, HP3.out, HO3.out]; unfold bodyT; simp [conP])
          have HOC := Lib.hid (RowB.C hE.row).2
          have hby : ∀ x ∈ BD, 0 ≤ x ∧ x < 256 := by
            rw [HBD.out]
            refine body_byte HSM.out fun c hc d hd b hb => ?_
            obtain ⟨c', hc', rfl⟩ := List.mem_map.1 hc
            obtain ⟨x, hx, rfl⟩ := List.mem_map.1 hd
            exact ((HM.out.con c' hc').byt x hx).1 b hb
          have HBY := Lib.hid hby
          have HEL := Lib.hid hE
          obtain ⟨K, hK⟩ : ∃ K, K = crcI BD := ⟨_, rfl⟩
          have hK0 : 0 ≤ K := by rw [hK]; exact (crcI_in BD).1
          have hK1 : K < 4294967296 := by rw [hK]; exact (crcI_in BD).2
          have HK := Lib.hid hK
          clear hK HE hE hBD hby
          go_wp2_with fail
          refine (specCrc_calls aor capr BD wr HOC.out.2 HOC.out.1 HBY.out).mono ?_
          rw [← HK.out]
          rintro e wa ⟨rfl, hba⟩
          have HEA := Lib.hid (HEL.out.below hba)
          clear hba HOC
          go_wp2_with fail
          refine (little_calls K 4 wa (by omega) ⟨by omega, by omega⟩).mono ?_
          rintro e wb ⟨r, rfl, hrb, hbb⟩
          obtain ⟨aob, capb, rfl⟩ := hrb.form
          have HCb := Lib.hid hrb.C
          have HSb := Lib.hid (HEA.out.below hbb)
          have hzb := HSb.out.bel.size
          clear hrb hbb HEA
          go_wp2_with (at_builtin; refine app_rows rfl _ _ rfl rfl rfl HSb.out.row HCb.out.2.2 (by rw [leI_len]; omega) hzb (by rw [leI_len]; omega) ?_; intro v1 wc HO1 HG1)
          obtain ⟨aoc, capc, rfl⟩ := HO1.out.form
          have HEC := Lib.hid (HSb.out.app HO1.out HG1.out)
          obtain ⟨n2, hn2⟩ : ∃ n2, n2 = (BD ++ leI K 4).length := ⟨_, rfl⟩
          have HFE : Hid (BD ++ leI K 4 = FIN) := Lib.hid (by rw [HFIN.out]; unfold imageT; rw [← HBD.out, ← HK.out])
          rw [← hn2] at HEC ⊢
          clear HO1 HG1 HSb HCb hn2
          refine Lib.hid ?_
          go_wp2_with fail
          go_ret
          rw [← HFE.out]
          exact ⟨_, rfl, HEC.out.row, HEC.out.bel⟩
end Go.Proofs.YtogmphjhdkgdjaaDoor
/- The specification's EncodeImage. -/
namespace Go.Proofs.YtogmphjhdkgdjaaDoor
open Go.RowKit Go.Proofs.YtogmphjhdkgdjaaDoorW.PrintWords Go.Proofs.YtogmphjhdkgdjaaDoor.QFnExactValidModule
open Go.Proofs.YtogmphjhdkgdjaaDoor.SpecMM (FitsM conP funP insP)
set_option linter.unusedVariables false
set_option linter.unusedSimpArgs false
set_option maxHeartbeats 4000000 in
set_option maxRecDepth 100000 in
theorem specEncode_calls (A0 A2 : Option Addr) (c0 c2 : Nat) (cs : List (List S57)) (g : Int) (fs : List S68) (w : World) (hr0 : Kd.C (Kd.slice 57 k57) w A0 cs.length cs) (hc0 : cs.length ≤ c0) (hr2 : Kd.C k68 w A2 fs.length fs) (hc2 : fs.length ≤ c2)
    (hM : FitsM cs fs) (hg : I64 g) (hd : ∀ c ∈ cs, ∀ x ∈ c, I64 x.f0 ∧ I64 x.f1 ∧ I64 x.f3) (hf : ∀ f ∈ fs, I64 f.f0 ∧ ∀ x ∈ f.f2, I64 x.f0 ∧ I64 x.f1 ∧ I64 x.f2) :
    Calls Tryd.prog 24 #[.agg #[.slice A0 cs.length c0, .int .i64 g, .slice A2 fs.length c2]] w fun e w' => ∃ v, e = .returned v ∧ OwnB w.heap.size w' v (encT (conP cs) g (fs.map funP)) ∧ Below w.heap.size w w' := by
  obtain ⟨k, hk⟩ := SpecMM.valid_ev (g := g) hM
  have HEV := Lib.hid (hk k (Nat.le_refl _))
  have HR0 := Lib.hid hr0
  have HR2 := Lib.hid hr2
  have HM := Lib.hid hM
  have HD := Lib.hid hd
  have HF := Lib.hid hf
  have hu := Tryd.underlying38
  clear hk hr0 hr2 hM hd hf
  obtain ⟨W, hW⟩ : ∃ W, W = w.alloc (.cells #[.slice A0 cs.length c0, .int .i64 g, .slice A2 fs.length c2] 38) := ⟨_, rfl⟩
  have hbW : Below w.heap.size w W := by rw [hW]; exact (Below.refl _ _).alloc (Nat.le_refl _) _
  have hMB : W.heap[w.heap.size]? = some (.cells #[.slice A0 cs.length c0, .int .i64 g, .slice A2 fs.length c2] 38 (0, 0)) := by rw [hW]; exact blk_new2 _ _
  have HBW := Lib.hid hbW
  have HMB := Lib.hid hMB
  clear hbW hMB
  go_enter Tryd.func24, Tryd.ntmps24
  go_wp2_with fail
  rw [← hW]
  clear hW
  refine (spec_ValidModule.calls k A0 c0 cs g A2 c2 fs (validM (conP cs) g (fs.map funP)) W (Kd.C_below HR0.out HBW.out) hc0 (Kd.C_below HR2.out HBW.out) hc2 HEV.out).mono ?_
  rintro e w1 ⟨rfl, hb1⟩
  have HB1 : Hid (Below w.heap.size w w1) := Lib.hid (HBW.out.trans (hb1.mono HBW.out.size))
  have HM1 := Lib.hid (blk_below HMB.out hb1)
  clear hb1
  cases hv : validM (conP cs) g (fs.map funP) with
  | false =>
    have HV : Hid (encT (conP cs) g (fs.map funP) = []) := Lib.hid (by unfold encT; rw [if_neg (by rw [hv]; decide)])
    clear hv
    go_wp2_with fail
    go_ret
    exact ⟨_, rfl, Or.inl ⟨rfl, HV.out⟩, HB1.out⟩
  | true =>
    have HV : Hid (encT (conP cs) g (fs.map funP) = imageT (conP cs) g (fs.map funP)) := Lib.hid (by unfold encT; rw [if_pos hv])
    have HVM := Lib.hid (valid_small hv)
    have hMl : w.heap.size < w1.heap.size := blk_lt2 HM1.out
    have e0 : w1.cell? ⟨w.heap.size, 0, none⟩ = some (.slice A0 cs.length c0) := by simp [World.cell?, HM1.out]
    have e1 : w1.cell? ⟨w.heap.size, 1, none⟩ = some (.int .i64 g) := by simp [World.cell?, HM1.out]
    have e2 : w1.cell? ⟨w.heap.size, 2, none⟩ = some (.slice A2 fs.length c2) := by simp [World.cell?, HM1.out]
    clear hv
    go_wp2_with fail
    refine (l4image_calls A0 A2 c0 c2 cs g fs w1 (Kd.C_below HR0.out HB1.out) (Kd.C_below HR2.out HB1.out) HM.out HVM.out hg HD.out HF.out).mono ?_
    rintro e w2 ⟨v, rfl, hr, hb2⟩
    obtain ⟨ao, cap, rfl⟩ := hr.form
    have HO : Hid (OwnB w.heap.size w2 (.slice ao (imageT (conP cs) g (fs.map funP)).length cap) (encT (conP cs) g (fs.map funP))) := Lib.hid (by
      rw [HV.out]
      have h := row_own hr
      rcases h with h | ⟨g, cap, cells, fz, e, hg, r⟩
      · exact Or.inl h
      · exact Or.inr ⟨g, cap, cells, fz, e, Nat.le_trans HB1.out.size hg, r⟩)
    have HB2 : Hid (Below w.heap.size w w2) := Lib.hid (HB1.out.trans (hb2.mono HB1.out.size))
    clear hr hb2 e0 e1 e2
    go_wp2_with fail
    go_ret
    exact ⟨_, rfl, HO.out, HB2.out⟩
end Go.Proofs.YtogmphjhdkgdjaaDoor
