/- The specification's DecodeImage, walked. -/
import Derived.Test.YtogmphjhdkgdjaaDoorDiP
namespace Go.Proofs.YtogmphjhdkgdjaaDoor
open Go.RowKit Go.Proofs.YtogmphjhdkgdjaaDoorW.PrintWords Go.Proofs.YtogmphjhdkgdjaaDoor.QFnExactValidModule
set_option linter.unusedVariables false
set_option linter.unusedSimpArgs false
/-- What is to come behind the constants; behind the functions. -/
def contF (g : Int) (cs : List (List S57)) (q : List S68 × List Int) : Option ModP := some ⟨cs, g, q.1⟩
def contC (g : Int) (cs : List (List S57)) (l : List Int) : Option ModP := (numP 2 l).bind fun t => (repP funPs t.1.toNat t.2).bind (contF g cs)
/-- What DecodeImage answers: a module of the call's own, and a code. -/
structure MOut (lo hi : Nat) (m : ModP) (w : World) (v0 v2 : Value) : Prop where
  con : ∃ mid, RowO ekDats lo mid w v0 m.cs ∧ RowO ekFun mid hi w v2 m.fs
def DecPost (b : List Int) (w : World) (e : Ending) (w' : World) : Prop :=
  ∃ (v0 v2 : Value) (lo1 hi1 lo2 hi2 : Nat), e = .returned (.tuple #[.agg #[v0, .int .i64 (decT b).1.g, v2], .int .i64 (decT b).2]) ∧ RowO ekDats lo1 hi1 w' v0 (decT b).1.cs ∧ RowO ekFun lo2 hi2 w' v2 (decT b).1.fs ∧ Below w.heap.size w w'
set_option maxHeartbeats 16000000 in
set_option maxRecDepth 100000 in
theorem specDecode_calls (A : Option Addr) (c : Nat) (b : List Int) (w : World) (hC : Kd.C (Kd.int .u8) w A b.length b) (hc : b.length ≤ c) (hlen : b.length ≤ 1048576) (hby : Bys b) :
    Calls Tryd.prog 27 #[.slice A b.length c] w (DecPost b w) := by
  have HC := Lib.hid hC
  have HBY := Lib.hid hby
  have hu := Tryd.underlying38
  have hu2 := Tryd.underlying68
  clear hC hby
  obtain ⟨RES, hRES⟩ : ∃ R, R = modPs (b.drop 4) := ⟨_, rfl⟩
  have HRES := Lib.hid hRES
  obtain ⟨W, hW⟩ : ∃ W, W = ((w.alloc (.cells #[.slice none 0 0, .int .i64 0, .slice none 0 0] 38)).alloc (.cells #[.slice A b.length c, .int .i64 4, .bool false] 98)).alloc (.cells #[.slice none 0 0, .int .i64 0, .slice none 0 0] 38) := ⟨_, rfl⟩
  have hbW : Below w.heap.size w W := by rw [hW]; exact (((Below.refl _ _).alloc (Nat.le_refl _) _).alloc (by simp) _).alloc (by simp; omega) _
  have hX : W.heap[w.heap.size]? = some (.cells #[.slice none 0 0, .int .i64 0, .slice none 0 0] 38 (0, 0)) := by rw [hW]; exact blk_old2 (blk_old2 (blk_new2 _ _) _) _
  have hR : W.heap[w.heap.size + 1]? = some (rdB A b.length c 4 false) := by
    have := blk_old2 (blk_new2 (w.alloc (.cells #[.slice none 0 0, .int .i64 0, .slice none 0 0] 38)) (.cells #[.slice A b.length c, .int .i64 4, .bool false] 98)) (.cells #[.slice none 0 0, .int .i64 0, .slice none 0 0] 38)
    rw [← hW, show (w.alloc (.cells #[.slice none 0 0, .int .i64 0, .slice none 0 0] 38)).heap.size = w.heap.size + 1 by simp] at this
    exact this
  have hM : W.heap[w.heap.size + 1 + 1]? = some (.cells #[.slice none 0 0, .int .i64 0, .slice none 0 0] 38 (0, 0)) := by
    have := blk_new2 ((w.alloc (.cells #[.slice none 0 0, .int .i64 0, .slice none 0 0] 38)).alloc (.cells #[.slice A b.length c, .int .i64 4, .bool false] 98)) (.cells #[.slice none 0 0, .int .i64 0, .slice none 0 0] 38)
    rw [← hW, show ((w.alloc (.cells #[.slice none 0 0, .int .i64 0, .slice none 0 0] 38)).alloc (.cells #[.slice A b.length c, .int .i64 4, .bool false] 98)).heap.size = w.heap.size + 1 + 1 by simp] at this
    exact this
  have HBW := Lib.hid hbW
  have HX := Lib.hid hX
  have HM := Lib.hid hM
  have HR := Lib.hid hR
  clear hbW hX hR hM hRES
  go_enter Tryd.func27, Tryd.ntmps27
  go_wp2_with fail
  rw [← hW]
  clear hW
  refine (num_calls w (w.heap.size + 1) A c b 4 false 2 W HR.out HC.out HBW.out (by omega) (by omega) (by omega) (by omega) hlen HBY.out).mono ?_
  rintro e w1 ⟨g, at1, bad1, rfl, hR1, hk1, hs1, hla1, hp1, hi1, _, _⟩
  obtain ⟨M, hMe⟩ : ∃ M, M = w.heap.size + 1 + 1 := ⟨_, rfl⟩
  obtain ⟨R, hRe⟩ : ∃ R, R = w.heap.size + 1 := ⟨_, rfl⟩
  rw [← hMe] at HM
  rw [← hRe] at hR1 hk1 HR
  have hne : w.heap.size < R ∧ R < M := by omega
  have HM1 := Lib.hid (hk1.box HM.out (by omega))
  have hMl : M < w1.heap.size := blk_lt2 HM1.out
  have hm1f : w1.frozen? ⟨M, 1, none⟩ = false := by simp [World.frozen?, HM1.out]
  have hm1c : w1.cell? ⟨M, 1, none⟩ = some (.int .i64 0) := by simp [World.cell?, HM1.out]
  have HS1 : Hid (DSt w R M A c b g at1 bad1 (.slice none 0 0) (.slice none 0 0) [] [] w.heap.size w.heap.size (w1.setCell ⟨M, 1, none⟩ (.int .i64 g))) := Lib.hid (by
    have hb1 := HBW.out.trans hk1.bel
    refine ⟨set_far hR1 (by omega) _, ?_, set_far (hk1.box HX.out (by omega)) (by omega) _, RowO.nil _ _ _ _ (Nat.le_refl _), RowO.nil _ _ _ _ (Nat.le_refl _), hb1.setCell (p := ⟨M, 1, none⟩) (by simp; omega) _, by have := hb1.size; simp [World.setCell]; exact this, by have := hb1.size; simp [World.setCell]; exact this, ⟨hla1.1, by have := hla1.2.1; omega, hla1.2.2⟩, hne⟩
    have := Go.Joins.block_setCell (i := 1) HM1.out (.int .i64 g)
    simpa using this)
  obtain ⟨hb1, hg1⟩ := hp1.step (R := RES) (k := fun g l => (numP 2 l).bind fun r => (repP conPs r.1.toNat r.2).bind fun s => contC g s.1 s.2) (fun h => by cases h) (fun _ => HRES.out)
  have HB1 := Lib.hid hb1
  have HG1 := Lib.hid hg1
  have HI1 := Lib.hid hi1
  rw [← hMe]
  clear hR1 hk1 hs1 hla1 hp1 hi1 hb1 hg1 HM HX HR
  rw [← hRe]
  clear hMe hRe
  go_wp2_with fail
  have hz1 : w1.heap.size = (w1.setCell ⟨M, 1, none⟩ (.int .i64 g)).heap.size := by simp [World.setCell]
  obtain ⟨W1, hW1⟩ : ∃ W1, W1 = w1.setCell ⟨M, 1, none⟩ (.int .i64 g) := ⟨_, rfl⟩
  rw [← hW1] at HS1 ⊢
  clear hW1 hz1 hm1f hm1c hMl HM1
  refine (num_calls w R A c b at1 bad1 2 W1 HS1.out.rd HC.out HS1.out.bel (by omega) (by omega) (by omega) HS1.out.la.1 hlen HBY.out).mono ?_
  rintro e w2 ⟨n, at2, bad2, rfl, hR2, hk2, hs2, hla2, hp2, hi2, _, hn2⟩
  obtain ⟨hb2, hg2⟩ := hp2.step HB1.out (k := fun n l => (repP conPs n.toNat l).bind fun s => contC g s.1 s.2) HG1.out
  have HS2 := Lib.hid (HS1.out.rk hk2 hR2 hla2)
  obtain ⟨n, rfl⟩ : ∃ m : Nat, n = (m : Int) := ⟨n.toNat, by have := (hn2 rfl).1; omega⟩
  have hn65 : n ≤ 65535 := by have := (hn2 rfl).2; omega
  rw [Int.toNat_natCast] at hg2
  have HP2 : Hid ((bad2 = true → RES = none) ∧ (bad2 = false → RES = (repP conPs n (b.drop at2)).bind fun s => contC g ([] ++ s.1) s.2)) := Lib.hid ⟨hb2, by simpa using hg2⟩
  clear hR2 hk2 hs2 hla2 hp2 hi2 hn2 hb2 hg2 HB1 HG1 HS1
  go_wp2_with fail
  go_loopw [7] (fun v7 wr => ∃ i : Nat, i ≤ n ∧ v7 = .int .i64 i ∧ Hid (∃ at_ bad cv cs, DSt w R M A c b g at_ bad cv (.slice none 0 0) cs [] wr.heap.size w.heap.size wr ∧ cs.length = i ∧ (bad = true → RES = none) ∧ (bad = false → RES = (repP conPs (n - i) (b.drop at_)).bind fun s => contC g (cs ++ s.1) s.2))) (fun v7 _ => n - (RowKit.intOf v7).toNat)
  case atStart => exact ⟨0, Nat.zero_le _, rfl, Lib.hid ⟨at2, bad2, _, [], ⟨HS2.out.rd, HS2.out.mb, HS2.out.xb, HS2.out.con.mono (Nat.le_refl _) HS2.out.lC, HS2.out.fun_, HS2.out.bel, Nat.le_refl _, HS2.out.lF, HS2.out.la, HS2.out.ne⟩, rfl, HP2.out.1, HP2.out.2⟩⟩
  case round =>
    clear HS2 HP2
    obtain ⟨i, hi, rfl, HQ⟩ := hrel
    obtain ⟨at3, bad3, cv, cs, hS, hcl, hb3, hg3⟩ := HQ.out
    clear HQ
    obtain ⟨r2, rl, m0, m1, m2, mf0, mf1, mf2, ml⟩ := hS.cells
    obtain ⟨Ac, nc, rfl, _⟩ := hS.con.form
    have HS := Lib.hid hS
    have HB3 := Lib.hid hb3
    have HG3 := Lib.hid hg3
    have HCL := Lib.hid hcl
    have hcl2 : cs.length ≤ 65535 := by omega
    clear hS hb3 hg3 hcl
    by_cases hlt : i < n ∧ bad3 = false
    · obtain ⟨hlt, rfl⟩ := hlt
      obtain ⟨d, hd⟩ : ∃ d, n - i = d + 1 := ⟨n - i - 1, by omega⟩
      obtain ⟨S0, hS0⟩ : ∃ S0, S0 = wr.heap.size := ⟨_, rfl⟩
      rw [← hS0] at HS
      have hSl : S0 ≤ wr.heap.size := by omega
      have hMS : M < S0 := by omega
      obtain ⟨F, hF⟩ : ∃ F : List S57 × List Int → Option ModP, F = fun q => (repP conPs d q.2).bind fun r => contC g ((cs ++ [q.1]) ++ r.1) r.2 := ⟨_, rfl⟩
      have hgx : RES = (numP 2 (b.drop at3)).bind fun q => (fun k l => (repP datP k.toNat l).bind F) q.1 q.2 := by
        rw [HG3.out rfl, hd, rep_step (K := contC g), ← hF]
        unfold conPs
        rw [Option.bind_assoc]
      have HGX := Lib.hid hgx
      have HFE := Lib.hid hF
      have HD : Hid (n - (i + 1) = d) := Lib.hid (by omega)
      clear hgx hF hd hS0 HG3
      go_wp2_with fail
      refine (num_calls w R A c b at3 false 2 wr HS.out.rd HC.out HS.out.bel (by omega) (by omega) (by omega) HS.out.la.1 hlen HBY.out).mono ?_
      rintro e w4 ⟨k, at4, bad4, rfl, hR4, hk4, hs4, hla4, hp4, hi4, _, hn4⟩
      obtain ⟨hb4, hg4⟩ := hp4.step (k := fun k l => (repP datP k.toNat l).bind F) HB3.out (fun _ => HGX.out)
      have HS4 := Lib.hid (HS.out.rk hk4 hR4 hla4)
      obtain ⟨k, rfl⟩ : ∃ m : Nat, k = (m : Int) := ⟨k.toNat, by have := (hn4 rfl).1; omega⟩
      have hk65 : k ≤ 65535 := by have := (hn4 rfl).2; omega
      rw [Int.toNat_natCast] at hg4
      have hS4l : S0 ≤ w4.heap.size := by omega
      have HP4 : Hid ((bad4 = true → RES = none) ∧ (bad4 = false → RES = (repP datP k (b.drop at4)).bind fun q => F ([] ++ q.1, q.2))) := Lib.hid ⟨hb4, by simpa using hg4⟩
      clear hR4 hk4 hs4 hla4 hp4 hi4 hn4 hb4 hg4 HB3 HGX HS r2 rl m0 m1 m2 mf0 mf1 mf2 ml hSl
      go_wp2_with fail
      go_loopw [8, 10] (fun v8 v10 wr => ∃ j : Nat, j ≤ k ∧ v10 = .int .i64 j ∧ Hid (∃ at_ bad data, DSt w R M A c b g at_ bad (.slice Ac cs.length nc) (.slice none 0 0) cs [] S0 w.heap.size wr ∧ S0 ≤ wr.heap.size ∧ RowO ekDat S0 wr.heap.size wr v8 data ∧ data.length = j ∧ (bad = true → RES = none) ∧ (bad = false → RES = (repP datP (k - j) (b.drop at_)).bind fun q => F (data ++ q.1, q.2)))) (fun _ v10 _ => k - (RowKit.intOf v10).toNat)
      case atStart => exact ⟨0, Nat.zero_le _, rfl, Lib.hid ⟨at4, bad4, [], HS4.out, hS4l, RowO.nil _ _ _ _ hS4l, rfl, HP4.out.1, HP4.out.2⟩⟩
      case round =>
        clear HS4 HP4 hS4l
        obtain ⟨j, hj, rfl, HQ⟩ := hrel
        obtain ⟨at5, bad5, data, hS, hSl, hrow, hdl, hb5, hg5⟩ := HQ.out
        clear HQ
        obtain ⟨r2, rl, m0, m1, m2, mf0, mf1, mf2, ml⟩ := hS.cells
        obtain ⟨Ad, nd, rfl, _⟩ := hrow.form
        have HS := Lib.hid hS
        have HB5 := Lib.hid hb5
        have HG5 := Lib.hid hg5
        have HROW := Lib.hid hrow
        have HDL := Lib.hid hdl
        have hdl2 : data.length ≤ 65535 := by omega
        clear hS hb5 hg5 hrow hdl
        by_cases hlt2 : j < k ∧ bad5 = false
        · obtain ⟨hlt2, rfl⟩ := hlt2
          obtain ⟨ad0, hA⟩ : ∃ ad0, A = some ad0 := by
            have h1 := HS.out.la
            have h2 := h1.2.2 rfl
            obtain ⟨ad, e, _⟩ := at_byte HC.out 0 (by omega)
            exact ⟨ad, e⟩
          have HA := Lib.hid hA
          clear hA
          obtain ⟨d2, hd2⟩ : ∃ d2, k - j = d2 + 1 := ⟨k - j - 1, by omega⟩
          have hgx : RES = (datP (b.drop at5)).bind fun q => (fun x l => (repP datP d2 l).bind fun r => F ((data ++ [x]) ++ r.1, r.2)) q.1 q.2 := by
            rw [HG5.out rfl, hd2, rep_step (K := fun a l => F (a, l))]
          have HGX := Lib.hid hgx
          have HD2 : Hid (k - (j + 1) = d2) := Lib.hid (by omega)
          clear hgx hd2 HG5
          go_wp2_with fail
          refine (datR_calls ad0 w R A c b at5 false wr HA.out HS.out.rd HC.out HS.out.bel (by omega) HS.out.la.1 hlen hc HBY.out).mono ?_
          rintro e w6 ⟨x, tv, at6, bad6, rfl, ht6, hR6, hk6, hla6, hp6⟩
          obtain ⟨hb6, hg6⟩ := hp6.step (k := fun x l => (repP datP d2 l).bind fun r => F ((data ++ [x]) ++ r.1, r.2)) HB5.out (fun _ => HGX.out)
          have HS6 := Lib.hid (HS.out.rk hk6 hR6 hla6)
          have HROW6 := Lib.hid (HROW.out.fx (Fx.rk hk6 HS.out.rd (by simp [ekDat])))
          obtain ⟨At, nt, rfl, _⟩ := ht6.form
          have HE6 : Hid (ekDat.E w6 wr.heap.size w6.heap.size x [.int .i64 x.f0, .int .i64 x.f1, .slice At x.f2.length nt, .int .i64 x.f3]) := Lib.hid ⟨_, rfl, ht6⟩
          have hz6 : wr.heap.size ≤ w6.heap.size := hk6.size
          have HP6 : Hid ((bad6 = true → RES = none) ∧ (bad6 = false → RES = (repP datP (k - (j + 1)) (b.drop at6)).bind fun q => F ((data ++ [x]) ++ q.1, q.2))) := Lib.hid ⟨hb6, by rw [HD2.out]; exact hg6⟩
          clear hR6 hk6 hla6 hp6 ht6 hb6 hg6 HB5 HGX HS HROW r2 rl m0 m1 m2 mf0 mf1 mf2 ml
          go_wp2_with (at_builtin; refine app_elem ekDat 25 Tryd.underlying25 info_dat rfl (by omega) (by simp [ekDat]) rfl _ _ rfl rfl rfl HROW6.out HE6.out hz6 (by omega) (by omega) ?_; intro v1 w7 HO1 HG1)
          obtain ⟨Ae, ne, rfl, _⟩ := HO1.out.form
          have HG7 : Hid (w6.grownBy w7 (Value.slice Ad data.length nd).ownBlock) := Lib.hid HG1.out
          have HN : Hid (∃ at_ bad dt, DSt w R M A c b g at_ bad (.slice Ac cs.length nc) (.slice none 0 0) cs [] S0 w.heap.size w7 ∧ S0 ≤ w7.heap.size ∧ RowO ekDat S0 w7.heap.size w7 (.slice Ae (data ++ [x]).length ne) dt ∧ dt.length = j + 1 ∧ (bad = true → RES = none) ∧ (bad = false → RES = (repP datP (k - (j + 1)) (b.drop at_)).bind fun q => F (dt ++ q.1, q.2))) := Lib.hid (by
            have hs : ∀ q, q < S0 → w7.heap[q]? = w6.heap[q]? := fun q hq => HG7.out.block q (by omega) (fun e => by have := (HROW6.out.lt q e.symm).1; omega)
            refine ⟨at6, bad6, data ++ [x], HS6.out.high hs HG7.out.size ((Below.refl _ _).grown HG7.out HS6.out.bel.size (fun q hq => by have := (HROW6.out.lt q hq).1; have := HS6.out.bel.size; have := HS6.out.ne; omega)) (Nat.le_refl _) (by have := HS6.out.ne; omega) hMS, by have := HG7.out.size; omega, HO1.out, by simp [HDL.out], HP6.out.1, HP6.out.2⟩)
          obtain ⟨n7, hn7⟩ : ∃ q, q = (data ++ [x]).length := ⟨_, rfl⟩
          rw [← hn7] at HN ⊢
          clear HO1 HG1 HG7 hn7 HS6 HROW6 HE6 HP6
          refine Lib.hid ?_
          go_wp2_with fail
          go_roundw
          case rel => exact ⟨j + 1, by omega, by go_num, HN⟩
          case measure => simp [RowKit.intOf]; omega
        · have hex : (j < k ∧ bad5 = true) ∨ ¬ j < k := by
            cases bad5 with
            | true => by_cases h : j < k; exact Or.inl ⟨h, rfl⟩; exact Or.inr h
            | false => exact Or.inr (fun h => hlt2 ⟨h, rfl⟩)
          have HRF : Hid (bad5 = false → RES = F (data, b.drop at5)) := Lib.hid (fun h => by
            have hjk : k - j = 0 := by
              have : ¬ j < k := fun h2 => hlt2 ⟨h2, h⟩
              omega
            rw [HG5.out h, hjk]
            simp [repP])
          have HE5 : Hid (ekDats.E wr S0 wr.heap.size data [.slice Ad data.length nd]) := Lib.hid ⟨_, rfl, HROW.out⟩
          have hw0 := HS.out.bel.size
          clear hlt2 HG5 HROW m0 m1 m2 mf0 mf1 mf2
          have m0 : wr.cell? ⟨M, 0, none⟩ = some (.slice Ac cs.length nc) := HS.out.cells.2.2.1
          rcases hex with ⟨hjk, hbt⟩ | hjk
          · subst hbt
            have hjd : decide ((j : Int) < (k : Int)) = true := decide_eq_true (by omega)
            go_wp2_with (at_builtin; refine app_elem ekDats 35 Tryd.underlying35 info_dats rfl (by omega) (by simp [ekDats]) rfl _ _ rfl rfl rfl HS.out.con HE5.out hSl hw0 (by omega) ?_; intro v1 w7 HO1 HG1)
            obtain ⟨Ae, ne, rfl, _⟩ := HO1.out.form
            have HS7 := Lib.hid (HS.out.setC HO1.out HG1.out)
            have hM7 : w7.heap[M]? = some (.cells #[.slice Ac cs.length nc, .int .i64 g, .slice none 0 0] 38 (0, 0)) := Fx.grown (ts := [38]) HG1.out HS.out.con.typed (by simp [ekDats]) _ _ _ (by simp) HS.out.mb
            have m7 : w7.cell? ⟨M, 0, none⟩ = some (.slice Ac cs.length nc) := by simp [World.cell?, hM7]
            have f7 : w7.frozen? ⟨M, 0, none⟩ = false := by simp [World.frozen?, hM7]
            have l7 : M < w7.heap.size := blk_lt2 hM7
            have HN : Hid (∃ at_ bad cv cs', DSt w R M A c b g at_ bad cv (.slice none 0 0) cs' [] (w7.setCell ⟨M, 0, none⟩ (.slice Ae (cs ++ [data]).length ne)).heap.size w.heap.size (w7.setCell ⟨M, 0, none⟩ (.slice Ae (cs ++ [data]).length ne)) ∧ cs'.length = i + 1 ∧ (bad = true → RES = none) ∧ (bad = false → RES = (repP conPs (n - (i + 1)) (b.drop at_)).bind fun s => contC g (cs' ++ s.1) s.2)) := Lib.hid (by
              rw [show (w7.setCell ⟨M, 0, none⟩ (.slice Ae (cs ++ [data]).length ne)).heap.size = w7.heap.size by simp [World.setCell]]
              refine ⟨at5, _, _, cs ++ [data], HS7.out, by simp [HCL.out], fun h => HB5.out (by first | exact h | trivial), fun h => ?_⟩
              first | (cases h; done) | rw [HRF.out h, HFE.out, HD.out])
            obtain ⟨n7, hn7⟩ : ∃ q, q = (cs ++ [data]).length := ⟨_, rfl⟩
            rw [← hn7] at HN ⊢
            clear HO1 HG1 HS7 hM7 hn7 HE5 HRF HB5
            refine Lib.hid ?_
            go_wp2_with fail
            go_roundw
            case rel => exact ⟨i + 1, by omega, by go_num, HN⟩
            case measure => simp [RowKit.intOf]; omega
          · have hjd : decide ((j : Int) < (k : Int)) = false := decide_eq_false (by omega)
            go_wp2_with (at_builtin; refine app_elem ekDats 35 Tryd.underlying35 info_dats rfl (by omega) (by simp [ekDats]) rfl _ _ rfl rfl rfl HS.out.con HE5.out hSl hw0 (by omega) ?_; intro v1 w7 HO1 HG1)
            obtain ⟨Ae, ne, rfl, _⟩ := HO1.out.form
            have HS7 := Lib.hid (HS.out.setC HO1.out HG1.out)
            have hM7 : w7.heap[M]? = some (.cells #[.slice Ac cs.length nc, .int .i64 g, .slice none 0 0] 38 (0, 0)) := Fx.grown (ts := [38]) HG1.out HS.out.con.typed (by simp [ekDats]) _ _ _ (by simp) HS.out.mb
            have m7 : w7.cell? ⟨M, 0, none⟩ = some (.slice Ac cs.length nc) := by simp [World.cell?, hM7]
            have f7 : w7.frozen? ⟨M, 0, none⟩ = false := by simp [World.frozen?, hM7]
            have l7 : M < w7.heap.size := blk_lt2 hM7
            have HN : Hid (∃ at_ bad cv cs', DSt w R M A c b g at_ bad cv (.slice none 0 0) cs' [] (w7.setCell ⟨M, 0, none⟩ (.slice Ae (cs ++ [data]).length ne)).heap.size w.heap.size (w7.setCell ⟨M, 0, none⟩ (.slice Ae (cs ++ [data]).length ne)) ∧ cs'.length = i + 1 ∧ (bad = true → RES = none) ∧ (bad = false → RES = (repP conPs (n - (i + 1)) (b.drop at_)).bind fun s => contC g (cs' ++ s.1) s.2)) := Lib.hid (by
              rw [show (w7.setCell ⟨M, 0, none⟩ (.slice Ae (cs ++ [data]).length ne)).heap.size = w7.heap.size by simp [World.setCell]]
              refine ⟨at5, _, _, cs ++ [data], HS7.out, by simp [HCL.out], fun h => HB5.out (by first | exact h | trivial), fun h => ?_⟩
              first | (cases h; done) | rw [HRF.out h, HFE.out, HD.out])
            obtain ⟨n7, hn7⟩ : ∃ q, q = (cs ++ [data]).length := ⟨_, rfl⟩
            rw [← hn7] at HN ⊢
            clear HO1 HG1 HS7 hM7 hn7 HE5 HRF HB5
            refine Lib.hid ?_
            go_wp2_with fail
            go_roundw
            case rel => exact ⟨i + 1, by omega, by go_num, HN⟩
            case measure => simp [RowKit.intOf]; omega
    · have hex : (i < n ∧ bad3 = true) ∨ ¬ i < n := by
        cases bad3 with
        | true => by_cases h : i < n; exact Or.inl ⟨h, rfl⟩; exact Or.inr h
        | false => exact Or.inr (fun h => hlt ⟨h, rfl⟩)
      have HRF : Hid (bad3 = false → RES = contC g cs (b.drop at3)) := Lib.hid (fun h => by
        have hjk : n - i = 0 := by
          have : ¬ i < n := fun h2 => hlt ⟨h2, h⟩
          omega
        rw [HG3.out h, hjk]
        simp [repP])
      clear hlt HG3
      rcases hex with ⟨hjk, hbt⟩ | hjk
      case' inl =>
        subst hbt
        have hjd : decide ((i : Int) < (n : Int)) = true := decide_eq_true (by omega)
      case' inr =>
        have hjd : decide ((i : Int) < (n : Int)) = false := decide_eq_false (by omega)
      all_goals
        go_wp2_with fail
        obtain ⟨S1, hS1⟩ : ∃ S1, S1 = wr.heap.size := ⟨_, rfl⟩
        have HSC := Lib.hid HS.out.con
        rw [← hS1] at HS
        have hS1l : S1 ≤ wr.heap.size := by omega
        clear hS1
        refine (num_calls w R A c b at3 _ 2 wr HS.out.rd HC.out HS.out.bel (by omega) (by omega) (by omega) HS.out.la.1 hlen HBY.out).mono ?_
        rintro e w4 ⟨n2, at4, bad4, rfl, hR4, hk4, hs4, hla4, hp4, hi4, _, hn4⟩
        obtain ⟨hb4, hg4⟩ := hp4.step (R := RES) (k := fun n l => (repP funPs n.toNat l).bind (contF g cs)) (fun h => HB3.out (by first | exact h | trivial)) (fun h => by first | (cases h; done) | exact HRF.out h)
        have HS4 := Lib.hid (HS.out.rk hk4 hR4 hla4)
        obtain ⟨n2, rfl⟩ : ∃ m : Nat, n2 = (m : Int) := ⟨n2.toNat, by have := (hn4 rfl).1; omega⟩
        have hn265 : n2 ≤ 65535 := by have := (hn4 rfl).2; omega
        rw [Int.toNat_natCast] at hg4
        have HP4 : Hid ((bad4 = true → RES = none) ∧ (bad4 = false → RES = (repP funPs n2 (b.drop at4)).bind fun q => contF g cs ([] ++ q.1, q.2))) := Lib.hid ⟨hb4, by simpa using hg4⟩
        clear hR4 hk4 hs4 hla4 hp4 hi4 hn4 hb4 hg4 HB3 HS r2 rl m0 m1 m2 mf0 mf1 mf2 ml hS1l HRF HSC
        go_wp2_with fail
        go_loopw [11] (fun v11 wr => ∃ i : Nat, i ≤ n2 ∧ v11 = .int .i64 i ∧ Hid (∃ at_ bad fv fs, DSt w R M A c b g at_ bad (.slice Ac cs.length nc) fv cs fs S1 wr.heap.size wr ∧ fs.length = i ∧ (bad = true → RES = none) ∧ (bad = false → RES = (repP funPs (n2 - i) (b.drop at_)).bind fun s => contF g cs (fs ++ s.1, s.2)))) (fun v11 _ => n2 - (RowKit.intOf v11).toNat)
        case atStart => exact ⟨0, Nat.zero_le _, rfl, Lib.hid ⟨at4, bad4, _, [], ⟨HS4.out.rd, HS4.out.mb, HS4.out.xb, HS4.out.con, HS4.out.fun_.mono (Nat.le_refl _) HS4.out.lF, HS4.out.bel, HS4.out.lC, Nat.le_refl _, HS4.out.la, HS4.out.ne⟩, rfl, HP4.out.1, HP4.out.2⟩⟩
        case round =>
          clear HS4 HP4
          obtain ⟨i2, hi2, rfl, HQ⟩ := hrel
          obtain ⟨at5, bad5, fv, fs, hS, hfl, hb5, hg5⟩ := HQ.out
          clear HQ
          obtain ⟨r2, rl, m0, m1, m2, mf0, mf1, mf2, ml⟩ := hS.cells
          obtain ⟨Af, nf, rfl, _⟩ := hS.fun_.form
          have HS := Lib.hid hS
          have HB5 := Lib.hid hb5
          have HG5 := Lib.hid hg5
          have HFL := Lib.hid hfl
          have hfl2 : fs.length ≤ 65535 := by omega
          clear hS hb5 hg5 hfl
          by_cases hlt2 : i2 < n2 ∧ bad5 = false
          · obtain ⟨hlt2, rfl⟩ := hlt2
            obtain ⟨d, hd⟩ : ∃ d, n2 - i2 = d + 1 := ⟨n2 - i2 - 1, by omega⟩
            obtain ⟨F, hF⟩ : ∃ F, F = wr.heap.size := ⟨_, rfl⟩
            obtain ⟨G, hG⟩ : ∃ G : S68 × List Int → Option ModP, G = fun q => (repP funPs d q.2).bind fun r => contF g cs ((fs ++ [q.1]) ++ r.1, r.2) := ⟨_, rfl⟩
            have hgx : RES = (numP 1 (b.drop at5)).bind fun q => (fun p l => (numP 1 l).bind fun r => (repP boxPs r.1.toNat r.2).bind fun s => (numP 2 s.2).bind fun t => (repP insPs t.1.toNat t.2).bind fun u => G (⟨p, s.1, u.1⟩, u.2)) q.1 q.2 := by
              rw [HG5.out rfl, hd, rep_step (K := fun a l => contF g cs (a, l)), ← hG]
              unfold funPs
              simp only [Option.bind_assoc, Option.bind_some]
            have HGX := Lib.hid hgx
            have HGE := Lib.hid hG
            have HD : Hid (n2 - (i2 + 1) = d) := Lib.hid (by omega)
            have HSA := HS.out.alloc (.cells #[.int .i64 0, .slice none 0 0, .slice none 0 0] 68)
            rw [← hF] at HSA
            have hFB := blk_new2 wr (.cells #[.int .i64 0, .slice none 0 0, .slice none 0 0] 68)
            rw [← hF] at hFB
            obtain ⟨W5, hW5⟩ : ∃ W5, W5 = wr.alloc (.cells #[.int .i64 0, .slice none 0 0, .slice none 0 0] 68) := ⟨_, rfl⟩
            rw [← hW5] at HSA hFB
            have HSA := Lib.hid HSA
            have HFB := Lib.hid hFB
            have hMF : M < F := by omega
            have hS1F : S1 ≤ F := by have := HS.out.lC; omega
            have hwF : w.heap.size ≤ F := by have := HS.out.bel.size; omega
            have hFl : F < W5.heap.size := blk_lt2 hFB
            clear hgx hG hd HG5 hFB
            go_wp2_with fail
            rw [← hW5, ← hF]
            clear hW5 hF
            refine (num_calls w R A c b at5 false 1 W5 HSA.out.rd HC.out HSA.out.bel (by omega) (by omega) (by omega) HSA.out.la.1 hlen HBY.out).mono ?_
            rintro e w6 ⟨p, at6, bad6, rfl, hR6, hk6, hs6, hla6, hp6, hi6, _, _⟩
            obtain ⟨hb6, hg6⟩ := hp6.step (k := fun p l => (numP 1 l).bind fun r => (repP boxPs r.1.toNat r.2).bind fun s => (numP 2 s.2).bind fun t => (repP insPs t.1.toNat t.2).bind fun u => G (⟨p, s.1, u.1⟩, u.2)) HB5.out (fun _ => HGX.out)
            have HS6 := Lib.hid (HSA.out.rk hk6 hR6 hla6)
            have HF6 := Lib.hid (hk6.box HFB.out (by have := HSA.out.ne; omega))
            obtain ⟨q0, q1, q2, qf0, qf1, qf2, ql⟩ := boxF HF6.out
            have HS7 := Lib.hid (HS6.out.far (F := F) (j := 0) hS1F (Nat.le_refl _) hMF (.int .i64 p))
            have HF7 : Hid ((w6.setCell ⟨F, 0, none⟩ (.int .i64 p)).heap[F]? = some (.cells #[.int .i64 p, .slice none 0 0, .slice none 0 0] 68 (0, 0))) := Lib.hid (by
              have := Go.Joins.block_setCell (i := 0) HF6.out (.int .i64 p)
              simpa using this)
            have HB6 := Lib.hid hb6
            have HG6 := Lib.hid hg6
            clear hR6 hk6 hs6 hla6 hp6 hi6 hb6 hg6 HSA HFB HB5 HGX HS HF6 HS6 r2 rl m0 m1 m2 mf0 mf1 mf2 ml hFl
            go_wp2_with fail
            obtain ⟨W7, hW7⟩ : ∃ W7, W7 = w6.setCell ⟨F, 0, none⟩ (.int .i64 p) := ⟨_, rfl⟩
            rw [← hW7] at HS7 HF7 ⊢
            clear hW7 q0 q1 q2 qf0 qf1 qf2 ql
            refine (num_calls w R A c b at6 bad6 1 W7 HS7.out.rd HC.out HS7.out.bel (by omega) (by omega) (by omega) HS7.out.la.1 hlen HBY.out).mono ?_
            rintro e w8 ⟨k, at8, bad8, rfl, hR8, hk8, hs8, hla8, hp8, hi8, hk1, _⟩
            obtain ⟨hb8, hg8⟩ := hp8.step (k := fun k l => (repP boxPs k.toNat l).bind fun s => (numP 2 s.2).bind fun t => (repP insPs t.1.toNat t.2).bind fun u => G (⟨p, s.1, u.1⟩, u.2)) HB6.out HG6.out
            have HS8 := Lib.hid (HS7.out.rk hk8 hR8 hla8)
            have HF8 := Lib.hid (hk8.box HF7.out (by have := HS7.out.ne; omega))
            obtain ⟨k, rfl⟩ : ∃ m : Nat, k = (m : Int) := ⟨k.toNat, by have := (hk1 rfl).1; omega⟩
            have hk65 : k ≤ 65535 := by have := (hk1 rfl).2; omega
            rw [Int.toNat_natCast] at hg8
            have HP8 : Hid ((bad8 = true → RES = none) ∧ (bad8 = false → RES = (repP boxPs k (b.drop at8)).bind fun s => (fun s l => (numP 2 l).bind fun t => (repP insPs t.1.toNat t.2).bind fun u => G (⟨p, s, u.1⟩, u.2)) ([] ++ s.1) s.2)) := Lib.hid ⟨hb8, by simpa using hg8⟩
            have hF8l : F ≤ w8.heap.size := by have := blk_lt2 HF8.out; omega
            clear hR8 hk8 hs8 hla8 hp8 hi8 hk1 hb8 hg8 HB6 HG6 HS7 HF7
            go_wp2_with fail
            go_loopw [14] (fun v14 wr => ∃ j : Nat, j ≤ k ∧ v14 = .int .i64 j ∧ Hid (∃ at_ bad bv fr, DSt w R M A c b g at_ bad (.slice Ac cs.length nc) (.slice Af fs.length nf) cs fs S1 F wr ∧ wr.heap[F]? = some (.cells #[.int .i64 p, bv, .slice none 0 0] 68 (0, 0)) ∧ RowO ekBool F wr.heap.size wr bv fr ∧ fr.length = j ∧ (bad = true → RES = none) ∧ (bad = false → RES = (repP boxPs (k - j) (b.drop at_)).bind fun s => (fun s l => (numP 2 l).bind fun t => (repP insPs t.1.toNat t.2).bind fun u => G (⟨p, s, u.1⟩, u.2)) (fr ++ s.1) s.2))) (fun v14 _ => k - (RowKit.intOf v14).toNat)
            case atStart => exact ⟨0, Nat.zero_le _, rfl, Lib.hid ⟨at8, bad8, _, [], HS8.out, HF8.out, RowO.nil _ _ _ _ hF8l, rfl, HP8.out.1, HP8.out.2⟩⟩
            case round =>
              clear HS8 HF8 HP8 hF8l
              obtain ⟨j, hj, rfl, HQ⟩ := hrel
              obtain ⟨at9, bad9, bv, fr, hS, hFb, hrow, hrl, hb9, hg9⟩ := HQ.out
              clear HQ
              obtain ⟨r2, rl, m0, m1, m2, mf0, mf1, mf2, ml⟩ := hS.cells
              obtain ⟨Ab, nb, rfl, _⟩ := hrow.form
              have HS := Lib.hid hS
              have HFB := Lib.hid hFb
              have HROW := Lib.hid hrow
              have HRL := Lib.hid hrl
              have HB9 := Lib.hid hb9
              have HG9 := Lib.hid hg9
              have hrl2 : fr.length ≤ 65535 := by omega
              have hFw : F < wr.heap.size := blk_lt2 hFb
              clear hS hFb hrow hrl hb9 hg9
              by_cases hlt3 : j < k ∧ bad9 = false
              · obtain ⟨hlt3, rfl⟩ := hlt3
                obtain ⟨d3, hd3⟩ : ∃ d, k - j = d + 1 := ⟨k - j - 1, by omega⟩
                have hgx : RES = (numP 1 (b.drop at9)).bind fun q => (fun v l => (repP boxPs d3 l).bind fun s => (fun s l => (numP 2 l).bind fun t => (repP insPs t.1.toNat t.2).bind fun u => G (⟨p, s, u.1⟩, u.2)) ((fr ++ [decide (v = 1)]) ++ s.1) s.2) q.1 q.2 := by
                  rw [HG9.out rfl, hd3, rep_step (p := boxPs) (K := fun s l => (numP 2 l).bind fun t => (repP insPs t.1.toNat t.2).bind fun u => G (⟨p, s, u.1⟩, u.2))]
                  unfold boxPs
                  rw [Option.bind_assoc]
                  rfl
                have HGX := Lib.hid hgx
                have HD3 : Hid (k - (j + 1) = d3) := Lib.hid (by omega)
                clear hgx hd3 HG9
                go_wp2_with fail
                refine (num_calls w R A c b at9 false 1 wr HS.out.rd HC.out HS.out.bel (by omega) (by omega) (by omega) HS.out.la.1 hlen HBY.out).mono ?_
                rintro e wa ⟨v, ata, bada, rfl, hRa, hka, hsa, hlaa, hpa, hia, _, _⟩
                obtain ⟨hba, hga⟩ := hpa.step (k := fun v l => (repP boxPs d3 l).bind fun s => (fun s l => (numP 2 l).bind fun t => (repP insPs t.1.toNat t.2).bind fun u => G (⟨p, s, u.1⟩, u.2)) ((fr ++ [decide (v = 1)]) ++ s.1) s.2) HB9.out (fun _ => HGX.out)
                have HSa := Lib.hid (HS.out.rk hka hRa hlaa)
                have HFa := Lib.hid (hka.box HFB.out (by have := HS.out.ne; omega))
                have HROWa := Lib.hid (HROW.out.fx (Fx.rk hka HS.out.rd (by simp [ekBool])))
                have HBa := Lib.hid hba
                have HGa := Lib.hid hga
                have hza : wr.heap.size ≤ wa.heap.size := hka.size
                obtain ⟨q0, q1, q2, qf0, qf1, qf2, ql⟩ := boxF HFa.out
                clear hRa hka hsa hlaa hpa hia hba hga HB9 HGX HS HFB HROW r2 rl m0 m1 m2 mf0 mf1 mf2 ml
                have HEa : Hid (ekBool.E wa wr.heap.size wa.heap.size (v == 1) [.bool (v == 1)]) := Lib.hid rfl
                go_wp2_with (at_builtin; refine app_elem ekBool 65 Tryd.underlying65 info_bool rfl (by omega) (by simp [ekBool]) rfl _ _ rfl rfl rfl HROWa.out HEa.out hza (by omega) (by omega) ?_; intro v1 wb HO1 HG1)
                obtain ⟨Ae, ne, rfl, _⟩ := HO1.out.form
                have HG7 : Hid (wa.grownBy wb (Value.slice Ab fr.length nb).ownBlock) := Lib.hid HG1.out
                have HFb : Hid (wb.heap[F]? = some (.cells #[.int .i64 p, .slice Ab fr.length nb, .slice none 0 0] 68 (0, 0))) := Lib.hid (Fx.grown (ts := [68]) HG7.out HROWa.out.typed (by simp [ekBool]) _ _ _ (by simp) HFa.out)
                have HSb : Hid (DSt w R M A c b g ata bada (.slice Ac cs.length nc) (.slice Af fs.length nf) cs fs S1 F wb) := Lib.hid (HSa.out.high (S := F) (fun q hq => HG7.out.block q (by omega) (fun e => by have := (HROWa.out.lt q e.symm).1; omega)) HG7.out.size ((Below.refl _ _).grown HG7.out HSa.out.bel.size (fun q hq => by have := (HROWa.out.lt q hq).1; omega)) hS1F (Nat.le_refl _) hMF)
                have HN : Hid (∃ at_ bad bv fr', DSt w R M A c b g at_ bad (.slice Ac cs.length nc) (.slice Af fs.length nf) cs fs S1 F (wb.setCell ⟨F, 1, none⟩ (.slice Ae (fr ++ [v == 1]).length ne)) ∧ (wb.setCell ⟨F, 1, none⟩ (.slice Ae (fr ++ [v == 1]).length ne)).heap[F]? = some (.cells #[.int .i64 p, bv, .slice none 0 0] 68 (0, 0)) ∧ RowO ekBool F (wb.setCell ⟨F, 1, none⟩ (.slice Ae (fr ++ [v == 1]).length ne)).heap.size (wb.setCell ⟨F, 1, none⟩ (.slice Ae (fr ++ [v == 1]).length ne)) bv fr' ∧ fr'.length = j + 1 ∧ (bad = true → RES = none) ∧ (bad = false → RES = (repP boxPs (k - (j + 1)) (b.drop at_)).bind fun s => (fun s l => (numP 2 l).bind fun t => (repP insPs t.1.toNat t.2).bind fun u => G (⟨p, s, u.1⟩, u.2)) (fr' ++ s.1) s.2)) := Lib.hid (by
                  refine ⟨ata, bada, .slice Ae (fr ++ [v == 1]).length ne, fr ++ [v == 1], HSb.out.far hS1F (Nat.le_refl _) hMF _, ?_, (HO1.out.fx (Fx.box HFb.out _ (by simp [ekBool]))).mono (Nat.le_refl _) (by rw [set_size]; exact Nat.le_refl _), by simp [HRL.out], HBa.out, fun h => ?_⟩
                  · have := Go.Joins.block_setCell (i := 1) HFb.out (.slice Ae (fr ++ [v == 1]).length ne)
                    simpa using this
                  · rw [HGa.out h, HD3.out]
                    rfl)
                obtain ⟨b0, b1, b2, bf0, bf1, bf2, bl⟩ := boxF HFb.out
                obtain ⟨n7, hn7⟩ : ∃ q, q = (fr ++ [v == 1]).length := ⟨_, rfl⟩
                rw [← hn7] at HN ⊢
                clear HO1 HG1 HG7 HFb HSb hn7 HSa HFa HROWa HEa HBa HGa q0 q1 q2 qf0 qf1 qf2 ql
                refine Lib.hid ?_
                go_wp2_with fail
                go_roundw
                case rel => exact ⟨j + 1, by omega, by go_num, HN⟩
                case measure => simp [RowKit.intOf]; omega
              · have hex3 : (j < k ∧ bad9 = true) ∨ ¬ j < k := by
                  cases bad9 with
                  | true => by_cases h : j < k; exact Or.inl ⟨h, rfl⟩; exact Or.inr h
                  | false => exact Or.inr (fun h => hlt3 ⟨h, rfl⟩)
                have HRF3 : Hid (bad9 = false → RES = (numP 2 (b.drop at9)).bind fun t => (fun n l => (repP insPs n.toNat l).bind fun u => G (⟨p, fr, u.1⟩, u.2)) t.1 t.2) := Lib.hid (fun h => by
                  have hjk : k - j = 0 := by
                    have : ¬ j < k := fun h2 => hlt3 ⟨h2, h⟩
                    omega
                  rw [HG9.out h, hjk]
                  simp [repP])
                clear hlt3 HG9
                rcases hex3 with ⟨hjk, hbt⟩ | hjk
                case' inl =>
                  subst hbt
                  have hjd3 : decide ((j : Int) < (k : Int)) = true := decide_eq_true (by omega)
                case' inr =>
                  have hjd3 : decide ((j : Int) < (k : Int)) = false := decide_eq_false (by omega)
                all_goals
                  go_wp2_with fail
                  refine (num_calls w R A c b at9 _ 2 wr HS.out.rd HC.out HS.out.bel (by omega) (by omega) (by omega) HS.out.la.1 hlen HBY.out).mono ?_
                  rintro e wc ⟨m, atc, badc, rfl, hRc, hkc, hsc, hlac, hpc, hic, _, hmc⟩
                  obtain ⟨hbc, hgc⟩ := hpc.step (R := RES) (k := fun n l => (repP insPs n.toNat l).bind fun u => G (⟨p, fr, u.1⟩, u.2)) (fun h => HB9.out (by first | exact h | trivial)) (fun h => by first | (cases h; done) | exact HRF3.out h)
                  have HSc := Lib.hid (HS.out.rk hkc hRc hlac)
                  have HFc := Lib.hid (hkc.box HFB.out (by have := HS.out.ne; omega))
                  have HROWc := Lib.hid (HROW.out.fx (Fx.rk hkc HS.out.rd (by simp [ekBool])))
                  have hzc : wr.heap.size ≤ wc.heap.size := hkc.size
                  obtain ⟨m, rfl⟩ : ∃ q : Nat, m = (q : Int) := ⟨m.toNat, by have := (hmc rfl).1; omega⟩
                  have hm65 : m ≤ 65535 := by have := (hmc rfl).2; omega
                  rw [Int.toNat_natCast] at hgc
                  have HPc : Hid ((badc = true → RES = none) ∧ (badc = false → RES = (repP insPs m (b.drop atc)).bind fun u => G (⟨p, fr, [] ++ u.1⟩, u.2))) := Lib.hid ⟨hbc, by simpa using hgc⟩
                  obtain ⟨S2, hS2⟩ : ∃ S2, S2 = wc.heap.size := ⟨_, rfl⟩
                  have hFS2 : F < S2 := by omega
                  have HROWc2 : Hid (RowO ekBool F S2 wc (.slice Ab fr.length nb) fr) := Lib.hid (HROWc.out.mono (Nat.le_refl _) (by omega))
                  have hS2l : S2 ≤ wc.heap.size := by omega
                  clear hRc hkc hsc hlac hpc hic hmc hbc hgc HB9 HRF3 HS HFB HROW HROWc r2 rl m0 m1 m2 mf0 mf1 mf2 ml hS2
                  go_wp2_with fail
                  go_loopw [16] (fun v16 wr => ∃ q : Nat, q ≤ m ∧ v16 = .int .i64 q ∧ Hid (∃ at_ bad iv co, DSt w R M A c b g at_ bad (.slice Ac cs.length nc) (.slice Af fs.length nf) cs fs S1 F wr ∧ wr.heap[F]? = some (.cells #[.int .i64 p, .slice Ab fr.length nb, iv] 68 (0, 0)) ∧ RowO ekBool F S2 wr (.slice Ab fr.length nb) fr ∧ S2 ≤ wr.heap.size ∧ RowO ekIns F wr.heap.size wr iv co ∧ co.length = q ∧ (bad = true → RES = none) ∧ (bad = false → RES = (repP insPs (m - q) (b.drop at_)).bind fun u => G (⟨p, fr, co ++ u.1⟩, u.2)))) (fun v16 _ => m - (RowKit.intOf v16).toNat)
                  case atStart => exact ⟨0, Nat.zero_le _, rfl, Lib.hid ⟨atc, badc, _, [], HSc.out, HFc.out, HROWc2.out, hS2l, RowO.nil _ _ _ _ (by omega), rfl, HPc.out.1, HPc.out.2⟩⟩
                  case round =>
                    clear HSc HFc HROWc2 HPc hS2l
                    obtain ⟨q, hq, rfl, HQ⟩ := hrel
                    obtain ⟨atd, badd, iv, co, hS, hFb, hrb, hS2l, hrow, hcol, hbd, hgd⟩ := HQ.out
                    clear HQ
                    obtain ⟨r2, rl, m0, m1, m2, mf0, mf1, mf2, ml⟩ := hS.cells
                    obtain ⟨Ai, ni, rfl, _⟩ := hrow.form
                    have HS := Lib.hid hS
                    have HFB := Lib.hid hFb
                    have HRB := Lib.hid hrb
                    have HROW := Lib.hid hrow
                    have HCO := Lib.hid hcol
                    have HBd := Lib.hid hbd
                    have HGd := Lib.hid hgd
                    have hcol2 : co.length ≤ 65535 := by omega
                    have hFw : F < wr.heap.size := blk_lt2 hFb
                    clear hS hFb hrb hrow hcol hbd hgd
                    by_cases hlt4 : q < m ∧ badd = false
                    · obtain ⟨hlt4, rfl⟩ := hlt4
                      obtain ⟨d4, hd4⟩ : ∃ d, m - q = d + 1 := ⟨m - q - 1, by omega⟩
                      have hgx : RES = (numP 1 (b.drop atd)).bind fun u => (fun a l => (numP 2 l).bind fun r => (numP 1 r.2).bind fun s => (repP insPs d4 s.2).bind fun u => G (⟨p, fr, (co ++ [⟨a, r.1, s.1⟩]) ++ u.1⟩, u.2)) u.1 u.2 := by
                        rw [HGd.out rfl, hd4, rep_step (p := insPs) (K := fun a l => G (⟨p, fr, a⟩, l))]
                        unfold insPs
                        simp only [Option.bind_assoc, Option.bind_some]
                      have HGX := Lib.hid hgx
                      have HD4 : Hid (m - (q + 1) = d4) := Lib.hid (by omega)
                      clear hgx hd4 HGd
                      go_wp2_with fail
                      refine (num_calls w R A c b atd false 1 wr HS.out.rd HC.out HS.out.bel (by omega) (by omega) (by omega) HS.out.la.1 hlen HBY.out).mono ?_
                      rintro e we ⟨x0, ate, bade, rfl, hRe, hke, hse, hlae, hpe, hie, _, _⟩
                      obtain ⟨hbe, hge⟩ := hpe.step (k := fun a l => (numP 2 l).bind fun r => (fun a r l => (numP 1 l).bind fun s => (repP insPs d4 s.2).bind fun u => G (⟨p, fr, (co ++ [⟨a, r, s.1⟩]) ++ u.1⟩, u.2)) a r.1 r.2) HBd.out (fun _ => HGX.out)
                      have HSe := Lib.hid (HS.out.rk hke hRe hlae)
                      have HKe := Lib.hid hke
                      have HBe := Lib.hid hbe
                      have HGe := Lib.hid hge
                      clear hRe hke hse hlae hpe hie hbe hge HBd HGX
                      go_wp2_with fail
                      refine (num_calls w R A c b ate bade 2 we HSe.out.rd HC.out HSe.out.bel (by omega) (by omega) (by omega) HSe.out.la.1 hlen HBY.out).mono ?_
                      rintro e wf ⟨x1, atf, badf, rfl, hRf, hkf, hsf, hlaf, hpf, hif, _, _⟩
                      obtain ⟨hbf, hgf⟩ := hpf.step (k := fun r l => (numP 1 l).bind fun s => (fun s l => (repP insPs d4 l).bind fun u => G (⟨p, fr, (co ++ [⟨x0, r, s⟩]) ++ u.1⟩, u.2)) s.1 s.2) HBe.out HGe.out
                      have HSf := Lib.hid (HSe.out.rk hkf hRf hlaf)
                      have HKf := Lib.hid (HKe.out.trans hkf)
                      have HBf := Lib.hid hbf
                      have HGf := Lib.hid hgf
                      clear hRf hkf hsf hlaf hpf hif hbf hgf HBe HGe HSe HKe
                      go_wp2_with fail
                      refine (num_calls w R A c b atf badf 1 wf HSf.out.rd HC.out HSf.out.bel (by omega) (by omega) (by omega) HSf.out.la.1 hlen HBY.out).mono ?_
                      rintro e wa ⟨x2, ata, bada, rfl, hRa, hka, hsa, hlaa, hpa, hia, _, _⟩
                      obtain ⟨hba, hga⟩ := hpa.step (k := fun s l => (repP insPs d4 l).bind fun u => G (⟨p, fr, (co ++ [⟨x0, x1, s⟩]) ++ u.1⟩, u.2)) HBf.out HGf.out
                      have HSa := Lib.hid (HSf.out.rk hka hRa hlaa)
                      have HKa := Lib.hid (HKf.out.trans hka)
                      have HFa := Lib.hid (HKa.out.box HFB.out (by have := HS.out.ne; omega))
                      have HROWa := Lib.hid (HROW.out.fx (Fx.rk HKa.out HS.out.rd (by simp [ekIns])))
                      have HRBa := Lib.hid (HRB.out.fx (Fx.rk HKa.out HS.out.rd (by simp [ekBool])))
                      have HBa := Lib.hid hba
                      have HGa := Lib.hid hga
                      have hza : wr.heap.size ≤ wa.heap.size := HKa.out.size
                      obtain ⟨q0, q1, q2, qf0, qf1, qf2, ql⟩ := boxF HFa.out
                      have HEa : Hid (ekIns.E wa wr.heap.size wa.heap.size ⟨x0, x1, x2⟩ [.int .i64 x0, .int .i64 x1, .int .i64 x2]) := Lib.hid rfl
                      clear hRa hka hsa hlaa hpa hia hba hga HBf HGf HSf HKf HKa HS HFB HRB HROW r2 rl m0 m1 m2 mf0 mf1 mf2 ml
                      go_wp2_with (at_builtin; refine app_elem ekIns 66 Tryd.underlying66 info_ins rfl (by omega) (by simp [ekIns]) rfl _ _ rfl rfl rfl HROWa.out HEa.out hza (by omega) (by omega) ?_; intro v1 wb HO1 HG1)
                      obtain ⟨Ae, ne, rfl, _⟩ := HO1.out.form
                      have HG7 : Hid (wa.grownBy wb (Value.slice Ai co.length ni).ownBlock) := Lib.hid HG1.out
                      have HFb : Hid (wb.heap[F]? = some (.cells #[.int .i64 p, .slice Ab fr.length nb, .slice Ai co.length ni] 68 (0, 0))) := Lib.hid (Fx.grown (ts := [68]) HG7.out HROWa.out.typed (by simp [ekIns]) _ _ _ (by simp) HFa.out)
                      have HSb : Hid (DSt w R M A c b g ata bada (.slice Ac cs.length nc) (.slice Af fs.length nf) cs fs S1 F wb) := Lib.hid (HSa.out.high (S := F) (fun q hq => HG7.out.block q (by omega) (fun e => by have := (HROWa.out.lt q e.symm).1; omega)) HG7.out.size ((Below.refl _ _).grown HG7.out HSa.out.bel.size (fun q hq => by have := (HROWa.out.lt q hq).1; omega)) hS1F (Nat.le_refl _) hMF)
                      have HN : Hid (∃ at_ bad iv co', DSt w R M A c b g at_ bad (.slice Ac cs.length nc) (.slice Af fs.length nf) cs fs S1 F (wb.setCell ⟨F, 2, none⟩ (.slice Ae (co ++ [(⟨x0, x1, x2⟩ : S71)]).length ne)) ∧ (wb.setCell ⟨F, 2, none⟩ (.slice Ae (co ++ [(⟨x0, x1, x2⟩ : S71)]).length ne)).heap[F]? = some (.cells #[.int .i64 p, .slice Ab fr.length nb, iv] 68 (0, 0)) ∧ RowO ekBool F S2 (wb.setCell ⟨F, 2, none⟩ (.slice Ae (co ++ [(⟨x0, x1, x2⟩ : S71)]).length ne)) (.slice Ab fr.length nb) fr ∧ S2 ≤ (wb.setCell ⟨F, 2, none⟩ (.slice Ae (co ++ [(⟨x0, x1, x2⟩ : S71)]).length ne)).heap.size ∧ RowO ekIns F (wb.setCell ⟨F, 2, none⟩ (.slice Ae (co ++ [(⟨x0, x1, x2⟩ : S71)]).length ne)).heap.size (wb.setCell ⟨F, 2, none⟩ (.slice Ae (co ++ [(⟨x0, x1, x2⟩ : S71)]).length ne)) iv co' ∧ co'.length = q + 1 ∧ (bad = true → RES = none) ∧ (bad = false → RES = (repP insPs (m - (q + 1)) (b.drop at_)).bind fun u => G (⟨p, fr, co' ++ u.1⟩, u.2))) := Lib.hid (by
                        refine ⟨ata, bada, .slice Ae (co ++ [(⟨x0, x1, x2⟩ : S71)]).length ne, co ++ [(⟨x0, x1, x2⟩ : S71)], HSb.out.far hS1F (Nat.le_refl _) hMF _, ?_, (HRBa.out.fx (Fx.grown HG7.out HROWa.out.typed (by simp [ekIns, ekBool]))).fx (Fx.box HFb.out _ (by simp [ekBool])), by rw [set_size]; have := HG7.out.size; omega, (HO1.out.fx (Fx.box HFb.out _ (by simp [ekIns]))).mono (Nat.le_refl _) (by rw [set_size]; exact Nat.le_refl _), by simp [HCO.out], HBa.out, fun h => ?_⟩
                        · have := Go.Joins.block_setCell (i := 2) HFb.out (.slice Ae (co ++ [(⟨x0, x1, x2⟩ : S71)]).length ne)
                          simpa using this
                        · rw [HGa.out h, HD4.out])
                      obtain ⟨b0, b1, b2, bf0, bf1, bf2, bl⟩ := boxF HFb.out
                      obtain ⟨n7, hn7⟩ : ∃ z, z = (co ++ [(⟨x0, x1, x2⟩ : S71)]).length := ⟨_, rfl⟩
                      rw [← hn7] at HN ⊢
                      clear HO1 HG1 HG7 HFb HSb hn7 HSa HFa HROWa HRBa HEa HBa HGa q0 q1 q2 qf0 qf1 qf2 ql
                      refine Lib.hid ?_
                      go_wp2_with fail
                      go_roundw
                      case rel => exact ⟨q + 1, by omega, by go_num, HN⟩
                      case measure => simp [RowKit.intOf]; omega
                    · have hex4 : (q < m ∧ badd = true) ∨ ¬ q < m := by
                        cases badd with
                        | true => by_cases h : q < m; exact Or.inl ⟨h, rfl⟩; exact Or.inr h
                        | false => exact Or.inr (fun h => hlt4 ⟨h, rfl⟩)
                      have HRF4 : Hid (badd = false → RES = (repP funPs (n2 - (i2 + 1)) (b.drop atd)).bind fun r => contF g cs ((fs ++ [⟨p, fr, co⟩]) ++ r.1, r.2)) := Lib.hid (fun h => by
                        have hjk : m - q = 0 := by
                          have : ¬ q < m := fun h2 => hlt4 ⟨h2, h⟩
                          omega
                        rw [HGd.out h, hjk, HGE.out, HD.out]
                        simp [repP])
                      have HEf : Hid (ekFun.E wr F wr.heap.size ⟨p, fr, co⟩ [.int .i64 p, .slice Ab fr.length nb, .slice Ai co.length ni]) := Lib.hid ⟨_, _, rfl, HRB.out.mono (Nat.le_refl _) hS2l, HROW.out⟩
                      have hFle : F ≤ wr.heap.size := by omega
                      have hwl : w.heap.size ≤ wr.heap.size := HS.out.bel.size
                      obtain ⟨q0, q1, q2, qf0, qf1, qf2, ql⟩ := boxF HFB.out
                      clear hlt4 HGd HRB HROW HFB
                      rcases hex4 with ⟨hjk4, hbt⟩ | hjk4
                      case' inl =>
                        subst hbt
                        have hjd4 : decide ((q : Int) < (m : Int)) = true := decide_eq_true (by omega)
                      case' inr =>
                        have hjd4 : decide ((q : Int) < (m : Int)) = false := decide_eq_false (by omega)
                      all_goals
                        go_wp2_with (at_builtin; refine app_elem ekFun 36 Tryd.underlying36 info_fun rfl (by omega) (by simp [ekFun]) rfl _ _ rfl rfl rfl HS.out.fun_ HEf.out hFle hwl (by omega) ?_; intro v1 wb HO1 HG1)
                        obtain ⟨Ae, ne, rfl, _⟩ := HO1.out.form
                        have HS7 := Lib.hid (HS.out.setF HO1.out HG1.out)
                        have hM7 : wb.heap[M]? = some (.cells #[.slice Ac cs.length nc, .int .i64 g, .slice Af fs.length nf] 38 (0, 0)) := Fx.grown (ts := [38]) HG1.out HS.out.fun_.typed (by simp [ekFun]) _ _ _ (by simp) HS.out.mb
                        have m7 : wb.cell? ⟨M, 2, none⟩ = some (.slice Af fs.length nf) := by simp [World.cell?, hM7]
                        have f7 : wb.frozen? ⟨M, 2, none⟩ = false := by simp [World.frozen?, hM7]
                        have l7 : M < wb.heap.size := blk_lt2 hM7
                        have HN : Hid (∃ at_ bad fv fs', DSt w R M A c b g at_ bad (.slice Ac cs.length nc) fv cs fs' S1 (wb.setCell ⟨M, 2, none⟩ (.slice Ae (fs ++ [(⟨p, fr, co⟩ : S68)]).length ne)).heap.size (wb.setCell ⟨M, 2, none⟩ (.slice Ae (fs ++ [(⟨p, fr, co⟩ : S68)]).length ne)) ∧ fs'.length = i2 + 1 ∧ (bad = true → RES = none) ∧ (bad = false → RES = (repP funPs (n2 - (i2 + 1)) (b.drop at_)).bind fun s => contF g cs (fs' ++ s.1, s.2))) := Lib.hid (by
                          rw [set_size]
                          refine ⟨atd, _, _, fs ++ [⟨p, fr, co⟩], HS7.out, by simp [HFL.out], fun h => HBd.out (by first | exact h | trivial), fun h => ?_⟩
                          first | (cases h; done) | rw [HRF4.out h])
                        obtain ⟨n7, hn7⟩ : ∃ z, z = (fs ++ [(⟨p, fr, co⟩ : S68)]).length := ⟨_, rfl⟩
                        rw [← hn7] at HN ⊢
                        clear HO1 HG1 HS7 hM7 hn7 HEf HRF4 HBd
                        refine Lib.hid ?_
                        go_wp2_with fail
                        go_roundw
                        case rel => exact ⟨i2 + 1, by omega, by go_num, HN⟩
                        case measure => simp [RowKit.intOf]; omega
          · have hex5 : (i2 < n2 ∧ bad5 = true) ∨ ¬ i2 < n2 := by
              cases bad5 with
              | true => by_cases h : i2 < n2; exact Or.inl ⟨h, rfl⟩; exact Or.inr h
              | false => exact Or.inr (fun h => hlt2 ⟨h, rfl⟩)
            have HRF5 : Hid (bad5 = false → RES = some ⟨cs, g, fs⟩) := Lib.hid (fun h => by
              have hjk : n2 - i2 = 0 := by
                have : ¬ i2 < n2 := fun h2 => hlt2 ⟨h2, h⟩
                omega
              rw [HG5.out h, hjk]
              simp [repP, contF])
            have HRD := Lib.hid (HRES.out.trans (read_eq b).symm)
            clear hlt2 HG5
            have hex6 : bad5 = true ∨ (bad5 = false ∧ ¬ i2 < n2) := by
              rcases hex5 with h | h
              · exact Or.inl h.2
              · cases bad5
                · exact Or.inr ⟨rfl, h⟩
                · exact Or.inl rfl
            rcases hex6 with hbt | ⟨hbf, hge⟩
            · subst hbt
              have HDT : Hid (decT b = (⟨[], 0, []⟩, 5)) := Lib.hid (by unfold decT; rw [← HRD.out, HB5.out rfl])
              obtain ⟨x0, x1, x2, xf0, xf1, xf2, xl⟩ := boxF HS.out.xb
              rcases hex5 with ⟨h5, _⟩ | h5
              case' inl =>
                have hjd5 : decide ((i2 : Int) < (n2 : Int)) = true := decide_eq_true (by omega)
              case' inr =>
                have hjd5 : decide ((i2 : Int) < (n2 : Int)) = false := decide_eq_false (by omega)
              all_goals
                go_wp2_with fail
                go_quiet (fail)
                go_wp2_with fail
                refine bodyPost_ret (results_cell_tup rfl _ _ w.heap.size 38 #[.slice none 0 0, .int .i64 0, .slice none 0 0] (0, 0) _ rfl (put3_box (show (wr.drewN _).heap[w.heap.size]? = _ from HS.out.xb)) Tryd.underlying38 rfl (by kernel_rfl)) rfl ?_
                unfold DecPost
                rw [HDT.out]
                exact ⟨_, _, 0, 0, 0, 0, rfl, RowO.nil _ _ _ _ (Nat.le_refl _), RowO.nil _ _ _ _ (Nat.le_refl _), (((drewN_below HS.out.bel _).setCell (p := ⟨w.heap.size, 0, none⟩) (Nat.le_refl _) _).setCell (p := ⟨w.heap.size, 1, none⟩) (Nat.le_refl _) _).setCell (p := ⟨w.heap.size, 2, none⟩) (Nat.le_refl _) _⟩
            · subst hbf
              clear hex5
              have hjd5 : decide ((i2 : Int) < (n2 : Int)) = false := decide_eq_false (by omega)
              have hrm : readM b = some ⟨cs, g, fs⟩ := HRD.out.symm.trans (HRF5.out rfl)
              have hmo := mod_ok HBY.out hrm
              obtain ⟨E, hE⟩ : ∃ E, E = encM ⟨cs, g, fs⟩ := ⟨_, rfl⟩
              have HENC : Hid (∀ W', Below wr.heap.size wr W' → Calls Tryd.prog 24 #[.agg #[.slice Ac cs.length nc, .int .i64 g, .slice Af fs.length nf]] W' fun e w' => ∃ v, e = .returned v ∧ OwnB W'.heap.size w' v E ∧ Below W'.heap.size W' w') := Lib.hid (fun W' hb => by
                obtain ⟨_, l1, C1⟩ := dats_E (HS.out.con.below hb)
                obtain ⟨_, l2, C2⟩ := fun_E (HS.out.fun_.below hb)
                rw [hE]
                exact specEncode_calls Ac Af nc nf cs g fs W' C1 l1 C2 l2 hmo.fits hmo.g (fun c hc x hx => ⟨((hmo.con c hc).2 x hx).i0, ((hmo.con c hc).2 x hx).i1, ((hmo.con c hc).2 x hx).i3⟩) (fun f hf => ⟨(hmo.fn f hf).i0, fun x hx => (hmo.fn f hf).ins x hx⟩))
              have HCB : Hid (∀ W', Below wr.heap.size wr W' → (convert 42 9 (.slice A b.length c)).run Tryd.prog W' = .ok (.string (strOfNums b)) W') := Lib.hid (fun W' hb => Kd.C_string Tryd.underlying42 Tryd.underlying5 Tryd.underlying9 (Kd.C_below HC.out (HS.out.bel.trans (hb.mono HS.out.bel.size))))
              have HHM : Hid (∀ W', Below wr.heap.size wr W' → W'.cell? ⟨R, 2, none⟩ = some (.bool false) ∧ W'.cell? ⟨M, 0, none⟩ = some (.slice Ac cs.length nc) ∧ W'.cell? ⟨M, 1, none⟩ = some (.int .i64 g) ∧ W'.cell? ⟨M, 2, none⟩ = some (.slice Af fs.length nf)) := Lib.hid (fun W' hb => by
                have h1 := (hb.block R (blk_lt2 HS.out.rd)).trans HS.out.rd
                have h2 := (hb.block M (blk_lt2 HS.out.mb)).trans HS.out.mb
                simp [World.cell?, h1, h2, rdB])
              have HRM := Lib.hid hrm
              have HMO := Lib.hid hmo
              have HEE := Lib.hid hE
              clear hrm hmo hE
              have HXB : Hid (∀ W', Below wr.heap.size wr W' → W'.heap[w.heap.size]? = some (.cells #[.slice none 0 0, .int .i64 0, .slice none 0 0] 38 (0, 0))) := Lib.hid (fun W' hb => (hb.block _ (blk_lt2 HS.out.xb)).trans HS.out.xb)
              have HEB : Hid (Bys E) := Lib.hid (by
                rw [HEE.out]
                unfold encM encT
                split
                · rename_i hv
                  have hsm := valid_small hv
                  unfold imageT
                  intro x hx
                  rcases List.mem_append.1 hx with hx | hx
                  · refine body_byte hsm (fun cc hcc d hd z hz => ?_) x hx
                    obtain ⟨c', hc', rfl⟩ := List.mem_map.1 hcc
                    obtain ⟨y, hy, rfl⟩ := List.mem_map.1 hd
                    exact ((HMO.out.con c' hc').2 y hy).byt z hz
                  · exact leI_byte _ _ x hx
                · intro x hx; cases hx)
              have hcb := HCB.out wr.drew (Below.refl _ wr).drew
              go_wp2_with fail
              refine wp_region_noPanic ?_
              refine wp_region_held_drew (S := fun W => W.cell? ⟨R, 2, none⟩ = some (.bool false) ∧ W.cell? ⟨M, 0, none⟩ = some (.slice Ac cs.length nc) ∧ W.cell? ⟨M, 1, none⟩ = some (.int .i64 g) ∧ W.cell? ⟨M, 2, none⟩ = some (.slice Af fs.length nf) ∧ (convert 42 9 (.slice A b.length c)).run Tryd.prog W = .ok (.string (strOfNums b)) W) (by kernel_rfl) ⟨r2, m0, m1, m2, hcb⟩ (fun hHeld => ?_)
              refine wpAnyH_take (i := 0) (oi := { dst := some 140, op := Op.move (Operand.tmp 4), type := 96, pos := "l4_image.go:154", after := #[], guard := none }) (v := ?_) rfl (by kernel_rfl) (by kernel_rfl) (by kernel_rfl) (fun _ _ _ h => h) (Or.inl ⟨by rfl, ?_⟩) (by assumption) ?_
              rotate_left 1
              · (intro w hSw; (try dsimp only at hSw); go_simp; try with_reducible rfl)
              try simp only [Act.put, List.setIfInBounds_toArray, List.set_cons_zero, List.set_cons_succ]
              refine wpAnyH_take (i := 1) (oi := { dst := some 141, op := Op.nilCheck (Operand.tmp 140), type := 0, pos := "l4_image.go:154", after := #[{ on := 0, ground := Ground.data }], guard := none }) (v := ?_) rfl (by kernel_rfl) (by kernel_rfl) (by kernel_rfl) (fun _ _ _ h => h) (Or.inl ⟨by rfl, ?_⟩) (by assumption) ?_
              rotate_left 1
              · (intro w hSw; (try dsimp only at hSw); go_simp; try with_reducible rfl)
              try simp only [Act.put, List.setIfInBounds_toArray, List.set_cons_zero, List.set_cons_succ]
              refine wpAnyH_take (i := 2) (oi := { dst := some 142, op := Op.fieldAddr 98 (Operand.tmp 141) 2, type := 0, pos := "l4_image.go:154", after := #[{ on := 1, ground := Ground.data }], guard := none }) (v := ?_) rfl (by kernel_rfl) (by kernel_rfl) (by kernel_rfl) (fun _ _ _ h => h) (Or.inl ⟨by rfl, ?_⟩) (by assumption) ?_
              rotate_left 1
              · (intro w hSw; (try dsimp only at hSw); go_simp; try with_reducible rfl)
              try simp only [Act.put, List.setIfInBounds_toArray, List.set_cons_zero, List.set_cons_succ]
              refine wpAnyH_take (i := 3) (oi := { dst := some 143, op := Op.load 4 (Operand.tmp 142), type := 4, pos := "l4_image.go:154", after := #[{ on := 2, ground := Ground.data }], guard := none }) (v := ?_) rfl (by kernel_rfl) (by kernel_rfl) (by kernel_rfl) (fun _ _ _ h => h) (Or.inl ⟨by rfl, ?_⟩) (by assumption) ?_
              rotate_left 1
              · (intro w hSw; (try dsimp only at hSw); go_simp; try with_reducible rfl)
              try simp only [Act.put, List.setIfInBounds_toArray, List.set_cons_zero, List.set_cons_succ]
              refine wpAnyH_take (i := 4) (oi := { dst := some 144, op := Op.move (Operand.tmp 143), type := 4, pos := "l4_image.go:154", after := #[{ on := 3, ground := Ground.data }], guard := none }) (v := ?_) rfl (by kernel_rfl) (by kernel_rfl) (by kernel_rfl) (fun _ _ _ h => h) (Or.inl ⟨by rfl, ?_⟩) (by assumption) ?_
              rotate_left 1
              · (intro w hSw; (try dsimp only at hSw); go_simp; try with_reducible rfl)
              try simp only [Act.put, List.setIfInBounds_toArray, List.set_cons_zero, List.set_cons_succ]
              refine wpAnyH_take (i := 5) (oi := { dst := some 145, op := Op.load 38 (Operand.tmp 5), type := 38, pos := "l4_image.go:154", after := #[{ on := 4, ground := Ground.guard }], guard := some (4, false) }) (v := ?_) rfl (by kernel_rfl) (by kernel_rfl) (by kernel_rfl) (fun _ _ _ h => h) (Or.inl ⟨by rfl, ?_⟩) (by assumption) ?_
              rotate_left 1
              · (intro w hSw; (try dsimp only at hSw); go_simp; try with_reducible rfl)
              try simp only [Act.put, List.setIfInBounds_toArray, List.set_cons_zero, List.set_cons_succ]
              refine wpAnyH_take (i := 8) (oi := { dst := some 148, op := Op.move (Operand.tmp 0), type := 42, pos := "l4_image.go:154", after := #[{ on := 4, ground := Ground.guard }], guard := some (4, false) }) (v := ?_) rfl (by kernel_rfl) (by kernel_rfl) (by kernel_rfl) (fun _ _ _ h => h) (Or.inl ⟨by rfl, ?_⟩) (by assumption) ?_
              rotate_left 1
              · (intro w hSw; (try dsimp only at hSw); go_simp; try with_reducible rfl)
              try simp only [Act.put, List.setIfInBounds_toArray, List.set_cons_zero, List.set_cons_succ]
              refine wpAnyH_take (i := 9) (oi := { dst := some 149, op := Op.convert 42 9 (Operand.tmp 148), type := 9, pos := "l4_image.go:154", after := #[{ on := 8, ground := Ground.data }, { on := 4, ground := Ground.guard }], guard := some (4, false) }) (v := ?_) rfl (by kernel_rfl) (by kernel_rfl) (by kernel_rfl) (fun _ _ _ h => h) (Or.inl ⟨by rfl, ?_⟩) (by assumption) ?_
              rotate_left 1
              · (intro w hSw; (try dsimp only at hSw); go_simp; try with_reducible rfl)
              try simp only [Act.put, List.setIfInBounds_toArray, List.set_cons_zero, List.set_cons_succ]
              refine wpAnyH_ready (rs := [6]) (by kernel_rfl) (by simp) ?_
              refine AllReadyH.cons (o := { dst := some 146, op := Op.call { callee := Callee.value (Operand.func 24), args := #[Operand.tmp 145], argTypes := #[38] }, type := 42, pos := "l4_image.go:154", after := #[{ on := 5, ground := Ground.data }, { on := 4, ground := Ground.chain }, { on := 4, ground := Ground.guard }], guard := some (4, false) }) rfl (fun K hK => ?_) AllReadyH.nil
              go_simp
              go_at_call 24
              refine (HENC.out _ (Below.refl _ wr).drew).mono ?_
              rintro e w6 ⟨v6, rfl, ho6, hb6⟩
              have HO6 := Lib.hid ho6
              obtain ⟨A6, c6, rfl, _, _⟩ := ho6.reads
              have HB6 : Hid (Below wr.heap.size wr w6) := Lib.hid ((Below.refl _ wr).drew.trans hb6)
              have hcv : (convert 42 9 (.slice A6 E.length c6)).run Tryd.prog w6 = .ok (.string (strOfNums E)) w6 := Kd.C_string Tryd.underlying42 Tryd.underlying5 Tryd.underlying9 (own_C HO6.out).2.2
              clear ho6 hb6 hcb r2 m0 m1 m2 hHeld
              obtain ⟨r2, m0, m1, m2⟩ := HHM.out w6 HB6.out
              have hcb := HCB.out w6 HB6.out
              have hml : M < w6.heap.size := Nat.lt_of_lt_of_le ml HB6.out.size
              have HX6 := Lib.hid (HXB.out w6 HB6.out)
              obtain ⟨x0, x1, x2, xf0, xf1, xf2, xl⟩ := boxF HX6.out
              go_wp2_with fail
              refine hK.out _ _ ?_ (fun hHeld => ?_)
              · exact ⟨r2, m0, m1, m2, hcb⟩
              clear hK K
              try simp only [Act.put, List.setIfInBounds_toArray, List.set_cons_zero, List.set_cons_succ]
              refine wpAnyH_ready (rs := [7]) (by kernel_rfl) (by simp) ?_
              refine AllReadyH.cons (o := { dst := some 147, op := Op.convert 42 9 (Operand.tmp 146), type := 9, pos := "l4_image.go:154", after := #[{ on := 6, ground := Ground.data }, { on := 4, ground := Ground.guard }], guard := some (4, false) }) rfl (fun K hK => ?_) AllReadyH.nil
              go_simp
              refine hK.out _ _ ?_ (fun hHeld => ?_)
              · exact ⟨r2, m0, m1, m2, hcb⟩
              clear hK K
              try simp only [Act.put, List.setIfInBounds_toArray, List.set_cons_zero, List.set_cons_succ]
              clear hcv HO6 hcb
              have HBL6 : Hid (Below w.heap.size w w6) := Lib.hid (HS.out.bel.trans (HB6.out.mono HS.out.bel.size))
              by_cases heq : E = b
              · have HDT : Hid (decT b = (⟨cs, g, fs⟩, 0)) := Lib.hid (by unfold decT; rw [HRM.out]; exact if_pos (HEE.out ▸ heq))
                have hsn : strOfNums E = strOfNums b := by rw [heq]
                clear heq
                refine wpAnyH_take (i := 10) (oi := { dst := some 150, op := Op.binOp BinOp.neq 9 (Operand.tmp 147) (Operand.tmp 149) 9, type := 4, pos := "l4_image.go:154", after := #[{ on := 7, ground := Ground.data }, { on := 9, ground := Ground.data }, { on := 4, ground := Ground.guard }], guard := some (4, false) }) (v := ?_) rfl (by kernel_rfl) (by kernel_rfl) (by kernel_rfl) (fun _ _ _ h => h) (Or.inl ⟨by rfl, ?_⟩) (by assumption) ?_
                rotate_left 1
                · (intro w hSw; (try dsimp only at hSw); go_simp; try with_reducible rfl)
                try simp only [Act.put, List.setIfInBounds_toArray, List.set_cons_zero, List.set_cons_succ]
                refine wpAnyH_take (i := 11) (oi := { dst := some 151, op := Op.pick (Operand.tmp 144) (Operand.const (Value.bool true)) (Operand.tmp 150), type := 4, pos := "l4_image.go:154", after := #[{ on := 4, ground := Ground.data }, { on := 10, ground := Ground.data }], guard := none }) (v := ?_) rfl (by kernel_rfl) (by kernel_rfl) (by kernel_rfl) (fun _ _ _ h => h) (Or.inl ⟨by rfl, ?_⟩) (by assumption) ?_
                rotate_left 1
                · (intro w hSw; (try dsimp only at hSw); go_simp; try with_reducible rfl)
                try simp only [Act.put, List.setIfInBounds_toArray, List.set_cons_zero, List.set_cons_succ]
                refine wpAnyH_done (by kernel_rfl) ?_ _
                refine NoPanic.normal ?_
                clear hsn
                have HC6 := Lib.hid (HS.out.con.below HB6.out)
                have HF6 := Lib.hid (HS.out.fun_.below HB6.out)
                go_wp2_with fail
                refine bodyPost_ret (results_cell_tup rfl _ _ w.heap.size 38 #[.slice Ac cs.length nc, .int .i64 g, .slice Af fs.length nf] (0, 0) _ rfl (put3_box HX6.out) Tryd.underlying38 rfl (by kernel_rfl)) rfl ?_
                unfold DecPost
                rw [HDT.out]
                exact ⟨_, _, _, _, _, _, rfl, HC6.out.fx (Fx.put3 HX6.out (by simp [ekDats])), HF6.out.fx (Fx.put3 HX6.out (by simp [ekFun])), ((HBL6.out.setCell (p := ⟨w.heap.size, 0, none⟩) (Nat.le_refl _) _).setCell (p := ⟨w.heap.size, 1, none⟩) (Nat.le_refl _) _).setCell (p := ⟨w.heap.size, 2, none⟩) (Nat.le_refl _) _⟩
              · have HDT : Hid (decT b = (⟨[], 0, []⟩, 5)) := Lib.hid (by unfold decT; rw [HRM.out]; exact if_neg (fun h => heq (HEE.out.trans h)))
                have hsn : ¬ strOfNums E = strOfNums b := fun h => heq (str_inj HEB.out HBY.out h)
                have hsn1 : ((strOfNums E).toList == (strOfNums b).toList) = false := str_ne hsn
                clear heq
                refine wpAnyH_take (i := 10) (oi := { dst := some 150, op := Op.binOp BinOp.neq 9 (Operand.tmp 147) (Operand.tmp 149) 9, type := 4, pos := "l4_image.go:154", after := #[{ on := 7, ground := Ground.data }, { on := 9, ground := Ground.data }, { on := 4, ground := Ground.guard }], guard := some (4, false) }) (v := ?_) rfl (by kernel_rfl) (by kernel_rfl) (by kernel_rfl) (fun _ _ _ h => h) (Or.inl ⟨by rfl, ?_⟩) (by assumption) ?_
                rotate_left 1
                · (intro w hSw; (try dsimp only at hSw); go_simp; try with_reducible rfl)
                try simp only [Act.put, List.setIfInBounds_toArray, List.set_cons_zero, List.set_cons_succ]
                refine wpAnyH_take (i := 11) (oi := { dst := some 151, op := Op.pick (Operand.tmp 144) (Operand.const (Value.bool true)) (Operand.tmp 150), type := 4, pos := "l4_image.go:154", after := #[{ on := 4, ground := Ground.data }, { on := 10, ground := Ground.data }], guard := none }) (v := ?_) rfl (by kernel_rfl) (by kernel_rfl) (by kernel_rfl) (fun _ _ _ h => h) (Or.inl ⟨by rfl, ?_⟩) (by assumption) ?_
                rotate_left 1
                · (intro w hSw; (try dsimp only at hSw); go_simp; try with_reducible rfl)
                try simp only [Act.put, List.setIfInBounds_toArray, List.set_cons_zero, List.set_cons_succ]
                refine wpAnyH_done (by kernel_rfl) ?_ _
                refine NoPanic.normal ?_
                go_wp2_with fail
                refine bodyPost_ret (results_cell_tup rfl _ _ w.heap.size 38 #[.slice none 0 0, .int .i64 0, .slice none 0 0] (0, 0) _ rfl (put3_box HX6.out) Tryd.underlying38 rfl (by kernel_rfl)) rfl ?_
                unfold DecPost
                rw [HDT.out]
                exact ⟨_, _, 0, 0, 0, 0, rfl, RowO.nil _ _ _ _ (Nat.le_refl _), RowO.nil _ _ _ _ (Nat.le_refl _), ((HBL6.out.setCell (p := ⟨w.heap.size, 0, none⟩) (Nat.le_refl _) _).setCell (p := ⟨w.heap.size, 1, none⟩) (Nat.le_refl _) _).setCell (p := ⟨w.heap.size, 2, none⟩) (Nat.le_refl _) _⟩
end Go.Proofs.YtogmphjhdkgdjaaDoor
