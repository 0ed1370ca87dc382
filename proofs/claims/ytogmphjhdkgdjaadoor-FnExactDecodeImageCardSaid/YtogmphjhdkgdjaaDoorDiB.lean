/- The program's EncodeImage. -/
import Derived.Test.YtogmphjhdkgdjaaDoorDiA
import Derived.Test.YtogmphjhdkgdjaaDoorZSpecMM
import Derived.Test.YtogmphjhdkgdjaaDoorZImplMM
import Derived.StillTailTactics
namespace Go.Proofs.YtogmphjhdkgdjaaDoor
open Go.RowKit Go.Proofs.YtogmphjhdkgdjaaDoorW.PrintWords Go.Proofs.YtogmphjhdkgdjaaDoor.QFnExactValidModule
open Go.Proofs.YtogmphjhdkgdjaaDoor.SpecMM (FitsM conP funP insP)
open Go.Proofs.YtogmphjhdkgdjaaDoor.SpecVM (toD)
set_option linter.unusedVariables false
set_option linter.unusedSimpArgs false
theorem consts_each : ∀ (acc : Nat) (cs : List (List Dat)), constsB acc cs = true → ∀ c ∈ cs, oneB c = true
  | _, [], _, c, hc => by cases hc
  | acc, a :: r, h, c, hc => by
    unfold constsB at h
    split at h
    · cases h
    · rw [Bool.and_eq_true] at h
      rcases List.mem_cons.1 hc with rfl | hc
      · exact h.1
      · exact consts_each _ r h.2 c hc
theorem funcs_each : ∀ (acc : Nat) (fs : List FunP), funcsB acc fs = true → ∀ f ∈ fs, f.free.length ≤ 50 ∧ f.code.length ≤ 5000
  | _, [], _, c, hc => by cases hc
  | acc, a :: r, h, c, hc => by
    unfold funcsB at h
    simp only [Bool.and_eq_true, decide_eq_true_eq] at h
    rcases List.mem_cons.1 hc with rfl | hc
    · exact ⟨h.1.1.1.2, by have := h.1.2; omega⟩
    · exact funcs_each _ r h.2 c hc
theorem datT_len {d : Dat} (hg : goodB d = true) : (datT d).length ≤ 111 ∧ d.t.length ≤ 100 ∧ (d.k = 2 → 0 < d.t.length) := by
  have ht : d.t.length ≤ 100 ∧ (d.k = 2 → 0 < d.t.length) := by
    unfold goodB at hg
    split at hg
    · rename_i h
      simp only [Bool.and_eq_true, List.isEmpty_iff] at hg
      rw [hg.1.2]
      exact ⟨by simp, fun e => by omega⟩
    · split at hg
      · rename_i h
        simp only [Bool.and_eq_true, List.isEmpty_iff] at hg
        rw [hg.1.2]
        exact ⟨by simp, fun e => by omega⟩
      · split at hg
        · simp only [Bool.and_eq_true] at hg
          have := hg.1.2
          unfold symB at this
          simp only [Bool.and_eq_true, decide_eq_true_eq] at this
          refine ⟨this.1.1.1.2, fun _ => ?_⟩
          have h1 := this.1.1.1.1
          cases hd : d.t with
          | nil => rw [hd] at h1; simp at h1
          | cons a l => simp
        · rename_i h
          simp only [Bool.and_eq_true, List.isEmpty_iff] at hg
          rw [hg.1.2]
          exact ⟨by simp, fun e => absurd e h⟩
  refine ⟨?_, ht⟩
  unfold datT
  rw [List.length_append, leI_len]
  split
  · rw [leI_len]; omega
  · split
    · rw [leI_len]; omega
    · split
      · rw [List.length_append, leI_len]; omega
      · rw [leI_len]; omega
/-- What a valid module's parts are bounded by. -/
structure Small (cs : List (List Dat)) (fs : List FunP) : Prop where
  nc : cs.length ≤ 500
  con : ∀ c ∈ cs, c.length ≤ 3000 ∧ ∀ d ∈ c, goodB d = true
  nf : fs.length ≤ 200
  fn : ∀ f ∈ fs, f.free.length ≤ 50 ∧ f.code.length ≤ 5000
theorem valid_small {cs : List (List Dat)} {g : Int} {fs : List FunP} (h : validM cs g fs = true) : Small cs fs := by
  unfold validM at h
  simp only [Bool.and_eq_true, decide_eq_true_eq] at h
  obtain ⟨⟨⟨⟨⟨_, h1⟩, h2⟩, _⟩, _⟩, h3, h4, _⟩ := h
  refine ⟨h2, fun c hc => ?_, h1, funcs_each 0 fs h4⟩
  have := consts_each 0 cs h3 c hc
  unfold oneB validD at this
  simp only [Bool.and_eq_true, decide_eq_true_eq] at this
  exact ⟨this.1.1, SpecMM.rows_cnt _ _ this.1.2⟩
theorem conT_len {c : List Dat} (h : c.length ≤ 3000 ∧ ∀ d ∈ c, goodB d = true) : (conT c).length ≤ 333002 := by
  unfold conT
  rw [List.length_append, leI_len]
  have := flatMap_len (f := datT) (K := 111) c (fun d hd => (datT_len (h.2 d hd)).1)
  omega
theorem funT_len {f : FunP} (h : f.free.length ≤ 50 ∧ f.code.length ≤ 5000) : (funT f).length ≤ 20054 := by
  unfold funT
  rw [List.length_append, List.length_append, List.length_append, List.length_append, leI_len, leI_len, leI_len]
  have h1 := flatMap_len (f := freeT) (K := 1) f.free (fun d _ => by unfold freeT; rw [leI_len]; omega)
  have h2 := flatMap_len (f := insT) (K := 4) f.code (fun d _ => by unfold insT; rw [List.length_append, List.length_append, leI_len, leI_len, leI_len]; omega)
  omega
/-- The state of the call: the writer in b, the module's box in M. -/
structure Enc (w0 : World) (b M : Nat) (mc : Array Value) (o : List Int) (w : World) : Prop where
  wr : Wrt w0.heap.size b o w
  bel : Below w0.heap.size w0 w
  box : w.heap[M]? = some (.cells mc 38 (0, 0))
  ne : M ≠ b
theorem Enc.step {w0 : World} {b M : Nat} {mc : Array Value} {o o' : List Int} {w w' : World} (h : Enc w0 b M mc o w) (h1 : Wrt w0.heap.size b o' w') (h2 : Below w0.heap.size w w') (h3 : Oth b w w') : Enc w0 b M mc o' w' :=
  ⟨h1, h.bel.trans h2, Oth.box h3 h.box h.ne (by decide), h.ne⟩
theorem Enc.alloc {w0 : World} {b M : Nat} {mc : Array Value} {o : List Int} {w : World} (h : Enc w0 b M mc o w) (x : Obj) : Enc w0 b M mc o (w.alloc x) :=
  ⟨h.wr.alloc x, h.bel.alloc h.bel.size x, blk_old2 h.box x, h.ne⟩
/-- One number written. -/
theorem Enc.one {w0 : World} {b M : Nat} {mc : Array Value} {o : List Int} {w : World} (h : Enc w0 b M mc o w) (v : Int) (n : Nat) (hn : n ≤ 8) (hlen : o.length + 8 ≤ 140737488355328) (hv : I64 v) :
    Calls Tryd.prog 52 #[.pointer (some ⟨b, 0, none⟩), .int .i64 n, .slice (some ⟨w.heap.size, 0, none⟩) 1 1] (w.alloc (.cells #[.int .i64 v] 3)) fun e w' => e = .returned (.tuple #[]) ∧ Enc w0 b M mc (o ++ leI v n) w' ∧ Oth b w w' := by
  refine (put_one w0.heap.size b n o v w h.wr hn hlen hv h.bel.size).mono ?_
  rintro e w' ⟨rfl, h1, h2, h3⟩
  exact ⟨rfl, h.step h1 h2 h3, h3⟩
/-- Two numbers written. -/
theorem Enc.two {w0 : World} {b M : Nat} {mc : Array Value} {o : List Int} {w : World} (h : Enc w0 b M mc o w) (u v : Int) (n : Nat) (hn : n ≤ 8) (hlen : o.length + 16 ≤ 140737488355328) (hu : I64 u) (hv : I64 v) :
    Calls Tryd.prog 52 #[.pointer (some ⟨b, 0, none⟩), .int .i64 n, .slice (some ⟨w.heap.size, 0, none⟩) 2 2] (w.alloc (.cells #[.int .i64 u, .int .i64 v] 3)) fun e w' => e = .returned (.tuple #[]) ∧ Enc w0 b M mc (o ++ leI u n ++ leI v n) w' ∧ Oth b w w' := by
  obtain ⟨hB, y, h1, _⟩ := id h.wr
  have hbl := blk_lt2 h1
  have hsz := h.bel.size
  refine (put_calls w0.heap.size b n o [u, v] w.heap.size 2 (w.alloc (.cells #[.int .i64 u, .int .i64 v] 3)) (h.wr.alloc _) hn (by simpa using blk_new2 w (.cells #[.int .i64 u, .int .i64 v] 3 (0, 0))) (by omega) (by simp) (by simpa using hlen) (by
    intro x hx
    rcases List.mem_cons.1 hx with rfl | hx
    · exact hu
    · rw [List.mem_singleton.1 hx]; exact hv) (by simp; omega)).mono ?_
  rintro e w' ⟨rfl, h2, h3, h4⟩
  have ho : Oth b w w' := fun k o hk hb ho => h4 k o (blk_old2 hk _) hb ho
  exact ⟨rfl, h.step (by simpa using h2) (((Below.refl _ w).alloc hsz _).trans h3) ho, ho⟩
theorem enc_start {w0 w1 : World} {M : Nat} {mc : Array Value} (hb : Below w0.heap.size w0 w1) (hM : w1.heap[M]? = some (.cells mc 38 (0, 0))) :
    Enc w0 (w1.heap.size + 1) M mc [83, 76, 65, 49] ((w1.alloc (.cells #[.int .u8 83, .int .u8 76, .int .u8 65, .int .u8 49] 5)).alloc (.cells #[.slice (some ⟨w1.heap.size, 0, none⟩) 4 4] 89)) := by
  have hsz := hb.size
  have e1 : (w1.alloc (.cells #[.int .u8 83, .int .u8 76, .int .u8 65, .int .u8 49] 5)).heap.size = w1.heap.size + 1 := by simp
  have k0 := blk_old2 (blk_new2 w1 (.cells #[.int .u8 83, .int .u8 76, .int .u8 65, .int .u8 49] 5)) (.cells #[.slice (some ⟨w1.heap.size, 0, none⟩) 4 4] 89)
  have k1 := blk_new2 (w1.alloc (.cells #[.int .u8 83, .int .u8 76, .int .u8 65, .int .u8 49] 5)) (.cells #[.slice (some ⟨w1.heap.size, 0, none⟩) 4 4] 89)
  rw [e1] at k1
  refine ⟨⟨by omega, .slice (some ⟨w1.heap.size, 0, none⟩) 4 4, k1, ⟨by simp [cel], .inr ⟨w1.heap.size, 4, _, rfl, hsz, k0, Nat.le_refl _, by unfold maxLen; omega, by simp, by simp [cel]⟩⟩, ?_⟩, (hb.alloc hsz _).alloc (by simp; omega) _, blk_old2 (blk_old2 hM _) _, ?_⟩
  · intro e
    have : w1.heap.size = w1.heap.size + 1 := Option.some.inj e
    omega
  · have := blk_lt2 hM
    omega
theorem row_own {B cap : Nat} {ao : Option Addr} {o : List Int} {w : World} (h : w.ownsRow B 5 1 (.slice ao o.length cap) o.length (cel o)) : OwnB B w (.slice ao o.length cap) o := by
  obtain ⟨hl, hr⟩ := h
  rcases hr with ⟨e, h0⟩ | ⟨g, cap', cur, e, hg, hc, hn, hm, hs, ht⟩
  · have ho : o = [] := List.eq_nil_of_length_eq_zero h0
    subst ho
    cases e
    exact Or.inl ⟨rfl, rfl⟩
  · injection e with e1 _ e3
    subst e1 e3
    refine Or.inr ⟨g, cap, cur, (0, 0), rfl, hg, hc, fun i _ => by simp, hn, by unfold maxLen at hm; omega, fun j p hp => ?_⟩
    have hj : (cel o)[j]? = some (.int .u8 p) := by simp [cel, hp]
    rw [← ht, List.getElem?_take] at hj
    split at hj
    · simpa using hj
    · cases hj
theorem own_C {base cap n : Nat} {w : World} {A : Option Addr} {xs : List Int} (h : OwnB base w (.slice A n cap) xs) : n = xs.length ∧ xs.length ≤ cap ∧ Kd.C (Kd.int .u8) w A xs.length xs := by
  obtain ⟨A', c', e, h1, h2⟩ := h.reads
  cases e
  exact ⟨rfl, h1, h2⟩
theorem datT_byte {d : Dat} (hg : goodB d = true) (ht : ∀ b ∈ d.t, 0 ≤ b ∧ b < 256) : ∀ b ∈ datT d, 0 ≤ b ∧ b < 256 := by
  intro b hb
  unfold datT at hb
  rcases List.mem_append.1 hb with h | h
  · exact leI_byte _ _ b h
  · split at h
    · exact leI_byte _ _ b h
    · split at h
      · exact leI_byte _ _ b h
      · split at h
        · rcases List.mem_append.1 h with h | h
          · exact leI_byte _ _ b h
          · exact ht b h
        · exact leI_byte _ _ b h
theorem body_byte {cs : List (List Dat)} {g : Int} {fs : List FunP} (hs : Small cs fs) (ht : ∀ c ∈ cs, ∀ d ∈ c, ∀ b ∈ d.t, 0 ≤ b ∧ b < 256) : ∀ b ∈ bodyT cs g fs, 0 ≤ b ∧ b < 256 := by
  intro b hb
  unfold bodyT at hb
  simp only [List.mem_append, List.mem_flatMap] at hb
  rcases hb with ((((h | h) | h) | ⟨c, hc, h⟩) | h) | ⟨f, hf, h⟩
  · simp at h; omega
  · exact leI_byte _ _ b h
  · exact leI_byte _ _ b h
  · unfold conT at h
    rcases List.mem_append.1 h with h | h
    · exact leI_byte _ _ b h
    · obtain ⟨d, hd, h⟩ := List.mem_flatMap.1 h
      exact datT_byte ((hs.con c hc).2 d hd) (ht c hc d hd) b h
  · exact leI_byte _ _ b h
  · unfold funT at h
    simp only [List.mem_append, List.mem_flatMap] at h
    rcases h with (((h | h) | ⟨x, _, h⟩) | h) | ⟨x, _, h⟩
    · exact leI_byte _ _ b h
    · exact leI_byte _ _ b h
    · exact leI_byte _ _ b h
    · exact leI_byte _ _ b h
    · unfold insT at h
      simp only [List.mem_append] at h
      rcases h with (h | h) | h
      · exact leI_byte _ _ b h
      · exact leI_byte _ _ b h
      · exact leI_byte _ _ b h
set_option maxHeartbeats 8000000 in
set_option maxRecDepth 100000 in
theorem EncodeImage_calls (A0 A2 : Option Addr) (c0 c2 : Nat) (cs : List (List S57)) (g : Int) (fs : List S68) (w : World) (hr0 : Kd.C (Kd.slice 57 k57) w A0 cs.length cs) (hc0 : cs.length ≤ c0) (hr2 : Kd.C k68 w A2 fs.length fs) (hc2 : fs.length ≤ c2)
    (hM : FitsM cs fs) (hg : I64 g) (hd : ∀ c ∈ cs, ∀ x ∈ c, I64 x.f0 ∧ I64 x.f1 ∧ I64 x.f3) (hf : ∀ f ∈ fs, I64 f.f0 ∧ ∀ x ∈ f.f2, I64 x.f0 ∧ I64 x.f1 ∧ I64 x.f2) :
    Calls Tryd.prog 25 #[.agg #[.slice A0 cs.length c0, .int .i64 g, .slice A2 fs.length c2]] w fun e w' => ∃ v, e = .returned v ∧ OwnB w.heap.size w' v (encT (conP cs) g (fs.map funP)) ∧ Below w.heap.size w w' := by
  obtain ⟨k, hk⟩ := ImplMM.valid_ev (g := g) hM
  have hev := hk k (Nat.le_refl _)
  have HEV := Lib.hid hev
  have HR0 := Lib.hid hr0
  have HR2 := Lib.hid hr2
  have HM := Lib.hid hM
  have HD := Lib.hid hd
  have HF := Lib.hid hf
  have hu := Tryd.underlying38
  clear hk hev hr0 hr2 hM hd hf
  obtain ⟨FIN, hFIN⟩ : ∃ F, F = encT (conP cs) g (fs.map funP) := ⟨_, rfl⟩
  rw [← hFIN]
  have HFIN := Lib.hid hFIN
  clear hFIN
  go_enter Tryd.func25, Tryd.ntmps25
  go_wp2_with fail
  obtain ⟨W, hW⟩ : ∃ W, W = w.alloc (.cells #[.slice A0 cs.length c0, .int .i64 g, .slice A2 fs.length c2] 38) := ⟨_, rfl⟩
  have hbW : Below w.heap.size w W := by rw [hW]; exact (Below.refl _ _).alloc (Nat.le_refl _) _
  have hMB : W.heap[w.heap.size]? = some (.cells #[.slice A0 cs.length c0, .int .i64 g, .slice A2 fs.length c2] 38 (0, 0)) := by rw [hW]; exact blk_new2 _ _
  rw [← hW]
  clear hW
  have HBW := Lib.hid hbW
  have HMB := Lib.hid hMB
  clear hbW hMB
  refine (impl_ValidModule.calls k A0 c0 cs g A2 c2 fs (validM (conP cs) g (fs.map funP)) W (Kd.C_below HR0.out HBW.out) hc0 (Kd.C_below HR2.out HBW.out) hc2 HEV.out).mono ?_
  rintro e w1 ⟨rfl, hb1⟩
  have HB1 : Hid (Below w.heap.size w w1) := Lib.hid (HBW.out.trans (hb1.mono HBW.out.size))
  have HM1 := Lib.hid (blk_below HMB.out hb1)
  clear hb1
  cases hv : validM (conP cs) g (fs.map funP) with
  | false =>
    have HV : Hid (FIN = []) := Lib.hid (by rw [HFIN.out]; unfold encT; rw [if_neg (by rw [hv]; decide)])
    clear hv
    go_wp2_with fail
    go_ret
    exact ⟨_, rfl, Or.inl ⟨rfl, HV.out⟩, HB1.out⟩
  | true =>
    have HV : Hid (FIN = imageT (conP cs) g (fs.map funP)) := Lib.hid (by rw [HFIN.out]; unfold encT; rw [if_pos hv])
    have HVM := Lib.hid hv
    have hMl : w.heap.size < w1.heap.size := blk_lt2 HM1.out
    have e0 : w1.cell? ⟨w.heap.size, 0, none⟩ = some (.slice A0 cs.length c0) := by simp [World.cell?, HM1.out]
    have e1 : w1.cell? ⟨w.heap.size, 1, none⟩ = some (.int .i64 g) := by simp [World.cell?, HM1.out]
    have hES := enc_start HB1.out HM1.out
    obtain ⟨w2, hw2⟩ : ∃ w2, w2 = (w1.alloc (.cells #[.int .u8 83, .int .u8 76, .int .u8 65, .int .u8 49] 5)).alloc (.cells #[.slice (some ⟨w1.heap.size, 0, none⟩) 4 4] 89) := ⟨_, rfl⟩
    have hz2 : w2.heap.size = w1.heap.size + 1 + 1 := by rw [hw2]; simp
    rw [← hw2] at hES
    have HES := Lib.hid hES
    have hcl : cs.length ≤ 1048576 := HM.out.clen
    have hfl : fs.length ≤ 1048576 := HM.out.flen
    clear hv hES
    go_wp2_with fail
    rw [← hw2, ← hz2]
    obtain ⟨b, hb⟩ : ∃ b, b = w1.heap.size + 1 := ⟨_, rfl⟩
    rw [← hb] at HES ⊢
    clear hw2 hz2 hb e0 e1
    refine (HES.out.two g (cs.length : Int) 2 (by omega) (by simp) hg ⟨by omega, by omega⟩).mono ?_
    rintro e w3 ⟨rfl, hE3, ho3⟩
    have HE3 := Lib.hid hE3
    have hMl3 : w.heap.size < w3.heap.size := blk_lt2 hE3.box
    have e0 : w3.cell? ⟨w.heap.size, 0, none⟩ = some (.slice A0 cs.length c0) := by simp [World.cell?, hE3.box]
    clear hE3 ho3
    go_wp2_with fail
    obtain ⟨mc, hmc⟩ : ∃ mc : Array Value, mc = #[.slice A0 cs.length c0, .int .i64 g, .slice A2 fs.length c2] := ⟨_, rfl⟩
    rw [← hmc] at HE3
    have hml : (conP cs).length = cs.length := by simp [conP]
    have HSM := Lib.hid (valid_small HVM.out)
    obtain ⟨P3, hP3⟩ : ∃ P, P = [83, 76, 65, 49] ++ leI g 2 ++ leI (cs.length : Int) 2 := ⟨_, rfl⟩
    have hp3 : P3.length ≤ 8 := by rw [hP3, List.length_append, List.length_append, leI_len, leI_len]; simp
    rw [← hP3] at HE3
    have HP3 := Lib.hid hP3
    have HMC := Lib.hid hmc
    have hn500 : cs.length ≤ 500 := by have := HSM.out.nc; omega
    have HL1 : Hid (∀ i, (((conP cs).take i).flatMap conT).length ≤ 500 * 333002) := Lib.hid (fun i => by
      have h1 := flatMap_len (f := conT) (K := 333002) ((conP cs).take i) (fun c hc => conT_len (HSM.out.con c (List.mem_of_mem_take hc)))
      have h2 : ((conP cs).take i).length ≤ 500 := by rw [List.length_take]; omega
      exact Nat.le_trans h1 (Nat.mul_le_mul_right _ h2))
    have H0 : Hid (Enc w b w.heap.size mc (P3 ++ ((conP cs).take 0).flatMap conT) w3) := Lib.hid (by simpa using HE3.out)
    clear hP3 hmc e0
    go_loopw [31] (fun v31 wr => ∃ i : Nat, i ≤ cs.length ∧ v31 = .int .i64 i ∧ Hid (Enc w b w.heap.size mc (P3 ++ ((conP cs).take i).flatMap conT) wr)) (fun v31 _ => cs.length - (RowKit.intOf v31).toNat)
    case atStart => exact ⟨0, Nat.zero_le _, rfl, H0⟩
    case round =>
      clear H0 HE3
      obtain ⟨i, hi, rfl, HE⟩ := hrel
      by_cases hlt : i < cs.length
      · obtain ⟨ad, A1, c1, hA, k0, k1, k2⟩ := at_L14 HR0.out (i : Int) (by omega) (by omega)
        subst hA
        rw [Int.toNat_natCast] at k0
        obtain ⟨ci, hci⟩ : ∃ ci, ci = rd_L14 cs (i : Int) := ⟨_, rfl⟩
        have hcm : cs[i]? = some ci := by rw [hci]; unfold rd_L14; rw [Int.toNat_natCast, List.getD_eq_getElem?_getD, List.getElem?_eq_getElem hlt]; rfl
        rw [← hci] at k0 k1 k2
        have hcP : (conP cs)[i]? = some (ci.map toD) := by simp [conP, hcm]
        have hcs := HSM.out.con _ (List.mem_of_getElem? hcP)
        have hcl3 : ci.length ≤ 3000 := by simpa using hcs.1
        have HDI := Lib.hid (HD.out ci (List.mem_of_getElem? hcm))
        have HGD := Lib.hid hcs.2
        have cc : wr.cell? (ad.add i) = some (.slice A1 ci.length c1) := (HE.out.bel.cell (World.block_lt_of_cell? w _ k0)).trans k0
        obtain ⟨o1, ho1⟩ : ∃ o1, o1 = P3 ++ ((conP cs).take i).flatMap conT := ⟨_, rfl⟩
        have hl1 : o1.length ≤ 8 + 500 * 333002 := by rw [ho1, List.length_append]; have := HL1.out i; omega
        have HNX : Hid (o1 ++ leI (ci.length : Int) 2 ++ (ci.map toD).flatMap datT = P3 ++ ((conP cs).take (i + 1)).flatMap conT) := Lib.hid (by
          rw [take_step hcP, ho1]; unfold conT; simp)
        have HE1 : Hid (Enc w b w.heap.size mc o1 wr) := Lib.hid (by rw [ho1]; exact HE.out)
        have HC2 := Lib.hid k2
        have hMlr : w.heap.size < wr.heap.size := blk_lt2 HE.out.box
        clear HE k0 k2 hcm hcP hcs ho1 hci
        go_wp2_with fail
        refine (HE1.out.one (ci.length : Int) 2 (by omega) (by omega) ⟨by omega, by omega⟩).mono ?_
        rintro e w4 ⟨rfl, hE4, _⟩
        have HE4 := Lib.hid hE4
        clear hE4 cc
        go_wp2_with fail
        obtain ⟨o2, ho2⟩ : ∃ o2, o2 = o1 ++ leI (ci.length : Int) 2 := ⟨_, rfl⟩
        have hl2 : o2.length ≤ 10 + 500 * 333002 := by rw [ho2, List.length_append, leI_len]; omega
        rw [← ho2] at HE4 HNX
        have hmj : (ci.map toD).length = ci.length := by simp
        have HL2 : Hid (∀ j, (((ci.map toD).take j).flatMap datT).length ≤ 333000) := Lib.hid (fun j => by
          have h1 := flatMap_len (f := datT) (K := 111) ((ci.map toD).take j) (fun d hd => (datT_len (HGD.out d (List.mem_of_mem_take hd))).1)
          have h2 : ((ci.map toD).take j).length ≤ 3000 := by rw [List.length_take]; omega
          exact Nat.le_trans h1 (Nat.mul_le_mul_right _ h2))
        have H1 : Hid (Enc w b w.heap.size mc (o2 ++ ((ci.map toD).take 0).flatMap datT) w4) := Lib.hid (by simpa using HE4.out)
        clear ho2 hmj HE1
        go_loopw [42] (fun v42 wr => ∃ j : Nat, j ≤ ci.length ∧ v42 = .int .i64 j ∧ Hid (Enc w b w.heap.size mc (o2 ++ ((ci.map toD).take j).flatMap datT) wr)) (fun v42 _ => ci.length - (RowKit.intOf v42).toNat)
        case atStart => exact ⟨0, Nat.zero_le _, rfl, H1⟩
        case round =>
          clear H1 HE4
          obtain ⟨j, hj, rfl, HQ⟩ := hrel
          by_cases hjl : j < ci.length
          · obtain ⟨ad2, A3, c3, hA, k0, k1, k2, k3, k4, k5⟩ := at_T57 HC2.out (j : Int) (by omega) (by omega)
            subst hA
            rw [Int.toNat_natCast] at k0 k1 k2 k3
            obtain ⟨x, hx⟩ : ∃ x, x = rd_T57 ci (j : Int) := ⟨_, rfl⟩
            have hxm : ci[j]? = some x := by rw [hx]; unfold rd_T57; rw [Int.toNat_natCast, List.getD_eq_getElem?_getD, List.getElem?_eq_getElem hjl]; rfl
            rw [← hx] at k0 k1 k2 k3 k4 k5
            have hxP : (ci.map toD)[j]? = some (toD x) := by simp [hxm]
            have hxg := datT_len (HGD.out _ (List.mem_of_getElem? hxP))
            have hxd := HDI.out x (List.mem_of_getElem? hxm)
            have cell : ∀ a v, w.cell? a = some v → wr.cell? a = some v := fun a v h => (HQ.out.bel.cell (World.block_lt_of_cell? w _ h)).trans h
            have q0 := cell _ _ k0
            have q1 := cell _ _ k1
            have q2 := cell _ _ k2
            have q3 := cell _ _ k3
            obtain ⟨o3, ho3⟩ : ∃ o3, o3 = o2 ++ ((ci.map toD).take j).flatMap datT := ⟨_, rfl⟩
            have hl3 : o3.length ≤ 10 + 501 * 333002 := by rw [ho3, List.length_append]; have := HL2.out j; omega
            have HNJ : Hid (o3 ++ datT (toD x) = o2 ++ ((ci.map toD).take (j + 1)).flatMap datT) := Lib.hid (by rw [take_step hxP, ho3, List.append_assoc])
            have HE5 : Hid (Enc w b w.heap.size mc o3 wr) := Lib.hid (by rw [ho3]; exact HQ.out)
            have HK5 := Lib.hid k5
            have HXG := Lib.hid hxg
            have hMlr2 : w.heap.size < wr.heap.size := blk_lt2 HQ.out.box
            clear HQ k0 k1 k2 k3 k5 hxm hxP hxg ho3 hx cell
            go_wp2_with fail
            refine (datum_calls w b o3 x.f2 x.f0 x.f1 x.f3 A3 c3 _ (HE5.out.alloc _).wr (HE5.out.alloc _).bel HK5.out k4 HXG.out.2.2 (by have := HXG.out.2.1; show o3.length + x.f2.length + 24 ≤ _; have : x.f2.length ≤ 100 := this; omega) hxd.1 hxd.2.1 hxd.2.2).mono ?_
            rintro e w5 ⟨rfl, h1, h2, h3⟩
            have HN : Hid (Enc w b w.heap.size mc (o2 ++ ((ci.map toD).take (j + 1)).flatMap datT) w5) := Lib.hid (by
              rw [← HNJ.out]
              exact (HE5.out.alloc _).step h1 h2 h3)
            clear h1 h2 h3 q0 q1 q2 q3
            go_wp2_with fail
            go_roundw
            case rel => exact ⟨j + 1, by omega, by go_num, HN⟩
            case measure => simp [RowKit.intOf]; omega
          · obtain rfl : j = ci.length := by omega
            have HN : Hid (Enc w b w.heap.size mc (P3 ++ ((conP cs).take (i + 1)).flatMap conT) wr) := Lib.hid (by
              rw [← HNX.out]
              have := HQ.out
              rwa [List.take_of_length_le (by simp)] at this)
            clear HQ
            go_wp2_with fail
            go_roundw
            case rel => exact ⟨i + 1, by omega, by go_num, HN⟩
            case measure => simp [RowKit.intOf]; omega
      · obtain rfl : i = cs.length := by omega
        obtain ⟨P4, hP4⟩ : ∃ P, P = P3 ++ (conP cs).flatMap conT := ⟨_, rfl⟩
        have hp4 : P4.length ≤ 8 + 500 * 333002 := by
          have := HL1.out cs.length
          rw [List.take_of_length_le (by omega)] at this
          rw [hP4, List.length_append]; omega
        have hE := HE.out
        rw [List.take_of_length_le (by omega), ← hP4] at hE
        have HEX := Lib.hid hE
        have HP4 := Lib.hid hP4
        have hMl4 : w.heap.size < wr.heap.size := blk_lt2 hE.box
        have hbx := hE.box
        rw [HMC.out] at hbx
        have e2 : wr.cell? ⟨w.heap.size, 2, none⟩ = some (.slice A2 fs.length c2) := by simp [World.cell?, hbx]
        have HBX := Lib.hid hbx
        clear HE hE hP4 hbx
        go_wp2_with fail
        refine (HEX.out.one (fs.length : Int) 2 (by omega) (by omega) ⟨by omega, by omega⟩).mono ?_
        rintro e w6 ⟨rfl, hE6, ho6⟩
        have hMl6 : w.heap.size < w6.heap.size := blk_lt2 hE6.box
        have hbx6 := Oth.box ho6 HBX.out hE6.ne (by decide)
        have e3 : w6.cell? ⟨w.heap.size, 2, none⟩ = some (.slice A2 fs.length c2) := by simp [World.cell?, hbx6]
        obtain ⟨P5, hP5⟩ : ∃ P, P = P4 ++ leI (fs.length : Int) 2 := ⟨_, rfl⟩
        have hp5 : P5.length ≤ 10 + 500 * 333002 := by rw [hP5, List.length_append, leI_len]; omega
        rw [← hP5] at hE6
        have HP5 := Lib.hid hP5
        have HL6 : Hid (∀ i, (((fs.map funP).take i).flatMap funT).length ≤ 200 * 20054) := Lib.hid (fun i => by
          have h1 := flatMap_len (f := funT) (K := 20054) ((fs.map funP).take i) (fun c hc => funT_len (HSM.out.fn c (List.mem_of_mem_take hc)))
          have h2 : ((fs.map funP).take i).length ≤ 200 := by rw [List.length_take]; have := HSM.out.nf; omega
          exact Nat.le_trans h1 (Nat.mul_le_mul_right _ h2))
        have H6 : Hid (Enc w b w.heap.size mc (P5 ++ ((fs.map funP).take 0).flatMap funT) w6) := Lib.hid (by simpa using hE6)
        clear hE6 ho6 hbx6 hP5 e2 HEX HBX
        go_wp2_with fail
        clear e3
        go_loopw [60] (fun v60 wr => ∃ i : Nat, i ≤ fs.length ∧ v60 = .int .i64 i ∧ Hid (Enc w b w.heap.size mc (P5 ++ ((fs.map funP).take i).flatMap funT) wr)) (fun v60 _ => fs.length - (RowKit.intOf v60).toNat)
        case atStart => exact ⟨0, Nat.zero_le _, rfl, H6⟩
        case round =>
          clear H6
          obtain ⟨i, hi2, rfl, HE⟩ := hrel
          by_cases hlt2 : i < fs.length
          · obtain ⟨ad, A1, n1, A3, n3, hA, k0, k1, k2, k3, k4, k5, k6⟩ := at_T68 HR2.out (i : Int) (by omega) (by omega)
            subst hA
            rw [Int.toNat_natCast] at k0 k1 k2
            obtain ⟨f, hfe⟩ : ∃ f, f = rd_T68 fs (i : Int) := ⟨_, rfl⟩
            have hfm : fs[i]? = some f := by rw [hfe]; unfold rd_T68; rw [Int.toNat_natCast, List.getD_eq_getElem?_getD, List.getElem?_eq_getElem hlt2]; rfl
            rw [← hfe] at k0 k1 k2 k3 k4 k5 k6
            have hfP : (fs.map funP)[i]? = some (funP f) := by simp [hfm]
            have hfs := HSM.out.fn _ (List.mem_of_getElem? hfP)
            have hf1 : f.f1.length ≤ 50 := hfs.1
            have hf2 : f.f2.length ≤ 5000 := by simpa [funP] using hfs.2
            have hfd := HF.out f (List.mem_of_getElem? hfm)
            have cell : ∀ a v, w.cell? a = some v → wr.cell? a = some v := fun a v h => (HE.out.bel.cell (World.block_lt_of_cell? w _ h)).trans h
            have q0 := cell _ _ k0
            have q1 := cell _ _ k1
            have q2 := cell _ _ k2
            obtain ⟨o1, ho1⟩ : ∃ o1, o1 = P5 ++ ((fs.map funP).take i).flatMap funT := ⟨_, rfl⟩
            have hl1 : o1.length ≤ 10 + 500 * 333002 + 200 * 20054 := by rw [ho1, List.length_append]; have := HL6.out i; omega
            have HNX : Hid (o1 ++ funT (funP f) = P5 ++ ((fs.map funP).take (i + 1)).flatMap funT) := Lib.hid (by rw [take_step hfP, ho1, List.append_assoc])
            have HE1 : Hid (Enc w b w.heap.size mc o1 wr) := Lib.hid (by rw [ho1]; exact HE.out)
            have HK4 := Lib.hid k4
            have HK6 := Lib.hid k6
            have HFD := Lib.hid hfd.2
            have hff := hfd.1
            have hMlr : w.heap.size < wr.heap.size := blk_lt2 HE.out.box
            clear HE k0 k1 k2 k4 k6 hfe hfm hfP hfs hfd cell ho1
            go_wp2_with fail
            obtain ⟨fc, hfc⟩ : ∃ fc : Array Value, fc = #[.int .i64 f.f0, .slice A1 f.f1.length n1, .slice A3 f.f2.length n3] := ⟨_, rfl⟩
            obtain ⟨W7, hW7⟩ : ∃ W7, W7 = wr.alloc (.cells fc 68) := ⟨_, rfl⟩
            have hz7 : W7.heap.size = wr.heap.size + 1 := by rw [hW7]; simp
            have hE7 := HE1.out.alloc (.cells fc 68)
            have hF7 := blk_new2 wr (.cells fc 68)
            rw [← hW7] at hE7 hF7
            have hFb : wr.heap.size ≠ b := by
              obtain ⟨_, u, h1, _⟩ := HE1.out.wr
              have := blk_lt2 h1
              omega
            have HFC := Lib.hid hfc
            have HF7 := Lib.hid hF7
            rw [← hfc, ← hW7, ← hz7]
            obtain ⟨F, hF⟩ : ∃ F, F = wr.heap.size := ⟨_, rfl⟩
            rw [← hF] at HF7 hFb ⊢
            refine (hE7.two f.f0 (f.f1.length : Int) 1 (by omega) (by omega) hff ⟨by omega, by omega⟩).mono ?_
            rintro e w8 ⟨rfl, hE8, ho8⟩
            have hF8 := Oth.box ho8 HF7.out hFb (by decide)
            obtain ⟨o2, ho2⟩ : ∃ o2, o2 = o1 ++ leI f.f0 1 ++ leI (f.f1.length : Int) 1 := ⟨_, rfl⟩
            have hl2 : o2.length ≤ 12 + 500 * 333002 + 200 * 20054 := by rw [ho2, List.length_append, List.length_append, leI_len, leI_len]; omega
            rw [← ho2] at hE8
            have HO2 := Lib.hid ho2
            have hFC8 := hF8
            rw [HFC.out] at hFC8
            have e1 : w8.cell? ⟨F, 1, none⟩ = some (.slice A1 f.f1.length n1) := by simp [World.cell?, hFC8]
            have H8 : Hid (Enc w b w.heap.size mc (o2 ++ (f.f1.take 0).flatMap freeT) w8 ∧ w8.heap[F]? = some (.cells fc 68 (0, 0))) := Lib.hid ⟨by simpa using hE8, hF8⟩
            clear hE8 ho8 hF8 hFC8 ho2 hE7 hF7 hW7 hz7 hfc q0 q1 q2 HE1 HF7 hF
            go_wp2_with fail
            clear e1
            go_loopw [75] (fun v75 wr => ∃ j : Nat, j ≤ f.f1.length ∧ v75 = .int .i64 j ∧ Hid (Enc w b w.heap.size mc (o2 ++ (f.f1.take j).flatMap freeT) wr ∧ wr.heap[F]? = some (.cells fc 68 (0, 0)))) (fun v75 _ => f.f1.length - (RowKit.intOf v75).toNat)
            case atStart => exact ⟨0, Nat.zero_le _, rfl, H8⟩
            case round =>
              clear H8
              obtain ⟨j, hj, rfl, HQ⟩ := hrel
              by_cases hjl : j < f.f1.length
              · obtain ⟨ad2, hA, k0⟩ := Kd.at_bool HK4.out (j : Int) (by omega) (by omega)
                subst hA
                rw [Int.toNat_natCast] at k0
                obtain ⟨y, hy⟩ : ∃ y, y = rdOf false f.f1 (j : Int) := ⟨_, rfl⟩
                have hym : f.f1[j]? = some y := by rw [hy]; unfold rdOf; rw [Int.toNat_natCast, List.getD_eq_getElem?_getD, List.getElem?_eq_getElem hjl]; rfl
                rw [← hy] at k0
                have cc : wr.cell? (ad2.add j) = some (.bool y) := (HQ.out.1.bel.cell (World.block_lt_of_cell? w _ k0)).trans k0
                obtain ⟨o3, ho3⟩ : ∃ o3, o3 = o2 ++ (f.f1.take j).flatMap freeT := ⟨_, rfl⟩
                have hl3 : o3.length ≤ 62 + 500 * 333002 + 200 * 20054 := by
                  have := flatMap_len (f := freeT) (K := 1) (f.f1.take j) (fun d _ => by unfold freeT; rw [leI_len]; omega)
                  rw [List.length_take] at this
                  rw [ho3, List.length_append]; omega
                have HNJ : Hid (o3 ++ freeT y = o2 ++ (f.f1.take (j + 1)).flatMap freeT) := Lib.hid (by rw [take_step hym, ho3, List.append_assoc])
                have HE9 : Hid (Enc w b w.heap.size mc o3 wr ∧ wr.heap[F]? = some (.cells fc 68 (0, 0))) := Lib.hid (by rw [ho3]; exact HQ.out)
                clear HQ k0 hy hym ho3
                cases y with
                | true =>
                  go_wp2_with fail
                  refine (HE9.out.1.one 1 1 (by omega) (by omega) ⟨by omega, by omega⟩).mono ?_
                  rintro e w9 ⟨rfl, hE, ho⟩
                  have HN : Hid (Enc w b w.heap.size mc (o2 ++ (f.f1.take (j + 1)).flatMap freeT) w9 ∧ w9.heap[F]? = some (.cells fc 68 (0, 0))) := Lib.hid ⟨by rw [← HNJ.out]; exact hE, Oth.box ho HE9.out.2 hFb (by decide)⟩
                  clear hE ho cc
                  go_wp2_with fail
                  go_roundw
                  case rel => exact ⟨j + 1, by omega, by go_num, HN⟩
                  case measure => simp [RowKit.intOf]; omega
                | false =>
                  go_wp2_with fail
                  refine (HE9.out.1.one 0 1 (by omega) (by omega) ⟨by omega, by omega⟩).mono ?_
                  rintro e w9 ⟨rfl, hE, ho⟩
                  have HN : Hid (Enc w b w.heap.size mc (o2 ++ (f.f1.take (j + 1)).flatMap freeT) w9 ∧ w9.heap[F]? = some (.cells fc 68 (0, 0))) := Lib.hid ⟨by rw [← HNJ.out]; exact hE, Oth.box ho HE9.out.2 hFb (by decide)⟩
                  clear hE ho cc
                  go_wp2_with fail
                  go_roundw
                  case rel => exact ⟨j + 1, by omega, by go_num, HN⟩
                  case measure => simp [RowKit.intOf]; omega
              · obtain rfl : j = f.f1.length := by omega
                have hQ := HQ.out
                rw [List.take_of_length_le (Nat.le_refl _)] at hQ
                obtain ⟨o4, ho4⟩ : ∃ o4, o4 = o2 ++ f.f1.flatMap freeT := ⟨_, rfl⟩
                have hl4 : o4.length ≤ 62 + 500 * 333002 + 200 * 20054 := by
                  have := flatMap_len (f := freeT) (K := 1) f.f1 (fun d _ => by unfold freeT; rw [leI_len]; omega)
                  rw [ho4, List.length_append]; omega
                rw [← ho4] at hQ
                have HO4 := Lib.hid ho4
                have HQ4 := Lib.hid hQ
                have hFC := hQ.2
                rw [HFC.out] at hFC
                have e2 : wr.cell? ⟨F, 2, none⟩ = some (.slice A3 f.f2.length n3) := by simp [World.cell?, hFC]
                have hFl : F < wr.heap.size := blk_lt2 hFC
                clear HQ hQ ho4 hFC
                go_wp2_with fail
                refine (HQ4.out.1.one (f.f2.length : Int) 2 (by omega) (by omega) ⟨by omega, by omega⟩).mono ?_
                rintro e w9 ⟨rfl, hE9, ho9⟩
                have hF9 := Oth.box ho9 HQ4.out.2 hFb (by decide)
                have hFC9 := hF9
                rw [HFC.out] at hFC9
                have e3 : w9.cell? ⟨F, 2, none⟩ = some (.slice A3 f.f2.length n3) := by simp [World.cell?, hFC9]
                obtain ⟨o5, ho5⟩ : ∃ o5, o5 = o4 ++ leI (f.f2.length : Int) 2 := ⟨_, rfl⟩
                have hl5 : o5.length ≤ 64 + 500 * 333002 + 200 * 20054 := by rw [ho5, List.length_append, leI_len]; omega
                rw [← ho5] at hE9
                have HNXT : Hid (o5 ++ (f.f2.map insP).flatMap insT = P5 ++ ((fs.map funP).take (i + 1)).flatMap funT) := Lib.hid (by
                  rw [← HNX.out, ho5, HO4.out, HO2.out]; unfold funT funP; simp)
                have H9 : Hid (Enc w b w.heap.size mc (o5 ++ ((f.f2.map insP).take 0).flatMap insT) w9) := Lib.hid (by simpa using hE9)
                clear hE9 ho9 hF9 hFC9 ho5 e2
                go_wp2_with fail
                clear e3
                go_loopw [96] (fun v96 wr => ∃ j : Nat, j ≤ f.f2.length ∧ v96 = .int .i64 j ∧ Hid (Enc w b w.heap.size mc (o5 ++ ((f.f2.map insP).take j).flatMap insT) wr)) (fun v96 _ => f.f2.length - (RowKit.intOf v96).toNat)
                case atStart => exact ⟨0, Nat.zero_le _, rfl, H9⟩
                case round =>
                  clear H9
                  obtain ⟨j, hj9, rfl, HQ⟩ := hrel
                  by_cases hjl9 : j < f.f2.length
                  · obtain ⟨ad3, hA, k0, k1, k2⟩ := at_T71 HK6.out (j : Int) (by omega) (by omega)
                    subst hA
                    rw [Int.toNat_natCast] at k0 k1 k2
                    obtain ⟨y, hy⟩ : ∃ y, y = rd_T71 f.f2 (j : Int) := ⟨_, rfl⟩
                    have hym : f.f2[j]? = some y := by rw [hy]; unfold rd_T71; rw [Int.toNat_natCast, List.getD_eq_getElem?_getD, List.getElem?_eq_getElem hjl9]; rfl
                    rw [← hy] at k0 k1 k2
                    have hyP : (f.f2.map insP)[j]? = some (insP y) := by simp [hym]
                    obtain ⟨y0, y1, y2⟩ := HFD.out y (List.mem_of_getElem? hym)
                    have cell : ∀ a v, w.cell? a = some v → wr.cell? a = some v := fun a v h => (HQ.out.bel.cell (World.block_lt_of_cell? w _ h)).trans h
                    have q0 := cell _ _ k0
                    have q1 := cell _ _ k1
                    have q2 := cell _ _ k2
                    obtain ⟨o6, ho6⟩ : ∃ o6, o6 = o5 ++ ((f.f2.map insP).take j).flatMap insT := ⟨_, rfl⟩
                    have hl6 : o6.length ≤ 20064 + 500 * 333002 + 200 * 20054 := by
                      have h1 := flatMap_len (f := insT) (K := 4) ((f.f2.map insP).take j) (fun d _ => by unfold insT; rw [List.length_append, List.length_append, leI_len, leI_len, leI_len]; omega)
                      rw [List.length_take, List.length_map] at h1
                      rw [ho6, List.length_append]; omega
                    have HNJ : Hid (o6 ++ leI y.f0 1 ++ leI y.f1 2 ++ leI y.f2 1 = o5 ++ ((f.f2.map insP).take (j + 1)).flatMap insT) := Lib.hid (by rw [take_step hyP, ho6]; unfold insT insP; simp)
                    have HE6 : Hid (Enc w b w.heap.size mc o6 wr) := Lib.hid (by rw [ho6]; exact HQ.out)
                    clear HQ k0 k1 k2 hy hym hyP cell ho6
                    go_wp2_with fail
                    obtain ⟨ic, hic⟩ : ∃ ic : Array Value, ic = #[.int .i64 y.f0, .int .i64 y.f1, .int .i64 y.f2] := ⟨_, rfl⟩
                    obtain ⟨W7, hW7⟩ : ∃ W7, W7 = wr.alloc (.cells ic 71) := ⟨_, rfl⟩
                    have hz7 : W7.heap.size = wr.heap.size + 1 := by rw [hW7]; simp
                    have hE7 := HE6.out.alloc (.cells ic 71)
                    have hI7 := blk_new2 wr (.cells ic 71)
                    rw [← hW7] at hE7 hI7
                    have hIb : wr.heap.size ≠ b := by
                      obtain ⟨_, u, h1, _⟩ := HE6.out.wr
                      have := blk_lt2 h1
                      omega
                    have HIC := Lib.hid hic
                    rw [← hic, ← hW7, ← hz7]
                    obtain ⟨I, hI⟩ : ∃ I, I = wr.heap.size := ⟨_, rfl⟩
                    rw [← hI] at hI7 hIb ⊢
                    have HI7 := Lib.hid hI7
                    refine (hE7.one y.f0 1 (by omega) (by omega) y0).mono ?_
                    rintro e wa ⟨rfl, hEa, hoa⟩
                    have HEA := Lib.hid hEa
                    have hIa := Oth.box hoa HI7.out hIb (by decide)
                    have HIA := Lib.hid hIa
                    rw [HIC.out] at hIa
                    have e1 : wa.cell? ⟨I, 1, none⟩ = some (.int .i64 y.f1) := by simp [World.cell?, hIa]
                    have hIl : I < wa.heap.size := blk_lt2 hIa
                    clear hEa hoa hIa hE7 hI7 hW7 hz7 hic hI q0 q1 q2 HI7
                    go_wp2_with fail
                    refine (HEA.out.one y.f1 2 (by omega) (by rw [List.length_append, leI_len]; omega) y1).mono ?_
                    rintro e wb ⟨rfl, hEb, hob⟩
                    have HEB := Lib.hid hEb
                    have hIb2 := Oth.box hob HIA.out hIb (by decide)
                    rw [HIC.out] at hIb2
                    have e2 : wb.cell? ⟨I, 2, none⟩ = some (.int .i64 y.f2) := by simp [World.cell?, hIb2]
                    have hIl2 : I < wb.heap.size := blk_lt2 hIb2
                    clear hEb hob hIb2 e1 HEA HIA
                    go_wp2_with fail
                    refine (HEB.out.one y.f2 1 (by omega) (by rw [List.length_append, List.length_append, leI_len, leI_len]; omega) y2).mono ?_
                    rintro e wc ⟨rfl, hEc, _⟩
                    have HN : Hid (Enc w b w.heap.size mc (o5 ++ ((f.f2.map insP).take (j + 1)).flatMap insT) wc) := Lib.hid (by rw [← HNJ.out]; exact hEc)
                    clear hEc e2 HEB
                    go_wp2_with fail
                    go_roundw
                    case rel => exact ⟨j + 1, by omega, by go_num, HN⟩
                    case measure => simp [RowKit.intOf]; omega
                  · obtain rfl : j = f.f2.length := by omega
                    have HN : Hid (Enc w b w.heap.size mc (P5 ++ ((fs.map funP).take (i + 1)).flatMap funT) wr) := Lib.hid (by
                      rw [← HNXT.out]
                      have := HQ.out
                      rwa [List.take_of_length_le (by simp)] at this)
                    clear HQ
                    go_wp2_with fail
                    go_roundw
                    case rel => exact ⟨i + 1, by omega, by go_num, HN⟩
                    case measure => simp [RowKit.intOf]; omega
          · obtain rfl : i = fs.length := by omega
            have hE := HE.out
            rw [List.take_of_length_le (by simp)] at hE
            obtain ⟨BD, hBD⟩ : ∃ B, B = P5 ++ (fs.map funP).flatMap funT := ⟨_, rfl⟩
            have hbl : BD.length ≤ 10 + 500 * 333002 + 200 * 20054 := by
              have := HL6.out fs.length
              rw [List.take_of_length_le (by simp)] at this
              rw [hBD, List.length_append]; omega
            rw [← hBD] at hE
            have HBD : Hid (BD = bodyT (conP cs) g (fs.map funP)) := Lib.hid (by
              rw [hBD, HP5.out, HP4.out, HP3.out]; unfold bodyT; simp [conP])
            obtain ⟨ao, cap, hB, hbk, hown, hne⟩ := wrt_form hE.wr
            have e0 : wr.cell? ⟨b, 0, none⟩ = some (.slice ao BD.length cap) := by simp [World.cell?, hbk]
            have HOC := Lib.hid (own_C (row_own hown)).2
            have hby : ∀ x ∈ BD, 0 ≤ x ∧ x < 256 := by
              rw [HBD.out]
              refine body_byte HSM.out fun c hc d hd b hb => ?_
              obtain ⟨c', hc', rfl⟩ := List.mem_map.1 hc
              obtain ⟨x, hx, rfl⟩ := List.mem_map.1 hd
              exact ((HM.out.con c' hc').byt x hx).1 b hb
            have HBY := Lib.hid hby
            have HEL := Lib.hid hE
            obtain ⟨K, hK⟩ : ∃ K, K = crcI BD := ⟨_, rfl⟩
            have hK0 : 0 ≤ K := by rw [hK]; exact (crcI_in BD).1
            have hK1 : K < 4294967296 := by rw [hK]; exact (crcI_in BD).2
            have HK := Lib.hid hK
            clear hK HE hE hBD hown hbk hne hby
            go_wp2_with fail
            refine (crc_calls ao cap BD wr HOC.out.2 HOC.out.1 HBY.out).mono ?_
            rw [← HK.out]
            rintro e wa ⟨rfl, hba⟩
            have HEA : Hid (Enc w b w.heap.size mc BD wa) := Lib.hid (by
              obtain ⟨⟨q1, v, q2, q3, q4⟩, q5, q6, q7⟩ := HEL.out
              exact ⟨⟨q1, v, blk_below q2 hba, q3.kept (row := none) ⟨hba.os, hba.tape, hba.output, hba.size, fun k hk _ => hba.block k hk⟩ (by cases v.ownBlock <;> simp), q4⟩, q5.trans (hba.mono q5.size), blk_below q6 hba, q7⟩)
            clear hba e0
            go_wp2_with fail
            refine (HEA.out.one K 4 (by omega) (by omega) ⟨by omega, by omega⟩).mono ?_
            rintro e wb ⟨rfl, hEb, _⟩
            obtain ⟨ao2, cap2, hB2, hbk2, hown2, hne2⟩ := wrt_form hEb.wr
            have e5 : wb.cell? ⟨b, 0, none⟩ = some (.slice ao2 (BD ++ leI K 4).length cap2) := by simp [World.cell?, hbk2]
            have HR := Lib.hid (row_own hown2)
            have HBE := Lib.hid hEb.bel
            obtain ⟨n2, hn2⟩ : ∃ n2, n2 = (BD ++ leI K 4).length := ⟨_, rfl⟩
            rw [← hn2] at e5 HR
            have HFE : Hid (BD ++ leI K 4 = FIN) := Lib.hid (by rw [HV.out]; unfold imageT; rw [← HBD.out, ← HK.out])
            clear hEb hbk2 hown2 hne2 hn2
            go_wp2_with fail
            go_ret
            rw [← HFE.out]
            exact ⟨_, rfl, HR.out, HBE.out⟩
end Go.Proofs.YtogmphjhdkgdjaaDoor
/- The specification's writer of numbers. -/
namespace Go.Proofs.YtogmphjhdkgdjaaDoor
open Go.RowKit Go.Proofs.YtogmphjhdkgdjaaDoorW.PrintWords Go.Proofs.YtogmphjhdkgdjaaDoor.QFnExactValidModule
set_option linter.unusedVariables false
set_option linter.unusedSimpArgs false
theorem leI_mod (v : Int) (n : Nat) (hn : n ≤ 8) : leI (v % 18446744073709551616) n = leI v n := by
  have h : n = 0 ∨ n = 1 ∨ n = 2 ∨ n = 3 ∨ n = 4 ∨ n = 5 ∨ n = 6 ∨ n = 7 ∨ n = 8 := by omega
  rcases h with rfl | rfl | rfl | rfl | rfl | rfl | rfl | rfl | rfl
  all_goals simp only [leI, List.cons.injEq, and_true]
  all_goals omega
/-- A row of bytes of the call's own. -/
def RowB (B : Nat) (o : List Int) (w : World) (v : Value) : Prop := w.ownsRow B 5 1 v o.length (cel o)
theorem RowB.form {B : Nat} {o : List Int} {w : World} {v : Value} (h : RowB B o w v) : ∃ ao cap, v = .slice ao o.length cap := by
  rcases h.2 with ⟨rfl, h0⟩ | ⟨g, cap, cur, rfl, _⟩
  · exact ⟨none, 0, by rw [h0]⟩
  · exact ⟨_, cap, rfl⟩
set_option maxHeartbeats 4000000 in
set_option maxRecDepth 100000 in
theorem little_calls (v : Int) (n : Nat) (w : World) (hn : n ≤ 8) (hv : I64 v) :
    Calls Tryd.prog 80 #[.int .i64 v, .int .i64 n] w fun e w' => ∃ r, e = .returned r ∧ RowB w.heap.size (leI v n) w' r ∧ Below w.heap.size w w' := by
  obtain ⟨FIN, hF⟩ : ∃ F, F = leI v n := ⟨_, rfl⟩
  rw [← hF]
  have hfl : FIN.length ≤ 8 := by rw [hF, leI_len]; exact hn
  have hum : IntKind.u64.wrap v = v % 18446744073709551616 := by first | rfl | (unfold IntKind.wrap; rfl) | (simp [IntKind.wrap, IntKind.bits, IntKind.signed])
  obtain ⟨u0, hu0⟩ : ∃ u, u = v % 18446744073709551616 := ⟨_, rfl⟩
  have H0 : Hid (∃ q u, Value.int .u64 u0 = .int .u64 u ∧ 0 ≤ u ∧ u < 18446744073709551616 ∧ q ++ leI u (n - 0) = FIN ∧ RowB w.heap.size q w (.slice none 0 0) ∧ Below w.heap.size w w) := Lib.hid ⟨[], u0, rfl, by omega, by omega, by rw [hu0, Nat.sub_zero, leI_mod v n hn, hF]; rfl, World.ownsRow_nil _ _ _ _, Below.refl _ _⟩
  rw [← hu0] at hum
  clear hF hu0
  go_enter Tryd.func80, Tryd.ntmps80
  go_wp2
  go_loopw [5, 6, 7] (fun v5 v6 v7 wr => ∃ i : Nat, i ≤ n ∧ v7 = .int .i64 i ∧ Hid (∃ q u, v5 = .int .u64 u ∧ 0 ≤ u ∧ u < 18446744073709551616 ∧ q ++ leI u (n - i) = FIN ∧ RowB w.heap.size q wr v6 ∧ Below w.heap.size w wr)) (fun _ _ v7 _ => n - (RowKit.intOf v7).toNat)
  case atStart => exact ⟨0, Nat.zero_le _, rfl, H0⟩
  case round =>
    clear H0
    obtain ⟨i, hi, rfl, HQ⟩ := hrel
    obtain ⟨q, u, rfl, hu0, hu1, hq, hr, hb⟩ := HQ.out
    clear HQ
    obtain ⟨ao, cap, rfl⟩ := hr.form
    by_cases hlt : i < n
    · obtain ⟨d, hd⟩ : ∃ d, n - i = d + 1 := ⟨n - i - 1, by omega⟩
      rw [hd, leI] at hq
      have hql : q.length + 1 ≤ FIN.length := by rw [← hq]; simp
      have HR := Lib.hid hr
      have HB := Lib.hid hb
      have HQE := Lib.hid hq
      have hz := hb.size
      clear hr hb hq
      go_wp2_with (at_builtin; refine app_one rfl _ _ rfl rfl rfl HR.out hz (by omega) ?_; intro v1 w1 HO1 HG1)
      have hr1 : RowB w.heap.size (q ++ [u % 256]) w1 v1 := HO1.out
      obtain ⟨ao1, cap1, rfl⟩ := hr1.form
      have HN : Hid (∃ q' u', Value.int .u64 (u / 256) = .int .u64 u' ∧ 0 ≤ u' ∧ u' < 18446744073709551616 ∧ q' ++ leI u' (n - (i + 1)) = FIN ∧ RowB w.heap.size q' w1 (.slice ao1 (q ++ [u % 256]).length cap1) ∧ Below w.heap.size w w1) := Lib.hid
        ⟨q ++ [u % 256], u / 256, rfl, by omega, by omega, by rw [show n - (i + 1) = d by omega, ← HQE.out]; simp, hr1, HB.out.grown HG1.out hz (fun k hk => (HR.out.lt k hk).1)⟩
      obtain ⟨n1, hn1⟩ : ∃ n1, n1 = (q ++ [u % 256]).length := ⟨_, rfl⟩
      rw [← hn1] at HN ⊢
      clear hr1 hn1
      refine Lib.hid ?_
      go_wp2
      go_roundw
      case rel => exact ⟨i + 1, by omega, by go_num, HN⟩
      case measure => simp [RowKit.intOf]; omega
    · obtain rfl : i = n := by omega
      rw [Nat.sub_self] at hq
      have HR := Lib.hid hr
      have HB := Lib.hid hb
      have HQE : Hid (q = FIN) := Lib.hid (by rw [← hq]; simp [leI])
      clear hr hb hq
      go_wp2
      go_ret
      rw [← HQE.out]
      exact ⟨_, rfl, HR.out, HB.out⟩
section
variable {ops : Array Oper} {rest : List Oper} {o : Oper} {a : Act} {Q : Exit → Act → World → Prop}
/-- A row of bytes, not empty, appended to a row of the call's own. -/
theorem app_rows {B : Nat} {out t : List Int} {W : World} {v : Value} {A : Option Addr} {c : Nat} (hgd : o.guard = none) (sl x : Operand) (ho : o.op = .call { callee := .builtin .append, args := #[sl, x], argTypes := #[42, 42] }) (hs : a.eval sl = v) (hx : a.eval x = .slice A t.length c)
    (H : RowB B out W v) (hr : Kd.C (Kd.int .u8) W A t.length t) (hp : 0 < t.length) (hB : B ≤ W.heap.size) (hl : out.length + t.length ≤ 140737488355328)
    (h : ∀ (v1 : Value) (w1 : World), Hid (RowB B (out ++ t) w1 v1) → Hid (W.grownBy w1 v.ownBlock) → Hid (wpList Tryd.prog ops Q rest (a.put o.dst v1) w1)) : wpList Tryd.prog ops Q (o :: rest) a W := by
  obtain ⟨i0, hi, hz0, hz1, hz2⟩ := info_parts byteInfo
  obtain ⟨ad, hA, _⟩ := at_byte hr 0 hp
  subst hA
  refine wpList_append_own_at W hgd sl x 42 ho B 5 i0 (.int .u8 0) 1 1 Tryd.underlying42 hi hz0 hz1 hz2 rfl (by omega) v out.length (cel out) hs H ad t.length c (cel t) hx (by simp [cel]) (fun j u hj => ?_) (by simp [cel, Value.oneCell']) (by unfold maxLen; omega) (by omega) hB ?_
  · obtain ⟨y, hy, rfl⟩ : ∃ y, t[j]? = some y ∧ Value.int .u8 y = u := by simpa [cel] using hj
    obtain ⟨ad', e1, e2⟩ := at_byte hr j (List.getElem?_eq_some_iff.1 hy).1
    cases e1
    rw [List.getD_eq_getElem?_getD, hy] at e2
    exact e2
  · intro v1 w1 h1 h2 _ _
    exact (h v1 w1 (Lib.hid (by unfold RowB; rw [cel_append, List.length_append]; exact h1)) (Lib.hid h2)).out
end
theorem RowB.C {B : Nat} {o : List Int} {w : World} {A : Option Addr} {n c : Nat} (h : RowB B o w (.slice A n c)) : n = o.length ∧ o.length ≤ c ∧ Kd.C (Kd.int .u8) w A o.length o := by
  obtain ⟨ao, cap, e⟩ := h.form
  cases e
  exact own_C (row_own h)
theorem RowB.below {B : Nat} {o : List Int} {w w' : World} {v : Value} (h : RowB B o w v) (hb : Below w.heap.size w w') : RowB B o w' v :=
  h.kept (row := none) ⟨hb.os, hb.tape, hb.output, hb.size, fun k hk _ => hb.block k hk⟩ (by cases v.ownBlock <;> simp)
end Go.Proofs.YtogmphjhdkgdjaaDoor
/- The specification's datum of an image. -/
namespace Go.Proofs.YtogmphjhdkgdjaaDoor
open Go.RowKit Go.Proofs.YtogmphjhdkgdjaaDoorW.PrintWords Go.Proofs.YtogmphjhdkgdjaaDoor.QFnExactValidModule
set_option linter.unusedVariables false
set_option linter.unusedSimpArgs false
theorem row_one (B : Nat) (y : Int) (w : World) (hB : B ≤ w.heap.size) : RowB B [y] (w.alloc (.cells #[.int .u8 y] 5)) (.slice (some ⟨w.heap.size, 0, none⟩) 1 1) :=
  ⟨by simp [cel], .inr ⟨w.heap.size, 1, _, rfl, hB, blk_new2 w _, Nat.le_refl _, by unfold maxLen; omega, by simp, by simp [cel]⟩⟩
set_option maxHeartbeats 4000000 in
set_option maxRecDepth 100000 in
theorem datumS_calls (t : List Int) (k n cn : Int) (A : Option Addr) (c : Nat) (w : World) (hr : Kd.C (Kd.int .u8) w A t.length t) (hc : t.length ≤ c) (hpos : k = 2 → 0 < t.length) (hlen : t.length ≤ 1000000) (hk : I64 k) (hn : I64 n) (hcn : I64 cn) :
    Calls Tryd.prog 81 #[.agg #[.int .i64 k, .int .i64 n, .slice A t.length c, .int .i64 cn]] w fun e w' => ∃ r, e = .returned r ∧ RowB w.heap.size (datT ⟨k, n, t, cn⟩) w' r ∧ Below w.heap.size w w' := by
  have HR := Lib.hid hr
  have hu := Tryd.underlying57
  obtain ⟨W, hW⟩ : ∃ W, W = (w.alloc (.cells #[.int .i64 k, .int .i64 n, .slice A t.length c, .int .i64 cn] 57)).alloc (.cells #[.int .u8 (k % 256)] 5) := ⟨_, rfl⟩
  have hbW : Below w.heap.size w W := by rw [hW]; exact ((Below.refl _ _).alloc (Nat.le_refl _) _).alloc (by simp) _
  have hD : W.heap[w.heap.size]? = some (.cells #[.int .i64 k, .int .i64 n, .slice A t.length c, .int .i64 cn] 57 (0, 0)) := by rw [hW]; exact blk_old2 (blk_new2 _ _) _
  have hR1 : RowB w.heap.size [k % 256] W (.slice (some ⟨w.heap.size + 1, 0, none⟩) 1 1) := by
    have := row_one w.heap.size (k % 256) (w.alloc (.cells #[.int .i64 k, .int .i64 n, .slice A t.length c, .int .i64 cn] 57)) (by simp)
    rw [hW]
    simpa using this
  have HBW := Lib.hid hbW
  have HR1 := Lib.hid hR1
  have hzW : w.heap.size ≤ W.heap.size := hbW.size
  have c0 : W.cell? ⟨w.heap.size, 0, none⟩ = some (.int .i64 k) := by simp [World.cell?, hD]
  have c1 : W.cell? ⟨w.heap.size, 1, none⟩ = some (.int .i64 n) := by simp [World.cell?, hD]
  have c2 : W.cell? ⟨w.heap.size, 2, none⟩ = some (.slice A t.length c) := by simp [World.cell?, hD]
  have c3 : W.cell? ⟨w.heap.size, 3, none⟩ = some (.int .i64 cn) := by simp [World.cell?, hD]
  clear hr hbW hD hR1
  go_enter Tryd.func81, Tryd.ntmps81
  by_cases k0 : k = 0
  · have HT : Hid (datT ⟨k, n, t, cn⟩ = [k % 256] ++ leI n 8) := Lib.hid (by unfold datT; simp only [if_pos k0]; rfl)
    have K0 := Lib.hid k0
    subst k0
    have hW0 : W = (w.alloc (.cells #[.int .i64 0, .int .i64 n, .slice A t.length c, .int .i64 cn] 57)).alloc (.cells #[.int .u8 0] 5) := hW
    go_wp2_with fail
    rw [← hW0]
    refine (little_calls n 8 W (by omega) hn).mono ?_
    rintro e w2 ⟨r, rfl, hr2, hb2⟩
    obtain ⟨ao, cap, rfl⟩ := hr2.form
    have HB2 : Hid (Below w.heap.size w w2) := Lib.hid (HBW.out.trans (hb2.mono hzW))
    have HR2 := Lib.hid (HR1.out.below hb2)
    have HC2 := Lib.hid hr2.C
    have hz2 := HB2.out.size
    have hl2 : (leI n 8).length = 8 := leI_len _ _
    clear hr2 hb2 hW hW0 c0 c1 c2 c3
    go_wp2_with (at_builtin; refine app_rows rfl _ _ rfl rfl rfl HR2.out HC2.out.2.2 (by omega) hz2 (by simp [leI_len]) ?_; intro v1 w3 HO1 HG1)
    obtain ⟨ao1, cap1, rfl⟩ := HO1.out.form
    have HB3 : Hid (Below w.heap.size w w3) := Lib.hid (HB2.out.grown HG1.out hz2 (fun k hk => (HR2.out.lt k hk).1))
    refine Lib.hid ?_
    go_wp2_with fail
    go_ret
    rw [HT.out]
    exact ⟨_, rfl, HO1.out, HB3.out⟩
  by_cases k1 : k = 1
  · have HT : Hid (datT ⟨k, n, t, cn⟩ = [k % 256] ++ [n % 256]) := Lib.hid (by unfold datT; simp only [if_neg k0, if_pos k1]; rfl)
    subst k1
    have hW0 : W = (w.alloc (.cells #[.int .i64 1, .int .i64 n, .slice A t.length c, .int .i64 cn] 57)).alloc (.cells #[.int .u8 1] 5) := hW
    have hsz : ((w.alloc (.cells #[.int .i64 1, .int .i64 n, .slice A t.length c, .int .i64 cn] 57)).alloc (.cells #[.int .u8 1] 5)).heap.size = w.heap.size + 1 + 1 := by simp
    have HR3 : Hid (RowB w.heap.size [1] ((w.alloc (.cells #[.int .i64 1, .int .i64 n, .slice A t.length c, .int .i64 cn] 57)).alloc (.cells #[.int .u8 1] 5)) (.slice (some ⟨w.heap.size + 1, 0, none⟩) 1 1)) := Lib.hid (by rw [← hW0]; exact HR1.out)
    have HB3 : Hid (Below w.heap.size w ((w.alloc (.cells #[.int .i64 1, .int .i64 n, .slice A t.length c, .int .i64 cn] 57)).alloc (.cells #[.int .u8 1] 5))) := Lib.hid (by rw [← hW0]; exact HBW.out)
    have HSZ := Lib.hid hsz
    clear hW hW0 hsz c0 c1 c2 c3 HR1 HBW
    go_wp2_with (at_builtin; refine app_one rfl _ _ rfl rfl (by rw [HSZ.out]; rfl) HR3.out HB3.out.size (by simp) ?_; intro v1 w3 HO1 HG1)
    have hr1 : RowB w.heap.size ([1] ++ [n % 256]) w3 v1 := HO1.out
    obtain ⟨ao1, cap1, rfl⟩ := hr1.form
    have HB4 : Hid (Below w.heap.size w w3) := Lib.hid (HB3.out.grown HG1.out HB3.out.size (fun k hk => (HR3.out.lt k hk).1))
    refine Lib.hid ?_
    go_wp2_with fail
    go_ret
    rw [HT.out]
    exact ⟨_, rfl, hr1, HB4.out⟩
  by_cases k2 : k = 2
  · have htp := hpos k2
    have HT : Hid (datT ⟨k, n, t, cn⟩ = [k % 256] ++ [(t.length : Int) % 256] ++ t) := Lib.hid (by unfold datT; simp only [if_neg k0, if_neg k1, if_pos k2]; simp [leI])
    have d0 : decide (k = 0) = false := decide_eq_false k0
    have d1 : decide (k = 1) = false := decide_eq_false k1
    have d2 : decide (k = 2) = true := decide_eq_true k2
    obtain ⟨i0, hi, hz0, hzz1, hzz2⟩ := info_parts byteInfo
    have hC2 := Kd.C_below HR.out HBW.out
    obtain ⟨ad, hA, _⟩ := at_byte hC2 0 htp
    subst hA
    have HNW : Hid (∀ W', Below w.heap.size w W' → ∀ (j : Nat) (u : Value), (cel t)[j]? = some u → W'.cell? (ad.add j) = some u) := Lib.hid (fun W' hb j u hj => by
      obtain ⟨y, hy, rfl⟩ : ∃ y, t[j]? = some y ∧ Value.int .u8 y = u := by simpa [cel] using hj
      obtain ⟨ad', e1, e2⟩ := at_byte (Kd.C_below HR.out hb) j (List.getElem?_eq_some_iff.1 hy).1
      cases e1
      rw [List.getD_eq_getElem?_getD, hy] at e2
      exact e2)
    have HW0 : Hid (W.heap[w.heap.size]? = some (.cells #[.int .i64 k, .int .i64 n, .slice (some ad) t.length c, .int .i64 cn] 57 (0, 0)) ∧ W.heap.size = w.heap.size + 1 + 1) := Lib.hid (by rw [hW]; exact ⟨blk_old2 (blk_new2 _ _) _, by simp⟩)
    have hzl : w.heap.size < W.heap.size := by rw [HW0.out.2]; omega
    have HN1 : Hid (∀ (y : Int) (j : Nat) (u : Value), (cel [y])[j]? = some u → (W.drew.alloc (.cells #[.int .u8 y] 5)).cell? ((⟨W.heap.size, 0, none⟩ : Addr).add j) = some u) := Lib.hid (fun y => World.news_of_block (cs := #[.int .u8 y]) (t := 5) (fr := (0, 0)) (heap_alloc_new W.drew (.cells #[.int .u8 y] 5)))
    have HG : Hid (∀ (y : Int) w1, (W.drew.alloc (.cells #[.int .u8 y] 5)).grownBy w1 (Value.slice (some ⟨w.heap.size + 1, 0, none⟩) 1 1).ownBlock → Below w.heap.size w w1 ∧ w1.cell? ⟨w.heap.size, 2, none⟩ = some (.slice (some ad) t.length c) ∧ w.heap.size < w1.heap.size) := Lib.hid (fun y w1 hg => by
      have h1 := hg.block w.heap.size (by simp [HW0.out.2]; omega) (by simp [Value.ownBlock])
      rw [Below.heap_alloc _ _ _ (by simp [HW0.out.2]; omega)] at h1
      have h2 : w1.heap[w.heap.size]? = _ := h1.trans HW0.out.1
      exact ⟨(HBW.out.drew.alloc hzW _).grown hg (by simp; omega) (fun k hk => by simp [Value.ownBlock] at hk; omega), by simp [World.cell?, h2], blk_lt2 h2⟩)
    subst k2
    have hW2 : W = (w.alloc (.cells #[.int .i64 2, .int .i64 n, .slice (some ad) t.length c, .int .i64 cn] 57)).alloc (.cells #[.int .u8 2] 5) := hW
    go_wp2_with fail
    rw [← hW2]
    clear hW hW2
    go_region_law
      (first
        | (refine step_append_lies _ (by rfl) _ _ _ (by rfl) w.heap.size 5 i0 _ 1 1 Tryd.underlying42 hi hz0 hzz1 hzz2 rfl (by omega) (.slice (some ⟨w.heap.size + 1, 0, none⟩) 1 1) 1 (cel [2]) (by rfl) ((HR1.out.drew).alloc _)
            ⟨W.heap.size, 0, none⟩ 1 1 (cel [IntKind.u8.wrap (t.length : Int)]) (by rfl) (by simp [cel]) (fun j u hj => HN1.out _ j u hj) (by simp [cel, Value.oneCell'])
            (by omega) (by unfold maxLen; omega) (by omega) (by simp; omega) (W.heap.size + 1) (by simp) ?_; intro gg1 cap1 w1 hown1 hgrow1 hat1 hlt1; obtain ⟨q1, q2, q3⟩ := HG.out _ w1 hgrow1)
        | (refine step_append_lies _ (by rfl) _ _ _ (by rfl) w.heap.size 5 i0 _ 1 1 Tryd.underlying42 hi hz0 hzz1 hzz2 rfl (by omega) (.slice (some ⟨gg1, 0, none⟩) 2 cap1) 2 (cel [2] ++ cel [IntKind.u8.wrap (t.length : Int)]) (by rfl) hown1
            ad t.length c (cel t) (by rfl) (by simp [cel]) (fun j u hj => HNW.out w1 q1 j u hj) (by simp [cel, Value.oneCell'])
            htp (by unfold maxLen; omega) (by omega) q1.size w1.heap.size (by rfl) ?_; intro gg cap' w3 hown2 hgrow2 hat2 hlt2))
    all_goals
      have hg1 : w.heap.size ≤ gg1 := by
        rcases hat1 with h | h
        · simp [Value.ownBlock] at h; omega
        · omega
      have HB3 : Hid (Below w.heap.size w w3) := Lib.hid (q1.grown hgrow2 q1.size (fun k hk => by simp [Value.ownBlock] at hk; omega))
      have HR3 : Hid (RowB w.heap.size ([2 % 256] ++ [(t.length : Int) % 256] ++ t) w3 (.slice (some ⟨gg, 0, none⟩) (2 + t.length) cap')) := Lib.hid (by
        have e : ([2 % 256] ++ [(t.length : Int) % 256] ++ t).length = 2 + t.length := by simp; omega
        unfold RowB
        rw [e, cel_append, cel_append]
        exact hown2)
      clear hown1 hgrow1 hat1 hlt1 hown2 hgrow2 hat2 hlt2 q1 q2 hg1 hC2
      go_wp2_with fail
      go_ret
      rw [HT.out]
      exact ⟨_, rfl, HR3.out, HB3.out⟩
  · have HT : Hid (datT ⟨k, n, t, cn⟩ = [k % 256] ++ leI cn 2) := Lib.hid (by unfold datT; simp only [if_neg k0, if_neg k1, if_neg k2]; rfl)
    have d0 : decide (k = 0) = false := decide_eq_false k0
    have d1 : decide (k = 1) = false := decide_eq_false k1
    have d2 : decide (k = 2) = false := decide_eq_false k2
    go_wp2_with fail
    rw [← hW]
    refine (little_calls cn 2 W (by omega) hcn).mono ?_
    rintro e w2 ⟨r, rfl, hr2, hb2⟩
    obtain ⟨ao, cap, rfl⟩ := hr2.form
    have HB2 : Hid (Below w.heap.size w w2) := Lib.hid (HBW.out.trans (hb2.mono hzW))
    have HR2 := Lib.hid (HR1.out.below hb2)
    have HC2 := Lib.hid hr2.C
    have hz2 := HB2.out.size
    have hl2 : (leI cn 2).length = 2 := leI_len _ _
    clear hr2 hb2 hW c0 c1 c2 c3
    go_wp2_with (at_builtin; refine app_rows rfl _ _ rfl rfl rfl HR2.out HC2.out.2.2 (by omega) hz2 (by simp [leI_len]) ?_; intro v1 w3 HO1 HG1)
    obtain ⟨ao1, cap1, rfl⟩ := HO1.out.form
    have HB3 : Hid (Below w.heap.size w w3) := Lib.hid (HB2.out.grown HG1.out hz2 (fun k hk => (HR2.out.lt k hk).1))
    refine Lib.hid ?_
    go_wp2_with fail
    go_ret
    rw [HT.out]
    exact ⟨_, rfl, HO1.out, HB3.out⟩
end Go.Proofs.YtogmphjhdkgdjaaDoor
/- The specification's image: appends, and the state of the call. -/
namespace Go.Proofs.YtogmphjhdkgdjaaDoor
open Go.RowKit Go.Proofs.YtogmphjhdkgdjaaDoorW.PrintWords Go.Proofs.YtogmphjhdkgdjaaDoor.QFnExactValidModule
set_option linter.unusedVariables false
set_option linter.unusedSimpArgs false
section
variable {ops : Array Oper} {rest : List Oper} {o : Oper} {a : Act} {Q : Exit → Act → World → Prop}
theorem app_two {B : Nat} {out : List Int} {y z : Int} {W : World} {v : Value} (hgd : o.guard = none) (sl x : Operand) (ho : o.op = .call { callee := .builtin .append, args := #[sl, x], argTypes := #[42, 42] }) (hs : a.eval sl = v) (hx : a.eval x = .slice (some ⟨W.heap.size, 0, none⟩) 2 2)
    (H : W.ownsRow B 5 1 v out.length (cel out)) (hB : B ≤ W.heap.size) (hl : out.length + 2 ≤ 140737488355328)
    (h : ∀ (v1 : Value) (w1 : World), Hid (w1.ownsRow B 5 1 v1 (out ++ [y, z]).length (cel (out ++ [y, z]))) → Hid (W.grownBy w1 v.ownBlock) → Hid (wpList Tryd.prog ops Q rest (a.put o.dst v1) w1)) : wpList Tryd.prog ops Q (o :: rest) a (W.alloc (.cells #[.int .u8 y, .int .u8 z] 5)) := by
  obtain ⟨i0, hi, hz0, hz1, hz2⟩ := info_parts byteInfo
  refine wpList_append_own_at (W.alloc (.cells #[.int .u8 y, .int .u8 z] 5)) hgd sl x 42 ho B 5 i0 (.int .u8 0) 1 1 Tryd.underlying42 hi hz0 hz1 hz2 rfl (by omega) v out.length (cel out) hs (H.alloc _) ⟨W.heap.size, 0, none⟩ 2 2 (cel [y, z]) hx (by simp [cel])
    (by simpa [cel] using World.news_of_block (cs := (cel [y, z]).toArray) (t := 5) (fr := (0, 0)) (heap_alloc_new W (.cells (cel [y, z]).toArray 5))) (by simp [cel, Value.oneCell']) (by unfold maxLen; omega) (by omega) (by simp; omega) ?_
  intro v1 w1 h1 h2 _ _
  exact (h v1 w1 (Lib.hid (by rw [cel_append, List.length_append]; exact h1)) (Lib.hid (World.grownBy.trans (World.grownBy_alloc W _ _) h2))).out
/-- Onto a constant's bytes, whose row is full and marked. -/
theorem app_mark {B : Nat} {out t : List Int} {W : World} {g : Nat} {fz : Nat × Nat} {A : Option Addr} {c : Nat} (hgd : o.guard = none) (sl x : Operand) (ho : o.op = .call { callee := .builtin .append, args := #[sl, x], argTypes := #[42, 42] }) (hs : a.eval sl = .slice (some ⟨g, 0, none⟩) out.length out.length) (hx : a.eval x = .slice A t.length c)
    (hg : W.heap[g]? = some (.cells (cel out).toArray 5 fz)) (hr : Kd.C (Kd.int .u8) W A t.length t) (hp : 0 < t.length) (hB : B ≤ W.heap.size) (hl : out.length + t.length ≤ 140737488355328)
    (h : ∀ (v1 : Value) (w1 : World), Hid (RowB B (out ++ t) w1 v1) → Hid (Below W.heap.size W w1) → Hid (wpList Tryd.prog ops Q rest (a.put o.dst v1) w1)) : wpList Tryd.prog ops Q (o :: rest) a W := by
  obtain ⟨i0, hi, hz0, hz1, hz2⟩ := info_parts byteInfo
  obtain ⟨ad, hA, _⟩ := at_byte hr 0 hp
  subst hA
  refine wpList_plain hgd fun K hK => ?_
  have holds : ∀ j u, (cel out)[j]? = some u → W.cell? ((⟨g, 0, none⟩ : Addr).add j) = some u := fun j u hj => by
    rw [Go.Proofs.YtogmphjhdkgdjaaDoorW.PrintWords.add_plain]
    simpa [World.cell?, hg] using hj
  have hnews : ∀ j u, (cel t)[j]? = some u → W.cell? (ad.add j) = some u := fun j u hj => by
    obtain ⟨y, hy, rfl⟩ : ∃ y, t[j]? = some y ∧ Value.int .u8 y = u := by simpa [cel] using hj
    obtain ⟨ad', e1, e2⟩ := at_byte hr j (List.getElem?_eq_some_iff.1 hy).1
    cases e1
    rw [List.getD_eq_getElem?_getD, hy] at e2
    exact e2
  have hrun := run_append_grow (P := Tryd.prog) W 42 o.type 5 i0 (.int .u8 0) Tryd.underlying42 hi hz0 ⟨g, 0, none⟩ out.length out.length (cel out) (by rw [hz1]; simp [cel]) holds ad t.length c (cel t) (by rw [hz1]; simp [cel]) hnews (by omega) (by omega) (growslice_fits (by omega) (by rw [hz2]; omega))
  have hge := grownCap_ge W (out.length + t.length) out.length 5
  have hcm2 : grownCap W (out.length + t.length) out.length 5 ≤ maxLen := grownCap_le_maxLen W (out.length + t.length) out.length 5 (by unfold maxLen; omega)
  obtain ⟨C, hC⟩ : ∃ C, C = ((cel out).toArray ++ (cel t).toArray ++ Builtin.zeroCells (Value.int IntKind.u8 0).cells (grownCap W (out.length + t.length) out.length 5 - (out.length + t.length))) := ⟨_, rfl⟩
  rw [← hC] at hrun
  have hrow : RowB B (out ++ t) (W.drew.alloc (.cells C 5)) (.slice (some ⟨W.heap.size, 0, none⟩) (out.length + t.length) (grownCap W (out.length + t.length) out.length 5)) := by
    refine ⟨by simp [cel], .inr ⟨W.heap.size, _, C, by rw [List.length_append], hB, heap_alloc_new W.drew _, by rw [List.length_append]; exact hge, hcm2, ?_, ?_⟩⟩
    · rw [hC]
      simp only [Array.size_append, List.size_toArray, size_zeroCells]
      simp [cel, Value.cells]
      omega
    · rw [hC]
      simp only [Array.toList_append, List.append_assoc]
      rw [← List.append_assoc, ← cel_append, show (out ++ t).length * 1 = (cel (out ++ t)).length by simp [cel]]
      exact List.take_left
  unfold Oper.wp execOp
  simp only [ho, resolve, invoke, builtin, Sem.run_bind, Sem.run_pure, Result.andThen_ok, List.map_toArray, List.map_cons, List.map_nil, hs, hx, hrun]
  exact hK _ _ (h _ _ (Lib.hid hrow) (Lib.hid ((Below.refl _ W).drew.alloc (Nat.le_refl _) _))).out
end
theorem box_app {B k : Nat} {o : List Int} {w w1 : World} {v : Value} {cs : Array Value} {T : TypeId} (hk : w.heap[k]? = some (.cells cs T (0, 0))) (hT : T ≠ 5) (hr : RowB B o w v) (hg : w.grownBy w1 v.ownBlock) : w1.heap[k]? = some (.cells cs T (0, 0)) :=
  (hg.block k (blk_lt2 hk) (fun e => Lib.ownBlock_ne hr hk hT e.symm)).trans hk
/-- The state of the call: what is written, and the boxes. -/
structure Spc (w0 : World) (bx : List (Nat × Array Value × TypeId)) (o : List Int) (w : World) (v : Value) : Prop where
  row : RowB w0.heap.size o w v
  bel : Below w0.heap.size w0 w
  box : ∀ q ∈ bx, w.heap[q.1]? = some (.cells q.2.1 q.2.2 (0, 0)) ∧ q.2.2 ≠ 5
theorem Spc.below {w0 : World} {bx : List (Nat × Array Value × TypeId)} {o : List Int} {w w' : World} {v : Value} (h : Spc w0 bx o w v) (hb : Below w.heap.size w w') : Spc w0 bx o w' v :=
  ⟨h.row.below hb, h.bel.trans (hb.mono h.bel.size), fun q hq => ⟨(hb.block q.1 (blk_lt2 (h.box q hq).1)).trans (h.box q hq).1, (h.box q hq).2⟩⟩
theorem Spc.app {w0 : World} {bx : List (Nat × Array Value × TypeId)} {o o' : List Int} {w w1 : World} {v v1 : Value} (h : Spc w0 bx o w v) (h1 : RowB w0.heap.size o' w1 v1) (hg : w.grownBy w1 v.ownBlock) : Spc w0 bx o' w1 v1 :=
  ⟨h1, h.bel.grown hg h.bel.size (fun k hk => (h.row.lt k hk).1), fun q hq => ⟨box_app (h.box q hq).1 (h.box q hq).2 h.row hg, (h.box q hq).2⟩⟩
theorem Spc.cell {w0 : World} {bx : List (Nat × Array Value × TypeId)} {o : List Int} {w : World} {v : Value} (h : Spc w0 bx o w v) (k : Nat) (cs : Array Value) (T : TypeId) (hq : (k, cs, T) ∈ bx) (j : Nat) : w.cell? ⟨k, j, none⟩ = cs[j]? := by
  have := (h.box _ hq).1
  simp only at this
  simp [World.cell?, this]
theorem Spc.lt {w0 : World} {bx : List (Nat × Array Value × TypeId)} {o : List Int} {w : World} {v : Value} (h : Spc w0 bx o w v) (k : Nat) (cs : Array Value) (T : TypeId) (hq : (k, cs, T) ∈ bx) : k < w.heap.size := blk_lt2 (h.box _ hq).1
theorem Spc.cons {w0 : World} {bx : List (Nat × Array Value × TypeId)} {o : List Int} {w : World} {v : Value} (h : Spc w0 bx o w v) (cs : Array Value) (T : TypeId) (hT : T ≠ 5) : Spc w0 ((w.heap.size, cs, T) :: bx) o (w.alloc (.cells cs T)) v := by
  have h1 := h.below ((Below.refl _ w).alloc (Nat.le_refl _) (.cells cs T))
  refine ⟨h1.row, h1.bel, fun q hq => ?_⟩
  rcases List.mem_cons.1 hq with rfl | hq
  · exact ⟨blk_new2 _ _, hT⟩
  · exact h1.box q hq
theorem Spc.tail {w0 : World} {q : Nat × Array Value × TypeId} {bx : List (Nat × Array Value × TypeId)} {o : List Int} {w : World} {v : Value} (h : Spc w0 (q :: bx) o w v) : Spc w0 bx o w v := ⟨h.row, h.bel, fun p hp => h.box p (List.mem_cons_of_mem _ hp)⟩
theorem Spc.old {w0 : World} {bx : List (Nat × Array Value × TypeId)} {o : List Int} {w : World} {v : Value} (h : Spc w0 bx o w v) {a : Addr} {x : Value} (hx : w0.cell? a = some x) : w.cell? a = some x := (h.bel.cell (World.block_lt_of_cell? w0 _ hx)).trans hx
end Go.Proofs.YtogmphjhdkgdjaaDoor
