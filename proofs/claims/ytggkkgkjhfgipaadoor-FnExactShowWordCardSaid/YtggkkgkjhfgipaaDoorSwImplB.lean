/- The shower's value at vectors. -/
import Derived.Test.YtggkkgkjhfgipaaDoorSwImplA
import Derived.Test.YtggkkgkjhfgipaaDoorQFnExactShowWordx0
import Derived.Lib.Hide
import Derived.Defers
import Derived.Recover
namespace Go.Proofs.YtggkkgkjhfgipaaDoor
open Go.RowKit Go.Proofs.YtggkkgkjhfgipaaDoor.QFnExactShowWord Go.Proofs.YtggkkgkjhfgipaaDoorW.PrintWords Go.Proofs.YtggkkgkjhfgipaaDoorW.PrintLast Go.Proofs.YtggkkgkjhfgipaaDoorW.PrintMore
open Go.ChangeMaps (setBlock)
set_option linter.unusedVariables false
set_option linter.unusedSimpArgs false
theorem view_vec {ws : List Int} {names : List (List Int)} {bm : Nat} {NV : Value} {w0 w : World} {v : Value} {x : Int} (h : IsView ws names bm NV w0 w v x) (h4 : x % 4 = 1) (hk : ws.getD (x / 4).toNat 0 % 4 = 1) : VecIs ws bm NV w0 w (x / 4).toNat v := by
  unfold IsView at h
  rw [atom_none h4 (.inr hk)] at h
  dsimp only at h
  rw [if_pos hk] at h
  exact h
theorem vec_slice {ws : List Int} {bm p : Nat} {NV : Value} {w0 w : World} {v : Value} (h : VecIs ws bm NV w0 w p v) : ∃ (ao : Option Addr) (c : Nat), v = .iface 97 (.agg #[.slice ao (sizeW ws p) c]) := by
  obtain ⟨sv, us, rfl, h1, h2, _⟩ := h
  rcases h1.2 with ⟨rfl, h0⟩ | ⟨g, cap, cur, rfl, _⟩
  · exact ⟨none, 0, by rw [← h2, h0]⟩
  · exact ⟨_, cap, by rw [← h2]⟩
/-- The part i of a vector. -/
theorem vec_part {ws : List Int} {bm p : Nat} {NV : Value} {w0 w : World} {ao : Option Addr} {c : Nat} (h : VecIs ws bm NV w0 w p (.iface 97 (.agg #[.slice ao (sizeW ws p) c]))) {i : Nat} (hi : i < sizeW ws p) :
    ∃ (g : Nat) (u : Value), ao = some ⟨g, 0, none⟩ ∧ w.cell? ⟨g, i, none⟩ = some u ∧ Part bm NV w0 w u (fld ws p i) := by
  obtain ⟨sv, us, e, h1, h2, h3⟩ := h
  simp only [Value.iface.injEq, Value.agg.injEq, true_and] at e
  have e2 := congrArg (fun a => a[0]?) e
  simp at e2
  subst e2
  rcases h1.2 with ⟨e3, h0⟩ | ⟨g, cap, cur, e3, _⟩
  · omega
  · injection e3 with e4 e5 e6
    subst e4
    refine ⟨g, us.getD i undef, rfl, ?_, h3 i (by omega)⟩
    have h4 := h1
    rw [← h2] at h4
    rw [h4.cellAt i (by omega), List.getD_eq_getElem?_getD, List.getElem?_eq_getElem (by omega)]
    rfl
/-- The loop over a vector's parts. -/
def RSt (w0 : World) (ws : List Int) (names : List (List Int)) (B b k p : Nat) (FIN : List Int) (W0 W : World) (i : Nat) (wr : World) : Prop :=
  ∃ (o : List Int), Held w0 B b o W wr ∧ Kp W0 wr ∧ o.length < 1000 ∧ 1000 ≤ o.length + k ∧ showV (showW ws names k) ws p (sizeW ws p - i) i o ++ [41] = FIN
set_option maxHeartbeats 4000000 in
set_option maxRecDepth 100000 in
theorem value_vec {w0 : World} {ws : List Int} {top : Int} {L : List (Nat × Nat)} {es : List MapEntry} {bm : Nat} {names : List (List Int)} {NA : Option Addr} {nc B b k : Nat} (h : Ctx w0 ws top L es bm names NA nc) (hw0 : w0.heap.size ≤ B) (ih : ValueIs w0 ws names L bm (.slice NA names.length nc) B b k) (x : Int) (v : Value) (out : List Int) (w : World)
    (hw : wordF (isPlace L) x = true) (hv : IsView ws names bm (.slice NA names.length nc) w0 w v x) (h4 : x % 4 = 1) (hk1 : ws.getD (x / 4).toNat 0 % 4 = 1) (hh : Held w0 B b out w w) (hlo : out.length < 1000) (hk : 1000 ≤ out.length + (k + 1)) :
    Calls Tryd.prog 35 #[.pointer (some ⟨b, 0, none⟩), v] w (Wrote w0 B b (showW ws names (k + 1) x out) w) := by
  have hvec := view_vec hv h4 hk1
  obtain ⟨h0, A, n, c, fs, ho⟩ := h.obj hw h4
  have hg : ∀ i, i < sizeW ws (x / 4).toNat → wordF (isPlace L) (fld ws (x / 4).toNat i) = true ∧ InI64 (fld ws (x / 4).toNat i) := fun i hi => ho.good i (by rw [ho.size]; exact hi)
  have hn1 : sizeW ws (x / 4).toNat ≤ 1000 := by rw [← ho.size]; exact ho.le
  rw [showW_vec hlo h4 hk1]
  obtain ⟨p, hp⟩ : ∃ p, p = (x / 4).toNat := ⟨_, rfl⟩
  rw [← hp] at hvec hg hn1 ⊢
  obtain ⟨ao, cc, rfl⟩ := vec_slice hvec
  have hE : Ext (showW ws names k) := showW_pre ws names k
  obtain ⟨FIN, hF⟩ : ∃ F, F = showV (showW ws names k) ws p (sizeW ws p) 0 (out ++ [35, 40]) ++ [41] := ⟨_, rfl⟩
  have Q1 : Hid (out ++ [35, 40] <+: FIN) := Lib.hid (by rw [hF]; exact (showV_pre hE ws _ _ _ _).trans (pre_app _ _))
  rw [← hF]
  obtain ⟨n, hn⟩ : ∃ n, n = sizeW ws p := ⟨_, rfl⟩
  have HF := Lib.hid hF
  have HN := Lib.hid hn
  rw [← hn] at hn1 ⊢
  have IH := Lib.hid ih
  have HX := Lib.hid h
  have HG := Lib.hid hg
  have HE := Lib.hid hE
  have HV := Lib.hid hvec
  obtain ⟨W, hW⟩ : ∃ W, W = w.alloc (.cells #[.slice ao n cc] 97) := ⟨_, rfl⟩
  have HW : Hid (Held w0 B b out w W ∧ Kp w W) := Lib.hid (by rw [hW]; exact ⟨hh.more ((Below.refl _ _).alloc (Nat.le_refl _) _), Kp.of_below ((Below.refl _ _).alloc (Nat.le_refl _) _)⟩)
  have HPB : Hid (W.heap[w.heap.size]? = some (.cells #[.slice ao n cc] 97 (0, 0))) := Lib.hid (by rw [hW]; exact blk_new w _)
  have HS := Lib.hid (fun (w1 : World) (hh : Held w0 B b out W w1) => say_text (s := ⟨#[35, 40]⟩) (t := [35, 40]) (by kernel_rfl) (by decide +kernel) hh hlo hw0)
  have a1 := no_str 97 (by decide)
  have a2 := no_sym 97 (by decide)
  have a3 := is_vec
  obtain ⟨vb, hvb⟩ : ∃ vb, vb = w.heap.size := ⟨_, rfl⟩
  rw [← hvb] at HPB
  clear hF hn ih h hg hE hh ho hw hv h0 hvec hp h4 hk1
  go_enter Tryd.func35, Tryd.ntmps35
  go_wp2_with fail
  rw [← hW, ← hvb]
  clear hW hvb a1 a2 a3
  refine (HS.out W HW.out.1.self).mono ?_
  clear HS
  rintro e w1 ⟨hh, ⟨rfl, hl1⟩ | ⟨rfl, hl1⟩⟩
  case inr =>
    have H1 : Hid (Held w0 B b (out ++ [35, 40]) w w1) := Lib.hid (HW.out.1.trans hh)
    clear hh
    go_wp2_with fail
    exact ⟨rfl, Wrote.stop H1.out Q1.out hl1⟩
  have HRS : Hid (RSt w0 ws names B b k p FIN w w 0 w1) := Lib.hid ⟨_, HW.out.1.trans hh, HW.out.2.trans hh.kp, hl1, by simp; omega, by rw [HF.out]; rfl⟩
  have c0 := blk_cell (hh.kp _ _ _ _ HPB.out (by decide) (by decide)) 0
  clear hh HPB HF hl1 Q1
  go_wp2_with fail
  clear c0
  go_loopw [34] (fun v wr => ∃ i : Nat, i ≤ n ∧ v = .int .i64 i ∧ Hid (RSt w0 ws names B b k p FIN w w i wr)) (fun v _ => n - (intOf v).toNat)
  case atStart => exact ⟨0, Nat.zero_le _, rfl, HRS⟩
  case round =>
    clear HRS
    obtain ⟨i, hi, rfl, HRS⟩ := hrel
    obtain ⟨o, l4, l5, l6, l7, l8⟩ := HRS.out
    clear HRS
    by_cases hlt : i < n
    · have hvr := HV.out.keep l5
      obtain ⟨g, u, rfl, hcell, hpart⟩ := vec_part hvr (by rw [← HN.out]; exact hlt)
      have hgi := HG.out i (by rw [← HN.out]; exact hlt)
      rw [← HN.out] at l8
      rw [showV_step hlt l6] at l8
      obtain ⟨o1, ho1⟩ : ∃ o1, o1 = if i = 0 then o else o ++ [32] := ⟨_, rfl⟩
      obtain ⟨x1, hx1⟩ : ∃ y, y = fld ws p i := ⟨_, rfl⟩
      rw [← hx1] at hpart hgi l8
      rw [← ho1] at l8
      have q2 : showW ws names k x1 o1 <+: FIN := by rw [← l8]; exact (showV_pre HE.out ws _ _ _ _).trans (pre_app _ _)
      have Q1 : Hid (o1 <+: FIN) := Lib.hid ((HE.out _ _).trans q2)
      have Q2 := Lib.hid q2
      obtain ⟨bo1, bi1, ba1, bn1, rfl, ask1⟩ := part_ask HX.out hgi.1 hgi.2 hpart
      have A1 := Lib.hid ask1
      have HG1 := Lib.hid hgi
      have HR : Hid (Held w0 B b o w wr ∧ Kp w wr) := Lib.hid ⟨l4, l5⟩
      have HFN := Lib.hid l8
      have HS := Lib.hid (fun (w1 : World) (hh : Held w0 B b o wr w1) => say_text (s := ⟨#[32]⟩) (t := [32]) (by kernel_rfl) (by decide +kernel) hh l6 hw0)
      have HO1 := Lib.hid ho1
      have hi0 : (0 : Int) ≤ (i : Int) := by omega
      have hi1 : (i : Int) < (n : Int) := by omega
      clear hvr hpart hgi q2 hx1 ho1 ask1 l4 l5 l8
      by_cases hz : i = 0
      · subst hz
        have H1 : Hid (Held w0 B b o1 w wr ∧ Kp wr wr ∧ o1.length < 1000 ∧ 1000 ≤ o1.length + k) := Lib.hid (by rw [HO1.out]; exact ⟨HR.out.1, Kp.refl _, l6, l7⟩)
        go_wp2_with fail
        refine (A1.out _ H1.out.2.1 H1.out.1.base).mono ?_
        rintro e w2 ⟨v1, rfl, hv1, hb2⟩
        have HV1 := Lib.hid hv1
        have H2 : Hid (Held w0 B b o1 w w2) := Lib.hid (H1.out.1.more hb2)
        have HK2 : Hid (Kp w w2) := Lib.hid ((HR.out.2.trans H1.out.2.1).trans (Kp.of_below hb2))
        have hlo1 := H1.out.2.2.1
        have hlk1 := H1.out.2.2.2
        clear hv1 hb2
        go_wp2_with fail
        refine (IH.out x1 v1 o1 w2 HG1.out.1 HG1.out.2 HV1.out H2.out.self hlo1 hlk1).mono ?_
        rintro e w3 ⟨o3, hh3, ⟨rfl, ho3, hl3⟩ | ⟨rfl, hp3, hl3⟩⟩
        case inr =>
          have H3 : Hid (Held w0 B b o3 w w3) := Lib.hid (H2.out.trans hh3)
          have HP3 := Lib.hid (hp3.trans Q2.out)
          clear hh3 hp3
          go_wp2_with fail
          exact ⟨rfl, Wrote.stop H3.out HP3.out hl3⟩
        have HLE : Hid (o1.length ≤ o3.length) := Lib.hid (by rw [ho3]; exact (HE.out x1 o1).length_le)
        have HRN : Hid (RSt w0 ws names B b k p FIN w w (0 + 1) w3) := Lib.hid ⟨o3, H2.out.trans hh3, HK2.out.trans hh3.kp, hl3, by have := HLE.out; omega, by rw [← HN.out, ho3]; exact HFN.out⟩
        clear hh3 ho3
        go_wp2_with fail
        go_roundw
        case rel => exact ⟨0 + 1, by omega, by go_num, HRN⟩
        case measure => simp [intOf]; omega
      · have hz2 : decide (0 < i) = true := decide_eq_true (by omega)
        have HO2 : Hid (o1 = o ++ [32]) := Lib.hid (by rw [HO1.out, if_neg hz])
        clear hz
        go_wp2_with fail
        refine (HS.out wr HR.out.1.self).mono ?_
        rintro e w1 ⟨hh, hres⟩
        rw [← HO2.out] at hh hres
        rcases hres with ⟨rfl, hl1⟩ | ⟨rfl, hl1⟩
        case inr =>
          have H1 : Hid (Held w0 B b o1 w w1) := Lib.hid (HR.out.1.trans hh)
          clear hh
          go_wp2_with fail
          exact ⟨rfl, Wrote.stop H1.out Q1.out hl1⟩
        have H1 : Hid (Held w0 B b o1 w w1 ∧ Kp wr w1 ∧ o1.length < 1000 ∧ 1000 ≤ o1.length + k) := Lib.hid ⟨HR.out.1.trans hh, hh.kp, hl1, by rw [HO2.out]; simp; omega⟩
        clear hh
        go_wp2_with fail
        refine (A1.out _ H1.out.2.1 H1.out.1.base).mono ?_
        rintro e w2 ⟨v1, rfl, hv1, hb2⟩
        have HV1 := Lib.hid hv1
        have H2 : Hid (Held w0 B b o1 w w2) := Lib.hid (H1.out.1.more hb2)
        have HK2 : Hid (Kp w w2) := Lib.hid ((HR.out.2.trans H1.out.2.1).trans (Kp.of_below hb2))
        have hlo1 := H1.out.2.2.1
        have hlk1 := H1.out.2.2.2
        clear hv1 hb2
        go_wp2_with fail
        refine (IH.out x1 v1 o1 w2 HG1.out.1 HG1.out.2 HV1.out H2.out.self hlo1 hlk1).mono ?_
        rintro e w3 ⟨o3, hh3, ⟨rfl, ho3, hl3⟩ | ⟨rfl, hp3, hl3⟩⟩
        case inr =>
          have H3 : Hid (Held w0 B b o3 w w3) := Lib.hid (H2.out.trans hh3)
          have HP3 := Lib.hid (hp3.trans Q2.out)
          clear hh3 hp3
          go_wp2_with fail
          exact ⟨rfl, Wrote.stop H3.out HP3.out hl3⟩
        have HLE : Hid (o1.length ≤ o3.length) := Lib.hid (by rw [ho3]; exact (HE.out x1 o1).length_le)
        have HRN : Hid (RSt w0 ws names B b k p FIN w w (i + 1) w3) := Lib.hid ⟨o3, H2.out.trans hh3, HK2.out.trans hh3.kp, hl3, by have := HLE.out; omega, by rw [← HN.out, ho3]; exact HFN.out⟩
        clear hh3 ho3
        go_wp2_with fail
        go_roundw
        case rel => exact ⟨i + 1, by omega, by go_num, HRN⟩
        case measure => simp [intOf]; omega
    · have hin : i = n := by omega
      subst hin
      rw [← HN.out, Nat.sub_self] at l8
      have HF2 : Hid (o ++ [41] = FIN) := l8
      have HR := Lib.hid l4
      have HS := Lib.hid (fun (w1 : World) (hh : Held w0 B b o wr w1) => say_text (s := ⟨#[41]⟩) (t := [41]) (by kernel_rfl) (by decide +kernel) hh l6 hw0)
      clear l4 l5 l8
      go_wp2_with fail
      refine (HS.out wr HR.out.self).mono ?_
      rintro e w1 ⟨hh, ⟨rfl, hl1⟩ | ⟨rfl, hl1⟩⟩
      all_goals
        have H1 : Hid (Held w0 B b (o ++ [41]) w w1) := Lib.hid (HR.out.trans hh)
        clear hh
        rw [HF2.out] at H1 hl1
        go_wp2_with fail
      · go_end0
        exact Wrote.fin H1.out hl1
      · exact ⟨rfl, Wrote.stop H1.out (List.prefix_refl _) hl1⟩
end Go.Proofs.YtggkkgkjhfgipaaDoor
/- Rows of bytes of the call's own, marked behind their end or not: read, kept, and what the law's marks do to them. -/
namespace Go.Proofs.YtggkkgkjhfgipaaDoor
open Go.RowKit Go.Lib Go.Proofs.YtggkkgkjhfgipaaDoor.QFnExactShowWord Go.Proofs.YtggkkgkjhfgipaaDoorW.PrintWords Go.Proofs.YtggkkgkjhfgipaaDoorW.PrintLast Go.Proofs.YtggkkgkjhfgipaaDoorW.PrintMore
set_option linter.unusedVariables false
set_option linter.unusedSimpArgs false
/-- The bytes xs lie in a row from base on; none of them is frozen. -/
def OwnB (base : Nat) (w : World) (v : Value) (xs : List Int) : Prop :=
  (v = .slice none 0 0 ∧ xs = []) ∨ ∃ (g cap : Nat) (cells : Array Value) (fz : Nat × Nat), v = .slice (some ⟨g, 0, none⟩) xs.length cap ∧ base ≤ g ∧ w.heap[g]? = some (.cells cells 5 fz) ∧ (∀ i, i < xs.length → ¬ (fz.1 ≤ i ∧ i < fz.2)) ∧ xs.length ≤ cap ∧ xs.length ≤ 9223372036854775807 ∧ ∀ (j : Nat) (p : Int), xs[j]? = some p → cells[j]? = some (Value.int .u8 p)
theorem OwnB.reads {base : Nat} {w : World} {v : Value} {xs : List Int} (h : OwnB base w v xs) : ∃ A c, v = .slice A xs.length c ∧ xs.length ≤ c ∧ Kd.C (Kd.int .u8) w A xs.length xs := by
  rcases h with ⟨rfl, rfl⟩ | ⟨g, cap, cells, fz, rfl, hb, hg, hf, hc, hm, hx⟩
  · exact ⟨none, 0, rfl, Nat.le_refl _, rfl, by simp, fun h => by simp at h⟩
  · refine ⟨_, cap, rfl, hc, rfl, hm, fun _ => ⟨_, rfl, fun j p hp => ⟨[.int .u8 p], rfl, rfl, fun i u hu => ?_⟩⟩⟩
    have hi : i = 0 := by have := (List.getElem?_eq_some_iff.1 hu).1; simp at this; omega
    subst hi
    simp at hu
    subst hu
    have e : j * (Kd.int .u8).sz + 0 = j := by show j * 1 + 0 = j; omega
    rw [e, Go.Proofs.YtggkkgkjhfgipaaDoorW.PrintWords.add_plain]
    simp [World.cell?, hg, hx j p hp]
theorem OwnB.keep {base : Nat} {w w' : World} {v : Value} {xs : List Int} (h : OwnB base w v xs) (hk : ∀ k, v.ownBlock = some k → base ≤ k → k < w.heap.size → w'.heap[k]? = w.heap[k]?) : OwnB base w' v xs := by
  rcases h with ⟨rfl, rfl⟩ | ⟨g, cap, cells, fz, rfl, hb, hg, hf, hc, hm, hx⟩
  · exact Or.inl ⟨rfl, rfl⟩
  · exact Or.inr ⟨g, cap, cells, fz, rfl, hb, (hk g rfl hb (Array.getElem?_eq_some_iff.1 hg).1).trans hg, hf, hc, hm, hx⟩
theorem OwnB.below {base : Nat} {w w' : World} {v : Value} {xs : List Int} (h : OwnB base w v xs) (hb : Below w.heap.size w w') : OwnB base w' v xs := h.keep (fun k _ _ hk => hb.block k hk)
/-- A row that the print tells of. -/
theorem OwnB.of_R {base : Nat} {ok : Nat → Prop} {w : World} {v : Value} {xs : List Int} (h : Kd.R (Kd.int .u8) 5 w base ok v xs) : OwnB base w v xs := by
  rcases Nat.eq_zero_or_pos xs.length with h0 | h0
  · have hx : xs = [] := List.eq_nil_of_length_eq_zero h0
    subst hx
    rcases h.2 with ⟨inner, hown, _⟩
    rcases hown.2 with ⟨e, _⟩ | ⟨g, cap, cur, e, hb, hg, hn, hm, hs, ht⟩
    · exact Or.inl ⟨e, rfl⟩
    · refine Or.inr ⟨g, cap, cur, (0, 0), e, hb, hg, fun i hi => by simp at hi, by simp, by simp, fun j p hp => by simp at hp⟩
  · obtain ⟨g, cap, rfl, hb, hl, cells, hc⟩ := Kd.R_form h h0
    obtain ⟨_, hcap, hC⟩ := Kd.R_reads' h
    obtain ⟨h2, h3, h4⟩ := hC
    obtain ⟨ad, e1, h5⟩ := h4 h0
    cases e1
    refine Or.inr ⟨g, cap, cells, (0, 0), rfl, hb, hc, fun i _ => by simp, hcap, h3, fun j p hp => ?_⟩
    obtain ⟨c, c1, c2, c3⟩ := h5 j p hp
    have e2 : c = [.int .u8 p] := c2
    subst e2
    have := c3 0 _ rfl
    have e : j * (Kd.int .u8).sz + 0 = j := by show j * 1 + 0 = j; omega
    rw [e, Go.Proofs.YtggkkgkjhfgipaaDoorW.PrintWords.add_plain] at this
    simpa [World.cell?, hc] using this
end Go.Proofs.YtggkkgkjhfgipaaDoor
/- The shower's value at any valid word; shown, with its deferred closure. -/
namespace Go.Proofs.YtggkkgkjhfgipaaDoor
open Go.RowKit Go.Proofs.YtggkkgkjhfgipaaDoor.QFnExactShowWord Go.Proofs.YtggkkgkjhfgipaaDoorW.PrintWords Go.Proofs.YtggkkgkjhfgipaaDoorW.PrintLast Go.Proofs.YtggkkgkjhfgipaaDoorW.PrintMore
open Go.ChangeMaps (setBlock)
set_option linter.unusedVariables false
set_option linter.unusedSimpArgs false
theorem value_any {w0 : World} {ws : List Int} {top : Int} {L : List (Nat × Nat)} {es : List MapEntry} {bm : Nat} {names : List (List Int)} {NA : Option Addr} {nc B b : Nat} (h : Ctx w0 ws top L es bm names NA nc) (hw0 : w0.heap.size ≤ B) : ∀ k, ValueIs w0 ws names L bm (.slice NA names.length nc) B b k := by
  intro k
  induction k with
  | zero => intro x v out w _ _ _ _ h1 h2; omega
  | succ k ih =>
    intro x v out w hw hx hv hh hlo hk
    cases ha : atomV ws names x with
    | some q =>
      obtain ⟨T, t⟩ := q
      rw [showW_atom ha hlo]
      have hv' := hv
      unfold IsView at hv'
      rw [ha] at hv'
      exact value_atom (atom_type ha) hv' hh hlo hw0
    | none =>
      obtain ⟨h4, h5⟩ := isPair_none ha
      by_cases h6 : ws.getD (x / 4).toNat 0 % 4 = 1
      · exact value_vec h hw0 ih x v out w hw hv h4 h6 hh hlo hk
      · have h7 : ws.getD (x / 4).toNat 0 % 4 = 0 := by omega
        exact value_pair h hw0 ih x v out w hw hv (by unfold isPairW; rw [h4, h7]; rfl) hh hlo hk
/-- The function that ShowWord hands to shown. -/
theorem write_calls {w0 : World} {ws : List Int} {top : Int} {L : List (Nat × Nat)} {es : List MapEntry} {bm : Nat} {names : List (List Int)} {NA : Option Addr} {nc B b : Nat} (h : Ctx w0 ws top L es bm names NA nc) (hw0 : w0.heap.size ≤ B) (x : Int) (hw : wordF (isPlace L) x = true) (hx : InI64 x) (bx ba bn : Nat) (w : World)
    (h1 : w.heap[bx]? = some (.cells #[.int .i64 x] 3 (0, 0))) (h2 : w.heap[ba]? = some (.cells #[.map (some bm)] 51 (0, 0))) (h3 : w.heap[bn]? = some (.cells #[.slice NA names.length nc] 25 (0, 0))) (hh : Held w0 B b [] w w) :
    Calls Tryd.prog 34 #[.pointer (some ⟨b, 0, none⟩), .pointer (some ⟨bx, 0, none⟩), .pointer (some ⟨ba, 0, none⟩), .pointer (some ⟨bn, 0, none⟩)] w (Wrote w0 B b (showW ws names 1000 x []) w) := by
  have c1 : w.cell? ⟨bx, 0, none⟩ = some (.int .i64 x) := blk_cell h1 0
  have c2 : w.cell? ⟨ba, 0, none⟩ = some (.map (some bm)) := blk_cell h2 0
  have c3 : w.cell? ⟨bn, 0, none⟩ = some (.slice NA names.length nc) := blk_cell h3 0
  have HV := Lib.hid (viewOf_any h x hw hx w hh.base)
  have HI := Lib.hid (value_any h hw0 (b := b) 1000)
  have HW := Lib.hid (And.intro hw hx)
  have HH := Lib.hid hh
  clear h h1 h2 h3 hw hx hh
  go_enter Tryd.func34, Tryd.ntmps34
  go_wp2_with fail
  refine HV.out.mono ?_
  rintro e w1 ⟨v, rfl, hv, hb⟩
  have HV1 := Lib.hid hv
  have H1 : Hid (Held w0 B b [] w w1) := Lib.hid (HH.out.more hb)
  clear hv hb
  go_wp2_with fail
  refine (HI.out x v [] w1 HW.out.1 HW.out.2 HV1.out H1.out.self (by simp) (by simp)).mono ?_
  rintro e w2 ⟨o, hh, ⟨rfl, ho, hl⟩ | ⟨rfl, hp, hl⟩⟩
  all_goals
    have H2 : Hid (Held w0 B b o w w2) := Lib.hid (H1.out.trans hh)
    clear hh
  · have HO := Lib.hid ho
    clear ho
    go_wp2_with fail
    go_end0
    refine Wrote.fin ?_ (by rw [← HO.out]; exact hl)
    rw [← HO.out]
    exact H2.out
  · have HP := Lib.hid hp
    clear hp
    go_wp2_with fail
    exact ⟨rfl, Wrote.stop H2.out HP.out hl⟩
attribute [local go_sem] min2_int min_two
/-- What the deferred closure leaves. -/
def Caught (bO : Nat) (v : Value) (u : FrameMode) (w : World) (e : Ending) (u' : FrameMode) (w' : World) : Prop := e = .returned (.tuple #[]) ∧ u' = u ∧ ∃ (W : World) (m : Nat), Below w.heap.size w W ∧ w' = (W.drewN m).setCell ⟨bO, 0, none⟩ v
theorem caught_end (bO : Nat) (v : Value) (u : FrameMode) (w W : World) (c₀ c₁ : Frame) (cs : List Frame) (a : Act) (hd : a.defers = []) (hb : Below w.heap.size w W) (hu : c₁ = { c₀ with mode := u }) :
    bodyPostS Tryd.prog Tryd.f57 c₀ cs (Caught bO v u w) .normal a (c₁ :: cs) (W.drew.setCell ⟨bO, 0, none⟩ v) := by
  refine ⟨hd, u, by rw [hu], .tuple #[], ?_, rfl, rfl, W, 1, hb, rfl⟩
  · simp [results, Tryd.results57]
set_option maxHeartbeats 1000000 in
set_option maxRecDepth 100000 in
theorem catch_idle (bS bO b n cap : Nat) (ao : Option Addr) (v0 : Value) (w : World) (hc : n ≤ cap) (h1 : w.heap[bS]? = some (.cells #[.pointer (some ⟨b, 0, none⟩)] 55 (0, 0))) (h2 : w.heap[bO]? = some (.cells #[v0] 28 (0, 0))) (h3 : w.heap[b]? = some (.cells #[.slice ao n cap] 89 (0, 0))) :
    CallsD Tryd.prog 57 #[.pointer (some ⟨bS, 0, none⟩), .pointer (some ⟨bO, 0, none⟩)] .returning w (Caught bO (.slice ao (min n 1000) cap) .returning w) := by
  refine callsD_of_wpS Tryd.func57 rfl fun c₀ cs hu => ?_
  have c0 : w.cell? ⟨bS, 0, none⟩ = some (.pointer (some ⟨b, 0, none⟩)) := blk_cell h1 0
  have c1 : w.cell? ⟨b, 0, none⟩ = some (.slice ao n cap) := blk_cell h3 0
  have c2 : w.cell? ⟨bO, 0, none⟩ = some v0 := blk_cell h2 0
  have f2 : w.frozen? ⟨bO, 0, none⟩ = false := blk_frozen h2 0
  apply wpS_seq
  apply wpS_seq
  apply wpS_region
  simp [wpOpsS, go_sem, recoverD, hu, Tryd.ntmps57, Exit.thenS]
  apply wpS_seq
  apply wpS_region
  simp [wpOpsS, go_sem, Exit.thenS]
  refine wpS_cond (t := false) (by simp [Act.eval, Array.replicate]) ?_
  simp only [Bool.false_eq_true, if_false]
  refine wpS_of_wp (wp_skip ?_)
  simp only [Exit.thenS]
  refine wpS_of_wp ?_
  obtain ⟨i, hi, hz0, hz1, hz2⟩ := info_parts byteInfo
  have et : (#[Value.pointer (some ⟨bS, 0, none⟩), .pointer (some ⟨bO, 0, none⟩)] ++ ((((Array.replicate 25 undef).setIfInBounds 3 Value.nilIface).setIfInBounds 0 Value.nilIface).setIfInBounds 4 Value.nilIface).setIfInBounds 5 (Value.bool false)) = #[.pointer (some ⟨bS, 0, none⟩), .pointer (some ⟨bO, 0, none⟩), .nilIface, undef, undef, .nilIface, .nilIface, .bool false, undef, undef, undef, undef, undef, undef, undef, undef, undef, undef, undef, undef, undef, undef, undef, undef, undef, undef, undef] := by kernel_rfl
  rw [et]
  clear et
  by_cases hn : 1000 < n
  · have hsl := cut_to (P := Tryd.prog) 28 5 .i64 Tryd.underlying28 hi ao n cap 1000 (by omega) (by omega) hc
    have hni : (1000 : Int) < (n : Int) := by omega
    go_still_tail 11, (by kernel_rfl)
    change wpList _ _ _ _ _ w.drew
    go_wp2_with fail
    rw [show min n 1000 = 1000 by omega]
    exact caught_end bO _ _ w w c₀ c₀ cs _ rfl (Below.refl _ _) (by cases c₀; simp_all)
  · have hsl := cut_to (P := Tryd.prog) 28 5 .i64 Tryd.underlying28 hi ao n cap (n : Int) (by omega) (by omega) hc
    have hni : ¬ (1000 : Int) < (n : Int) := by omega
    rw [Int.toNat_natCast] at hsl
    rw [show min n 1000 = n by omega]
    go_still_tail 11, (by kernel_rfl)
    change wpList _ _ _ _ _ w.drew
    go_wp2_with fail
    exact caught_end bO _ _ w w c₀ c₀ cs _ rfl (Below.refl _ _) (by cases c₀; simp_all)
def enoughD (r : Bool) : FrameMode := .panicking [{ v := .iface 91 (.agg #[]), recovered := r }]
set_option maxHeartbeats 1000000 in
set_option maxRecDepth 100000 in
theorem catch_panicking (bS bO b n cap : Nat) (ao : Option Addr) (v0 : Value) (w : World) (hc : n ≤ cap) (h1 : w.heap[bS]? = some (.cells #[.pointer (some ⟨b, 0, none⟩)] 55 (0, 0))) (h2 : w.heap[bO]? = some (.cells #[v0] 28 (0, 0))) (h3 : w.heap[b]? = some (.cells #[.slice ao n cap] 89 (0, 0))) :
    CallsD Tryd.prog 57 #[.pointer (some ⟨bS, 0, none⟩), .pointer (some ⟨bO, 0, none⟩)] (enoughD false) w (Caught bO (.slice ao (min n 1000) cap) (enoughD true) w) := by
  refine callsD_of_wpS Tryd.func57 rfl fun c₀ cs hu => ?_
  have c0 : w.cell? ⟨bS, 0, none⟩ = some (.pointer (some ⟨b, 0, none⟩)) := blk_cell h1 0
  have c1 : w.cell? ⟨b, 0, none⟩ = some (.slice ao n cap) := blk_cell h3 0
  have c2 : w.cell? ⟨bO, 0, none⟩ = some v0 := blk_cell h2 0
  have f2 : w.frozen? ⟨bO, 0, none⟩ = false := blk_frozen h2 0
  have hu' := hu
  unfold enoughD at hu
  apply wpS_seq
  apply wpS_seq
  apply wpS_region
  simp [wpOpsS, go_sem, recoverD, hu, Tryd.ntmps57, Exit.thenS]
  have et : (#[Value.pointer (some ⟨bS, 0, none⟩), .pointer (some ⟨bO, 0, none⟩)] ++ (((Array.replicate 25 undef).setIfInBounds 3 (Value.iface 91 (.agg #[]))).setIfInBounds 0 (Value.iface 91 (.agg #[])))) = #[.pointer (some ⟨bS, 0, none⟩), .pointer (some ⟨bO, 0, none⟩), .iface 91 (.agg #[]), undef, undef, .iface 91 (.agg #[]), undef, undef, undef, undef, undef, undef, undef, undef, undef, undef, undef, undef, undef, undef, undef, undef, undef, undef, undef, undef, undef] := by kernel_rfl
  rw [et]
  clear et
  obtain ⟨i, hi, hz0, hz1, hz2⟩ := info_parts byteInfo
  have a1 : ∀ W, (Instr.typeAssert (.iface 91 (.agg #[])) 20 91 true).run Tryd.prog W = .ok (.tuple #[.agg #[], .bool true]) W := fun W => assert_hit Tryd.underlying91 (by intro i h; cases h) _ W
  have a2 : ∀ W, (binOp .neq 20 (.iface 91 (.agg #[])) .nilIface).run Tryd.prog W = .ok (.bool true) W := fun W => by kernel_rfl
  obtain ⟨c₁, hc1⟩ : ∃ c₁ : Frame, c₁ = { c₀ with mode := FrameMode.panicking [{ v := Value.iface 91 (Value.agg #[]), recovered := true }] } := ⟨_, rfl⟩
  have HC1 := Lib.hid hc1
  rw [← hc1]
  clear hc1 hu hu'
  refine wpS_of_wp ?_
  go_wp2_with fail
  simp only [Exit.thenS]
  refine wpS_of_wp ?_
  obtain ⟨W, hW⟩ : ∃ W, W = w.alloc (.cells #[] 91) := ⟨_, rfl⟩
  have hb : Below w.heap.size w W := by rw [hW]; exact (Below.refl _ _).alloc (Nat.le_refl _) _
  rw [← hW]
  clear c0 c1 c2 f2 hW
  have c0 : W.cell? ⟨bS, 0, none⟩ = some (.pointer (some ⟨b, 0, none⟩)) := blk_cell (blk_below h1 hb) 0
  have c1 : W.cell? ⟨b, 0, none⟩ = some (.slice ao n cap) := blk_cell (blk_below h3 hb) 0
  have c2 : W.cell? ⟨bO, 0, none⟩ = some v0 := blk_cell (blk_below h2 hb) 0
  have f2 : W.frozen? ⟨bO, 0, none⟩ = false := blk_frozen (blk_below h2 hb) 0
  have HB := Lib.hid hb
  clear hb h1 h2 h3 a1 a2
  by_cases hn : 1000 < n
  · have hsl := cut_to (P := Tryd.prog) 28 5 .i64 Tryd.underlying28 hi ao n cap 1000 (by omega) (by omega) hc
    have hni : (1000 : Int) < (n : Int) := by omega
    go_still_tail 11, (by kernel_rfl)
    change wpList _ _ _ _ _ W.drew
    go_wp2_with fail
    rw [show min n 1000 = 1000 by omega]
    exact caught_end bO _ _ w W c₀ c₁ cs _ rfl HB.out HC1.out
  · have hsl := cut_to (P := Tryd.prog) 28 5 .i64 Tryd.underlying28 hi ao n cap (n : Int) (by omega) (by omega) hc
    have hni : ¬ (1000 : Int) < (n : Int) := by omega
    rw [Int.toNat_natCast] at hsl
    rw [show min n 1000 = n by omega]
    go_still_tail 11, (by kernel_rfl)
    change wpList _ _ _ _ _ W.drew
    go_wp2_with fail
    exact caught_end bO _ _ w W c₀ c₁ cs _ rfl HB.out HC1.out
end Go.Proofs.YtggkkgkjhfgipaaDoor
/- The program's shown and ShowWord. -/
namespace Go.Proofs.YtggkkgkjhfgipaaDoor
open Go.RowKit Go.Proofs.YtggkkgkjhfgipaaDoor.QFnExactShowWord Go.Proofs.YtggkkgkjhfgipaaDoorW.PrintWords Go.Proofs.YtggkkgkjhfgipaaDoorW.PrintLast Go.Proofs.YtggkkgkjhfgipaaDoorW.PrintMore
open Go.ChangeMaps (setBlock)
set_option linter.unusedVariables false
set_option linter.unusedSimpArgs false
/-- What the shower holds, cut to a thousand bytes. -/
theorem shw_own {B b : Nat} {o : List Int} {w : World} (h : Shw B b (cel o) w) : ∃ (ao : Option Addr) (cap : Nat), w.heap[b]? = some (.cells #[.slice ao o.length cap] 89 (0, 0)) ∧ o.length ≤ cap ∧ OwnB B w (.slice ao (min o.length 1000) cap) (o.take 1000) ∧ ∀ g, (Value.slice ao (min o.length 1000) cap).ownBlock = some g → ∃ c fz, w.heap[g]? = some (.cells c 5 fz) := by
  obtain ⟨hB, v, h1, h2, h3⟩ := h
  rw [cel_length] at h2
  rcases h2.2 with ⟨rfl, h0⟩ | ⟨g, cap, cur, rfl, hg, hc, hn, hm, hs, ht⟩
  · have ho : o = [] := List.eq_nil_of_length_eq_zero h0
    subst ho
    exact ⟨none, 0, h1, Nat.le_refl _, Or.inl ⟨rfl, rfl⟩, fun g hg => by cases hg⟩
  · refine ⟨_, cap, h1, hn, ?_, fun k hk => by cases hk; exact ⟨cur, _, hc⟩⟩
    refine Or.inr ⟨g, cap, cur, (0, 0), by rw [List.length_take, Nat.min_comm], hg, hc, fun i _ => by simp, by rw [List.length_take]; omega, by rw [List.length_take]; omega, fun j p hp => ?_⟩
    rw [List.getElem?_take] at hp
    split at hp
    · have hj : (cel o)[j]? = some (.int .u8 p) := by simp [cel, hp]
      rw [← ht, List.getElem?_take] at hj
      split at hj
      · simpa using hj
      · cases hj
    · cases hp
theorem below_dN {B : Nat} {a w : World} (h : Below B a w) (n : Nat) : Below B a (w.drewN n) := ⟨h.os, h.tape, h.output, h.size, h.block⟩
theorem shown_end {w W w2 w3 W2 : World} {v u u' : Value} {t : List Int} (m : Nat) (hbW : Below w.heap.size w W) (hb1 : Below w.heap.size W w2) (k5 : w2.heap[w.heap.size]? = some (.cells #[u] 28 (0, 0))) (k3 : OwnB w.heap.size w2 v t) (k4 : ∀ g, v.ownBlock = some g → ∃ c fz, w2.heap[g]? = some (.cells c 5 fz))
    (h3 : ∀ k, k ≠ w.heap.size → w3.heap[k]? = w2.heap[k]?) (hb3 : Below w.heap.size w2 w3) (k6 : w3.heap[w.heap.size]? = some (.cells #[u'] 28 (0, 0))) (hb2 : Below w3.heap.size w3 W2) :
    OwnB w.heap.size ((W2.drewN m).setCell ⟨w.heap.size, 0, none⟩ v) v t ∧ Below w.heap.size w ((W2.drewN m).setCell ⟨w.heap.size, 0, none⟩ v) ∧ ((W2.drewN m).setCell ⟨w.heap.size, 0, none⟩ v).cell? ⟨w.heap.size, 0, none⟩ = some v := by
  have hs : w.heap.size ≤ w3.heap.size := Nat.le_trans (Nat.le_trans hbW.size hb1.size) hb3.size
  refine ⟨k3.keep fun k hk _ hlt => ?_, (below_dN (((hbW.trans hb1).trans hb3).trans (hb2.mono hs)) m).setCell (Nat.le_refl _) _, ?_⟩
  · have hne : k ≠ w.heap.size := by
      rintro rfl
      obtain ⟨c, fz, hc⟩ := k4 _ hk
      rw [k5] at hc
      cases hc
    rw [Below.heap_setCell _ _ _ k hne]
    have hlt3 : k < w3.heap.size := Nat.lt_of_lt_of_le hlt hb3.size
    exact (hb2.block k hlt3).trans (h3 k hne)
  · have h7 : (W2.drewN m).heap[w.heap.size]? = some (.cells #[u'] 28 (0, 0)) := (blk_below k6 hb2 : W2.heap[w.heap.size]? = _)
    exact blk_cell (blk_put h7 0 v rfl) 0
set_option maxHeartbeats 2000000 in
set_option maxRecDepth 100000 in
theorem shown_calls {w0 : World} {ws : List Int} {top : Int} {L : List (Nat × Nat)} {es : List MapEntry} {bm : Nat} {names : List (List Int)} {NA : Option Addr} {nc : Nat} (h : Ctx w0 ws top L es bm names NA nc) (x : Int) (hw : wordF (isPlace L) x = true) (hx : InI64 x) (bx ba bn : Nat) (w : World) (hB : Below w0.heap.size w0 w)
    (h1 : w.heap[bx]? = some (.cells #[.int .i64 x] 3 (0, 0))) (h2 : w.heap[ba]? = some (.cells #[.map (some bm)] 51 (0, 0))) (h3 : w.heap[bn]? = some (.cells #[.slice NA names.length nc] 25 (0, 0))) :
    Calls Tryd.prog 33 #[.func (.func 34) #[] #[.pointer (some ⟨bx, 0, none⟩), .pointer (some ⟨ba, 0, none⟩), .pointer (some ⟨bn, 0, none⟩)]] w fun e w' => ∃ v, e = .returned v ∧ OwnB w.heap.size w' v ((showW ws names 1000 x []).take 1000) ∧ Below w.heap.size w w' := by
  obtain ⟨b, hb⟩ : ∃ b, b = w.heap.size + 1 := ⟨_, rfl⟩
  obtain ⟨W, hW⟩ : ∃ W, W = ((w.alloc (.cells #[.slice none 0 0] 28)).alloc (.cells #[.slice none 0 0] 89)).alloc (.cells #[.pointer (some ⟨b, 0, none⟩)] 55) := ⟨_, rfl⟩
  have hbw : Below w.heap.size w W := by rw [hW]; exact (((Below.refl _ _).alloc (Nat.le_refl _) _).alloc (by simp) _).alloc (by simp; omega) _
  have eO : W.heap[w.heap.size]? = some (.cells #[.slice none 0 0] 28 (0, 0)) := by rw [hW]; exact blk_alloc (blk_alloc (blk_new w _) _) _
  have eS : W.heap[b]? = some (.cells #[.slice none 0 0] 89 (0, 0)) := by
    rw [hW, hb]
    have := blk_new (w.alloc (.cells #[.slice none 0 0] 28)) (.cells #[.slice none 0 0] 89)
    exact blk_alloc (by simpa using this) _
  have eP : W.heap[w.heap.size + 2]? = some (.cells #[.pointer (some ⟨b, 0, none⟩)] 55 (0, 0)) := by
    rw [hW]
    have := blk_new ((w.alloc (.cells #[.slice none 0 0] 28)).alloc (.cells #[.slice none 0 0] 89)) (.cells #[.pointer (some ⟨b, 0, none⟩)] 55)
    simpa using this
  have hh : Held w0 w.heap.size b [] W W := ⟨⟨by omega, _, eS, World.ownsRow_nil _ _ _ _, by simp [Value.ownBlock]⟩, Below.refl _ _, Kp.refl _, hB.trans (hbw.mono hB.size), hbw.size⟩
  have HWR := Lib.hid (write_calls h hB.size x hw hx bx ba bn W (blk_below h1 hbw) (blk_below h2 hbw) (blk_below h3 hbw) hh)
  have HBW := Lib.hid hbw
  have EO := Lib.hid eO
  have EP := Lib.hid eP
  have ES := Lib.hid eS
  clear h hw hx hB h1 h2 h3 hbw eO eS eP hh
  have hmf : ∀ (fn : Fn) (first cap : Array Value) (w : World), (Instr.makeFunc fn first cap).run Tryd.prog w = .ok (.func fn first cap) w := fun _ _ _ _ => rfl
  go_enter_defers Tryd.func33, Tryd.ntmps33
  go_wp2_with fail
  rw [show w.heap.size + 1 + 1 = w.heap.size + 2 from rfl, ← hb, ← hW]
  have HBB := Lib.hid hb
  clear hW hb hmf
  refine HWR.out.mono ?_
  clear HWR
  rintro e w2 ⟨o, hh, ⟨rfl, ho, hl⟩ | ⟨rfl, hp, hl⟩⟩
  · obtain ⟨ao, cap, k1, k2, k3, k4⟩ := shw_own hh.shw
    have k5 := hh.kp _ _ _ _ EO.out (by decide) (by decide)
    have k6 := hh.kp _ _ _ _ EP.out (by decide) (by decide)
    have HH := Lib.hid hh
    have K1 := Lib.hid k1
    have K2 := Lib.hid k2
    have K3 := Lib.hid k3
    have K4 := Lib.hid k4
    have K5 := Lib.hid k5
    have K6 := Lib.hid k6
    have HO := Lib.hid ho
    have c0 : w2.cell? ⟨w.heap.size, 0, none⟩ = some (.slice none 0 0) := blk_cell k5 0
    have f0 : w2.frozen? ⟨w.heap.size, 0, none⟩ = false := blk_frozen k5 0
    clear hh k1 k2 k3 k4 k5 k6 ho
    go_wp2_with fail
    have g0 : (w2.setCell ⟨w.heap.size, 0, none⟩ (.slice none 0 0)).heap[w.heap.size]? = some (.cells #[.slice none 0 0] 28 (0, 0)) := blk_put K5.out 0 _ rfl
    have g1 : (w2.setCell ⟨w.heap.size, 0, none⟩ (.slice none 0 0)).heap[w.heap.size + 2]? = some (.cells #[.pointer (some ⟨b, 0, none⟩)] 55 (0, 0)) := blk_far K6.out (by show w.heap.size + 2 ≠ w.heap.size; omega) _
    have g2 : (w2.setCell ⟨w.heap.size, 0, none⟩ (.slice none 0 0)).heap[b]? = some (.cells #[.slice ao o.length cap] 89 (0, 0)) := blk_far K1.out (by have := HBB.out; show b ≠ w.heap.size; omega) _
    refine leaves_cons (f := 57) (args := #[.pointer (some ⟨w.heap.size + 2, 0, none⟩), .pointer (some ⟨w.heap.size, 0, none⟩)]) (by simp) (by simp [go_sem]) ?_
    refine (catch_idle (w.heap.size + 2) w.heap.size b o.length cap ao _ _ K2.out g1 g0 g2).mono ?_
    rintro e u' w'' ⟨rfl, rfl, W2, m, hb2, rfl⟩
    obtain ⟨e1, e2, e3⟩ := shown_end (u := .slice none 0 0) (u' := .slice none 0 0) m HBW.out HH.out.below K5.out K3.out K4.out (fun k hk => Below.heap_setCell _ _ _ k hk) ((Below.refl w.heap.size w2).setCell (p := ⟨w.heap.size, 0, none⟩) (Nat.le_refl _) _) g0 hb2
    refine ⟨.slice ao (min o.length 1000) cap, ?_, _, rfl, ?_, e2⟩
    · simp [results, Tryd.results33, go_sem, e3]
    · rw [← HO.out]
      exact e1
  · obtain ⟨ao, cap, k1, k2, k3, k4⟩ := shw_own hh.shw
    have k5 := hh.kp _ _ _ _ EO.out (by decide) (by decide)
    have k6 := hh.kp _ _ _ _ EP.out (by decide) (by decide)
    have HH := Lib.hid hh
    have K1 := Lib.hid k1
    have K2 := Lib.hid k2
    have K3 := Lib.hid k3
    have K4 := Lib.hid k4
    have K5 := Lib.hid k5
    have K6 := Lib.hid k6
    have HO : Hid (o.take 1000 = (showW ws names 1000 x []).take 1000) := Lib.hid (by
      obtain ⟨r, hr⟩ := hp
      rw [← hr, List.take_append_of_le_length hl])
    clear hh k1 k2 k3 k4 k5 k6 hp
    go_wp2_with fail
    refine leaves_cons (f := 57) (args := #[.pointer (some ⟨w.heap.size + 2, 0, none⟩), .pointer (some ⟨w.heap.size, 0, none⟩)]) (by simp [enoughs]) (by simp [go_sem]) ?_
    refine (catch_panicking (w.heap.size + 2) w.heap.size b o.length cap ao _ _ K2.out K6.out K5.out K1.out).mono ?_
    rintro e u' w'' ⟨rfl, rfl, W2, m, hb2, rfl⟩
    obtain ⟨e1, e2, e3⟩ := shown_end (u := .slice none 0 0) (u' := .slice none 0 0) m HBW.out HH.out.below K5.out K3.out K4.out (fun k hk => rfl) (Below.refl _ _) K5.out hb2
    refine ⟨.slice ao (min o.length 1000) cap, ?_, _, rfl, ?_, e2⟩
    · simp [results, Tryd.results33, go_sem, e3]
    · rw [← HO.out]
      exact e1
end Go.Proofs.YtggkkgkjhfgipaaDoor
/- The program's ShowWord. -/
namespace Go.Proofs.YtggkkgkjhfgipaaDoor
open Go.RowKit Go.Proofs.YtggkkgkjhfgipaaDoor.QFnExactShowWord Go.Proofs.YtggkkgkjhfgipaaDoorW.PrintWords Go.Proofs.YtggkkgkjhfgipaaDoorW.PrintLast Go.Proofs.YtggkkgkjhfgipaaDoorW.PrintMore
open Go.ChangeMaps (setBlock)
set_option linter.unusedVariables false
set_option linter.unusedSimpArgs false
/-- What ShowWord answers. -/
def showX (ws : List Int) (top : Int) (names : List (List Int)) (x : Int) : List Int := if validF ws top [x] = true then (showW ws names 1000 x []).take 1000 else []
theorem one_C {w : World} {g : Nat} {t : TypeId} {x : Int} (h : w.heap[g]? = some (.cells #[.int .i64 x] t (0, 0))) : Kd.C (Kd.int .i64) w (some ⟨g, 0, none⟩) [x].length [x] := by
  refine ⟨rfl, by simp, fun _ => ⟨_, rfl, fun j p hp => ⟨[.int .i64 p], rfl, rfl, fun i u hu => ?_⟩⟩⟩
  have hj : j = 0 := by have := (List.getElem?_eq_some_iff.1 hp).1; simp at this; omega
  have hi : i = 0 := by have := (List.getElem?_eq_some_iff.1 hu).1; simp at this; omega
  subst hj hi
  simp at hp hu
  subst hp hu
  exact blk_cell h 0
set_option maxHeartbeats 2000000 in
set_option maxRecDepth 100000 in
theorem ShowWord_calls (A : Option Addr) (c : Nat) (ws : List Int) (top x : Int) (NA : Option Addr) (nc : Nat) (names : List (List Int)) (w : World) (hr : Kd.C (Kd.int .i64) w A ws.length ws) (hc : ws.length ≤ c) (hx : ∀ x ∈ ws, InI64 x) (hxx : InI64 x)
    (hn : Kd.C (Kd.slice 5 (Kd.int .u8)) w NA names.length names) (hnc : names.length ≤ nc) (hns : ∀ t ∈ names, t.length ≤ 1099511627776 ∧ ∀ x ∈ t, 0 ≤ x ∧ x < 256) (htab : Lib.TabIs Tryd.prog w "internal/strconv.uint64pow10" .u64 Lib.pow10Tab) :
    Calls Tryd.prog 10 #[.agg #[.slice A ws.length c, .int .i64 top], .int .i64 x, .slice NA names.length nc] w fun e w' => ∃ v, e = .returned v ∧ OwnB w.heap.size w' v (showX ws top names x) ∧ Below w.heap.size w w' := by
  have HR := Lib.hid hr
  have HX := Lib.hid hx
  have HXX := Lib.hid hxx
  have HN := Lib.hid hn
  have HNS := Lib.hid hns
  have HT := Lib.hid htab
  clear hr hx hxx hn hns htab
  have hu := Tryd.underlying30
  have hmf : ∀ (fn : Fn) (first cap : Array Value) (w : World), (Instr.makeFunc fn first cap).run Tryd.prog w = .ok (.func fn first cap) w := fun _ _ _ _ => rfl
  go_enter Tryd.func10, Tryd.ntmps10
  go_wp2_with fail
  obtain ⟨W, hW⟩ : ∃ W, W = (((w.alloc (.cells #[.slice A ws.length c, .int .i64 top] 30)).alloc (.cells #[.int .i64 x] 3)).alloc (.cells #[.slice NA names.length nc] 25)).alloc (.cells #[.int .i64 x] 3) := ⟨_, rfl⟩
  have hbW : Below w.heap.size w W := by rw [hW]; exact ((((Below.refl _ _).alloc (Nat.le_refl _) _).alloc (by simp) _).alloc (by simp; omega) _).alloc (by simp; omega) _
  have e1 : W.heap[w.heap.size + 1]? = some (.cells #[.int .i64 x] 3 (0, 0)) := by
    rw [hW]
    have := blk_new (w.alloc (.cells #[.slice A ws.length c, .int .i64 top] 30)) (.cells #[.int .i64 x] 3)
    exact blk_alloc (blk_alloc (by simpa using this) _) _
  have e2 : W.heap[w.heap.size + 1 + 1]? = some (.cells #[.slice NA names.length nc] 25 (0, 0)) := by
    rw [hW]
    have := blk_new ((w.alloc (.cells #[.slice A ws.length c, .int .i64 top] 30)).alloc (.cells #[.int .i64 x] 3)) (.cells #[.slice NA names.length nc] 25)
    exact blk_alloc (by simpa using this) _
  have e3 : W.heap[w.heap.size + 1 + 1 + 1]? = some (.cells #[.int .i64 x] 3 (0, 0)) := by
    rw [hW]
    have := blk_new (((w.alloc (.cells #[.slice A ws.length c, .int .i64 top] 30)).alloc (.cells #[.int .i64 x] 3)).alloc (.cells #[.slice NA names.length nc] 25)) (.cells #[.int .i64 x] 3)
    simpa using this
  rw [← hW]
  have HBW := Lib.hid hbW
  have E1 := Lib.hid e1
  have E2 := Lib.hid e2
  have E3 := Lib.hid (one_C e3)
  clear hW hbW e1 e2 e3
  refine (validHeap_calls A c ws top (some ⟨w.heap.size + 1 + 1 + 1, 0, none⟩) 1 [x] W (Kd.C_below HR.out HBW.out) hc HX.out E3.out (by simp) (by simp; exact HXX.out)).mono ?_
  rintro e w1 ⟨hb1, ⟨hv, rfl⟩ | ⟨hv, bm, es, L, rfl, ho, hes, hm⟩⟩
  · have HB1 : Hid (Below w.heap.size w w1) := Lib.hid (HBW.out.trans (hb1.mono HBW.out.size))
    have HV : Hid (showX ws top names x = []) := Lib.hid (by unfold showX; rw [if_neg (by rw [hv]; decide)])
    clear hb1 hv
    go_wp2_with fail
    go_ret
    exact ⟨_, rfl, Or.inl ⟨rfl, HV.out⟩, HB1.out.alloc HB1.out.size _⟩
  · have HB1 : Hid (Below w.heap.size w w1) := Lib.hid (HBW.out.trans (hb1.mono HBW.out.size))
    have HV : Hid (showX ws top names x = (showW ws names 1000 x []).take 1000) := Lib.hid (by unfold showX; rw [if_pos hv])
    obtain ⟨L', hL', hlr, hall, hroot⟩ : ∃ L, objsF ws top = some L ∧ [x].length ≤ 20000 ∧ (∀ q ∈ L, objectAt ws L q = true) ∧ ∀ y ∈ [x], wordF (isPlace L) y = true := by
      unfold validF at hv
      split at hv
      · cases hv
      · rename_i L hL
        rw [Bool.and_eq_true, Bool.and_eq_true, List.all_eq_true, List.all_eq_true] at hv
        exact ⟨L, hL, of_decide_eq_true hv.1, hv.2.1, hv.2.2⟩
    rw [ho] at hL'
    cases hL'
    have HC : Hid (Ctx w1 ws top L es bm names NA nc) := Lib.hid ⟨ho, hes, hm, Kd.C_below HN.out HB1.out, hnc, HNS.out, hall, HX.out, tab_below HT.out HB1.out⟩
    have HWX : Hid (wordF (isPlace L) x = true) := Lib.hid (hroot x (by simp))
    have E1' := Lib.hid (blk_below E1.out hb1)
    have E2' := Lib.hid (blk_below E2.out hb1)
    clear hb1 hv ho hes hm hlr hall hroot
    go_wp2_with fail
    refine (shown_calls HC.out x HWX.out HXX.out (w.heap.size + 1) w1.heap.size (w.heap.size + 1 + 1) _ ((Below.refl _ _).alloc (Nat.le_refl _) _) (blk_alloc E1'.out _) (blk_new w1 _) (blk_alloc E2'.out _)).mono ?_
    rintro e w2 ⟨v, rfl, ho, hb2⟩
    have HO := Lib.hid ho
    have HB2 := Lib.hid hb2
    clear ho hb2
    go_wp2_with fail
    go_ret
    refine ⟨v, rfl, ?_, ?_⟩
    · rw [HV.out]
      have h1 := HB1.out.size
      rcases HO.out with ⟨e, h⟩ | ⟨g, cap, cells, fz, e, hg, r⟩
      · exact Or.inl ⟨e, h⟩
      · exact Or.inr ⟨g, cap, cells, fz, e, by simp at hg; omega, r⟩
    · exact (HB1.out.alloc HB1.out.size _).trans (HB2.out.mono (by have := HB1.out.size; simp; omega))
end Go.Proofs.YtggkkgkjhfgipaaDoor
