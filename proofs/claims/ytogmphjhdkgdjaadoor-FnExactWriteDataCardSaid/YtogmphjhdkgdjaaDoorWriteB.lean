/- The program's writeDatum: the text of the first datum goes behind what the builder holds. -/
import Derived.Test.YtogmphjhdkgdjaaDoorBuildA
import Derived.Test.YtogmphjhdkgdjaaDoorWriteA
import Derived.Test.YtogmphjhdkgdjaaDoorQFnExactWriteDatax0
import Derived.Lib.SmallJoins
import Derived.Lib.AppendIntMem
namespace Go.Proofs.YtogmphjhdkgdjaaDoor
open Go.RowKit Go.Lib Go.Proofs.YtogmphjhdkgdjaaDoor.QFnExactWriteData Go.Proofs.YtogmphjhdkgdjaaDoorW.PrintWords Go.Proofs.YtogmphjhdkgdjaaDoorW.PrintLast Go.Proofs.YtogmphjhdkgdjaaDoorW.PrintMore
set_option linter.unusedVariables false
set_option linter.unusedSimpArgs false
def cvT (x : S57) : Dat := ⟨x.f0, x.f1, x.f2, x.f3⟩
/-- Bytes as cells. -/
def cel (t : List Int) : List Value := t.map (Value.int .u8)
theorem cel_append (a b : List Int) : cel (a ++ b) = cel a ++ cel b := by simp [cel]
theorem cel_length (a : List Int) : (cel a).length = a.length := by simp [cel]
theorem cel_decI (n : Int) : Lib.strCells ⟨(Lib.itoa n).toArray⟩ = cel (decI n) := by simp [cel, decI, Lib.strCells]
/-- What the row of data at A reads as, in the first world. -/
def RowC (w0 : World) (A : Option Addr) (c : Nat) (l : List S57) : Prop := Kd.C k57 w0 A l.length l ∧ l.length ≤ c
/-- Behind writeDatum: so many data were taken. -/
def WrPost (w0 : World) (b : Nat) (bs : List Value) (l : List S57) (t : List Int) (r : List Dat) (w : World) (e : Ending) (w' : World) : Prop :=
  ∃ (A : Option Addr) (c m : Nat), e = .returned (.slice A (l.drop m).length c) ∧ (l.drop m).map cvT = r ∧ RowC w0 A c (l.drop m) ∧ Bld w0.heap.size b (bs ++ cel t) w' ∧ Below w0.heap.size w0 w' ∧ Oth b w w'
theorem rowC_cons {w0 : World} {A : Option Addr} {c : Nat} {x : S57} {l : List S57} (h : RowC w0 A c (x :: l)) :
    ∃ ad A2 c2, A = some ad ∧ w0.cell? ad = some (.int .i64 x.f0) ∧ w0.cell? ⟨ad.block, ad.off + 1, none⟩ = some (.int .i64 x.f1) ∧ w0.cell? ⟨ad.block, ad.off + 2, none⟩ = some (.slice A2 x.f2.length c2) ∧ w0.cell? ⟨ad.block, ad.off + 3, none⟩ = some (.int .i64 x.f3) ∧ x.f2.length ≤ c2 ∧ (Kd.int .u8).C w0 A2 x.f2.length x.f2 := by
  obtain ⟨ad, A2, c2, e, h0, h1, h2, h3, h4, h5⟩ := at_T57 h.1 0 (by omega) (by simp)
  have hx : rd_T57 (x :: l) 0 = x := rfl
  have ha : ad.add ((0 : Int).toNat * 4) = ad := by rcases ad with ⟨a1, a2, a3⟩; cases a3 <;> simp [Addr.add]
  rw [hx] at h0 h1 h2 h3 h4 h5
  rw [ha] at h0 h1 h2 h3
  exact ⟨ad, A2, c2, e, h0, h1, h2, h3, h4, h5⟩
theorem rowC_tail {w0 : World} {A : Option Addr} {c : Nat} {x : S57} {l : List S57} (h : RowC w0 A c (x :: l)) :
    ∃ A', (∀ W : World, (Instr.slice 25 (.slice A (l.length + 1) c) (some (.int .i64 1)) none none).run Tryd.prog W = .ok (.slice A' l.length (c - 1)) W) ∧ RowC w0 A' (c - 1) l := by
  obtain ⟨i0, hi, hz0, hz1, hz2⟩ := info_parts info57
  refine ⟨if c = (1 : Int).toNat then A else A.map (·.add ((1 : Int).toNat * 4)), fun W => ?_, ?_⟩
  · have := cut_from (P := Tryd.prog) 25 57 .i64 Tryd.underlying25 hi 4 hz1 A (l.length + 1) c 1 (by omega) (by omega) W
    simpa using this
  · refine ⟨Kd.C_drop (m := 1) h.1 (by simp) h.2, ?_⟩
    have := h.2
    simp only [List.length_cons] at this
    omega
theorem bld_keep {B b : Nat} {bs : List Value} {w w' : World} (h : Bld B b bs w) (hb : Below w.heap.size w w') : Bld B b bs w' := by
  have key : ∀ p, Lib.BuilderAtF 81 5 B b p bs w → Lib.BuilderAtF 81 5 B b p bs w' := by
    intro p hp
    have hlt := hp.lt
    obtain ⟨hB, v, hbk, hown, hne⟩ := hp
    exact ⟨hB, v, (hb.block b hlt).trans hbk, hown.kept (grown_of_below hb none) (by cases v.ownBlock <;> simp), hne⟩
  rcases h with h | h
  · exact .inl (key _ h)
  · exact .inr (key _ h)
theorem oth_blk {b k : Nat} {w w' : World} {cs : Array Value} {t : TypeId} {fz : Nat × Nat} (h : Oth b w w') (hk : w.heap[k]? = some (.cells cs t fz)) (hkb : k ≠ b) (ht : t ≠ 5) : w'.heap[k]? = some (.cells cs t fz) :=
  h k _ hk (by simp [hkb]) (fun c fz e => by cases e; exact ht rfl)
theorem bld_lt {B b : Nat} {bs : List Value} {w : World} (h : Bld B b bs w) : b < w.heap.size := by
  rcases h with h | h <;> exact h.lt
theorem oth_below {b : Nat} {w w' : World} (hb : Below w.heap.size w w') : Oth b w w' :=
  fun k o hk _ _ => (hb.block k (Array.getElem?_eq_some_iff.1 hk).1).trans hk
theorem tab_below {w0 w : World} (h : Lib.TabIs Tryd.prog w0 "internal/strconv.uint64pow10" .u64 Lib.pow10Tab) (hb : Below w0.heap.size w0 w) : Lib.TabIs Tryd.prog w "internal/strconv.uint64pow10" .u64 Lib.pow10Tab := by
  unfold Lib.TabIs at *
  cases hg : Tryd.prog.globalNamed "internal/strconv.uint64pow10" with
  | none => simp [World.var?, hg] at h
  | some g => exact Go.Joins.var_stays hg h hb (Nat.le_refl _)
theorem itoa_any (n : Int) (h0 : -9223372036854775808 ≤ n) (h1 : n ≤ 9223372036854775807) (w0 w : World) (htab : Lib.TabIs Tryd.prog w0 "internal/strconv.uint64pow10" .u64 Lib.pow10Tab) (hB : Below w0.heap.size w0 w) :
    Calls Tryd.prog 77 #[.int .i64 n] w fun e w' => e = .returned (.string ⟨(Lib.itoa n).toArray⟩) ∧ Below w.heap.size w w' := by
  refine (Tryd.strconv_Itoa n h0 h1 w (tab_below htab hB)).mono ?_
  rintro e w' ⟨rfl, k, os, rfl⟩
  exact ⟨rfl, Lib.below_grow _ _ (Nat.le_refl _) _ _⟩
set_option maxHeartbeats 4000000 in
set_option maxRecDepth 100000 in
theorem wd_int (w0 : World) (b : Nat) (bs : List Value) (A : Option Addr) (c : Nat) (x : S57) (l : List S57) (w : World) (hC : RowC w0 A c (x :: l)) (hB : Below w0.heap.size w0 w) (hb : Bld w0.heap.size b bs w)
    (htab : Lib.TabIs Tryd.prog w0 "internal/strconv.uint64pow10" .u64 Lib.pow10Tab) (hg : goodB (cvT x) = true) (h0 : x.f0 = 0) (hlen : bs.length ≤ 1099511627776) :
    Calls Tryd.prog 48 #[.pointer (some ⟨b, 0, none⟩), .slice A (x :: l).length c] w (WrPost w0 b bs (x :: l) (decI x.f1) (l.map cvT) w) := by
  obtain ⟨A', hsl, hC'⟩ := rowC_tail hC
  obtain ⟨ad, A2, c2, rfl, k0, k1, k2, k3, k4, k5⟩ := rowC_cons hC
  have hn := good_int hg h0
  have hn0 : -2305843009213693952 ≤ x.f1 := hn.1
  have hn1 : x.f1 ≤ 2305843009213693951 := hn.2.1
  have c0 : w.cell? ad = some (.int .i64 x.f0) := (hB.cell (World.block_lt_of_cell? w0 _ k0)).trans k0
  have c1 : w.cell? ⟨ad.block, ad.off + 1, none⟩ = some (.int .i64 x.f1) := (hB.cell (World.block_lt_of_cell? w0 _ k1)).trans k1
  have c2' : w.cell? ⟨ad.block, ad.off + 2, none⟩ = some (.slice A2 x.f2.length c2) := (hB.cell (World.block_lt_of_cell? w0 _ k2)).trans k2
  have c3 : w.cell? ⟨ad.block, ad.off + 3, none⟩ = some (.int .i64 x.f3) := (hB.cell (World.block_lt_of_cell? w0 _ k3)).trans k3
  rw [h0] at c0
  have HB := Lib.hid hB
  have HBL := Lib.hid hb
  have HT := Lib.hid htab
  have HC' := Lib.hid hC'
  have hI := itoa_any x.f1 (by omega) (by omega) w0
  have hlI := Lib.itoa_length_le x.f1 (by omega) (by omega)
  have HCE := Lib.hid (cel_decI x.f1)
  generalize hs : (⟨(Lib.itoa x.f1).toArray⟩ : ByteArray) = s at hI HCE
  have hsz : s.size ≤ 21 := by rw [← hs]; simpa [ByteArray.size] using hlI
  clear hs hlI hn hg hB hb htab hC hC' h0 k0 k1 k2 k3 k4 k5
  have HI := Lib.hid hI
  clear hI
  go_enter Tryd.func48, Tryd.ntmps48
  go_wp2_with (first
    | (go_at_call 77; refine (HI.out _ HT.out (HB.out.alloc HB.out.size _)).mono ?_; rintro e w1 ⟨rfl, hb1⟩; have HB1 := Lib.hid hb1; clear hb1)
    | (go_at_call 76; refine (writeString_any w0.heap.size b bs s _ (bld_keep HBL.out (((Below.refl _ _).alloc (Nat.le_refl _) _).trans (HB1.out.mono (by simp)))) (by omega) (Nat.le_trans (HB.out.alloc HB.out.size _).size HB1.out.size)).mono ?_; rintro e w2 ⟨rfl, hbl2, hb2, ho2⟩; have HBL2 := Lib.hid hbl2; have HB2 := Lib.hid hb2; have HO2 := Lib.hid ho2; clear hbl2 hb2 ho2))
  go_ret
  refine ⟨A', c - 1, 1, rfl, rfl, HC'.out, ?_, ?_, ?_⟩
  · rw [← HCE.out]; exact HBL2.out
  · exact ((HB.out.alloc HB.out.size _).trans (HB1.out.mono (HB.out.alloc HB.out.size _).size)).trans HB2.out
  · exact (((Lib.OthersKept.refl _ _ w).alloc _).trans (oth_below HB1.out)).trans HO2.out
set_option maxHeartbeats 4000000 in
set_option maxRecDepth 100000 in
theorem wd_bool (w0 : World) (b : Nat) (bs : List Value) (A : Option Addr) (c : Nat) (x : S57) (l : List S57) (w : World) (hC : RowC w0 A c (x :: l)) (hB : Below w0.heap.size w0 w) (hb : Bld w0.heap.size b bs w)
    (t : List Int) (hg : (x.f1 = 0 ∧ t = [35, 102]) ∨ (x.f1 = 1 ∧ t = [35, 116])) (h0 : x.f0 = 1) (hlen : bs.length ≤ 1099511627776) :
    Calls Tryd.prog 48 #[.pointer (some ⟨b, 0, none⟩), .slice A (x :: l).length c] w (WrPost w0 b bs (x :: l) t (l.map cvT) w) := by
  obtain ⟨A', hsl, hC'⟩ := rowC_tail hC
  obtain ⟨ad, A2, c2, rfl, k0, k1, k2, k3, k4, k5⟩ := rowC_cons hC
  have c0 : w.cell? ad = some (.int .i64 x.f0) := (hB.cell (World.block_lt_of_cell? w0 _ k0)).trans k0
  have c1 : w.cell? ⟨ad.block, ad.off + 1, none⟩ = some (.int .i64 x.f1) := (hB.cell (World.block_lt_of_cell? w0 _ k1)).trans k1
  have c2' : w.cell? ⟨ad.block, ad.off + 2, none⟩ = some (.slice A2 x.f2.length c2) := (hB.cell (World.block_lt_of_cell? w0 _ k2)).trans k2
  have c3 : w.cell? ⟨ad.block, ad.off + 3, none⟩ = some (.int .i64 x.f3) := (hB.cell (World.block_lt_of_cell? w0 _ k3)).trans k3
  rw [h0] at c0
  have HB := Lib.hid hB
  have HBL := Lib.hid hb
  have HC' := Lib.hid hC'
  clear hB hb hC hC' h0 k0 k1 k2 k3 k4 k5
  rcases hg with ⟨hg, rfl⟩ | ⟨hg, rfl⟩
  all_goals
    rw [hg] at c1
    clear hg
    go_enter Tryd.func48, Tryd.ntmps48
    go_wp2_with (go_at_call 76; refine (writeString_any w0.heap.size b bs _ _ (bld_keep HBL.out (((Below.refl _ _).alloc (Nat.le_refl _) _).alloc (by simp) _)) (by simp [ByteArray.size]; omega) (by have := HB.out.size; simp; omega)).mono ?_; rintro e w2 ⟨rfl, hbl2, hb2, ho2⟩; have HBL2 := Lib.hid hbl2; have HB2 := Lib.hid hb2; have HO2 := Lib.hid ho2; clear hbl2 hb2 ho2)
    go_ret
    refine ⟨A', c - 1, 1, rfl, rfl, HC'.out, ?_, ?_, ?_⟩
    · exact HBL2.out
    · exact ((HB.out.alloc HB.out.size _).alloc (by have := HB.out.size; simp; omega) _).trans HB2.out
    · exact (((Lib.OthersKept.refl _ _ w).alloc _).alloc _).trans HO2.out
set_option maxHeartbeats 4000000 in
set_option maxRecDepth 100000 in
theorem wd_sym (w0 : World) (b : Nat) (bs : List Value) (A : Option Addr) (c : Nat) (x : S57) (l : List S57) (w : World) (hC : RowC w0 A c (x :: l)) (hB : Below w0.heap.size w0 w) (hb : Bld w0.heap.size b bs w)
    (hg : 1 ≤ x.f2.length) (hg2 : x.f2.length ≤ 100) (h0 : x.f0 = 2) (hlen : bs.length ≤ 1099511627776) :
    Calls Tryd.prog 48 #[.pointer (some ⟨b, 0, none⟩), .slice A (x :: l).length c] w (WrPost w0 b bs (x :: l) x.f2 (l.map cvT) w) := by
  obtain ⟨A', hsl, hC'⟩ := rowC_tail hC
  obtain ⟨ad, A2, c2, rfl, k0, k1, k2, k3, k4, k5⟩ := rowC_cons hC
  have c0 : w.cell? ad = some (.int .i64 x.f0) := (hB.cell (World.block_lt_of_cell? w0 _ k0)).trans k0
  have c1 : w.cell? ⟨ad.block, ad.off + 1, none⟩ = some (.int .i64 x.f1) := (hB.cell (World.block_lt_of_cell? w0 _ k1)).trans k1
  have c2' : w.cell? ⟨ad.block, ad.off + 2, none⟩ = some (.slice A2 x.f2.length c2) := (hB.cell (World.block_lt_of_cell? w0 _ k2)).trans k2
  have c3 : w.cell? ⟨ad.block, ad.off + 3, none⟩ = some (.int .i64 x.f3) := (hB.cell (World.block_lt_of_cell? w0 _ k3)).trans k3
  rw [h0] at c0
  obtain ⟨h1, h2, h3⟩ := k5
  obtain ⟨a2, rfl, hcell⟩ := h3 (by omega)
  have HN : Hid (∀ w', Below w0.heap.size w0 w' → ∀ j u, (cel x.f2)[j]? = some u → w'.cell? (a2.add j) = some u) := by
    refine Lib.hid fun w' hb' j u hu => ?_
    simp only [cel, List.getElem?_map, Option.map_eq_some_iff] at hu
    obtain ⟨p, hp, rfl⟩ := hu
    obtain ⟨cs, e1, e2, e3⟩ := hcell j p hp
    have hu1 : cs = [.int .u8 p] := e2
    subst hu1
    have := e3 0 _ rfl
    have e4 : j * (Kd.int .u8).sz + 0 = j := by show j * 1 + 0 = j; omega
    rw [e4] at this
    exact (hb'.cell (World.block_lt_of_cell? w0 _ this)).trans this
  have HB := Lib.hid hB
  have HBL := Lib.hid hb
  have HC' := Lib.hid hC'
  clear hB hb hC hC' h0 k0 k1 k2 k3 k4 h1 h2 h3 hcell
  go_enter Tryd.func48, Tryd.ntmps48
  go_wp2_with (go_at_call 78; refine (write_any w0.heap.size b bs a2 x.f2.length c2 (cel x.f2) _ (bld_keep HBL.out ((Below.refl _ _).alloc (Nat.le_refl _) _)) (cel_length _) (fun w' hb' => HN.out w' ((HB.out.alloc HB.out.size _).trans hb')) (fun u hu => by obtain ⟨p, _, rfl⟩ := List.mem_map.1 hu; rfl) (by omega) (by have := HB.out.size; simp; omega) (by omega)).mono ?_; rintro e w2 ⟨rfl, hbl2, hb2, ho2⟩; have HBL2 := Lib.hid hbl2; have HB2 := Lib.hid hb2; have HO2 := Lib.hid ho2; clear hbl2 hb2 ho2)
  go_ret
  refine ⟨A', c - 1, 1, rfl, rfl, HC'.out, HBL2.out, ?_, ?_⟩
  · exact (HB.out.alloc HB.out.size _).trans HB2.out
  · exact ((Lib.OthersKept.refl _ _ w).alloc _).trans HO2.out
/-- Within a list: so many elements are written. -/
def KSt (w0 : World) (b : Nat) (bs : List Value) (n m : Nat) (L : List S57) (u : List Int) (r : List Dat) (w : World) (j : Nat) (A : Option Addr) (c : Nat) (l : List S57) (wr : World) : Prop :=
  ∃ (q : Nat) (u1 u2 : List Int), l = L.drop q ∧ RowC w0 A c l ∧ kidsT (textD m) (n - j) (decide (j = 0)) (l.map cvT) = some (u2, r) ∧ u = u1 ++ u2 ∧ u1.length + 103 * l.length ≤ 103 * L.length ∧ Bld w0.heap.size b (bs ++ cel (40 :: u1)) wr ∧ Below w0.heap.size w0 wr ∧ Oth b w wr
theorem kst_next {w0 : World} {b n m : Nat} {bs : List Value} {L : List S57} {u : List Int} {r : List Dat} {w : World} {j : Nat} {A : Option Addr} {c : Nat} {l : List S57} {wr : World} (h : KSt w0 b bs n m L u r w j A c l wr) (hj : j < n) :
    ∃ (t1 : List Int) (s1 : List Dat) (u1 : List Int), textD m (l.map cvT) = some (t1, s1) ∧ RowC w0 A c l ∧ u1.length + 103 * l.length ≤ 103 * L.length ∧ Bld w0.heap.size b (bs ++ cel (40 :: u1)) wr ∧ Below w0.heap.size w0 wr ∧ Oth b w wr ∧ 1 ≤ l.length ∧
      ∀ (A2 : Option Addr) (d2 q2 : Nat) (w2 : World), (l.drop q2).map cvT = s1 → RowC w0 A2 d2 (l.drop q2) → Bld w0.heap.size b (bs ++ cel (40 :: u1) ++ (if j = 0 then [] else [.int .u8 32]) ++ cel t1) w2 → Below w0.heap.size w0 w2 → Oth b w w2 → KSt w0 b bs n m L u r w (j + 1) A2 d2 (l.drop q2) w2 := by
  obtain ⟨q, u1, u2, hl, hr, hk, hu, hlen, hb, hB, hO⟩ := h
  obtain ⟨k, hk1⟩ : ∃ k, n - j = k + 1 := ⟨n - j - 1, by omega⟩
  rw [hk1] at hk
  simp only [kidsT] at hk
  cases ht : textD m (l.map cvT) with
  | none => rw [ht] at hk; cases hk
  | some p =>
    obtain ⟨t1, s1⟩ := p
    rw [ht] at hk
    simp only [Option.bind_some] at hk
    cases hk2 : kidsT (textD m) k false s1 with
    | none => rw [hk2] at hk; cases hk
    | some p2 =>
      obtain ⟨v, x⟩ := p2
      rw [hk2] at hk
      simp only [Option.map_some, Option.some.injEq, Prod.mk.injEq] at hk
      obtain ⟨hv, rfl⟩ := hk
      have hlt := textD_len m _ _ _ ht
      have hend := endD_len m _ _ (textD_end ht)
      simp only [List.length_map] at hlt hend
      refine ⟨t1, s1, u1, rfl, hr, hlen, hb, hB, hO, by omega, fun A2 d2 q2 w2 e1 e2 e3 e4 e5 => ?_⟩
      have hl2 : (l.drop q2).length = s1.length := by rw [← e1, List.length_map]
      refine ⟨q + q2, u1 ++ (if j = 0 then t1 else 32 :: t1), v, by rw [hl, List.drop_drop], e2, ?_, ?_, ?_, ?_, e4, e5⟩
      · rw [show n - (j + 1) = k by omega, show decide (j + 1 = 0) = false by simp, e1]
        exact hk2
      · rw [hu, ← hv, List.append_assoc]
        congr 1
        by_cases h0 : j = 0 <;> simp [h0]
      · rw [List.length_append, hl2]
        split
        · omega
        · simp only [List.length_cons]; omega
      · by_cases h0 : j = 0
        · simpa [h0, cel, List.append_assoc] using e3
        · simpa [h0, cel, List.append_assoc] using e3
theorem kst_end {w0 : World} {b n m : Nat} {bs : List Value} {L : List S57} {u : List Int} {r : List Dat} {w : World} {j : Nat} {A : Option Addr} {c : Nat} {l : List S57} {wr : World} (h : KSt w0 b bs n m L u r w j A c l wr) (hj : ¬ j < n) :
    ∃ q, l = L.drop q ∧ l.map cvT = r ∧ RowC w0 A c l ∧ u.length ≤ 103 * L.length ∧ Bld w0.heap.size b (bs ++ cel (40 :: u)) wr ∧ Below w0.heap.size w0 wr ∧ Oth b w wr := by
  obtain ⟨q, u1, u2, hl, hr, hk, hu, hlen, hb, hB, hO⟩ := h
  rw [show n - j = 0 by omega] at hk
  simp only [kidsT, Option.some.injEq, Prod.mk.injEq] at hk
  obtain ⟨rfl, hk⟩ := hk
  rw [List.append_nil] at hu
  subst hu
  exact ⟨q, hl, hk, hr, by omega, hb, hB, hO⟩
set_option maxHeartbeats 4000000 in
set_option maxRecDepth 100000 in
theorem wd_list (w0 : World) (b m n : Nat) (bs : List Value) (A : Option Addr) (c : Nat) (x : S57) (l : List S57) (u : List Int) (r : List Dat) (w : World)
    (ih : ∀ (l : List S57) (A : Option Addr) (c : Nat) (bs : List Value) (w : World) (t : List Int) (r : List Dat), textD m (l.map cvT) = some (t, r) → RowC w0 A c l → Below w0.heap.size w0 w → Bld w0.heap.size b bs w → bs.length + 103 * l.length ≤ 1099511627776 →
      Calls Tryd.prog 48 #[.pointer (some ⟨b, 0, none⟩), .slice A l.length c] w (WrPost w0 b bs l t r w))
    (hC : RowC w0 A c (x :: l)) (hB : Below w0.heap.size w0 w) (hb : Bld w0.heap.size b bs w) (hk : kidsT (textD m) n true (l.map cvT) = some (u, r)) (hn : x.f3 = (n : Int)) (h0 : x.f0 = 3) (hlen : bs.length + 103 * (l.length + 1) ≤ 1099511627776) :
    Calls Tryd.prog 48 #[.pointer (some ⟨b, 0, none⟩), .slice A (x :: l).length c] w (WrPost w0 b bs (x :: l) (40 :: (u ++ [41])) r w) := by
  obtain ⟨A', hsl, hC'⟩ := rowC_tail hC
  obtain ⟨ad, A2, c2, rfl, k0, k1, k2, k3, k4, k5⟩ := rowC_cons hC
  have c0 : w.cell? ad = some (.int .i64 x.f0) := (hB.cell (World.block_lt_of_cell? w0 _ k0)).trans k0
  have c1 : w.cell? ⟨ad.block, ad.off + 1, none⟩ = some (.int .i64 x.f1) := (hB.cell (World.block_lt_of_cell? w0 _ k1)).trans k1
  have c2' : w.cell? ⟨ad.block, ad.off + 2, none⟩ = some (.slice A2 x.f2.length c2) := (hB.cell (World.block_lt_of_cell? w0 _ k2)).trans k2
  have c3 : w.cell? ⟨ad.block, ad.off + 3, none⟩ = some (.int .i64 x.f3) := (hB.cell (World.block_lt_of_cell? w0 _ k3)).trans k3
  rw [h0] at c0
  rw [hn] at c3
  have hnl : n ≤ l.length := by
    have := kidsF_len (endD_len m) n _ _ (kidsT_end hk)
    simp only [List.length_map] at this
    omega
  have hul : u.length ≤ 103 * l.length := by
    have := kidsT_len (textD_len m) n true _ _ _ hk
    simp only [List.length_map] at this
    omega
  have HK := Lib.hid hk
  have HB := Lib.hid hB
  have HBL := Lib.hid hb
  have HC' := Lib.hid hC'
  have IH := Lib.hid ih
  clear hB hb hC hC' hn h0 k0 k1 k2 k3 k4 k5 hk ih
  go_enter Tryd.func48, Tryd.ntmps48
  go_wp2_with (go_at_call 49; refine (writeByte_any w0.heap.size b bs _ _ (bld_keep HBL.out ((Below.refl _ _).alloc (Nat.le_refl _) _)) (by omega) (by have := HB.out.size; simp; omega)).mono ?_; rintro e w2 ⟨rfl, hbl2, hb2, ho2⟩; have HBL2 := Lib.hid hbl2; have HB2 : Hid (Below w0.heap.size w0 w2) := Lib.hid ((HB.out.alloc HB.out.size _).trans hb2); have HO2 : Hid (Oth b w w2) := Lib.hid (((Lib.OthersKept.refl _ _ w).alloc _).trans ho2); have hcnt : w2.cell? ⟨w.heap.size, 3, none⟩ = some (.int .i64 (n : Int)) := blk_cell (oth_blk ho2 (heap_alloc_new w _) (by have := bld_lt HBL.out; omega) (by decide)) 3; clear hbl2 hb2 ho2)
  clear c0 c1 c2' c3 hsl
  go_loopw [1, 18] (fun v1 v18 wr => ∃ (j : Nat) (A1 : Option Addr) (d1 : Nat) (l1 : List S57), j ≤ n ∧ v18 = .int .i64 j ∧ v1 = .slice A1 l1.length d1 ∧ Hid (KSt w0 b bs n m l u r w j A1 d1 l1 wr)) (fun _ i _ => n - (RowKit.intOf i).toNat)
  case atStart => exact ⟨0, A', c - 1, l, Nat.zero_le _, rfl, rfl, Lib.hid ⟨0, [], u, rfl, HC'.out, HK.out, rfl, by simp, HBL2.out, HB2.out, HO2.out⟩⟩
  case round =>
    obtain ⟨j, A1, d1, l1, hj, rfl, rfl, HS⟩ := hrel
    by_cases hlt : j < n
    · obtain ⟨t1, s1, u1, ht1, hr1, hlen1, hbl1, hB1, hO1, hl1, hnx⟩ := kst_next HS.out hlt
      have HT1 := Lib.hid ht1
      have HR1 := Lib.hid hr1
      have HBL1 := Lib.hid hbl1
      have HB1 := Lib.hid hB1
      have HO1 := Lib.hid hO1
      have HNX := Lib.hid hnx
      have hsz1 := hB1.size
      have hlc1 : (bs ++ cel (40 :: u1)).length = bs.length + (u1.length + 1) := by simp [cel_length]
      obtain ⟨bs1, hbs1⟩ : ∃ bs1, bs1 = bs ++ cel (40 :: u1) := ⟨_, rfl⟩
      rw [← hbs1] at HBL1 HNX hlc1
      clear HS ht1 hr1 hbl1 hB1 hO1 hnx hbs1 HBL2 HB2 HO2 hcnt HBL HC' HK
      rcases j with _ | j
      · go_wp2_with (go_at_call 48; refine (IH.out l1 A1 d1 bs1 _ t1 s1 HT1.out HR1.out HB1.out HBL1.out (by omega)).mono ?_; rintro e w3 ⟨A3, d3, q3, rfl, hm3, hr3, hbl3, hb3, ho3⟩; have HM3 := Lib.hid hm3; have HR3 := Lib.hid hr3; have HBL3 := Lib.hid hbl3; have HB3 := Lib.hid hb3; have HO3 := Lib.hid ho3; clear hm3 hr3 hbl3 hb3 ho3)
        go_roundw
        case rel => exact ⟨1, A3, d3, l1.drop q3, by omega, by go_num, by rw [List.length_drop], Lib.hid (HNX.out A3 d3 q3 _ HM3.out HR3.out (by simpa using HBL3.out) HB3.out (HO1.out.trans HO3.out))⟩
        case measure => simp [RowKit.intOf]; omega
      · have hpos : 0 < j + 1 := Nat.succ_pos j
        go_wp2_with (first
          | (go_at_call 49; refine (writeByte_any w0.heap.size b bs1 _ _ HBL1.out (by omega) hsz1).mono ?_; rintro e w2' ⟨rfl, hbl2, hb2, ho2⟩; have HBL2 := Lib.hid hbl2; have HB2 : Hid (Below w0.heap.size w0 w2') := Lib.hid (HB1.out.trans hb2); have HO2 : Hid (Oth b w w2') := Lib.hid (HO1.out.trans ho2); clear hbl2 hb2 ho2)
          | (go_at_call 48; refine (IH.out l1 A1 d1 (bs1 ++ [.int .u8 32]) _ t1 s1 HT1.out HR1.out HB2.out HBL2.out (by simp only [List.length_append, List.length_cons, List.length_nil]; omega)).mono ?_; rintro e w3 ⟨A3, d3, q3, rfl, hm3, hr3, hbl3, hb3, ho3⟩; have HM3 := Lib.hid hm3; have HR3 := Lib.hid hr3; have HBL3 := Lib.hid hbl3; have HB3 := Lib.hid hb3; have HO3 := Lib.hid ho3; clear hm3 hr3 hbl3 hb3 ho3))
        go_roundw
        case rel => exact ⟨j + 2, A3, d3, l1.drop q3, by omega, by go_num, by rw [List.length_drop], Lib.hid (HNX.out A3 d3 q3 _ HM3.out HR3.out (by simpa using HBL3.out) HB3.out (HO2.out.trans HO3.out))⟩
        case measure => simp [RowKit.intOf]; omega
    · obtain ⟨q, hl1, hm1, hr1, hul1, hbl1, hB1, hO1⟩ := kst_end HS.out hlt
      have HL1 := Lib.hid hl1
      have HM1 := Lib.hid hm1
      have HR1 := Lib.hid hr1
      have HBL1 := Lib.hid hbl1
      have HB1 := Lib.hid hB1
      have HO1 := Lib.hid hO1
      have hsz1 := hB1.size
      have hlc1 : (bs ++ cel (40 :: u)).length = bs.length + (u.length + 1) := by simp [cel_length]
      clear HS hl1 hm1 hr1 hbl1 hB1 hO1 HBL2 HB2 HO2 hcnt HBL HC' HK
      go_wp2_with (go_at_call 49; refine (writeByte_any w0.heap.size b (bs ++ cel (40 :: u)) _ _ HBL1.out (by omega) hsz1).mono ?_; rintro e w2' ⟨rfl, hbl2, hb2, ho2⟩; have HBL2 := Lib.hid hbl2; have HB2 : Hid (Below w0.heap.size w0 w2') := Lib.hid (HB1.out.trans hb2); have HO2 : Hid (Oth b w w2') := Lib.hid (HO1.out.trans ho2); clear hbl2 hb2 ho2)
      go_ret
      refine ⟨A1, d1, q + 1, ?_, ?_, ?_, ?_, HB2.out, HO2.out⟩
      · rw [HL1.out]; rfl
      · rw [← HM1.out, HL1.out]; rfl
      · have := HR1.out; rw [HL1.out] at this; exact this
      · have := HBL2.out
        simpa [cel, List.append_assoc] using this
theorem wd_any (w0 : World) (b : Nat) (htab : Lib.TabIs Tryd.prog w0 "internal/strconv.uint64pow10" .u64 Lib.pow10Tab) : ∀ (m : Nat) (l : List S57) (A : Option Addr) (c : Nat) (bs : List Value) (w : World) (t : List Int) (r : List Dat), textD m (l.map cvT) = some (t, r) → RowC w0 A c l → Below w0.heap.size w0 w → Bld w0.heap.size b bs w → bs.length + 103 * l.length ≤ 1099511627776 →
    Calls Tryd.prog 48 #[.pointer (some ⟨b, 0, none⟩), .slice A l.length c] w (WrPost w0 b bs l t r w) := by
  have atom : ∀ (x : S57) (l : List S57) (A : Option Addr) (c : Nat) (bs : List Value) (w : World), goodB (cvT x) = true → ¬ (cvT x).k = 3 → RowC w0 A c (x :: l) → Below w0.heap.size w0 w → Bld w0.heap.size b bs w → bs.length + 103 * (x :: l).length ≤ 1099511627776 →
      Calls Tryd.prog 48 #[.pointer (some ⟨b, 0, none⟩), .slice A (x :: l).length c] w (WrPost w0 b bs (x :: l) (atomT (cvT x)) (l.map cvT) w) := by
    intro x l A c bs w hg h3 hC hB hb hlen
    unfold atomT
    by_cases h0 : (cvT x).k = 0
    · rw [if_pos h0]
      exact wd_int w0 b bs A c x l w hC hB hb htab hg h0 (by omega)
    · rw [if_neg h0]
      by_cases h1 : (cvT x).k = 1
      · rw [if_pos h1]
        refine wd_bool w0 b bs A c x l w hC hB hb _ ?_ h1 (by omega)
        rcases (good_bool hg h1).1 with h | h
        · exact .inl ⟨h, by rw [h, if_neg (by decide)]⟩
        · exact .inr ⟨h, by rw [if_pos h]⟩
      · rw [if_neg h1]
        obtain ⟨e1, e2, _⟩ := good_sym hg h0 h1 h3
        have e3 := symB_len e2
        exact wd_sym w0 b bs A c x l w hC hB hb e3.1 e3.2 e1 (by omega)
  intro m
  induction m with
  | zero =>
    intro l A c bs w t r ht hC hB hb hlen
    cases l with
    | nil => simp [textD] at ht
    | cons x l =>
      simp only [List.map_cons, textD] at ht
      split at ht
      · rename_i hg
        split at ht
        · cases ht
        · rename_i h3
          simp only [Option.some.injEq, Prod.mk.injEq] at ht
          obtain ⟨rfl, rfl⟩ := ht
          exact atom x l A c bs w hg h3 hC hB hb hlen
      · cases ht
  | succ m ih =>
    intro l A c bs w t r ht hC hB hb hlen
    cases l with
    | nil => simp [textD] at ht
    | cons x l =>
      simp only [List.map_cons, textD] at ht
      split at ht
      · rename_i hg
        split at ht
        · rename_i h3
          cases hk : kidsT (textD m) (cvT x).c.toNat true (l.map cvT) with
          | none => rw [hk] at ht; cases ht
          | some p =>
            obtain ⟨u, r'⟩ := p
            rw [hk] at ht
            simp only [Option.map_some, Option.some.injEq, Prod.mk.injEq] at ht
            obtain ⟨rfl, rfl⟩ := ht
            have hc := good_cnt hg h3
            exact wd_list w0 b m (cvT x).c.toNat bs A c x l u r' w ih hC hB hb hk (Int.toNat_of_nonneg hc).symm h3 hlen
        · rename_i h3
          simp only [Option.some.injEq, Prod.mk.injEq] at ht
          obtain ⟨rfl, rfl⟩ := ht
          exact atom x l A c bs w hg h3 hC hB hb hlen
      · cases ht
end Go.Proofs.YtogmphjhdkgdjaaDoor
