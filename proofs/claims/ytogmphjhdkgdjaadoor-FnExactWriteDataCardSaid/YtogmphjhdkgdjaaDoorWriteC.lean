/- The program's WriteData. -/
import Derived.Test.YtogmphjhdkgdjaaDoorWriteB
import Derived.Test.YtogmphjhdkgdjaaDoorOwnA
import Derived.Test.YtogmphjhdkgdjaaDoorQFnExactWriteDatax7
namespace Go.Proofs.YtogmphjhdkgdjaaDoor
open Go.RowKit Go.Lib Go.Proofs.YtogmphjhdkgdjaaDoor.QFnExactWriteData Go.Proofs.YtogmphjhdkgdjaaDoorW.PrintWords Go.Proofs.YtogmphjhdkgdjaaDoorW.PrintLast Go.Proofs.YtogmphjhdkgdjaaDoorW.PrintMore
set_option linter.unusedVariables false
set_option linter.unusedSimpArgs false
def bytesU (u : List Int) : List UInt8 := u.map fun b => b.toNat.toUInt8
theorem bytesU_get {u : List Int} (h : Byts u) (j : Nat) (p : Int) (hp : u[j]? = some p) : ((p.toNat.toUInt8).toNat : Int) = p := by
  have := h p (List.mem_of_getElem? hp)
  simp [UInt8.toNat_ofNat]
  omega
theorem cel_bytesU {u : List Int} (h : Byts u) : cel u = Lib.byteCells (bytesU u) := by
  apply List.ext_getElem?
  intro j
  simp only [cel, Lib.byteCells, bytesU, List.getElem?_map, List.map_map]
  cases hp : u[j]? with
  | none => rfl
  | some p => simp only [Option.map_some, Function.comp]; rw [bytesU_get h j p hp]
/-- '[]byte(s)'. -/
theorem OwnB.conv {u : List Int} (h : Byts u) (w : World) (hl : u.length ≤ 9223372036854775807) : OwnB w.heap.size (Lib.bytesWorld w 5 ⟨(bytesU u).toArray⟩) (.slice (some ⟨w.heap.size, 0, none⟩) (⟨(bytesU u).toArray⟩ : ByteArray).size (grownCap w (⟨(bytesU u).toArray⟩ : ByteArray).size 0 5)) u := by
  have hs : (⟨(bytesU u).toArray⟩ : ByteArray).size = u.length := by simp [ByteArray.size, bytesU]
  rw [hs]
  have hge := grownCap_ge w u.length 0 5
  refine Or.inr ⟨w.heap.size, _, _, _, rfl, Nat.le_refl _, Lib.bytesWorld_at_new w _ _, fun i hi => ?_, hge, hl, fun j p hp => ?_⟩
  · simp [Lib.bytesCells, bytesU]
    omega
  · have hj := (List.getElem?_eq_some_iff.1 hp).1
    have := h p (List.mem_of_getElem? hp)
    simp only [Lib.bytesCells, bytesU]
    rw [Array.getElem?_append_left (by simpa using hj)]
    simp [hp]
    omega
/-- Between the data of the row. -/
def RSt (w1 : World) (b : Nat) (L : List S57) (u : List Int) (A : Option Addr) (c : Nat) (l : List S57) (wr : World) : Prop :=
  ∃ (f q : Nat) (u1 u2 : List Int), l = L.drop q ∧ RowC w1 A c l ∧ rowsT f (l.map cvT) = some u2 ∧ u = u1 ++ u2 ∧ u1.length + 103 * l.length ≤ 103 * L.length ∧ Bld w1.heap.size b (cel u1) wr ∧ Below w1.heap.size w1 wr
theorem rst_next {w1 : World} {b : Nat} {L : List S57} {u : List Int} {A : Option Addr} {c : Nat} {l : List S57} {wr : World} (h : RSt w1 b L u A c l wr) (hl : 0 < l.length) :
    ∃ (t1 : List Int) (s1 : List Dat) (u1 : List Int), textD 100 (l.map cvT) = some (t1, s1) ∧ RowC w1 A c l ∧ u1.length + 103 * l.length ≤ 103 * L.length ∧ t1.length + 1 ≤ 103 * l.length ∧ Bld w1.heap.size b (cel u1) wr ∧ Below w1.heap.size w1 wr ∧
      ∀ (A2 : Option Addr) (d2 q2 : Nat) (w2 : World), (l.drop q2).map cvT = s1 → RowC w1 A2 d2 (l.drop q2) → Bld w1.heap.size b (cel u1 ++ cel t1 ++ [.int .u8 10]) w2 → Below w1.heap.size w1 w2 → RSt w1 b L u A2 d2 (l.drop q2) w2 ∧ (l.drop q2).length < l.length := by
  obtain ⟨f, q, u1, u2, hL, hr, hk, hu, hlen, hb, hB⟩ := h
  cases l with
  | nil => simp at hl
  | cons x l =>
    cases f with
    | zero => simp [rowsT] at hk
    | succ f =>
      simp only [List.map_cons, rowsT] at hk
      cases ht : textD 100 (cvT x :: l.map cvT) with
      | none => rw [ht] at hk; cases hk
      | some p =>
        obtain ⟨t1, s1⟩ := p
        rw [ht] at hk
        simp only [Option.bind_some] at hk
        cases hk2 : rowsT f s1 with
        | none => rw [hk2] at hk; cases hk
        | some v =>
          rw [hk2] at hk
          simp only [Option.map_some, Option.some.injEq] at hk
          have hlt := textD_len _ _ _ _ ht
          have hend := endD_len _ _ _ (textD_end ht)
          simp only [List.length_map, List.length_cons] at hlt hend hlen
          refine ⟨t1, s1, u1, ht, hr, by simpa using hlen, by simp only [List.length_cons]; omega, hb, hB, fun A2 d2 q2 w2 e1 e2 e3 e4 => ?_⟩
          have hl2 : ((x :: l).drop q2).length = s1.length := by rw [← e1, List.length_map]
          refine ⟨⟨f, q + q2, u1 ++ t1 ++ [10], v, by rw [hL, List.drop_drop], e2, by rw [e1]; exact hk2, ?_, ?_, by simpa [cel] using e3, e4⟩, ?_⟩
          · rw [hu, ← hk]; simp
          · rw [hl2]; simp only [List.length_append, List.length_cons, List.length_nil]; omega
          · rw [hl2]; simp only [List.length_cons]; omega
set_option maxHeartbeats 4000000 in
set_option maxRecDepth 100000 in
theorem writeData_any (k : Nat) (A : Option Addr) (c : Nat) (l : List S57) (w : World) (hr : Kd.C k57 w A l.length l) (hc : l.length ≤ c) (hv : impl_ValidData.f k l = some (validD (l.map cvT))) (hby : ∀ x ∈ l, Byts x.f2)
    (htab : Lib.TabIs Tryd.prog w "internal/strconv.uint64pow10" .u64 Lib.pow10Tab) :
    Calls Tryd.prog 19 #[.slice A l.length c] w fun e w' => ∃ v, e = .returned v ∧ OwnB w.heap.size w' v (writeT (l.map cvT)) ∧ Below w.heap.size w w' := by
  have HV := Lib.hid (impl_ValidData.calls k A c l (validD (l.map cvT)) w hr hc hv)
  have HR := Lib.hid hr
  have HT := Lib.hid htab
  have HBY := Lib.hid hby
  clear hr htab hv hby
  unfold writeT
  cases hvd : validD (l.map cvT) with
  | false =>
    rw [hvd] at HV
    clear hvd
    go_enter Tryd.func19, Tryd.ntmps19
    go_wp2_with (go_at_call 11; refine HV.out.mono ?_; rintro e w1 ⟨rfl, hb1⟩; have HB1 := Lib.hid hb1; clear hb1)
    go_ret
    exact ⟨_, rfl, Or.inl ⟨rfl, rfl⟩, HB1.out⟩
  | true =>
    rw [hvd] at HV
    obtain ⟨u, hu⟩ : ∃ u, rowsT l.length (l.map cvT) = some u := by
      have h1 : rowsF l.length (l.map cvT) = true := by
        unfold validD at hvd
        simp only [List.length_map, Bool.and_eq_true] at hvd
        exact hvd.2
      rw [← rowsT_some] at h1
      exact Option.isSome_iff_exists.1 h1
    have hll : l.length ≤ 3000 := by
      unfold validD at hvd
      simp only [List.length_map, Bool.and_eq_true, decide_eq_true_eq] at hvd
      exact hvd.1
    have hlen := rowsT_len _ _ _ hu
    simp only [List.length_map] at hlen
    have HBU : Hid (Byts u) := Lib.hid (rowsT_byts _ _ _ (fun d hd => by obtain ⟨x, hx, rfl⟩ := List.mem_map.1 hd; exact HBY.out x hx) hu)
    have hw : (rowsT (l.map cvT).length (l.map cvT)).getD [] = u := by rw [List.length_map, hu]; rfl
    simp only [if_true]
    rw [hw]
    have HU := Lib.hid hu
    clear hu hw hvd
    have hcv := fun (W : World) (s : ByteArray) => Lib.run_convert_string_bytes (P := Tryd.prog) W 9 42 5 s Tryd.underlying9 Tryd.underlying42 Tryd.underlying5
    go_enter Tryd.func19, Tryd.ntmps19
    go_wp2_with (go_at_call 11; refine HV.out.mono ?_; rintro e w1 ⟨rfl, hb1⟩; have HB1 := Lib.hid hb1; clear hb1)
    have HT1 : Hid (Lib.TabIs Tryd.prog w1 "internal/strconv.uint64pow10" .u64 Lib.pow10Tab) := Lib.hid (tab_below HT.out HB1.out)
    have HR1 : Hid (RowC w1 A c l) := Lib.hid ⟨Kd.C_below HR.out HB1.out, hc⟩
    have HBL : Hid (Bld w1.heap.size w1.heap.size (cel []) (w1.alloc (.cells #[.pointer none, .slice none 0 0] 81 (0, 0)))) :=
      Lib.hid (Or.inl ⟨Nat.le_refl _, _, heap_alloc_new w1 _, World.ownsRowF_nil _ _ _ _, by simp [Value.ownBlock]⟩)
    have hB0 := HB1.out.size
    go_loopw [0] (fun v0 wr => ∃ (A1 : Option Addr) (d1 : Nat) (l1 : List S57), v0 = .slice A1 l1.length d1 ∧ Hid (RSt w1 w1.heap.size l u A1 d1 l1 wr)) (fun v0 _ => match v0 with | .slice _ n _ => n | _ => 0)
    case atStart => exact ⟨A, c, l, rfl, Lib.hid ⟨l.length, 0, [], u, rfl, HR1.out, HU.out, rfl, by simp, HBL.out, (Below.refl _ _).alloc (Nat.le_refl _) _⟩⟩
    case round =>
      obtain ⟨A1, d1, l1, rfl, HS⟩ := hrel
      by_cases hlt : 0 < l1.length
      · obtain ⟨t1, s1, u1, ht1, hr1, hlen1, hlt1, hbl1, hB1, hnx⟩ := rst_next HS.out hlt
        have HT1' := Lib.hid ht1
        have HR1' := Lib.hid hr1
        have HBL1 := Lib.hid hbl1
        have HB1' := Lib.hid hB1
        have HNX := Lib.hid hnx
        have hsz1 := hB1.size
        have hlc1 : (cel u1).length = u1.length := cel_length _
        have hlt2 : t1.length ≤ 400000 := by omega
        obtain ⟨bs1, hbs1⟩ : ∃ bs1, bs1 = cel u1 := ⟨_, rfl⟩
        rw [← hbs1] at HBL1 HNX hlc1
        clear HS ht1 hr1 hbl1 hB1 hnx hbs1 hcv
        go_wp2_with (first
          | (go_at_call 48; refine (wd_any w1 w1.heap.size HT1.out 100 l1 A1 d1 bs1 _ t1 s1 HT1'.out HR1'.out HB1'.out HBL1.out (by omega)).mono ?_; rintro e w3 ⟨A3, d3, q3, rfl, hm3, hr3, hbl3, hb3, ho3⟩; have HM3 := Lib.hid hm3; have HR3 := Lib.hid hr3; have HBL3 := Lib.hid hbl3; have HB3 := Lib.hid hb3; clear hm3 hr3 hbl3 hb3 ho3)
          | (go_at_call 49; refine (writeByte_any w1.heap.size w1.heap.size (bs1 ++ cel t1) _ _ HBL3.out (by simp only [List.length_append, cel_length]; omega) HB3.out.size).mono ?_; rintro e w4 ⟨rfl, hbl4, hb4, ho4⟩; have HBL4 := Lib.hid hbl4; have HB4 : Hid (Below w1.heap.size w1 w4) := Lib.hid (HB3.out.trans hb4); clear hbl4 hb4 ho4))
        go_roundw
        case rel => exact ⟨A3, d3, l1.drop q3, by rw [List.length_drop], Lib.hid (HNX.out A3 d3 q3 _ HM3.out HR3.out HBL4.out HB4.out).1⟩
        case measure => have := (HNX.out A3 d3 q3 _ HM3.out HR3.out HBL4.out HB4.out).2; simp at this ⊢; omega
      · have HE : Hid (Bld w1.heap.size w1.heap.size (Lib.byteCells (bytesU u)) wr ∧ Below w1.heap.size w1 wr) := by
          obtain ⟨f, q, u1, u2, hL, hr, hk, hu, hlen, hb, hB⟩ := HS.out
          have h1 : l1 = [] := List.eq_nil_of_length_eq_zero (by omega)
          subst h1
          have h2 : u2 = [] := by cases f <;> (simp only [List.map_nil, rowsT, Option.some.injEq] at hk; exact hk.symm)
          subst h2
          rw [List.append_nil] at hu
          subst hu
          exact Lib.hid ⟨by rw [← cel_bytesU HBU.out]; exact hb, hB⟩
        clear HS
        go_wp2_with (go_at_call 50; refine (Tryd.Builder_String_any_k w1.heap.size w1.heap.size (bytesU u) _ HE.out.1 HE.out.2.size).mono ?_; rintro e w4 ⟨rfl, _, hb4, _⟩; have HB4 := Lib.hid (HE.out.2.trans hb4); clear hb4)
        go_ret
        refine ⟨_, rfl, ?_, ?_⟩
        · have h1 := OwnB.conv HBU.out w4 (by omega)
          have h2 := HB4.out.size
          rcases h1 with ⟨h1, _⟩ | ⟨g, cap, cells, fz, h1, h3, h4⟩
          · cases h1
          · exact Or.inr ⟨g, cap, cells, fz, h1, by omega, h4⟩
        · exact bytes_below (HB1.out.trans (HB4.out.mono hB0)) (by have := HB4.out.size; omega) _ _
end Go.Proofs.YtogmphjhdkgdjaaDoor
