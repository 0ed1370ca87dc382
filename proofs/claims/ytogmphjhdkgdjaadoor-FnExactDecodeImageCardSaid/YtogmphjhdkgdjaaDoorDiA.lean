/- Rows of bytes of the call's own, marked behind their end or not: read, kept, and what the law's marks do to them. -/
import Derived.Test.YtogmphjhdkgdjaaDoorZQFnExactValidModulex0
import Derived.Lib.Hide
import Derived.Test.YtogmphjhdkgdjaaDoorProg
import Derived.Lib.AppendStr
import Derived.Lib.FrozenHead2
import Derived.Lib.OwnKind
import Derived.Lib.Builder
import Derived.Lib.OthersKept
import Derived.WalkKit
import Derived.WalkLawsBesides
import Derived.RowKit3
import Derived.Tactics
import Derived.KernelRfl
import Derived.Laws.Externs
import Derived.Deep.AppendLies
import Derived.Deep.LoopGhost
import Derived.StillTailTactics
import Derived.Test.YtogmphjhdkgdjaaDoorZWords
import Derived.Laws.BitsLemmas
import Derived.Laws.BitsAllLaws
import Derived.Test.YtogmphjhdkgdjaaDoorZModA
import Derived.Deep.RegionHeld3
namespace Go.Proofs.YtogmphjhdkgdjaaDoor
open Go.RowKit Go.Lib Go.Proofs.YtogmphjhdkgdjaaDoor.QFnExactValidModule Go.Proofs.YtogmphjhdkgdjaaDoorW.PrintWords Go.Proofs.YtogmphjhdkgdjaaDoorW.PrintLast Go.Proofs.YtogmphjhdkgdjaaDoorW.PrintMore
set_option linter.unusedVariables false
set_option linter.unusedSimpArgs false
/-- The bytes xs lie in a row from base on; none of them is frozen. -/
def OwnB (base : Nat) (w : World) (v : Value) (xs : List Int) : Prop :=
  (v = .slice none 0 0 ∧ xs = []) ∨ ∃ (g cap : Nat) (cells : Array Value) (fz : Nat × Nat), v = .slice (some ⟨g, 0, none⟩) xs.length cap ∧ base ≤ g ∧ w.heap[g]? = some (.cells cells 5 fz) ∧ (∀ i, i < xs.length → ¬ (fz.1 ≤ i ∧ i < fz.2)) ∧ xs.length ≤ cap ∧ xs.length ≤ 9223372036854775807 ∧ ∀ (j : Nat) (p : Int), xs[j]? = some p → cells[j]? = some (Value.int .u8 p)
theorem OwnB.reads {base : Nat} {w : World} {v : Value} {xs : List Int} (h : OwnB base w v xs) : ∃ A c, v = .slice A xs.length c ∧ xs.length ≤ c ∧ Kd.C (Kd.int .u8) w A xs.length xs := by
  rcases h with ⟨rfl, rfl⟩ | ⟨g, cap, cells, fz, rfl, hb, hg, hf, hc, hm, hx⟩
  · exact ⟨none, 0, rfl, Nat.le_refl _, rfl, by simp, fun h => by simp at h⟩
  · refine ⟨_, cap, rfl, hc, rfl, hm, fun _ => ⟨_, rfl, fun j p hp => ⟨[.int .u8 p], rfl, rfl, fun i u hu => ?_⟩⟩⟩
    have hi : i = 0 := by have := (List.getElem?_eq_some_iff.1 hu).1; simp at this; omega
    subst hi
    simp at hu
    subst hu
    have e : j * (Kd.int .u8).sz + 0 = j := by show j * 1 + 0 = j; omega
    rw [e, Go.Proofs.YtogmphjhdkgdjaaDoorW.PrintWords.add_plain]
    simp [World.cell?, hg, hx j p hp]
theorem OwnB.keep {base : Nat} {w w' : World} {v : Value} {xs : List Int} (h : OwnB base w v xs) (hk : ∀ k, v.ownBlock = some k → base ≤ k → k < w.heap.size → w'.heap[k]? = w.heap[k]?) : OwnB base w' v xs := by
  rcases h with ⟨rfl, rfl⟩ | ⟨g, cap, cells, fz, rfl, hb, hg, hf, hc, hm, hx⟩
  · exact Or.inl ⟨rfl, rfl⟩
  · exact Or.inr ⟨g, cap, cells, fz, rfl, hb, (hk g rfl hb (Array.getElem?_eq_some_iff.1 hg).1).trans hg, hf, hc, hm, hx⟩
theorem OwnB.below {base : Nat} {w w' : World} {v : Value} {xs : List Int} (h : OwnB base w v xs) (hb : Below w.heap.size w w') : OwnB base w' v xs := h.keep (fun k _ _ hk => hb.block k hk)
/-- A row that the print tells of. -/
theorem OwnB.of_R {base : Nat} {ok : Nat → Prop} {w : World} {v : Value} {xs : List Int} (h : Kd.R (Kd.int .u8) 5 w base ok v xs) : OwnB base w v xs := by
  rcases Nat.eq_zero_or_pos xs.length with h0 | h0
  · have hx : xs = [] := List.eq_nil_of_length_eq_zero h0
    subst hx
    rcases h.2 with ⟨inner, hown, _⟩
    rcases hown.2 with ⟨e, _⟩ | ⟨g, cap, cur, e, hb, hg, hn, hm, hs, ht⟩
    · exact Or.inl ⟨e, rfl⟩
    · refine Or.inr ⟨g, cap, cur, (0, 0), e, hb, hg, fun i hi => by simp at hi, by simp, by simp, fun j p hp => by simp at hp⟩
  · obtain ⟨g, cap, rfl, hb, hl, cells, hc⟩ := Kd.R_form h h0
    obtain ⟨_, hcap, hC⟩ := Kd.R_reads' h
    obtain ⟨h2, h3, h4⟩ := hC
    obtain ⟨ad, e1, h5⟩ := h4 h0
    cases e1
    refine Or.inr ⟨g, cap, cells, (0, 0), rfl, hb, hc, fun i _ => by simp, hcap, h3, fun j p hp => ?_⟩
    obtain ⟨c, c1, c2, c3⟩ := h5 j p hp
    have e2 : c = [.int .u8 p] := c2
    subst e2
    have := c3 0 _ rfl
    have e : j * (Kd.int .u8).sz + 0 = j := by show j * 1 + 0 = j; omega
    rw [e, Go.Proofs.YtogmphjhdkgdjaaDoorW.PrintWords.add_plain] at this
    simpa [World.cell?, hc] using this
end Go.Proofs.YtogmphjhdkgdjaaDoor
/- The image's writer: numbers written, the lowest byte first. -/
namespace Go.Proofs.YtogmphjhdkgdjaaDoor
open Go.RowKit Go.Proofs.YtogmphjhdkgdjaaDoorW.PrintWords
set_option linter.unusedVariables false
set_option linter.unusedSimpArgs false
/-- n bytes of a number, the lowest first. -/
def leI (v : Int) : Nat → List Int
  | 0 => []
  | n + 1 => v % 256 :: leI (v / 256) n
theorem leI_len (v : Int) (n : Nat) : (leI v n).length = n := by
  induction n generalizing v with
  | zero => rfl
  | succ n ih => simp [leI, ih]
theorem flat_len (n : Nat) : ∀ xs : List Int, (xs.flatMap fun v => leI v n).length = xs.length * n
  | [] => by simp
  | x :: xs => by rw [List.flatMap_cons, List.length_append, leI_len, flat_len n xs, List.length_cons, Nat.succ_mul, Nat.add_comm]
/-- Bytes as cells. -/
def cel (t : List Int) : List Value := t.map (Value.int .u8)
theorem cel_append (a b : List Int) : cel (a ++ b) = cel a ++ cel b := by simp [cel]
theorem cel_length (a : List Int) : (cel a).length = a.length := by simp [cel]
/-- The writer in block b, of the call's own (from B on), with what it holds. -/
def Wrt (B b : Nat) (o : List Int) (w : World) : Prop :=
  B ≤ b ∧ ∃ v, w.heap[b]? = some (.cells #[v] 89 (0, 0)) ∧ w.ownsRow B 5 1 v o.length (cel o) ∧ v.ownBlock ≠ some b
abbrev Oth (b : Nat) (w w' : World) : Prop := Lib.OthersKept 5 (some b) w w'
theorem byteInfo : (Tryd.prog.info? 5).map (fun i => (i.zero, i.size, i.bytes)) = some (some (.int .u8 0), 1, 1) := by kernel_rfl
theorem wrt_put {B b : Nat} {o o' : List Int} {v v' : Value} {w w2 : World} (hB : B ≤ b) (hbk : w.heap[b]? = some (.cells #[v] 89 (0, 0))) (hown : w.ownsRow B 5 1 v o.length (cel o)) (hne : v.ownBlock ≠ some b)
    (hgrow : w.grownBy w2 v.ownBlock) (hown' : w2.ownsRow B 5 1 v' o'.length (cel o')) (hBw : B ≤ w.heap.size) :
    Wrt B b o' (w2.setCell ⟨b, 0, none⟩ v') ∧ Below B w (w2.setCell ⟨b, 0, none⟩ v') ∧ Oth b w (w2.setCell ⟨b, 0, none⟩ v') ∧ w2.heap[b]? = some (.cells #[v] 89 (0, 0)) := by
  have hlt : b < w.heap.size := (Array.getElem?_eq_some_iff.1 hbk).1
  have hb2 : w2.heap[b]? = some (.cells #[v] 89 (0, 0)) := by
    rw [hgrow.block b hlt (fun e => hne e.symm)]
    exact hbk
  have hO : Oth b w w := Lib.OthersKept.refl _ _ _
  have hne' := Lib.ownBlock_ne hown' hb2 (by decide)
  refine ⟨⟨hB, v', ?_, ?_, hne'⟩, ?_, (hO.grown hgrow (Lib.ownsRow_kind hown)).setCell ⟨b, 0, none⟩ rfl _, hb2⟩
  · simp [World.setCell, Array.getElem?_modify, hb2]
  · exact hown'.kept (row := some b) ⟨rfl, rfl, rfl, by simp [World.setCell], fun k _ hk => Below.heap_setCell _ _ _ _ (fun e => hk (by simp [e]))⟩ (Or.inr hne')
  · exact ((Below.refl B w).grown hgrow hBw (fun k hk => (hown.lt k hk).1)).setCell (p := ⟨b, 0, none⟩) hB _
section
variable {ops : Array Oper} {rest : List Oper} {o : Oper} {a : Act} {Q : Exit → Act → World → Prop}
theorem app_one {B : Nat} {out : List Int} {y : Int} {W : World} {v : Value} (hgd : o.guard = none) (sl x : Operand) (ho : o.op = .call { callee := .builtin .append, args := #[sl, x], argTypes := #[42, 42] }) (hs : a.eval sl = v) (hx : a.eval x = .slice (some ⟨W.heap.size, 0, none⟩) 1 1)
    (H : W.ownsRow B 5 1 v out.length (cel out)) (hB : B ≤ W.heap.size) (hl : out.length + 1 ≤ 140737488355328)
    (h : ∀ (v1 : Value) (w1 : World), Hid (w1.ownsRow B 5 1 v1 (out ++ [y]).length (cel (out ++ [y]))) → Hid (W.grownBy w1 v.ownBlock) → Hid (wpList Tryd.prog ops Q rest (a.put o.dst v1) w1)) : wpList Tryd.prog ops Q (o :: rest) a (W.alloc (.cells #[.int .u8 y] 5)) := by
  refine print_append_cells (w0 := W) B hgd sl x 42 5 (.int .u8 0) 1 1 ho Tryd.underlying42 byteInfo rfl (by decide) (by decide) v out.length (cel out) [.int .u8 y] hs hx rfl (by simp [Value.oneCell']) H (Below.refl _ _) hB (by omega) ?_
  intro v1 w1 h1 h2 h3 _
  exact (h v1 w1 (Lib.hid (by rw [cel_append]; simpa [cel] using h1)) (Lib.hid h3)).out
end
theorem wrt_form {B b : Nat} {o : List Int} {w : World} (h : Wrt B b o w) : ∃ ao cap, B ≤ b ∧ w.heap[b]? = some (.cells #[.slice ao o.length cap] 89 (0, 0)) ∧ w.ownsRow B 5 1 (.slice ao o.length cap) o.length (cel o) ∧ (Value.slice ao o.length cap).ownBlock ≠ some b := by
  obtain ⟨hB, v, h1, h2, h3⟩ := h
  rcases h2.2 with ⟨rfl, h0⟩ | ⟨g, cap, cur, rfl, _⟩
  · exact ⟨none, 0, hB, by rw [h0]; exact h1, by rw [h0] at h2 ⊢; exact h2, by rw [h0]; exact h3⟩
  · exact ⟨_, cap, hB, h1, h2, h3⟩
set_option maxHeartbeats 4000000 in
set_option maxRecDepth 100000 in
theorem put_calls (B b n : Nat) (o xs : List Int) (g c : Nat) (w : World) (h : Wrt B b o w) (hn : n ≤ 8) (hr : w.heap[g]? = some (.cells (xs.map (Value.int .i64)).toArray 3 (0, 0))) (hgb : g ≠ b) (hxl : xs.length ≤ 1048576) (hlen : o.length + 8 * xs.length ≤ 140737488355328) (hx : ∀ x ∈ xs, -9223372036854775808 ≤ x ∧ x ≤ 9223372036854775807) (hBw : B ≤ w.heap.size) :
    Calls Tryd.prog 52 #[.pointer (some ⟨b, 0, none⟩), .int .i64 n, .slice (some ⟨g, 0, none⟩) xs.length c] w fun e w' => e = .returned (.tuple #[]) ∧ Wrt B b (o ++ xs.flatMap fun v => leI v n) w' ∧ Below B w w' ∧ Oth b w w' := by
  have HR := Lib.hid hr
  have HX := Lib.hid hx
  have H0 : Hid (Wrt B b (o ++ (xs.take 0).flatMap fun v => leI v n) w ∧ Below B w w ∧ Oth b w w) := Lib.hid ⟨by simpa using h, Below.refl _ _, Lib.OthersKept.refl _ _ _⟩
  have hfl : ∀ i, ((xs.take i).flatMap fun v => leI v n).length ≤ 8 * i := fun i => by
    rw [flat_len, List.length_take]
    have : min i xs.length * n ≤ i * 8 := Nat.mul_le_mul (by omega) hn
    omega
  have HFL := Lib.hid hfl
  clear h hr hx hfl
  go_enter Tryd.func52, Tryd.ntmps52
  go_wp2
  go_loopw [10] (fun v10 wr => ∃ i : Nat, i ≤ xs.length ∧ v10 = .int .i64 i ∧ Hid (Wrt B b (o ++ (xs.take i).flatMap fun v => leI v n) wr ∧ Below B w wr ∧ Oth b w wr)) (fun v10 _ => xs.length - (RowKit.intOf v10).toNat)
  case atStart => exact ⟨0, Nat.zero_le _, rfl, H0⟩
  case round =>
    obtain ⟨i, hi, rfl, HM⟩ := hrel
    by_cases hlt : i < xs.length
    · obtain ⟨x, hxi⟩ : ∃ x, xs[i]? = some x := ⟨xs[i], List.getElem?_eq_getElem hlt⟩
      have hxb := HX.out x (List.mem_of_getElem? hxi)
      have cc : wr.cell? ⟨g, i, none⟩ = some (.int .i64 x) := by
        have := HM.out.2.2 g _ HR.out (by intro e; cases e; exact hgb rfl) (by intro c fz e; cases e)
        simp [World.cell?, this, hxi]
      obtain ⟨pre, hpre⟩ : ∃ pre, pre = o ++ (xs.take i).flatMap fun v => leI v n := ⟨_, rfl⟩
      have hpl : pre.length ≤ o.length + 8 * i := by rw [hpre, List.length_append]; have := HFL.out i; omega
      obtain ⟨FIN, hfin⟩ : ∃ F, F = pre ++ leI x n := ⟨_, rfl⟩
      have HFIN : Hid (FIN = o ++ (xs.take (i + 1)).flatMap fun v => leI v n) := Lib.hid (by
        rw [hfin, hpre, List.take_add_one, hxi, List.flatMap_append, List.append_assoc]; simp)
      have hfl : FIN.length ≤ o.length + 8 * i + 8 := by rw [hfin, List.length_append, leI_len]; omega
      have HI0 : Hid (∃ q y, Value.int .i64 x = .int .i64 y ∧ -9223372036854775808 ≤ y ∧ y ≤ 9223372036854775807 ∧ q ++ leI y (n - 0) = FIN ∧ Wrt B b q wr ∧ Below B w wr ∧ Oth b w wr) := Lib.hid ⟨pre, x, rfl, hxb.1, hxb.2, hfin.symm, by rw [hpre]; exact HM.out.1, HM.out.2⟩
      have hBr : B ≤ wr.heap.size := Nat.le_trans hBw HM.out.2.1.size
      clear HM hxi hpre hxb hfin
      go_wp2
      go_loopw [7, 15] (fun v7 v15 wr => ∃ t : Nat, t ≤ n ∧ v15 = .int .i64 t ∧ Hid (∃ q y, v7 = .int .i64 y ∧ -9223372036854775808 ≤ y ∧ y ≤ 9223372036854775807 ∧ q ++ leI y (n - t) = FIN ∧ Wrt B b q wr ∧ Below B w wr ∧ Oth b w wr)) (fun _ v15 _ => n - (RowKit.intOf v15).toNat)
      case atStart => exact ⟨0, Nat.zero_le _, rfl, HI0⟩
      case round =>
        clear HI0
        obtain ⟨t, ht, rfl, HQ⟩ := hrel
        obtain ⟨q, y, rfl, hy0, hy1, hq, hW, hb, ho⟩ := HQ.out
        by_cases htn : t < n
        · obtain ⟨ao, cap, hB, hbk, hown, hne⟩ := wrt_form hW
          obtain ⟨d, hd⟩ : ∃ d, n - t = d + 1 := ⟨n - t - 1, by omega⟩
          have hd2 : n - (t + 1) = d := by omega
          rw [hd, leI] at hq
          have hql : q.length + 1 ≤ FIN.length := by rw [← hq]; simp
          have HK := Lib.hid hbk
          have HOW := Lib.hid hown
          have HNE := Lib.hid hne
          have HBL := Lib.hid hb
          have HOT := Lib.hid ho
          have HQE := Lib.hid hq
          have c0 : wr.cell? ⟨b, 0, none⟩ = some (.slice ao q.length cap) := by simp [World.cell?, hbk]
          have hbq : B ≤ wr.heap.size := Nat.le_trans hBw hb.size
          clear HQ hW hb ho hq hbk hown hne
          go_wp2_with (at_builtin; refine app_one rfl _ _ rfl rfl rfl HOW.out hbq (by omega) ?_; intro v1 w1 HO1 HG1)
          have HP := Lib.hid (wrt_put (o' := q ++ [y % 256]) hB HK.out HOW.out HNE.out HG1.out HO1.out hbq)
          have hb2 := HP.out.2.2.2
          have d0 : w1.cell? ⟨b, 0, none⟩ = some (.slice ao q.length cap) := by simp [World.cell?, hb2]
          have f0 : w1.frozen? ⟨b, 0, none⟩ = false := by simp [World.frozen?, hb2]
          obtain ⟨ao1, n1, cap1, rfl⟩ : ∃ ao1 n1 cap1, v1 = .slice ao1 n1 cap1 := by
            rcases HO1.out.2 with ⟨hv, _⟩ | ⟨g, cap, cur, hv, _⟩
            · exact ⟨_, _, _, hv⟩
            · exact ⟨_, _, _, hv⟩
          have HN : Hid (∃ q' y', Value.int .i64 (y / 256) = .int .i64 y' ∧ -9223372036854775808 ≤ y' ∧ y' ≤ 9223372036854775807 ∧ q' ++ leI y' (n - (t + 1)) = FIN ∧ Wrt B b q' (w1.setCell ⟨b, 0, none⟩ (.slice ao1 n1 cap1)) ∧ Below B w (w1.setCell ⟨b, 0, none⟩ (.slice ao1 n1 cap1)) ∧ Oth b w (w1.setCell ⟨b, 0, none⟩ (.slice ao1 n1 cap1))) := Lib.hid
            ⟨q ++ [y % 256], y / 256, rfl, by omega, by omega, by rw [hd2, ← HQE.out]; simp, HP.out.1, HBL.out.trans HP.out.2.1, HOT.out.trans HP.out.2.2.1⟩
          clear hb2 c0
          refine Lib.hid ?_
          go_wp2
          go_roundw
          case rel => exact ⟨t + 1, by omega, by go_num, HN⟩
          case measure => simp [RowKit.intOf]; omega
        · obtain rfl : t = n := by omega
          rw [Nat.sub_self] at hq
          have HM1 : Hid (Wrt B b (o ++ (xs.take (i + 1)).flatMap fun v => leI v t) wr ∧ Below B w wr ∧ Oth b w wr) := Lib.hid (by
            rw [← HFIN.out, ← hq]
            exact ⟨by simpa [leI] using hW, hb, ho⟩)
          clear HQ hW hb ho hq
          go_wp2
          go_roundw
          case rel => exact ⟨i + 1, by omega, by go_num, HM1⟩
          case measure => simp [RowKit.intOf]; omega
    · obtain rfl : i = xs.length := by omega
      go_wp2
      go_end0
      refine ⟨rfl, ?_, HM.out.2.1, HM.out.2.2⟩
      have := HM.out.1
      rwa [List.take_length] at this
end Go.Proofs.YtogmphjhdkgdjaaDoor
/- The checksum, in plain Lean; the specification's and the program's Crc32 come to it. -/
namespace Go.Proofs.YtogmphjhdkgdjaaDoor
open Go.RowKit Go.Proofs.YtogmphjhdkgdjaaDoorW.PrintWords
set_option linter.unusedVariables false
set_option linter.unusedSimpArgs false
def crcBit (x : Int) : Int := if x % 2 = 1 then Go.bits .xor .u32 (x / 2) 3988292384 else x / 2
def crcBits : Nat → Int → Int
  | 0, x => x
  | n + 1, x => crcBits n (crcBit x)
def crcL : List Int → Int → Int
  | [], x => x
  | b :: l, x => crcL l (crcBits 8 (Go.bits .xor .u32 x b))
def crcI (l : List Int) : Int := Go.bits .xor .u32 (crcL l 4294967295) 4294967295
def InU32 (x : Int) : Prop := 0 ≤ x ∧ x < 4294967296
theorem xor_in (x y : Int) : InU32 (Go.bits .xor .u32 x y) := by
  unfold Go.bits InU32
  simp only [IntKind.wrap_u32']
  omega
theorem crcBit_in {x : Int} (h : InU32 x) : InU32 (crcBit x) := by
  unfold crcBit
  split
  · exact xor_in _ _
  · unfold InU32 at *; omega
theorem and_one {x : Int} (h : InU32 x) : Go.bits .and .u32 x 1 = x % 2 := by
  obtain ⟨n, rfl⟩ := Int.eq_ofNat_of_zero_le h.1
  have hn : n < 4294967296 := by have := h.2; omega
  have e := u32_and_nat n 1 hn (by omega)
  rw [show ((1 : Nat) : Int) = 1 from rfl] at e
  rw [e, Nat.and_one_is_mod]
  omega
theorem xor_swap (x y : Int) : Go.bits .xor .u32 x y = Go.bits .xor .u32 y x := by
  unfold Go.bits
  simp only [BitVec.xor_comm]
theorem crcI_in (l : List Int) : InU32 (crcI l) := xor_in _ _
theorem at_byte {w : World} {A : Option Addr} {xs : List Int} (h : Kd.C (Kd.int .u8) w A xs.length xs) (i : Nat) (hi : i < xs.length) : ∃ ad, A = some ad ∧ w.cell? (ad.add i) = some (.int .u8 (xs.getD i 0)) := by
  obtain ⟨ad, hA, k0⟩ := Kd.at_int h (i : Int) (by omega) (by omega)
  rw [Int.toNat_natCast] at k0
  exact ⟨ad, hA, k0⟩
theorem drop_at {xs : List Int} {i : Nat} (hi : i < xs.length) : xs.drop i = xs.getD i 0 :: xs.drop (i + 1) := by
  rw [List.drop_eq_getElem_cons hi, List.getD_eq_getElem?_getD, List.getElem?_eq_getElem hi]
  rfl
set_option maxHeartbeats 2000000 in
set_option maxRecDepth 100000 in
theorem specCrc_calls (A : Option Addr) (c : Nat) (xs : List Int) (w : World) (hr : Kd.C (Kd.int .u8) w A xs.length xs) (hc : xs.length ≤ c) (hb : ∀ x ∈ xs, 0 ≤ x ∧ x < 256) :
    Calls Tryd.prog 82 #[.slice A xs.length c] w fun e w' => e = .returned (.int .u32 (crcI xs)) ∧ Below w.heap.size w w' := by
  have HR := Lib.hid hr
  have HB := Lib.hid hb
  have hxl := hr.2.1
  obtain ⟨FIN, hF⟩ : ∃ F, F = crcL xs 4294967295 := ⟨_, rfl⟩
  have HF : Hid (crcI xs = Go.bits .xor .u32 FIN 4294967295) := Lib.hid (by rw [hF]; rfl)
  have H0 : Hid (InU32 4294967295 ∧ crcL (xs.drop 0) 4294967295 = FIN ∧ Below w.heap.size w w) := Lib.hid ⟨⟨by omega, by omega⟩, by rw [hF]; rfl, Below.refl _ _⟩
  clear hr hb hF
  go_enter Tryd.func82, Tryd.ntmps82
  go_wp2
  go_loopw [3, 4] (fun v3 v4 wr => ∃ (i : Nat) (x : Int), i ≤ xs.length ∧ v4 = .int .i64 i ∧ v3 = .int .u32 x ∧ Hid (InU32 x ∧ crcL (xs.drop i) x = FIN ∧ Below w.heap.size w wr)) (fun _ v4 _ => xs.length - (RowKit.intOf v4).toNat)
  case atStart => exact ⟨0, _, Nat.zero_le _, rfl, rfl, H0⟩
  case round =>
    obtain ⟨i, x, hi, rfl, rfl, HM⟩ := hrel
    have hx0 := HM.out.1.1
    have hx1 := HM.out.1.2
    by_cases hlt : i < xs.length
    · obtain ⟨ad, hA, k0⟩ := at_byte HR.out i hlt
      subst hA
      obtain ⟨y, hy⟩ : ∃ y, y = xs.getD i 0 := ⟨_, rfl⟩
      have hyb := HB.out y (by rw [hy, List.getD_eq_getElem?_getD, List.getElem?_eq_getElem hlt]; exact List.getElem_mem _)
      rw [← hy] at k0
      have cc : wr.cell? (ad.add i) = some (.int .u8 y) := (HM.out.2.2.cell (World.block_lt_of_cell? w _ k0)).trans k0
      have hy0 := hyb.1
      have hy1 := hyb.2
      have hym : y % 4294967296 = y := by omega
      obtain ⟨NX, hnx⟩ : ∃ N, N = crcBits 8 (Go.bits .xor .u32 x y) := ⟨_, rfl⟩
      have HNX : Hid (crcL (xs.drop (i + 1)) NX = FIN) := Lib.hid (by rw [hnx, ← HM.out.2.1, drop_at hlt, ← hy]; rfl)
      have HBW : Hid (Below w.heap.size w wr) := Lib.hid HM.out.2.2
      have HI0 : Hid (InU32 (Go.bits .xor .u32 x y) ∧ crcBits (8 - 0) (Go.bits .xor .u32 x y) = NX ∧ Below w.heap.size w wr) := Lib.hid ⟨xor_in _ _, hnx.symm, HM.out.2.2⟩
      clear HM hyb hy k0 hnx
      go_wp2
      go_loopw [3, 5] (fun v3 v5 wr => ∃ (j : Nat) (x : Int), j ≤ 8 ∧ v5 = .int .i64 j ∧ v3 = .int .u32 x ∧ Hid (InU32 x ∧ crcBits (8 - j) x = NX ∧ Below w.heap.size w wr)) (fun _ v5 _ => 8 - (RowKit.intOf v5).toNat)
      case atStart => exact ⟨0, _, Nat.zero_le _, rfl, rfl, HI0⟩
      case round =>
        clear HI0
        obtain ⟨j, x, hj, rfl, rfl, HQ⟩ := hrel
        have hx0 := HQ.out.1.1
        have hx1 := HQ.out.1.2
        by_cases hjn : j < 8
        · have hnx : crcBits (8 - (j + 1)) (crcBit x) = NX := by
            rw [← HQ.out.2.1, show 8 - j = (8 - (j + 1)) + 1 by omega]
            rfl
          have hin := crcBit_in HQ.out.1
          have HBQ : Hid (Below w.heap.size w wr) := Lib.hid HQ.out.2.2
          clear HQ
          by_cases hodd : x % 2 = 1
          · have HN : Hid (InU32 (Go.bits .xor .u32 (x / 2) 3988292384) ∧ crcBits (8 - (j + 1)) (Go.bits .xor .u32 (x / 2) 3988292384) = NX ∧ Below w.heap.size w wr) := Lib.hid (by
              unfold crcBit at hnx hin
              rw [if_pos hodd] at hnx hin
              exact ⟨hin, hnx, HBQ.out⟩)
            clear hnx hin
            go_wp2
            go_roundw
            case rel => exact ⟨j + 1, _, by omega, by go_num, rfl, HN⟩
            case measure => simp [RowKit.intOf]; omega
          · have HN : Hid (InU32 (x / 2) ∧ crcBits (8 - (j + 1)) (x / 2) = NX ∧ Below w.heap.size w wr) := Lib.hid (by
              unfold crcBit at hnx hin
              rw [if_neg hodd] at hnx hin
              exact ⟨hin, hnx, HBQ.out⟩)
            clear hnx hin
            go_wp2
            go_roundw
            case rel => exact ⟨j + 1, _, by omega, by go_num, rfl, HN⟩
            case measure => simp [RowKit.intOf]; omega
        · obtain rfl : j = 8 := by omega
          have HM1 : Hid (InU32 x ∧ crcL (xs.drop (i + 1)) x = FIN ∧ Below w.heap.size w wr) := Lib.hid (by
            have := HQ.out.2.1
            simp [crcBits] at this
            rw [this]
            exact ⟨this ▸ HQ.out.1, HNX.out, HQ.out.2.2⟩)
          clear HQ
          go_wp2
          go_roundw
          case rel => exact ⟨i + 1, x, by omega, by go_num, rfl, HM1⟩
          case measure => simp [RowKit.intOf]; omega
    · obtain rfl : i = xs.length := by omega
      have HE : Hid (Go.bits .xor .u32 x 4294967295 = crcI xs) := Lib.hid (by rw [HF.out, ← HM.out.2.1, List.drop_length]; rfl)
      have HBW : Hid (Below w.heap.size w wr) := Lib.hid HM.out.2.2
      clear HM
      go_wp2
      go_ret
      rw [HE.out]
      exact ⟨rfl, HBW.out⟩
set_option maxHeartbeats 2000000 in
set_option maxRecDepth 100000 in
theorem crc_calls (A : Option Addr) (c : Nat) (xs : List Int) (w : World) (hr : Kd.C (Kd.int .u8) w A xs.length xs) (hc : xs.length ≤ c) (hb : ∀ x ∈ xs, 0 ≤ x ∧ x < 256) :
    Calls Tryd.prog 54 #[.slice A xs.length c] w fun e w' => e = .returned (.int .u32 (crcI xs)) ∧ Below w.heap.size w w' := by
  have HR := Lib.hid hr
  have HB := Lib.hid hb
  have hxl := hr.2.1
  obtain ⟨FIN, hF⟩ : ∃ F, F = crcL xs 4294967295 := ⟨_, rfl⟩
  have HF : Hid (crcI xs = Go.bits .xor .u32 FIN 4294967295) := Lib.hid (by rw [hF]; rfl)
  have H0 : Hid (InU32 4294967295 ∧ crcL (xs.drop 0) 4294967295 = FIN ∧ Below w.heap.size w w) := Lib.hid ⟨⟨by omega, by omega⟩, by rw [hF]; rfl, Below.refl _ _⟩
  clear hr hb hF
  go_enter Tryd.func54, Tryd.ntmps54
  go_wp2
  go_loopw [3, 9] (fun v3 v4 wr => ∃ (i : Nat) (x : Int), i ≤ xs.length ∧ v4 = .int .i64 i ∧ v3 = .int .u32 x ∧ Hid (InU32 x ∧ crcL (xs.drop i) x = FIN ∧ Below w.heap.size w wr)) (fun _ v4 _ => xs.length - (RowKit.intOf v4).toNat)
  case atStart => exact ⟨0, _, Nat.zero_le _, rfl, rfl, H0⟩
  case round =>
    obtain ⟨i, x, hi, rfl, rfl, HM⟩ := hrel
    have hx0 := HM.out.1.1
    have hx1 := HM.out.1.2
    by_cases hlt : i < xs.length
    · obtain ⟨ad, hA, k0⟩ := at_byte HR.out i hlt
      subst hA
      obtain ⟨y, hy⟩ : ∃ y, y = xs.getD i 0 := ⟨_, rfl⟩
      have hyb := HB.out y (by rw [hy, List.getD_eq_getElem?_getD, List.getElem?_eq_getElem hlt]; exact List.getElem_mem _)
      rw [← hy] at k0
      have cc : wr.cell? (ad.add i) = some (.int .u8 y) := (HM.out.2.2.cell (World.block_lt_of_cell? w _ k0)).trans k0
      have hy0 := hyb.1
      have hy1 := hyb.2
      have hym : y % 4294967296 = y := by omega
      obtain ⟨NX, hnx⟩ : ∃ N, N = crcBits 8 (Go.bits .xor .u32 x y) := ⟨_, rfl⟩
      have HNX : Hid (crcL (xs.drop (i + 1)) NX = FIN) := Lib.hid (by rw [hnx, ← HM.out.2.1, drop_at hlt, ← hy]; rfl)
      have HBW : Hid (Below w.heap.size w wr) := Lib.hid HM.out.2.2
      have HI0 : Hid (InU32 (Go.bits .xor .u32 x y) ∧ crcBits (8 - 0) (Go.bits .xor .u32 x y) = NX ∧ Below w.heap.size w wr) := Lib.hid ⟨xor_in _ _, hnx.symm, HM.out.2.2⟩
      clear HM hyb hy k0 hnx
      go_wp2
      go_loopw [3, 17] (fun v3 v5 wr => ∃ (j : Nat) (x : Int), j ≤ 8 ∧ v5 = .int .i64 j ∧ v3 = .int .u32 x ∧ Hid (InU32 x ∧ crcBits (8 - j) x = NX ∧ Below w.heap.size w wr)) (fun _ v5 _ => 8 - (RowKit.intOf v5).toNat)
      case atStart => exact ⟨0, _, Nat.zero_le _, rfl, rfl, HI0⟩
      case round =>
        clear HI0
        obtain ⟨j, x, hj, rfl, rfl, HQ⟩ := hrel
        have hx0 := HQ.out.1.1
        have hx1 := HQ.out.1.2
        by_cases hjn : j < 8
        · have hnx : crcBits (8 - (j + 1)) (crcBit x) = NX := by
            rw [← HQ.out.2.1, show 8 - j = (8 - (j + 1)) + 1 by omega]
            rfl
          have hin := crcBit_in HQ.out.1
          have HBQ : Hid (Below w.heap.size w wr) := Lib.hid HQ.out.2.2
          clear HQ
          have hand := and_one ⟨hx0, hx1⟩
          by_cases hodd : x % 2 = 1
          · have h1 : Go.bits .and .u32 x 1 = 1 := by rw [hand, hodd]
            have HN : Hid (InU32 (Go.bits .xor .u32 (x / 2) 3988292384) ∧ crcBits (8 - (j + 1)) (Go.bits .xor .u32 (x / 2) 3988292384) = NX ∧ Below w.heap.size w wr) := Lib.hid (by
              unfold crcBit at hnx hin
              rw [if_pos hodd] at hnx hin
              exact ⟨hin, hnx, HBQ.out⟩)
            clear hnx hin hand
            go_wp2
            go_roundw
            case rel => exact ⟨j + 1, _, by omega, by go_num, rfl, HN⟩
            case measure => simp [RowKit.intOf]; omega
          · have h1 : Go.bits .and .u32 x 1 = 0 := by rw [hand]; omega
            have HN : Hid (InU32 (x / 2) ∧ crcBits (8 - (j + 1)) (x / 2) = NX ∧ Below w.heap.size w wr) := Lib.hid (by
              unfold crcBit at hnx hin
              rw [if_neg hodd] at hnx hin
              exact ⟨hin, hnx, HBQ.out⟩)
            clear hnx hin hand
            go_wp2
            go_roundw
            case rel => exact ⟨j + 1, _, by omega, by go_num, rfl, HN⟩
            case measure => simp [RowKit.intOf]; omega
        · obtain rfl : j = 8 := by omega
          have HM1 : Hid (InU32 x ∧ crcL (xs.drop (i + 1)) x = FIN ∧ Below w.heap.size w wr) := Lib.hid (by
            have := HQ.out.2.1
            simp [crcBits] at this
            rw [this]
            exact ⟨this ▸ HQ.out.1, HNX.out, HQ.out.2.2⟩)
          clear HQ
          go_wp2
          go_roundw
          case rel => exact ⟨i + 1, x, by omega, by go_num, rfl, HM1⟩
          case measure => simp [RowKit.intOf]; omega
    · obtain rfl : i = xs.length := by omega
      have HE : Hid (Go.bits .xor .u32 IntKind.u32.max x = crcI xs) := Lib.hid (by rw [show IntKind.u32.max = 4294967295 from rfl, xor_swap, HF.out, ← HM.out.2.1, List.drop_length]; rfl)
      have HBW : Hid (Below w.heap.size w wr) := Lib.hid HM.out.2.2
      clear HM
      go_wp2
      go_ret
      rw [HE.out]
      exact ⟨rfl, HBW.out⟩
end Go.Proofs.YtogmphjhdkgdjaaDoor
/- An image's bytes, in plain Lean. -/
namespace Go.Proofs.YtogmphjhdkgdjaaDoor
open Go.RowKit
set_option linter.unusedVariables false
set_option linter.unusedSimpArgs false
def datT (d : Dat) : List Int := leI d.k 1 ++ (if d.k = 0 then leI d.n 8 else if d.k = 1 then leI d.n 1 else if d.k = 2 then leI (d.t.length : Int) 1 ++ d.t else leI d.c 2)
def conT (c : List Dat) : List Int := leI (c.length : Int) 2 ++ c.flatMap datT
def freeT (b : Bool) : List Int := leI (if b = true then 1 else 0) 1
def insT (x : InsP) : List Int := leI x.op 1 ++ leI x.a 2 ++ leI x.b 1
def funT (f : FunP) : List Int := leI f.p 1 ++ leI (f.free.length : Int) 1 ++ f.free.flatMap freeT ++ leI (f.code.length : Int) 2 ++ f.code.flatMap insT
def bodyT (cs : List (List Dat)) (g : Int) (fs : List FunP) : List Int := [83, 76, 65, 49] ++ leI g 2 ++ leI (cs.length : Int) 2 ++ cs.flatMap conT ++ leI (fs.length : Int) 2 ++ fs.flatMap funT
def imageT (cs : List (List Dat)) (g : Int) (fs : List FunP) : List Int := bodyT cs g fs ++ leI (crcI (bodyT cs g fs)) 4
/-- What EncodeImage answers. -/
def encT (cs : List (List Dat)) (g : Int) (fs : List FunP) : List Int := if validM cs g fs = true then imageT cs g fs else []
theorem leI_byte (v : Int) (n : Nat) : ∀ b ∈ leI v n, 0 ≤ b ∧ b < 256 := by
  induction n generalizing v with
  | zero => intro b hb; cases hb
  | succ n ih =>
    intro b hb
    rcases List.mem_cons.1 hb with h | h
    · subst h; omega
    · exact ih _ b h
/-- A row's texts' length. -/
theorem flatMap_len {α : Type} {f : α → List Int} {K : Nat} : ∀ l : List α, (∀ x ∈ l, (f x).length ≤ K) → (l.flatMap f).length ≤ l.length * K
  | [], _ => by simp
  | x :: l, h => by
    rw [List.flatMap_cons, List.length_append, List.length_cons, Nat.succ_mul]
    have h1 := h x (by simp)
    have h2 := flatMap_len l (fun y hy => h y (by simp [hy]))
    omega
theorem take_step {α : Type} {f : α → List Int} {l : List α} {i : Nat} {x : α} (h : l[i]? = some x) : (l.take (i + 1)).flatMap f = (l.take i).flatMap f ++ f x := by
  rw [List.take_add_one, h, List.flatMap_append]
  simp
end Go.Proofs.YtogmphjhdkgdjaaDoor
/- The image's writer: a datum. -/
namespace Go.Proofs.YtogmphjhdkgdjaaDoor
open Go.RowKit Go.Proofs.YtogmphjhdkgdjaaDoorW.PrintWords
set_option linter.unusedVariables false
set_option linter.unusedSimpArgs false
abbrev I64 (x : Int) : Prop := -9223372036854775808 ≤ x ∧ x ≤ 9223372036854775807
theorem blk_lt2 {w : World} {g : Nat} {o : Obj} (h : w.heap[g]? = some o) : g < w.heap.size := (Array.getElem?_eq_some_iff.1 h).1
theorem blk_new2 (w : World) (o : Obj) : (w.alloc o).heap[w.heap.size]? = some o := heap_alloc_new w o
theorem blk_old2 {w : World} {k : Nat} {x : Obj} (h : w.heap[k]? = some x) (o : Obj) : (w.alloc o).heap[k]? = some x := (Lib.alloc_old w o k (blk_lt2 h)).trans h
theorem Wrt.alloc {B b : Nat} {o : List Int} {w : World} (h : Wrt B b o w) (x : Obj) : Wrt B b o (w.alloc x) := by
  obtain ⟨hB, v, h1, h2, h3⟩ := h
  exact ⟨hB, v, blk_old2 h1 x, h2.alloc x, h3⟩
/-- One number written: the list lies in a block of its own. -/
theorem put_one (B b n : Nat) (o : List Int) (v : Int) (w : World) (h : Wrt B b o w) (hn : n ≤ 8) (hlen : o.length + 8 ≤ 140737488355328) (hv : I64 v) (hBw : B ≤ w.heap.size) :
    Calls Tryd.prog 52 #[.pointer (some ⟨b, 0, none⟩), .int .i64 n, .slice (some ⟨w.heap.size, 0, none⟩) 1 1] (w.alloc (.cells #[.int .i64 v] 3)) fun e w' => e = .returned (.tuple #[]) ∧ Wrt B b (o ++ leI v n) w' ∧ Below B w w' ∧ Oth b w w' := by
  obtain ⟨hB, u, h1, _⟩ := id h
  have hbl := blk_lt2 h1
  refine (put_calls B b n o [v] w.heap.size 1 (w.alloc (.cells #[.int .i64 v] 3)) (h.alloc _) hn (by simpa using blk_new2 w (.cells #[.int .i64 v] 3 (0, 0))) (by omega) (by simp) (by simpa using hlen) (by simpa using hv) (by simp; omega)).mono ?_
  rintro e w' ⟨rfl, h2, h3, h4⟩
  exact ⟨rfl, by simpa using h2, ((Below.refl B w).alloc hBw _).trans h3, fun k o hk hb ho => h4 k o (blk_old2 hk _) hb ho⟩
theorem Oth.box {b k : Nat} {w w' : World} {cs : Array Value} {t : TypeId} (h : Oth b w w') (hk : w.heap[k]? = some (.cells cs t (0, 0))) (hb : k ≠ b) (ht : t ≠ 5) : w'.heap[k]? = some (.cells cs t (0, 0)) :=
  h k _ hk (fun e => hb (Option.some.inj e)) (fun c fz e => by cases e; exact ht rfl)
set_option maxHeartbeats 4000000 in
set_option maxRecDepth 100000 in
theorem datum_calls (w0 : World) (b : Nat) (o t : List Int) (k n cn : Int) (A : Option Addr) (c : Nat) (w : World) (h : Wrt w0.heap.size b o w) (hb0 : Below w0.heap.size w0 w) (hr : Kd.C (Kd.int .u8) w0 A t.length t) (hc : t.length ≤ c) (hpos : k = 2 → 0 < t.length) (hlen : o.length + t.length + 24 ≤ 140737488355328) (hk : I64 k) (hn : I64 n) (hcn : I64 cn) :
    Calls Tryd.prog 53 #[.pointer (some ⟨b, 0, none⟩), .agg #[.int .i64 k, .int .i64 n, .slice A t.length c, .int .i64 cn]] w fun e w' => e = .returned (.tuple #[]) ∧ Wrt w0.heap.size b (o ++ datT ⟨k, n, t, cn⟩) w' ∧ Below w0.heap.size w w' ∧ Oth b w w' := by
  have hsz := hb0.size
  have hbl : b < w.heap.size := by obtain ⟨_, u, h1, _⟩ := h; exact blk_lt2 h1
  have hu := Tryd.underlying57
  obtain ⟨W, hW⟩ : ∃ W, W = w.alloc (.cells #[.int .i64 k, .int .i64 n, .slice A t.length c, .int .i64 cn] 57) := ⟨_, rfl⟩
  have hbW : Below w0.heap.size w W := by rw [hW]; exact (Below.refl _ _).alloc hsz _
  have hD : W.heap[w.heap.size]? = some (.cells #[.int .i64 k, .int .i64 n, .slice A t.length c, .int .i64 cn] 57 (0, 0)) := by rw [hW]; exact blk_new2 _ _
  have hoW : Oth b w W := by rw [hW]; exact (Lib.OthersKept.refl _ _ _).alloc _
  have HW0 : Hid (Wrt w0.heap.size b o W) := Lib.hid (by rw [hW]; exact h.alloc _)
  have HBW := Lib.hid hbW
  have HD := Lib.hid hD
  have HOW := Lib.hid hoW
  have HB0 := Lib.hid hb0
  have HR := Lib.hid hr
  have hzE : W.heap.size = w.heap.size + 1 := by rw [hW]; simp
  have hzW : w.heap.size < W.heap.size := blk_lt2 hD
  have g0 : W.cell? ⟨w.heap.size, 0, none⟩ = some (.int .i64 k) := by simp [World.cell?, hD]
  clear h hb0 hr hbW hD hoW
  go_enter Tryd.func53, Tryd.ntmps53
  go_wp2_with fail
  rw [← hW, ← hzE]
  clear hW
  refine (put_one w0.heap.size b 1 o k W HW0.out (by omega) (by omega) hk (by omega)).mono ?_
  rintro e w1 ⟨rfl, h1, hb1, ho1⟩
  have HW1 := Lib.hid h1
  have HB1 : Hid (Below w0.heap.size w w1) := Lib.hid (HBW.out.trans hb1)
  have HO1 : Hid (Oth b w w1) := Lib.hid (HOW.out.trans ho1)
  have hD1 := Oth.box ho1 HD.out (by omega) (by decide)
  have HD1 := Lib.hid hD1
  have hz1 : w0.heap.size ≤ w1.heap.size := Nat.le_trans hsz HB1.out.size
  have hDl : w.heap.size < w1.heap.size := blk_lt2 hD1
  have c0 : w1.cell? ⟨w.heap.size, 0, none⟩ = some (.int .i64 k) := by simp [World.cell?, hD1]
  have c1 : w1.cell? ⟨w.heap.size, 1, none⟩ = some (.int .i64 n) := by simp [World.cell?, hD1]
  have c2 : w1.cell? ⟨w.heap.size, 2, none⟩ = some (.slice A t.length c) := by simp [World.cell?, hD1]
  have c3 : w1.cell? ⟨w.heap.size, 3, none⟩ = some (.int .i64 cn) := by simp [World.cell?, hD1]
  have hl1 : (o ++ leI k 1).length = o.length + 1 := by rw [List.length_append, leI_len]
  clear h1 hb1 ho1 hD1 g0
  by_cases k0 : k = 0
  · have HT : Hid (o ++ datT ⟨k, n, t, cn⟩ = o ++ leI k 1 ++ leI n 8) := Lib.hid (by unfold datT; simp only [if_pos k0, List.append_assoc])
    have d0 : decide (k = 0) = true := decide_eq_true k0
    go_wp2_with fail
    refine (put_one w0.heap.size b 8 (o ++ leI k 1) n w1 HW1.out (by omega) (by omega) hn (by omega)).mono ?_
    rintro e w2 ⟨rfl, h2, hb2, ho2⟩
    have HP : Hid (Wrt w0.heap.size b (o ++ datT ⟨k, n, t, cn⟩) w2 ∧ Below w0.heap.size w w2 ∧ Oth b w w2) := Lib.hid ⟨by rw [HT.out]; exact h2, HB1.out.trans hb2, HO1.out.trans ho2⟩
    clear h2 hb2 ho2
    go_wp2_with fail
    go_end0
    exact ⟨rfl, HP.out⟩
  by_cases k1 : k = 1
  · have HT : Hid (o ++ datT ⟨k, n, t, cn⟩ = o ++ leI k 1 ++ leI n 1) := Lib.hid (by unfold datT; simp only [if_neg k0, if_pos k1, List.append_assoc])
    have d0 : decide (k = 0) = false := decide_eq_false k0
    have d1 : decide (k = 1) = true := decide_eq_true k1
    go_wp2_with fail
    refine (put_one w0.heap.size b 1 (o ++ leI k 1) n w1 HW1.out (by omega) (by omega) hn (by omega)).mono ?_
    rintro e w2 ⟨rfl, h2, hb2, ho2⟩
    have HP : Hid (Wrt w0.heap.size b (o ++ datT ⟨k, n, t, cn⟩) w2 ∧ Below w0.heap.size w w2 ∧ Oth b w w2) := Lib.hid ⟨by rw [HT.out]; exact h2, HB1.out.trans hb2, HO1.out.trans ho2⟩
    clear h2 hb2 ho2
    go_wp2_with fail
    go_end0
    exact ⟨rfl, HP.out⟩
  by_cases k2 : k = 2
  · have d0 : decide (k = 0) = false := decide_eq_false k0
    have d1 : decide (k = 1) = false := decide_eq_false k1
    have d2 : decide (k = 2) = true := decide_eq_true k2
    have htp := hpos k2
    go_wp2_with fail
    refine (put_one w0.heap.size b 1 (o ++ leI k 1) (t.length : Int) w1 HW1.out (by omega) (by omega) ⟨by omega, by omega⟩ (by omega)).mono ?_
    rintro e w2 ⟨rfl, h2, hb2, ho2⟩
    obtain ⟨o2, ho2e⟩ : ∃ o2, o2 = o ++ leI k 1 ++ leI (t.length : Int) 1 := ⟨_, rfl⟩
    have hl2 : o2.length = o.length + 2 := by rw [ho2e, List.length_append, hl1, leI_len]
    have HT : Hid (o ++ datT ⟨k, n, t, cn⟩ = o2 ++ t) := Lib.hid (by unfold datT; simp only [if_neg k0, if_neg k1, if_pos k2, List.append_assoc, ho2e])
    rw [← ho2e] at h2
    have hl2b : o2.length ≤ o.length + 2 := by omega
    clear ho2e hl2
    have hD2 := Oth.box ho2 HD1.out (by omega) (by decide)
    have HB2 : Hid (Below w0.heap.size w w2) := Lib.hid (HB1.out.trans hb2)
    have HO2 : Hid (Oth b w w2) := Lib.hid (HO1.out.trans ho2)
    have hz2 : w0.heap.size ≤ w2.heap.size := Nat.le_trans hsz HB2.out.size
    obtain ⟨ao, cap, hB, hbk, hown, hne⟩ := wrt_form h2
    obtain ⟨i0, hi, hz0, hzz1, hzz2⟩ := info_parts byteInfo
    have hC2 := Kd.C_below HR.out (HB0.out.trans HB2.out)
    obtain ⟨ad, hA, _⟩ := at_byte hC2 0 htp
    subst hA
    have HNW : Hid (∀ (j : Nat) (u : Value), (cel t)[j]? = some u → w2.drew.cell? (ad.add j) = some u) := Lib.hid (fun j u hj => by
      obtain ⟨y, hy, rfl⟩ : ∃ y, t[j]? = some y ∧ Value.int .u8 y = u := by simpa [cel] using hj
      obtain ⟨ad', e1, e2⟩ := at_byte hC2 j (List.getElem?_eq_some_iff.1 hy).1
      cases e1
      rw [List.getD_eq_getElem?_getD, hy] at e2
      exact e2)
    have HK := Lib.hid hbk
    have HOWN := Lib.hid hown
    have HNE := Lib.hid hne
    have HD2 := Lib.hid hD2
    have hbl2 : b < w2.heap.size := blk_lt2 hbk
    have e0 : w2.cell? ⟨b, 0, none⟩ = some (.slice ao o2.length cap) := by simp [World.cell?, hbk]
    have e2 : w2.cell? ⟨w.heap.size, 2, none⟩ = some (.slice (some ad) t.length c) := by simp [World.cell?, hD2]
    have HPUT : Hid (∀ v' w3, w2.drew.grownBy w3 (Value.slice ao o2.length cap).ownBlock → w3.ownsRow w0.heap.size 5 1 v' (o2 ++ t).length (cel (o2 ++ t)) → (Wrt w0.heap.size b (o ++ datT ⟨k, n, t, cn⟩) (w3.setCell ⟨b, 0, none⟩ v') ∧ Below w0.heap.size w (w3.setCell ⟨b, 0, none⟩ v') ∧ Oth b w (w3.setCell ⟨b, 0, none⟩ v')) ∧ w3.cell? ⟨b, 0, none⟩ = some (.slice ao o2.length cap) ∧ w3.frozen? ⟨b, 0, none⟩ = false) := Lib.hid (fun v' w3 hg ho => by
      obtain ⟨q1, q2, q3, q4⟩ := wrt_put (w := w2.drew) hB HK.out HOWN.out.drew HNE.out hg ho hz2
      exact ⟨⟨by rw [HT.out]; exact q1, HB2.out.drew.trans q2, HO2.out.drew.trans q3⟩, by simp [World.cell?, q4], by simp [World.frozen?, q4]⟩)
    clear h2 hb2 ho2 hD2 hbk hown hne hC2 c0 c1 c2 c3
    go_wp2_with fail
    go_region_law
      (first
        | (refine step_append_lies _ (by rfl) _ _ _ (by rfl) w0.heap.size 5 i0 _ 1 1 Tryd.underlying42 hi hz0 hzz1 hzz2 rfl (by omega) (.slice ao o2.length cap) o2.length (cel o2) (by rfl) HOWN.out.drew
            ad t.length c (cel t) (by rfl) (by simp [cel]) (fun j u hj => HNW.out j u hj) (by simp [cel, Value.oneCell'])
            htp (by unfold maxLen; omega) (by omega) hz2 w2.heap.size (by rfl) ?_; intro gg cap' w3 hown1 hgrow hat hlt1; obtain ⟨q1, q2, q3⟩ := HPUT.out _ w3 hgrow (by rw [cel_append, List.length_append]; exact hown1)))
    all_goals
      have HQ := Lib.hid q1
      clear q1 hown1 hgrow hat hlt1
      go_wp2_with fail
      go_end0
      exact ⟨rfl, HQ.out⟩
  · have HT : Hid (o ++ datT ⟨k, n, t, cn⟩ = o ++ leI k 1 ++ leI cn 2) := Lib.hid (by unfold datT; simp only [if_neg k0, if_neg k1, if_neg k2, List.append_assoc])
    have d0 : decide (k = 0) = false := decide_eq_false k0
    have d1 : decide (k = 1) = false := decide_eq_false k1
    have d2 : decide (k = 2) = false := decide_eq_false k2
    go_wp2_with fail
    refine (put_one w0.heap.size b 2 (o ++ leI k 1) cn w1 HW1.out (by omega) (by omega) hcn (by omega)).mono ?_
    rintro e w2 ⟨rfl, h2, hb2, ho2⟩
    have HP : Hid (Wrt w0.heap.size b (o ++ datT ⟨k, n, t, cn⟩) w2 ∧ Below w0.heap.size w w2 ∧ Oth b w w2) := Lib.hid ⟨by rw [HT.out]; exact h2, HB1.out.trans hb2, HO1.out.trans ho2⟩
    clear h2 hb2 ho2
    go_wp2_with fail
    go_end0
    exact ⟨rfl, HP.out⟩
end Go.Proofs.YtogmphjhdkgdjaaDoor
