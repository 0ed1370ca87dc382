/- The law's marks on a module that it has made: which blocks are touched, and what stays; bytes compared, held. -/
import Derived.Test.YtogmphjhdkgdjaaDoorEiB
import Derived.Lib.SmallJoins
import Derived.BigQuiet
import Derived.Deep.LoopGhost
import Derived.Deep.RegionHeld3
namespace Go.Proofs.YtogmphjhdkgdjaaDoor
open Go.RowKit Go.Proofs.YtogmphjhdkgdjaaDoorW.PrintWords Go.Proofs.YtogmphjhdkgdjaaDoor.QFnExactValidModule
set_option linter.unusedVariables false
set_option linter.unusedSimpArgs false
theorem drewN_below {B : Nat} {w w' : World} (h : Below B w w') (n : Nat) : Below B w (w'.drewN n) := ⟨h.os, h.tape, h.output, h.size, h.block⟩
theorem eqB_calls (A A' : Option Addr) (c c' : Nat) (t : List Int) (w : World) (h : Kd.C (Kd.int .u8) w A t.length t) (h' : Kd.C (Kd.int .u8) w A' t.length t) :
    Calls Tryd.prog 20 #[.slice A t.length c, .slice A' t.length c'] w fun e w' => e = .returned (.bool true) ∧ Below w.heap.size w w' := by
  have H := Lib.hid h
  have H' := Lib.hid h'
  have hl := h.2.1
  clear h h'
  go_enter Tryd.func20, Tryd.ntmps20
  go_wp2
  go_loopw [5] (fun v wr => ∃ i : Nat, i ≤ t.length ∧ v = .int .i64 i ∧ Hid (Below w.heap.size w wr)) (fun v _ => t.length - (RowKit.intOf v).toNat)
  case atStart => exact ⟨0, Nat.zero_le _, rfl, Lib.hid (Below.refl _ _)⟩
  case round =>
    obtain ⟨i, hi, rfl, HB⟩ := hrel
    by_cases hlt : i < t.length
    · obtain ⟨ad, e1, c1⟩ := at_byte (Kd.C_below H.out HB.out) i hlt
      obtain ⟨ad', e2, c2⟩ := at_byte (Kd.C_below H'.out HB.out) i hlt
      subst e1 e2
      go_wp2
      go_quiet (fail)
      go_wp2
      go_roundw
      case rel => exact ⟨i + 1, by omega, by go_num, Lib.hid (drewN_below HB.out _)⟩
      case measure => simp [RowKit.intOf]; omega
    · obtain rfl : i = t.length := by omega
      go_wp2
      go_ret
      exact ⟨rfl, HB.out⟩
/-- The marks. -/
def marksI (k : Int) (n : Nat) : List Int := (List.range n).map fun (j : Nat) => (k + (j : Int)) % 256
theorem marksI_length (k : Int) (n : Nat) : (marksI k n).length = n := by simp [marksI]
theorem marksI_get (k : Int) (n j : Nat) (hj : j < n) : (marksI k n)[j]? = some ((k + (j : Int)) % 256) := by simp [marksI, hj]
theorem heldB_calls (A : Option Addr) (c n : Nat) (w : World) (hn : n ≤ 1000000000000000) (h : Kd.C (Kd.int .u8) w A n (marksI 1 n)) :
    Calls Tryd.prog 23 #[.slice A n c, .int .i64 1] w fun e w' => e = .returned (.int .i64 (1 + (n : Int))) ∧ w' = w := by
  have h2 : ∀ i, i < n → ∃ ad, A = some ad ∧ w.cell? (ad.add i) = some (.int .u8 ((1 + (i : Int)) % 256)) := by
    intro i hi
    have hl := marksI_length 1 n
    obtain ⟨ad, e1, e2⟩ := at_byte (xs := marksI 1 n) (by rw [hl]; exact h) i (by rw [hl]; exact hi)
    refine ⟨ad, e1, ?_⟩
    rw [List.getD_eq_getElem?_getD, marksI_get 1 n i hi] at e2
    exact e2
  have H := Lib.hid h2
  clear h h2
  go_enter Tryd.func23, Tryd.ntmps23
  go_wp2
  go_loopw [1, 5] (fun v1 v5 wr => ∃ i : Nat, i ≤ n ∧ v5 = .int .i64 i ∧ v1 = .int .i64 (1 + (i : Int)) ∧ wr = w) (fun _ v5 _ => n - (RowKit.intOf v5).toNat)
  case atStart => exact ⟨0, Nat.zero_le _, rfl, by simp, rfl⟩
  case round =>
    obtain ⟨i, hi, rfl, rfl, rfl⟩ := hrel
    by_cases hlt : i < n
    · obtain ⟨ad, e1, c1⟩ := H.out i hlt
      subst e1
      go_wp2
      go_roundw
      case rel => exact ⟨i + 1, by omega, by go_num, by go_num, by first | trivial | rfl⟩
      case measure => simp [RowKit.intOf]; omega
    · obtain rfl : i = n := by omega
      go_wp2
      go_ret
      exact ⟨rfl, rfl⟩
/-- The places that the marks leave alone. -/
def Stays (T : TypeId) (j : Nat) : Prop := T = 25 ∨ (T = 57 ∧ j % 4 = 2) ∨ (T = 68 ∧ j % 3 ≠ 0)
/-- Blocks keep their kind and size, and what stays. -/
def KpS (w w' : World) : Prop := ∀ (g : Nat) (cur : Array Value) (T : TypeId), w.heap[g]? = some (.cells cur T (0, 0)) → ∃ cur' : Array Value, w'.heap[g]? = some (.cells cur' T (0, 0)) ∧ cur'.size = cur.size ∧ ∀ j, Stays T j → cur'[j]? = cur[j]?
theorem KpS.of_below {w w' : World} (h : Below w.heap.size w w') : KpS w w' := fun g cur T hg => ⟨cur, (h.block g (blk_lt2 hg)).trans hg, rfl, fun _ _ => rfl⟩
/-- What marks do. -/
structure Mk (P : Nat → Prop) (B : Nat) (w w' : World) : Prop where
  blk : KpS w w'
  size : w'.heap.size = w.heap.size
  others : ∀ q, ¬ P q → w'.heap[q]? = w.heap[q]?
  below : Below B w w'
theorem Mk.refl {P : Nat → Prop} {B : Nat} {w : World} : Mk P B w w := ⟨fun g cur _ h => ⟨cur, h, rfl, fun _ _ => rfl⟩, rfl, fun _ _ => rfl, Below.refl _ _⟩
theorem Mk.trans {P : Nat → Prop} {B : Nat} {w w1 w2 : World} (h : Mk P B w w1) (k : Mk P B w1 w2) : Mk P B w w2 :=
  ⟨fun g cur T hg => by
    obtain ⟨c1, h1, h2, h3⟩ := h.blk g cur T hg
    obtain ⟨c2, k1, k2, k3⟩ := k.blk g c1 T h1
    exact ⟨c2, k1, k2.trans h2, fun j hj => (k3 j hj).trans (h3 j hj)⟩, k.size.trans h.size, fun q hq => (k.others q hq).trans (h.others q hq), h.below.trans k.below⟩
theorem Mk.set {P : Nat → Prop} {B : Nat} {w w' : World} (h : Mk P B w w') {G : Nat} {cur : Array Value} {T : TypeId} (hG : w'.heap[G]? = some (.cells cur T (0, 0))) (hP : P G) (hB : B ≤ G) (j : Nat) (v : Value) (hj : ¬ Stays T j) : Mk P B w (w'.setCell ⟨G, j, none⟩ v) := by
  refine h.trans ⟨fun g c T' hg => ?_, by simp [World.setCell], fun q hq => Below.heap_setCell _ _ _ _ (fun e => hq (by rw [e]; exact hP)), (Below.refl _ _).setCell (p := ⟨G, j, none⟩) hB _⟩
  by_cases e : g = G
  · subst e
    rw [hG] at hg
    cases hg
    refine ⟨_, Go.Joins.block_setCell hG v, by simp, fun i hi => ?_⟩
    rw [Array.getElem?_setIfInBounds, if_neg (fun e => hj (by rw [e]; exact hi))]
  · exact ⟨c, (Below.heap_setCell _ _ _ _ e).trans hg, rfl, fun _ _ => rfl⟩
/-- A row of the law's own within P: none, or a block. -/
def RowG (P : Nat → Prop) (w : World) (T : TypeId) (sz : Nat) (v : Value) (n : Nat) (E : Nat → (Nat → Option Value) → Prop) : Prop :=
  (n = 0 ∧ ∃ A c, v = .slice A 0 c) ∨ ∃ (G c : Nat) (cur : Array Value), v = .slice (some ⟨G, 0, none⟩) n c ∧ P G ∧ w.heap[G]? = some (.cells cur T (0, 0)) ∧ n * sz ≤ cur.size ∧ ∀ i, i < n → E i (fun j => cur[i * sz + j]?)
theorem RowG.imp {P : Nat → Prop} {w w' : World} {T : TypeId} {sz : Nat} {v : Value} {n : Nat} {E E' : Nat → (Nat → Option Value) → Prop} (h : RowG P w T sz v n E) (hm : ∀ G cur, w.heap[G]? = some (.cells cur T (0, 0)) → P G → ∃ cur' : Array Value, w'.heap[G]? = some (.cells cur' T (0, 0)) ∧ cur'.size = cur.size ∧ ∀ i, i < n → E i (fun j => cur[i * sz + j]?) → E' i (fun j => cur'[i * sz + j]?)) : RowG P w' T sz v n E' := by
  rcases h with h | ⟨G, c, cur, e, hP, hG, hs, hE⟩
  · exact Or.inl h
  · obtain ⟨cur', h1, h2, h3⟩ := hm G cur hG hP
    exact Or.inr ⟨G, c, cur', e, hP, h1, by rw [h2]; exact hs, fun i hi => h3 i hi (hE i hi)⟩
abbrev Any : Nat → (Nat → Option Value) → Prop := fun _ _ => True
theorem RowG.mk0 {P : Nat → Prop} {w w' : World} {T : TypeId} {sz : Nat} {v : Value} {n : Nat} (h : RowG P w T sz v n Any) (hm : KpS w w') : RowG P w' T sz v n Any :=
  h.imp fun G cur hG _ => by obtain ⟨c', h1, h2, _⟩ := hm G cur T hG; exact ⟨c', h1, h2, fun _ _ _ => trivial⟩
def TxtE (P : Nat → Prop) (w : World) (xs : List S57) (i : Nat) (f : Nat → Option Value) : Prop := ∀ x, xs[i]? = some x → ∃ tv, f 2 = some tv ∧ RowG P w 5 1 tv x.f2.length Any
def DatR (P : Nat → Prop) (w : World) (v : Value) (xs : List S57) : Prop := RowG P w 57 4 v xs.length (TxtE P w xs)
theorem DatR.mk {P : Nat → Prop} {w w' : World} {v : Value} {xs : List S57} (h : DatR P w v xs) (hm : KpS w w') : DatR P w' v xs :=
  h.imp fun G cur hG _ => by
    obtain ⟨c', h1, h2, h3⟩ := hm G cur _ hG
    refine ⟨c', h1, h2, fun i _ hE x hx => ?_⟩
    obtain ⟨tv, a, b⟩ := hE x hx
    exact ⟨tv, (h3 _ (Or.inr (Or.inl ⟨rfl, by omega⟩))).trans a, b.mk0 hm⟩
def DatsE (P : Nat → Prop) (w : World) (cs : List (List S57)) (i : Nat) (f : Nat → Option Value) : Prop := ∀ c, cs[i]? = some c → ∃ tv, f 0 = some tv ∧ DatR P w tv c
def DatsR (P : Nat → Prop) (w : World) (v : Value) (cs : List (List S57)) : Prop := RowG P w 25 1 v cs.length (DatsE P w cs)
theorem DatsR.mk {P : Nat → Prop} {w w' : World} {v : Value} {cs : List (List S57)} (h : DatsR P w v cs) (hm : KpS w w') : DatsR P w' v cs :=
  h.imp fun G cur hG _ => by
    obtain ⟨c', h1, h2, h3⟩ := hm G cur _ hG
    refine ⟨c', h1, h2, fun i _ hE x hx => ?_⟩
    obtain ⟨tv, a, b⟩ := hE x hx
    exact ⟨tv, (h3 _ (Or.inl rfl)).trans a, b.mk hm⟩
def FunE (P : Nat → Prop) (w : World) (fs : List S68) (i : Nat) (f : Nat → Option Value) : Prop := ∀ x, fs[i]? = some x → ∃ bv iv, f 1 = some bv ∧ f 2 = some iv ∧ RowG P w 4 1 bv x.f1.length Any ∧ RowG P w 71 3 iv x.f2.length Any
def FunR (P : Nat → Prop) (w : World) (v : Value) (fs : List S68) : Prop := RowG P w 68 3 v fs.length (FunE P w fs)
theorem FunR.mk {P : Nat → Prop} {w w' : World} {v : Value} {fs : List S68} (h : FunR P w v fs) (hm : KpS w w') : FunR P w' v fs :=
  h.imp fun G cur hG _ => by
    obtain ⟨c', h1, h2, h3⟩ := hm G cur _ hG
    refine ⟨c', h1, h2, fun i _ hE x hx => ?_⟩
    obtain ⟨bv, iv, a, b, c, d⟩ := hE x hx
    exact ⟨bv, iv, (h3 _ (Or.inr (Or.inr ⟨rfl, by omega⟩))).trans a, (h3 _ (Or.inr (Or.inr ⟨rfl, by omega⟩))).trans b, c.mk0 hm, d.mk0 hm⟩
end Go.Proofs.YtogmphjhdkgdjaaDoor
/- The law's marks, walked: bytes, truths, instructions, data, functions, a module. -/
namespace Go.Proofs.YtogmphjhdkgdjaaDoor
open Go.RowKit Go.Proofs.YtogmphjhdkgdjaaDoorW.PrintWords Go.Proofs.YtogmphjhdkgdjaaDoor.QFnExactValidModule
set_option linter.unusedVariables false
set_option linter.unusedSimpArgs false
theorem RowG.form {P : Nat → Prop} {w : World} {T : TypeId} {sz : Nat} {v : Value} {n : Nat} {E : Nat → (Nat → Option Value) → Prop} (h : RowG P w T sz v n E) : ∃ A c, v = .slice A n c := by
  rcases h with ⟨rfl, A, c, rfl⟩ | ⟨G, c, cur, rfl, _⟩
  · exact ⟨A, c, rfl⟩
  · exact ⟨_, c, rfl⟩
theorem Mk.cell {P : Nat → Prop} {B : Nat} {w w' : World} (h : Mk P B w w') {G : Nat} {cur : Array Value} {T : TypeId} (hG : w.heap[G]? = some (.cells cur T (0, 0))) (j : Nat) (hj : j < cur.size) : (∃ v, w'.cell? ⟨G, j, none⟩ = some v) ∧ w'.frozen? ⟨G, j, none⟩ = false ∧ G < w'.heap.size := by
  obtain ⟨cur', h1, h2, _⟩ := h.blk G cur T hG
  exact ⟨⟨cur'[j]'(by omega), by simp [World.cell?, h1]⟩, by simp [World.frozen?, h1], blk_lt2 h1⟩
theorem Mk.stay {P : Nat → Prop} {B : Nat} {w w' : World} (h : Mk P B w w') {G : Nat} {cur : Array Value} {T : TypeId} (hG : w.heap[G]? = some (.cells cur T (0, 0))) (j : Nat) (v : Value) (hj : Stays T j) (hv : cur[j]? = some v) : w'.cell? ⟨G, j, none⟩ = some v := by
  obtain ⟨cur', h1, h2, h3⟩ := h.blk G cur T hG
  simp [World.cell?, h1, h3 j hj, hv]
theorem Mk.put {P : Nat → Prop} {B : Nat} {w w' : World} (h : Mk P B w w') {G : Nat} {cur : Array Value} {T : TypeId} (hG : w.heap[G]? = some (.cells cur T (0, 0))) (hP : P G) (hB : B ≤ G) (j : Nat) (v : Value) (hj : ¬ Stays T j) : Mk P B w (w'.setCell ⟨G, j, none⟩ v) := by
  obtain ⟨cur', h1, _⟩ := h.blk G cur T hG
  exact h.set h1 hP hB j v hj
section
variable (P : Nat → Prop) (B : Nat)
set_option maxHeartbeats 4000000 in
theorem markB_mk (v : Value) (n : Nat) (k : Int) (w : World) (h : RowG P w 5 1 v n Any) (hPB : ∀ q, P q → B ≤ q) (hk0 : 0 ≤ k) (hk1 : k ≤ 8000000000000000000) (hn : n ≤ 1000000000000000) :
    Calls Tryd.prog 22 #[v, .int .i64 k] w fun e w' => e = .returned (.int .i64 (k + n)) ∧ Mk P B w w' := by
  rcases h with ⟨rfl, A, c, rfl⟩ | ⟨G, c, cur, rfl, hP, hG, hs, _⟩
  · go_enter Tryd.func22, Tryd.ntmps22
    go_wp2
    go_loopw [1, 5] (fun v1 v5 wr => v5 = .int .i64 0 ∧ v1 = .int .i64 k ∧ wr = w) (fun _ _ _ => 0)
    case atStart => exact ⟨rfl, rfl, rfl⟩
    case round =>
      obtain ⟨rfl, rfl, rfl⟩ := hrel
      go_wp2
      go_ret
      exact ⟨by simp, Mk.refl⟩
  · have HG := Lib.hid hG
    have hBG := hPB G hP
    clear hG hPB
    go_enter Tryd.func22, Tryd.ntmps22
    go_wp2
    go_loopw [1, 5] (fun v1 v5 wr => ∃ i : Nat, i ≤ n ∧ v5 = .int .i64 i ∧ v1 = .int .i64 (k + (i : Int)) ∧ Hid (Mk P B w wr)) (fun _ v5 _ => n - (RowKit.intOf v5).toNat)
    case atStart => exact ⟨0, Nat.zero_le _, rfl, by simp, Lib.hid Mk.refl⟩
    case round =>
      obtain ⟨i, hi, rfl, rfl, HM⟩ := hrel
      by_cases hlt : i < n
      · obtain ⟨⟨v0, c0⟩, f0, hl⟩ := HM.out.cell HG.out i (by omega)
        go_wp2
        go_roundw
        case rel => exact ⟨i + 1, by omega, by go_num, by congr 1; simp; omega, Lib.hid (HM.out.put HG.out hP hBG i _ (by simp [Stays]))⟩
        case measure => simp [RowKit.intOf]; omega
      · obtain rfl : i = n := by omega
        go_wp2
        go_ret
        exact ⟨rfl, HM.out⟩
set_option maxHeartbeats 4000000 in
theorem markT_mk (v : Value) (n : Nat) (k : Int) (w : World) (h : RowG P w 4 1 v n Any) (hPB : ∀ q, P q → B ≤ q) (hk0 : 0 ≤ k) (hk1 : k ≤ 8000000000000000000) (hn : n ≤ 1000000000000000) :
    Calls Tryd.prog 83 #[v, .int .i64 k] w fun e w' => e = .returned (.int .i64 (k + n)) ∧ Mk P B w w' := by
  rcases h with ⟨rfl, A, c, rfl⟩ | ⟨G, c, cur, rfl, hP, hG, hs, _⟩
  · go_enter Tryd.func83, Tryd.ntmps83
    go_wp2
    go_loopw [1, 5] (fun v1 v5 wr => v5 = .int .i64 0 ∧ v1 = .int .i64 k ∧ wr = w) (fun _ _ _ => 0)
    case atStart => exact ⟨rfl, rfl, rfl⟩
    case round =>
      obtain ⟨rfl, rfl, rfl⟩ := hrel
      go_wp2
      go_ret
      exact ⟨by simp, Mk.refl⟩
  · have HG := Lib.hid hG
    have hBG := hPB G hP
    clear hG hPB
    go_enter Tryd.func83, Tryd.ntmps83
    go_wp2
    go_loopw [1, 5] (fun v1 v5 wr => ∃ i : Nat, i ≤ n ∧ v5 = .int .i64 i ∧ v1 = .int .i64 (k + (i : Int)) ∧ Hid (Mk P B w wr)) (fun _ v5 _ => n - (RowKit.intOf v5).toNat)
    case atStart => exact ⟨0, Nat.zero_le _, rfl, by simp, Lib.hid Mk.refl⟩
    case round =>
      obtain ⟨i, hi, rfl, rfl, HM⟩ := hrel
      by_cases hlt : i < n
      · obtain ⟨⟨v0, c0⟩, f0, hl⟩ := HM.out.cell HG.out i (by omega)
        go_wp2
        go_roundw
        case rel => exact ⟨i + 1, by omega, by go_num, by congr 1; simp; omega, Lib.hid (HM.out.put HG.out hP hBG i _ (by simp [Stays]))⟩
        case measure => simp [RowKit.intOf]; omega
      · obtain rfl : i = n := by omega
        go_wp2
        go_ret
        exact ⟨rfl, HM.out⟩
set_option maxHeartbeats 4000000 in
theorem markI_mk (v : Value) (n : Nat) (k : Int) (w : World) (h : RowG P w 71 3 v n Any) (hPB : ∀ q, P q → B ≤ q) (hk0 : 0 ≤ k) (hk1 : k ≤ 8000000000000000000) (hn : n ≤ 1000000000000000) :
    Calls Tryd.prog 84 #[v, .int .i64 k] w fun e w' => e = .returned (.int .i64 (k + 3 * n)) ∧ Mk P B w w' := by
  rcases h with ⟨rfl, A, c, rfl⟩ | ⟨G, c, cur, rfl, hP, hG, hs, _⟩
  · go_enter Tryd.func84, Tryd.ntmps84
    go_wp2
    go_loopw [1, 5] (fun v1 v5 wr => v5 = .int .i64 0 ∧ v1 = .int .i64 k ∧ wr = w) (fun _ _ _ => 0)
    case atStart => exact ⟨rfl, rfl, rfl⟩
    case round =>
      obtain ⟨rfl, rfl, rfl⟩ := hrel
      go_wp2
      go_ret
      exact ⟨by simp, Mk.refl⟩
  · have HG := Lib.hid hG
    have hBG := hPB G hP
    clear hG hPB
    go_enter Tryd.func84, Tryd.ntmps84
    go_wp2
    go_loopw [1, 5] (fun v1 v5 wr => ∃ i : Nat, i ≤ n ∧ v5 = .int .i64 i ∧ v1 = .int .i64 (k + 3 * (i : Int)) ∧ Hid (Mk P B w wr)) (fun _ v5 _ => n - (RowKit.intOf v5).toNat)
    case atStart => exact ⟨0, Nat.zero_le _, rfl, by simp, Lib.hid Mk.refl⟩
    case round =>
      obtain ⟨i, hi, rfl, rfl, HM⟩ := hrel
      by_cases hlt : i < n
      · obtain ⟨⟨v0, c0⟩, f0, hl⟩ := HM.out.cell HG.out (i * 3) (by omega)
        obtain ⟨⟨v1, c1⟩, f1, _⟩ := HM.out.cell HG.out (i * 3 + 1) (by omega)
        obtain ⟨⟨v2, c2⟩, f2, _⟩ := HM.out.cell HG.out (i * 3 + 2) (by omega)
        go_wp2
        go_roundw
        case rel => exact ⟨i + 1, by omega, by go_num, by congr 1; simp; omega, Lib.hid (((HM.out.put HG.out hP hBG (i * 3) _ (by simp [Stays])).put HG.out hP hBG (i * 3 + 1) _ (by simp [Stays])).put HG.out hP hBG (i * 3 + 2) _ (by simp [Stays]))⟩
        case measure => simp [RowKit.intOf]; omega
      · obtain rfl : i = n := by omega
        go_wp2
        go_ret
        exact ⟨rfl, HM.out⟩
set_option maxHeartbeats 8000000 in
theorem markD_mk (v : Value) (xs : List S57) (k : Int) (w : World) (h : DatR P w v xs) (hPB : ∀ q, P q → B ≤ q) (hk0 : 0 ≤ k) (hk1 : k ≤ 4000000000000000000) (hl : ∀ x ∈ xs, x.f2.length ≤ 1048576) (hn : xs.length ≤ 1048576) :
    Calls Tryd.prog 21 #[v, .int .i64 k] w fun e w' => ∃ r : Int, e = .returned (.int .i64 r) ∧ k ≤ r ∧ r ≤ k + xs.length * 1048580 ∧ Mk P B w w' := by
  rcases h with ⟨h0, A, c, rfl⟩ | ⟨G, c, cur, rfl, hP, hG, hs, hE⟩
  · go_enter Tryd.func21, Tryd.ntmps21
    go_wp2
    go_loopw [1, 5] (fun v1 v5 wr => v5 = .int .i64 0 ∧ v1 = .int .i64 k ∧ wr = w) (fun _ _ _ => 0)
    case atStart => exact ⟨rfl, rfl, rfl⟩
    case round =>
      obtain ⟨rfl, rfl, rfl⟩ := hrel
      go_wp2
      go_ret
      exact ⟨k, rfl, by omega, by omega, Mk.refl⟩
  · have HG := Lib.hid hG
    have hBG := hPB G hP
    have HPB := Lib.hid hPB
    have HE := Lib.hid hE
    have HL := Lib.hid hl
    clear hG hPB hE hl
    go_enter Tryd.func21, Tryd.ntmps21
    go_wp2
    go_loopw [1, 5] (fun v1 v5 wr => ∃ (i : Nat) (z : Int), i ≤ xs.length ∧ v5 = .int .i64 i ∧ v1 = .int .i64 z ∧ k ≤ z ∧ z ≤ k + i * 1048580 ∧ Hid (Mk P B w wr)) (fun _ v5 _ => xs.length - (RowKit.intOf v5).toNat)
    case atStart => exact ⟨0, k, Nat.zero_le _, rfl, rfl, by omega, by omega, Lib.hid Mk.refl⟩
    case round =>
      obtain ⟨i, z, hi, rfl, rfl, hz0, hz1, HM⟩ := hrel
      by_cases hlt : i < xs.length
      · obtain ⟨x, hx⟩ : ∃ x, xs[i]? = some x := ⟨xs[i], List.getElem?_eq_getElem hlt⟩
        obtain ⟨tv, htv, htx⟩ := HE.out i hlt x hx
        have hxl : x.f2.length ≤ 1048576 := HL.out x (List.mem_of_getElem? hx)
        obtain ⟨⟨v0, c0⟩, f0, hlG⟩ := HM.out.cell HG.out (i * 4) (by omega)
        obtain ⟨⟨v1, c1⟩, f1, _⟩ := HM.out.cell HG.out (i * 4 + 1) (by omega)
        have c2 := HM.out.stay HG.out (i * 4 + 2) tv (Or.inr (Or.inl ⟨rfl, by omega⟩)) htv
        have HM2 : Hid (Mk P B w ((wr.setCell ⟨G, i * 4, none⟩ (.int .i64 z)).setCell ⟨G, i * 4 + 1, none⟩ (.int .i64 (z + 1)))) :=
          Lib.hid ((HM.out.put HG.out hP hBG (i * 4) _ (by simp [Stays])).put HG.out hP hBG (i * 4 + 1) _ (by simp [Stays] <;> omega))
        have HT2 := Lib.hid (htx.mk0 HM2.out.blk)
        obtain ⟨A2, n2, rfl⟩ := htx.form
        have hi3 : i * 4 + 3 < cur.size := by omega
        clear hx htv htx HM
        go_wp2_with (go_at_call 22; refine (markB_mk P B _ _ _ _ HT2.out HPB.out (by omega) (by omega) (by omega)).mono ?_; rintro e w3 ⟨rfl, hm3⟩; have HM3 : Hid (Mk P B w w3) := Lib.hid (HM2.out.trans hm3); clear hm3; obtain ⟨⟨v3', c3'⟩, f3', hlG3⟩ := HM3.out.cell HG.out (i * 4 + 3) hi3)
        go_roundw
        case rel => exact ⟨i + 1, z + 3 + x.f2.length, by omega, by go_num, by congr 1; omega, by omega, by omega, Lib.hid (HM3.out.put HG.out hP hBG (i * 4 + 3) _ (by simp [Stays] <;> omega))⟩
        case measure => simp [RowKit.intOf]; omega
      · obtain rfl : i = xs.length := by omega
        go_wp2
        go_ret
        exact ⟨z, rfl, hz0, hz1, HM.out⟩
set_option maxHeartbeats 8000000 in
theorem markDS_mk (v : Value) (cs : List (List S57)) (k : Int) (w : World) (h : DatsR P w v cs) (hPB : ∀ q, P q → B ≤ q) (hk0 : 0 ≤ k) (hk1 : k ≤ 1000000) (hl : ∀ c ∈ cs, c.length ≤ 1048576 ∧ ∀ x ∈ c, x.f2.length ≤ 1048576) (hn : cs.length ≤ 1048576) :
    Calls Tryd.prog 55 #[v, .int .i64 k] w fun e w' => ∃ r : Int, e = .returned (.int .i64 r) ∧ k ≤ r ∧ r ≤ k + cs.length * 1099515822080 ∧ Mk P B w w' := by
  rcases h with ⟨h0, A, c, rfl⟩ | ⟨G, c, cur, rfl, hP, hG, hs, hE⟩
  · go_enter Tryd.func55, Tryd.ntmps55
    go_wp2
    go_loopw [1, 5] (fun v1 v5 wr => v5 = .int .i64 0 ∧ v1 = .int .i64 k ∧ wr = w) (fun _ _ _ => 0)
    case atStart => exact ⟨rfl, rfl, rfl⟩
    case round =>
      obtain ⟨rfl, rfl, rfl⟩ := hrel
      go_wp2
      go_ret
      exact ⟨k, rfl, by omega, by omega, Mk.refl⟩
  · have HG := Lib.hid hG
    have HPB := Lib.hid hPB
    have HE := Lib.hid hE
    have HL := Lib.hid hl
    clear hG hPB hE hl
    go_enter Tryd.func55, Tryd.ntmps55
    go_wp2
    go_loopw [1, 5] (fun v1 v5 wr => ∃ (i : Nat) (z : Int), i ≤ cs.length ∧ v5 = .int .i64 i ∧ v1 = .int .i64 z ∧ k ≤ z ∧ z ≤ k + i * 1099515822080 ∧ Hid (Mk P B w wr)) (fun _ v5 _ => cs.length - (RowKit.intOf v5).toNat)
    case atStart => exact ⟨0, k, Nat.zero_le _, rfl, rfl, by omega, by omega, Lib.hid Mk.refl⟩
    case round =>
      obtain ⟨i, z, hi, rfl, rfl, hz0, hz1, HM⟩ := hrel
      by_cases hlt : i < cs.length
      · obtain ⟨x, hx⟩ : ∃ x, cs[i]? = some x := ⟨cs[i], List.getElem?_eq_getElem hlt⟩
        obtain ⟨tv, htv, htx⟩ := HE.out i hlt x hx
        have hxl := HL.out x (List.mem_of_getElem? hx)
        have hxn := hxl.1
        have HXL := Lib.hid hxl.2
        have c2 := HM.out.stay HG.out i tv (Or.inl rfl) (by simpa using htv)
        have hlG : G < wr.heap.size := by obtain ⟨_, h1, _⟩ := HM.out.blk G _ _ HG.out; exact blk_lt2 h1
        have HT2 := Lib.hid (htx.mk HM.out.blk)
        obtain ⟨A2, n2, rfl⟩ := htx.form
        clear hx htv htx hxl
        go_wp2_with (go_at_call 21; refine (markD_mk P B _ x _ _ HT2.out HPB.out (by omega) (by omega) HXL.out hxn).mono ?_; rintro e w3 ⟨z3, rfl, hz2, hz3, hm3⟩; have HM3 : Hid (Mk P B w w3) := Lib.hid (HM.out.trans hm3); clear hm3)
        go_roundw
        case rel => exact ⟨i + 1, z3, by omega, by go_num, rfl, by omega, by omega, HM3⟩
        case measure => simp [RowKit.intOf]; omega
      · obtain rfl : i = cs.length := by omega
        go_wp2
        go_ret
        exact ⟨z, rfl, hz0, hz1, HM.out⟩
set_option maxHeartbeats 8000000 in
theorem markF_mk (v : Value) (fs : List S68) (k : Int) (w : World) (h : FunR P w v fs) (hPB : ∀ q, P q → B ≤ q) (hk0 : 0 ≤ k) (hk1 : k ≤ 2000000000000000000) (hl : ∀ f ∈ fs, f.f1.length ≤ 1048576 ∧ f.f2.length ≤ 1048576) (hn : fs.length ≤ 1048576) :
    Calls Tryd.prog 56 #[v, .int .i64 k] w fun e w' => ∃ r : Int, e = .returned (.int .i64 r) ∧ k ≤ r ∧ Mk P B w w' := by
  rcases h with ⟨h0, A, c, rfl⟩ | ⟨G, c, cur, rfl, hP, hG, hs, hE⟩
  · go_enter Tryd.func56, Tryd.ntmps56
    go_wp2
    go_loopw [1, 5] (fun v1 v5 wr => v5 = .int .i64 0 ∧ v1 = .int .i64 k ∧ wr = w) (fun _ _ _ => 0)
    case atStart => exact ⟨rfl, rfl, rfl⟩
    case round =>
      obtain ⟨rfl, rfl, rfl⟩ := hrel
      go_wp2
      go_ret
      exact ⟨k, rfl, by omega, Mk.refl⟩
  · have HG := Lib.hid hG
    have hBG := hPB G hP
    have HPB := Lib.hid hPB
    have HE := Lib.hid hE
    have HL := Lib.hid hl
    clear hG hPB hE hl
    go_enter Tryd.func56, Tryd.ntmps56
    go_wp2
    go_loopw [1, 5] (fun v1 v5 wr => ∃ (i : Nat) (z : Int), i ≤ fs.length ∧ v5 = .int .i64 i ∧ v1 = .int .i64 z ∧ k ≤ z ∧ z ≤ k + i * 4194305 ∧ Hid (Mk P B w wr)) (fun _ v5 _ => fs.length - (RowKit.intOf v5).toNat)
    case atStart => exact ⟨0, k, Nat.zero_le _, rfl, rfl, by omega, by omega, Lib.hid Mk.refl⟩
    case round =>
      obtain ⟨i, z, hi, rfl, rfl, hz0, hz1, HM⟩ := hrel
      by_cases hlt : i < fs.length
      · obtain ⟨x, hx⟩ : ∃ x, fs[i]? = some x := ⟨fs[i], List.getElem?_eq_getElem hlt⟩
        obtain ⟨bv, iv, hb, hv, hbx, hix⟩ := HE.out i hlt x hx
        obtain ⟨hxl1, hxl2⟩ := HL.out x (List.mem_of_getElem? hx)
        obtain ⟨⟨v0, c0⟩, f0, hlG⟩ := HM.out.cell HG.out (i * 3) (by omega)
        have c1 := HM.out.stay HG.out (i * 3 + 1) bv (Or.inr (Or.inr ⟨rfl, by omega⟩)) hb
        have HM2 : Hid (Mk P B w (wr.setCell ⟨G, i * 3, none⟩ (.int .i64 z))) := Lib.hid (HM.out.put HG.out hP hBG (i * 3) _ (by simp [Stays]))
        have HT2 := Lib.hid (hbx.mk0 HM2.out.blk)
        have HI0 := Lib.hid hix
        have HV := Lib.hid hv
        obtain ⟨A2, n2, rfl⟩ := hbx.form
        obtain ⟨A3, n3, rfl⟩ := hix.form
        clear hx hb hv hbx hix HM
        go_wp2_with (first
          | (go_at_call 83; refine (markT_mk P B _ _ _ _ HT2.out HPB.out (by omega) (by omega) (by omega)).mono ?_; rintro e w3 ⟨rfl, hm3⟩; have HM3 : Hid (Mk P B w w3) := Lib.hid (HM2.out.trans hm3); clear hm3; have c2 := HM3.out.stay HG.out (i * 3 + 2) _ (Or.inr (Or.inr ⟨rfl, by omega⟩)) HV.out; have hlG3 : G < w3.heap.size := (by obtain ⟨_, h1, _⟩ := HM3.out.blk G _ _ HG.out; exact blk_lt2 h1); have HT3 := Lib.hid (HI0.out.mk0 HM3.out.blk))
          | (go_at_call 84; refine (markI_mk P B _ _ _ _ HT3.out HPB.out (by omega) (by omega) (by omega)).mono ?_; rintro e w4 ⟨rfl, hm4⟩; have HM4 : Hid (Mk P B w w4) := Lib.hid (HM3.out.trans hm4); clear hm4))
        go_roundw
        case rel => exact ⟨i + 1, z + 1 + x.f1.length + 3 * x.f2.length, by omega, by go_num, by first | rfl | (congr 1; omega), by omega, by omega, HM4⟩
        case measure => simp [RowKit.intOf]; omega
      · obtain rfl : i = fs.length := by omega
        go_wp2
        go_ret
        exact ⟨z, rfl, hz0, HM.out⟩
set_option maxHeartbeats 8000000 in
/-- A module marked. -/
theorem markM_mk (v0 v2 : Value) (g : Int) (cs : List (List S57)) (fs : List S68) (w : World) (h0 : DatsR P w v0 cs) (h2 : FunR P w v2 fs) (hPB : ∀ q, P q → B ≤ q) (hPL : ∀ q, P q → q < w.heap.size) (hB : B ≤ w.heap.size) (hl : ∀ c ∈ cs, c.length ≤ 1048576 ∧ ∀ x ∈ c, x.f2.length ≤ 1048576) (hn : cs.length ≤ 1048576) (hf : ∀ f ∈ fs, f.f1.length ≤ 1048576 ∧ f.f2.length ≤ 1048576) (hm : fs.length ≤ 1048576) :
    Calls Tryd.prog 26 #[.agg #[v0, .int .i64 g, v2], .int .i64 1] w fun e w' => ∃ r : Int, e = .returned (.int .i64 r) ∧ 0 ≤ r ∧ w.heap.size ≤ w'.heap.size ∧ (∀ q, q < w.heap.size → ¬ P q → w'.heap[q]? = w.heap[q]?) ∧ Below B w w' := by
  obtain ⟨A0, c0, rfl⟩ := h0.form
  obtain ⟨A2, c2, rfl⟩ := h2.form
  have H0 := Lib.hid h0
  have H2 := Lib.hid h2
  have HPB := Lib.hid hPB
  have HL := Lib.hid hl
  have HF := Lib.hid hf
  have HPL := Lib.hid hPL
  have hu := Tryd.underlying38
  clear h0 h2 hPB hPL hl hf
  obtain ⟨W, hW⟩ : ∃ W, W = w.alloc (.cells #[.slice A0 cs.length c0, .int .i64 g, .slice A2 fs.length c2] 38) := ⟨_, rfl⟩
  have hb : Below w.heap.size w W := by rw [hW]; exact (Below.refl _ _).alloc (Nat.le_refl _) _
  have hx : W.heap[w.heap.size]? = some (.cells #[.slice A0 cs.length c0, .int .i64 g, .slice A2 fs.length c2] 38 (0, 0)) := by rw [hW]; exact blk_new2 _ _
  have HB := Lib.hid hb
  have HX := Lib.hid hx
  have hW1 : w.heap.size < W.heap.size := blk_lt2 hx
  have e0 : W.cell? ⟨w.heap.size, 0, none⟩ = some (.slice A0 cs.length c0) := by simp [World.cell?, hx]
  clear hb hx
  go_enter Tryd.func26, Tryd.ntmps26
  go_wp2_with fail
  rw [← hW]
  clear hW
  refine (markDS_mk P B _ cs 1 W (H0.out.mk (KpS.of_below HB.out)) HPB.out (by omega) (by omega) HL.out hn).mono ?_
  rintro e w1 ⟨r1, rfl, hr0, hr1, hm1⟩
  have HM1 := Lib.hid hm1
  have hx1 := (hm1.others w.heap.size (fun h => by have := HPL.out _ h; omega)).trans HX.out
  have e2 : w1.cell? ⟨w.heap.size, 2, none⟩ = some (.slice A2 fs.length c2) := by simp [World.cell?, hx1]
  have hl1 : w.heap.size < w1.heap.size := blk_lt2 hx1
  clear hm1 hx1 e0
  go_wp2_with fail
  refine (markF_mk P B _ fs r1 w1 ((H2.out.mk (KpS.of_below HB.out)).mk HM1.out.blk) HPB.out (by omega) (by omega) HF.out hm).mono ?_
  rintro e w2 ⟨r2, rfl, hr2, hm2⟩
  have HM2 := Lib.hid (HM1.out.trans hm2)
  clear hm2 e2
  go_wp2_with fail
  go_ret
  exact ⟨r2, rfl, by omega, by have := HM2.out.size; omega, fun q hq hP => (HM2.out.others q hP).trans (HB.out.block q hq), (HB.out.mono hB).trans HM2.out.below⟩
end
end Go.Proofs.YtogmphjhdkgdjaaDoor
/- The rows that the law's toModule makes, as its marks find them. -/
namespace Go.Proofs.YtogmphjhdkgdjaaDoor
open Go.RowKit Go.Proofs.YtogmphjhdkgdjaaDoorW.PrintWords Go.Proofs.YtogmphjhdkgdjaaDoor.QFnExactValidModule
set_option linter.unusedVariables false
set_option linter.unusedSimpArgs false
theorem RowG.of_R {α : Type} {d : Kd α} {T : Nat} {w : World} {base : Nat} {ok : Nat → Prop} {v : Value} {xs : List α} (h : d.R T w base ok v xs) (hp : 0 < d.sz) (E : Nat → (Nat → Option Value) → Prop)
    (hE : ∀ (i : Nat) (x : α) (c : List Value) (f : Nat → Option Value), xs[i]? = some x → (∀ j, j < d.sz → f j = c[j]?) → d.M w base (fun k => ok k ∧ some k ≠ v.ownBlock) x c → E i f) : RowG (fun q => base ≤ q ∧ q < w.heap.size) w T d.sz v xs.length E := by
  obtain ⟨hok, inner, hown, hrl, hre⟩ := h
  obtain ⟨hil, hor⟩ := hown
  rcases hor with ⟨rfl, h1⟩ | ⟨G, cap, cur, rfl, hb, hG, hn, hm, hs, ht⟩
  · exact Or.inl ⟨h1, none, 0, rfl⟩
  · have hcs : xs.length * d.sz ≤ cur.size := by rw [hs]; exact Nat.mul_le_mul_right _ hn
    refine Or.inr ⟨G, cap, cur, rfl, ⟨hb, blk_lt2 hG⟩, hG, hcs, fun i hi => ?_⟩
    have hx : xs[i]? = some xs[i] := List.getElem?_eq_getElem hi
    refine hE i xs[i] _ _ hx (fun j hj => ?_) (hre i _ hx)
    have h2 : i * d.sz + j < xs.length * d.sz := by
      have : (i + 1) * d.sz ≤ xs.length * d.sz := Nat.mul_le_mul_right _ hi
      rw [Nat.succ_mul] at this
      omega
    rw [List.getElem?_take, if_pos hj, List.getElem?_drop, ← ht, List.getElem?_take, if_pos h2]
    simp
theorem DatR.of_R {w : World} {base : Nat} {ok : Nat → Prop} {v : Value} {xs : List S57} (h : k57.R 57 w base ok v xs) : DatR (fun q => base ≤ q ∧ q < w.heap.size) w v xs :=
  RowG.of_R h (by decide) _ fun i x c f hx hf hM y hy => by
    rw [hx] at hy
    cases hy
    obtain ⟨v2, rfl, e2⟩ := k57_openM hM
    exact ⟨v2, hf 2 (by decide), RowG.of_R e2 (by decide) _ (fun _ _ _ _ _ _ _ => trivial)⟩
theorem DatsR.of_R {w : World} {base : Nat} {ok : Nat → Prop} {v : Value} {cs : List (List S57)} (h : (Kd.slice 57 k57).R 25 w base ok v cs) : DatsR (fun q => base ≤ q ∧ q < w.heap.size) w v cs :=
  RowG.of_R h (by decide) _ fun i x c f hx hf hM y hy => by
    rw [hx] at hy
    cases hy
    obtain ⟨v2, rfl, e2⟩ := hM
    exact ⟨v2, hf 0 (by decide), DatR.of_R e2⟩
theorem FunR.of_S {w : World} {base : Nat} {ok : Nat → Prop} {v : Value} {fs : List S68} (h : Kd.S k68 68 w base ok v fs) : FunR (fun q => base ≤ q ∧ q < w.heap.size) w v fs :=
  RowG.of_R (Kd.S_R h) (by decide) _ fun i x c f hx hf hM y hy => by
    rw [hx] at hy
    cases hy
    obtain ⟨v1, v2, rfl, e1, e2⟩ := k68_openM hM
    exact ⟨v1, v2, hf 1 (by decide), hf 2 (by decide), RowG.of_R e1 (by decide) _ (fun _ _ _ _ _ _ _ => trivial), RowG.of_R e2 (by decide) _ (fun _ _ _ _ _ _ _ => trivial)⟩
end Go.Proofs.YtogmphjhdkgdjaaDoor
/- The law's comparisons of a module with its like: true. -/
namespace Go.Proofs.YtogmphjhdkgdjaaDoor
open Go.RowKit Go.Proofs.YtogmphjhdkgdjaaDoorW.PrintWords Go.Proofs.YtogmphjhdkgdjaaDoor.QFnExactValidModule
set_option linter.unusedVariables false
set_option linter.unusedSimpArgs false
def EqPost (w : World) (e : Ending) (w' : World) : Prop := e = .returned (.bool true) ∧ Below w.heap.size w w'
set_option maxHeartbeats 4000000 in
theorem eqT_calls (A A' : Option Addr) (c c' : Nat) (t : List Bool) (w : World) (h : Kd.C Kd.bool w A t.length t) (h' : Kd.C Kd.bool w A' t.length t) :
    Calls Tryd.prog 102 #[.slice A t.length c, .slice A' t.length c'] w (EqPost w) := by
  have H := Lib.hid h
  have H' := Lib.hid h'
  have hl := h.2.1
  clear h h'
  go_enter Tryd.func102, Tryd.ntmps102
  go_wp2
  go_loopw [5] (fun v wr => ∃ i : Nat, i ≤ t.length ∧ v = .int .i64 i ∧ Hid (Below w.heap.size w wr)) (fun v _ => t.length - (RowKit.intOf v).toNat)
  case atStart => exact ⟨0, Nat.zero_le _, rfl, Lib.hid (Below.refl _ _)⟩
  case round =>
    obtain ⟨i, hi, rfl, HB⟩ := hrel
    by_cases hlt : i < t.length
    · obtain ⟨ad, e1, c1⟩ := Kd.at_bool (Kd.C_below H.out HB.out) (i : Int) (by omega) (by omega)
      obtain ⟨ad', e2, c2⟩ := Kd.at_bool (Kd.C_below H'.out HB.out) (i : Int) (by omega) (by omega)
      subst e1 e2
      rw [Int.toNat_natCast] at c1 c2
      go_wp2
      go_quiet (fail)
      go_wp2
      go_roundw
      case rel => exact ⟨i + 1, by omega, by go_num, Lib.hid (drewN_below HB.out _)⟩
      case measure => simp [RowKit.intOf]; omega
    · obtain rfl : i = t.length := by omega
      go_wp2
      go_ret
      exact ⟨rfl, HB.out⟩
set_option maxHeartbeats 4000000 in
theorem eqD_calls (x : S57) (A A' : Option Addr) (c c' : Nat) (w : World) (h : Kd.C (Kd.int .u8) w A x.f2.length x.f2) (h' : Kd.C (Kd.int .u8) w A' x.f2.length x.f2) :
    Calls Tryd.prog 35 #[.agg #[.int .i64 x.f0, .int .i64 x.f1, .slice A x.f2.length c, .int .i64 x.f3], .agg #[.int .i64 x.f0, .int .i64 x.f1, .slice A' x.f2.length c', .int .i64 x.f3]] w (EqPost w) := by
  obtain ⟨W, hW⟩ : ∃ W, W = (w.alloc (.cells #[.int .i64 x.f0, .int .i64 x.f1, .slice A x.f2.length c, .int .i64 x.f3] 57)).alloc (.cells #[.int .i64 x.f0, .int .i64 x.f1, .slice A' x.f2.length c', .int .i64 x.f3] 57) := ⟨_, rfl⟩
  have hb : Below w.heap.size w W := by rw [hW]; exact ((Below.refl _ _).alloc (Nat.le_refl _) _).alloc (by simp) _
  have g0 := blk_old2 (blk_new2 w (.cells #[.int .i64 x.f0, .int .i64 x.f1, .slice A x.f2.length c, .int .i64 x.f3] 57)) (.cells #[.int .i64 x.f0, .int .i64 x.f1, .slice A' x.f2.length c', .int .i64 x.f3] 57)
  have g1 := blk_new2 (w.alloc (.cells #[.int .i64 x.f0, .int .i64 x.f1, .slice A x.f2.length c, .int .i64 x.f3] 57)) (.cells #[.int .i64 x.f0, .int .i64 x.f1, .slice A' x.f2.length c', .int .i64 x.f3] 57)
  rw [show (w.alloc (.cells #[.int .i64 x.f0, .int .i64 x.f1, .slice A x.f2.length c, .int .i64 x.f3] 57)).heap.size = w.heap.size + 1 by simp] at g1
  rw [← hW] at g0 g1
  have H := Lib.hid (Kd.C_below h hb)
  have H' := Lib.hid (Kd.C_below h' hb)
  have HB := Lib.hid hb
  have G0 := Lib.hid g0
  have G1 := Lib.hid g1
  have hu := Tryd.underlying57
  clear h h' hb g0 g1
  go_enter Tryd.func35, Tryd.ntmps35
  go_wp2_with fail
  rw [← hW]
  clear hW
  refine (eqB_calls A A' c c' x.f2 W H.out H'.out).mono ?_
  rintro e w1 ⟨rfl, hb1⟩
  have g0 := (hb1.block _ (blk_lt2 G0.out)).trans G0.out
  have g1 := (hb1.block _ (blk_lt2 G1.out)).trans G1.out
  have c3 : w1.cell? ⟨w.heap.size, 3, none⟩ = some (.int .i64 x.f3) := by simp [World.cell?, g0]
  have d3 : w1.cell? ⟨w.heap.size + 1, 3, none⟩ = some (.int .i64 x.f3) := by simp [World.cell?, g1]
  have hl0 : w.heap.size < w1.heap.size := blk_lt2 g0
  have hl1 : w.heap.size + 1 < w1.heap.size := blk_lt2 g1
  have HB1 : Hid (Below w.heap.size w w1) := Lib.hid (HB.out.trans (hb1.mono HB.out.size))
  clear hb1 g0 g1
  go_wp2_with fail
  go_ret
  exact ⟨rfl, HB1.out⟩
set_option maxHeartbeats 4000000 in
theorem eqI_calls (x : S71) (w : World) :
    Calls Tryd.prog 114 #[.agg #[.int .i64 x.f0, .int .i64 x.f1, .int .i64 x.f2], .agg #[.int .i64 x.f0, .int .i64 x.f1, .int .i64 x.f2]] w (EqPost w) := by
  have hb : Below w.heap.size w ((w.alloc (.cells #[.int .i64 x.f0, .int .i64 x.f1, .int .i64 x.f2] 71)).alloc (.cells #[.int .i64 x.f0, .int .i64 x.f1, .int .i64 x.f2] 71)) := ((Below.refl _ _).alloc (Nat.le_refl _) _).alloc (by simp) _
  have HB := Lib.hid hb
  have hu := Tryd.underlying71
  clear hb
  go_enter Tryd.func114, Tryd.ntmps114
  go_wp2_with fail
  go_ret
  exact ⟨rfl, HB.out⟩
set_option maxHeartbeats 8000000 in
set_option maxRecDepth 100000 in
theorem eqDS_calls (A A' : Option Addr) (c c' : Nat) (xs : List S57) (w : World) (h : Kd.C k57 w A xs.length xs) (h' : Kd.C k57 w A' xs.length xs) :
    Calls Tryd.prog 12 #[.slice A xs.length c, .slice A' xs.length c'] w (EqPost w) := by
  have H := Lib.hid h
  have H' := Lib.hid h'
  have hl := h.2.1
  clear h h'
  go_enter Tryd.func12, Tryd.ntmps12
  go_wp2
  go_loopw [5] (fun v wr => ∃ i : Nat, i ≤ xs.length ∧ v = .int .i64 i ∧ Hid (Below w.heap.size w wr)) (fun v _ => xs.length - (RowKit.intOf v).toNat)
  case atStart => exact ⟨0, Nat.zero_le _, rfl, Lib.hid (Below.refl _ _)⟩
  case round =>
    obtain ⟨i, hi, rfl, HB⟩ := hrel
    by_cases hlt : i < xs.length
    · obtain ⟨ad, A2, n2, e1, c0, c1, c2, c3, k0, k⟩ := at_T57 (Kd.C_below H.out HB.out) (i : Int) (by omega) (by omega)
      obtain ⟨bd, B2, m2, e2, d0, d1, d2, d3, m0, m⟩ := at_T57 (Kd.C_below H'.out HB.out) (i : Int) (by omega) (by omega)
      subst e1 e2
      obtain ⟨x, hx⟩ : ∃ x, x = rd_T57 xs (i : Int) := ⟨_, rfl⟩
      rw [Int.toNat_natCast] at c0 d0 c1 d1 c2 d2 c3 d3
      simp only [← hx] at c0 d0 c1 d1 c2 d2 c3 d3 k m
      clear hx
      have K := Lib.hid k
      have M := Lib.hid m
      clear k m
      go_wp2
      go_region_held3 (fun W => W.cell? (ad.add (i * 4)) = some (.int .i64 x.f0) ∧ W.cell? ⟨(ad.add (i * 4)).block, (ad.add (i * 4)).off + 1, none⟩ = some (.int .i64 x.f1) ∧ W.cell? ⟨(ad.add (i * 4)).block, (ad.add (i * 4)).off + 2, none⟩ = some (.slice A2 x.f2.length n2) ∧ W.cell? ⟨(ad.add (i * 4)).block, (ad.add (i * 4)).off + 3, none⟩ = some (.int .i64 x.f3) ∧ W.cell? (bd.add (i * 4)) = some (.int .i64 x.f0) ∧ W.cell? ⟨(bd.add (i * 4)).block, (bd.add (i * 4)).off + 1, none⟩ = some (.int .i64 x.f1) ∧ W.cell? ⟨(bd.add (i * 4)).block, (bd.add (i * 4)).off + 2, none⟩ = some (.slice B2 x.f2.length m2) ∧ W.cell? ⟨(bd.add (i * 4)).block, (bd.add (i * 4)).off + 3, none⟩ = some (.int .i64 x.f3)) (exact ⟨c0, c1, c2, c3, d0, d1, d2, d3⟩)
        (first | (go_at_call 35; refine (eqD_calls x A2 B2 n2 m2 wr.drew (Kd.C_below K.out (Below.refl _ wr).drew) (Kd.C_below M.out (Below.refl _ wr).drew)).mono ?_; rintro e w2 ⟨rfl, hb2⟩; have HC : Hid (Below wr.drew.heap.size wr.drew w2) := Lib.hid hb2; clear hb2; have c0z : wr.drew.cell? _ = _ := c0; have c1z : wr.drew.cell? _ = _ := c1; have c2z : wr.drew.cell? _ = _ := c2; have c3z : wr.drew.cell? _ = _ := c3; have d0z : wr.drew.cell? _ = _ := d0; have d1z : wr.drew.cell? _ = _ := d1; have d2z : wr.drew.cell? _ = _ := d2; have d3z : wr.drew.cell? _ = _ := d3; clear c0 c1 c2 c3 d0 d1 d2 d3; have c0 := (HC.out.cell (World.block_lt_of_cell? wr.drew _ c0z)).trans c0z; have c1 := (HC.out.cell (World.block_lt_of_cell? wr.drew _ c1z)).trans c1z; have c2 := (HC.out.cell (World.block_lt_of_cell? wr.drew _ c2z)).trans c2z; have c3 := (HC.out.cell (World.block_lt_of_cell? wr.drew _ c3z)).trans c3z; have d0 := (HC.out.cell (World.block_lt_of_cell? wr.drew _ d0z)).trans d0z; have d1 := (HC.out.cell (World.block_lt_of_cell? wr.drew _ d1z)).trans d1z; have d2 := (HC.out.cell (World.block_lt_of_cell? wr.drew _ d2z)).trans d2z; have d3 := (HC.out.cell (World.block_lt_of_cell? wr.drew _ d3z)).trans d3z; clear c0z c1z c2z c3z d0z d1z d2z d3z))
      have HN : Hid (Below w.heap.size w w2) := Lib.hid (HB.out.drew.trans (HC.out.mono HB.out.size))
      clear c0 c1 c2 c3 d0 d1 d2 d3
      go_wp2
      go_roundw
      case rel => exact ⟨i + 1, by omega, by go_num, HN⟩
      case measure => simp [RowKit.intOf]; omega
    · obtain rfl : i = xs.length := by omega
      go_wp2
      go_ret
      exact ⟨rfl, HB.out⟩
set_option maxHeartbeats 8000000 in
set_option maxRecDepth 100000 in
theorem eqIS_calls (A A' : Option Addr) (c c' : Nat) (xs : List S71) (w : World) (h : Kd.C k71 w A xs.length xs) (h' : Kd.C k71 w A' xs.length xs) :
    Calls Tryd.prog 103 #[.slice A xs.length c, .slice A' xs.length c'] w (EqPost w) := by
  have H := Lib.hid h
  have H' := Lib.hid h'
  have hl := h.2.1
  clear h h'
  go_enter Tryd.func103, Tryd.ntmps103
  go_wp2
  go_loopw [5] (fun v wr => ∃ i : Nat, i ≤ xs.length ∧ v = .int .i64 i ∧ Hid (Below w.heap.size w wr)) (fun v _ => xs.length - (RowKit.intOf v).toNat)
  case atStart => exact ⟨0, Nat.zero_le _, rfl, Lib.hid (Below.refl _ _)⟩
  case round =>
    obtain ⟨i, hi, rfl, HB⟩ := hrel
    by_cases hlt : i < xs.length
    · obtain ⟨ad, e1, c0, c1, c2⟩ := at_T71 (Kd.C_below H.out HB.out) (i : Int) (by omega) (by omega)
      obtain ⟨bd, e2, d0, d1, d2⟩ := at_T71 (Kd.C_below H'.out HB.out) (i : Int) (by omega) (by omega)
      subst e1 e2
      obtain ⟨x, hx⟩ : ∃ x, x = rd_T71 xs (i : Int) := ⟨_, rfl⟩
      rw [Int.toNat_natCast] at c0 d0 c1 d1 c2 d2
      simp only [← hx] at c0 d0 c1 d1 c2 d2 
      clear hx
      go_wp2
      go_region_held3 (fun W => W.cell? (ad.add (i * 3)) = some (.int .i64 x.f0) ∧ W.cell? ⟨(ad.add (i * 3)).block, (ad.add (i * 3)).off + 1, none⟩ = some (.int .i64 x.f1) ∧ W.cell? ⟨(ad.add (i * 3)).block, (ad.add (i * 3)).off + 2, none⟩ = some (.int .i64 x.f2) ∧ W.cell? (bd.add (i * 3)) = some (.int .i64 x.f0) ∧ W.cell? ⟨(bd.add (i * 3)).block, (bd.add (i * 3)).off + 1, none⟩ = some (.int .i64 x.f1) ∧ W.cell? ⟨(bd.add (i * 3)).block, (bd.add (i * 3)).off + 2, none⟩ = some (.int .i64 x.f2)) (exact ⟨c0, c1, c2, d0, d1, d2⟩)
        (first | (go_at_call 114; refine (eqI_calls x wr.drew).mono ?_; rintro e w2 ⟨rfl, hb2⟩; have HC : Hid (Below wr.drew.heap.size wr.drew w2) := Lib.hid hb2; clear hb2; have c0z : wr.drew.cell? _ = _ := c0; have c1z : wr.drew.cell? _ = _ := c1; have c2z : wr.drew.cell? _ = _ := c2; have d0z : wr.drew.cell? _ = _ := d0; have d1z : wr.drew.cell? _ = _ := d1; have d2z : wr.drew.cell? _ = _ := d2; clear c0 c1 c2 d0 d1 d2; have c0 := (HC.out.cell (World.block_lt_of_cell? wr.drew _ c0z)).trans c0z; have c1 := (HC.out.cell (World.block_lt_of_cell? wr.drew _ c1z)).trans c1z; have c2 := (HC.out.cell (World.block_lt_of_cell? wr.drew _ c2z)).trans c2z; have d0 := (HC.out.cell (World.block_lt_of_cell? wr.drew _ d0z)).trans d0z; have d1 := (HC.out.cell (World.block_lt_of_cell? wr.drew _ d1z)).trans d1z; have d2 := (HC.out.cell (World.block_lt_of_cell? wr.drew _ d2z)).trans d2z; clear c0z c1z c2z d0z d1z d2z))
      have HN : Hid (Below w.heap.size w w2) := Lib.hid (HB.out.drew.trans (HC.out.mono HB.out.size))
      clear c0 c1 c2 d0 d1 d2
      go_wp2
      go_roundw
      case rel => exact ⟨i + 1, by omega, by go_num, HN⟩
      case measure => simp [RowKit.intOf]; omega
    · obtain rfl : i = xs.length := by omega
      go_wp2
      go_ret
      exact ⟨rfl, HB.out⟩
set_option maxHeartbeats 4000000 in
theorem eqF_calls (x : S68) (A A' B B' : Option Addr) (c c' d d' : Nat) (w : World) (h : Kd.C Kd.bool w A x.f1.length x.f1) (h' : Kd.C Kd.bool w A' x.f1.length x.f1) (k : Kd.C k71 w B x.f2.length x.f2) (k' : Kd.C k71 w B' x.f2.length x.f2) :
    Calls Tryd.prog 72 #[.agg #[.int .i64 x.f0, .slice A x.f1.length c, .slice B x.f2.length d], .agg #[.int .i64 x.f0, .slice A' x.f1.length c', .slice B' x.f2.length d']] w (EqPost w) := by
  obtain ⟨W, hW⟩ : ∃ W, W = (w.alloc (.cells #[.int .i64 x.f0, .slice A x.f1.length c, .slice B x.f2.length d] 68)).alloc (.cells #[.int .i64 x.f0, .slice A' x.f1.length c', .slice B' x.f2.length d'] 68) := ⟨_, rfl⟩
  have hb : Below w.heap.size w W := by rw [hW]; exact ((Below.refl _ _).alloc (Nat.le_refl _) _).alloc (by simp) _
  have g0 := blk_old2 (blk_new2 w (.cells #[.int .i64 x.f0, .slice A x.f1.length c, .slice B x.f2.length d] 68)) (.cells #[.int .i64 x.f0, .slice A' x.f1.length c', .slice B' x.f2.length d'] 68)
  have g1 := blk_new2 (w.alloc (.cells #[.int .i64 x.f0, .slice A x.f1.length c, .slice B x.f2.length d] 68)) (.cells #[.int .i64 x.f0, .slice A' x.f1.length c', .slice B' x.f2.length d'] 68)
  rw [show (w.alloc (.cells #[.int .i64 x.f0, .slice A x.f1.length c, .slice B x.f2.length d] 68)).heap.size = w.heap.size + 1 by simp] at g1
  rw [← hW] at g0 g1
  have H := Lib.hid (Kd.C_below h hb)
  have H' := Lib.hid (Kd.C_below h' hb)
  have K := Lib.hid (Kd.C_below k hb)
  have K' := Lib.hid (Kd.C_below k' hb)
  have HB := Lib.hid hb
  have G0 := Lib.hid g0
  have G1 := Lib.hid g1
  have hu := Tryd.underlying68
  clear h h' k k' hb g0 g1
  go_enter Tryd.func72, Tryd.ntmps72
  go_wp2_with fail
  rw [← hW]
  clear hW
  refine (eqT_calls A A' c c' x.f1 W H.out H'.out).mono ?_
  rintro e w1 ⟨rfl, hb1⟩
  have g0 := (hb1.block _ (blk_lt2 G0.out)).trans G0.out
  have g1 := (hb1.block _ (blk_lt2 G1.out)).trans G1.out
  have c2 : w1.cell? ⟨w.heap.size, 2, none⟩ = some (.slice B x.f2.length d) := by simp [World.cell?, g0]
  have d2 : w1.cell? ⟨w.heap.size + 1, 2, none⟩ = some (.slice B' x.f2.length d') := by simp [World.cell?, g1]
  have hl0 : w.heap.size < w1.heap.size := blk_lt2 g0
  have hl1 : w.heap.size + 1 < w1.heap.size := blk_lt2 g1
  have HB1 : Hid (Below w.heap.size w w1) := Lib.hid (HB.out.trans (hb1.mono HB.out.size))
  have K1 := Lib.hid (Kd.C_below K.out hb1)
  have K1' := Lib.hid (Kd.C_below K'.out hb1)
  clear hb1 g0 g1
  go_wp2_with fail
  refine (eqIS_calls B B' d d' x.f2 w1 K1.out K1'.out).mono ?_
  rintro e w2 ⟨rfl, hb2⟩
  have HB2 : Hid (Below w.heap.size w w2) := Lib.hid (HB1.out.trans (hb2.mono HB1.out.size))
  clear hb2 c2 d2
  go_wp2_with fail
  go_ret
  exact ⟨rfl, HB2.out⟩
set_option maxHeartbeats 8000000 in
set_option maxRecDepth 100000 in
theorem eqFS_calls (A A' : Option Addr) (c c' : Nat) (xs : List S68) (w : World) (h : Kd.C k68 w A xs.length xs) (h' : Kd.C k68 w A' xs.length xs) :
    Calls Tryd.prog 46 #[.slice A xs.length c, .slice A' xs.length c'] w (EqPost w) := by
  have H := Lib.hid h
  have H' := Lib.hid h'
  have hl := h.2.1
  clear h h'
  go_enter Tryd.func46, Tryd.ntmps46
  go_wp2
  go_loopw [5] (fun v wr => ∃ i : Nat, i ≤ xs.length ∧ v = .int .i64 i ∧ Hid (Below w.heap.size w wr)) (fun v _ => xs.length - (RowKit.intOf v).toNat)
  case atStart => exact ⟨0, Nat.zero_le _, rfl, Lib.hid (Below.refl _ _)⟩
  case round =>
    obtain ⟨i, hi, rfl, HB⟩ := hrel
    by_cases hlt : i < xs.length
    · obtain ⟨ad, A1, n1, A2, n2, e1, c0, c1, c2, k3, k1, k4, k2⟩ := at_T68 (Kd.C_below H.out HB.out) (i : Int) (by omega) (by omega)
      obtain ⟨bd, B1, m3, B2, m4, e2, d0, d1, d2, q3, m1, q4, m2⟩ := at_T68 (Kd.C_below H'.out HB.out) (i : Int) (by omega) (by omega)
      subst e1 e2
      obtain ⟨x, hx⟩ : ∃ x, x = rd_T68 xs (i : Int) := ⟨_, rfl⟩
      rw [Int.toNat_natCast] at c0 d0 c1 d1 c2 d2
      simp only [← hx] at c0 d0 c1 d1 c2 d2 k1 k2 m1 m2
      clear hx
      have K1 := Lib.hid k1
      have K2 := Lib.hid k2
      have M1 := Lib.hid m1
      have M2 := Lib.hid m2
      clear k1 k2 m1 m2
      go_wp2
      go_region_held3 (fun W => W.cell? (ad.add (i * 3)) = some (.int .i64 x.f0) ∧ W.cell? ⟨(ad.add (i * 3)).block, (ad.add (i * 3)).off + 1, none⟩ = some (.slice A1 x.f1.length n1) ∧ W.cell? ⟨(ad.add (i * 3)).block, (ad.add (i * 3)).off + 2, none⟩ = some (.slice A2 x.f2.length n2) ∧ W.cell? (bd.add (i * 3)) = some (.int .i64 x.f0) ∧ W.cell? ⟨(bd.add (i * 3)).block, (bd.add (i * 3)).off + 1, none⟩ = some (.slice B1 x.f1.length m3) ∧ W.cell? ⟨(bd.add (i * 3)).block, (bd.add (i * 3)).off + 2, none⟩ = some (.slice B2 x.f2.length m4)) (exact ⟨c0, c1, c2, d0, d1, d2⟩)
        (first | (go_at_call 72; refine (eqF_calls x A1 B1 A2 B2 n1 m3 n2 m4 wr.drew (Kd.C_below K1.out (Below.refl _ wr).drew) (Kd.C_below M1.out (Below.refl _ wr).drew) (Kd.C_below K2.out (Below.refl _ wr).drew) (Kd.C_below M2.out (Below.refl _ wr).drew)).mono ?_; rintro e w2 ⟨rfl, hb2⟩; have HC : Hid (Below wr.drew.heap.size wr.drew w2) := Lib.hid hb2; clear hb2; have c0z : wr.drew.cell? _ = _ := c0; have c1z : wr.drew.cell? _ = _ := c1; have c2z : wr.drew.cell? _ = _ := c2; have d0z : wr.drew.cell? _ = _ := d0; have d1z : wr.drew.cell? _ = _ := d1; have d2z : wr.drew.cell? _ = _ := d2; clear c0 c1 c2 d0 d1 d2; have c0 := (HC.out.cell (World.block_lt_of_cell? wr.drew _ c0z)).trans c0z; have c1 := (HC.out.cell (World.block_lt_of_cell? wr.drew _ c1z)).trans c1z; have c2 := (HC.out.cell (World.block_lt_of_cell? wr.drew _ c2z)).trans c2z; have d0 := (HC.out.cell (World.block_lt_of_cell? wr.drew _ d0z)).trans d0z; have d1 := (HC.out.cell (World.block_lt_of_cell? wr.drew _ d1z)).trans d1z; have d2 := (HC.out.cell (World.block_lt_of_cell? wr.drew _ d2z)).trans d2z; clear c0z c1z c2z d0z d1z d2z))
      have HN : Hid (Below w.heap.size w w2) := Lib.hid (HB.out.drew.trans (HC.out.mono HB.out.size))
      clear c0 c1 c2 d0 d1 d2
      go_wp2
      go_roundw
      case rel => exact ⟨i + 1, by omega, by go_num, HN⟩
      case measure => simp [RowKit.intOf]; omega
    · obtain rfl : i = xs.length := by omega
      go_wp2
      go_ret
      exact ⟨rfl, HB.out⟩
set_option maxHeartbeats 8000000 in
set_option maxRecDepth 100000 in
theorem eqDSS_calls (A A' : Option Addr) (c c' : Nat) (xs : List (List S57)) (w : World) (h : Kd.C (Kd.slice 57 k57) w A xs.length xs) (h' : Kd.C (Kd.slice 57 k57) w A' xs.length xs) :
    Calls Tryd.prog 45 #[.slice A xs.length c, .slice A' xs.length c'] w (EqPost w) := by
  have H := Lib.hid h
  have H' := Lib.hid h'
  have hl := h.2.1
  clear h h'
  go_enter Tryd.func45, Tryd.ntmps45
  go_wp2
  go_loopw [5] (fun v wr => ∃ i : Nat, i ≤ xs.length ∧ v = .int .i64 i ∧ Hid (Below w.heap.size w wr)) (fun v _ => xs.length - (RowKit.intOf v).toNat)
  case atStart => exact ⟨0, Nat.zero_le _, rfl, Lib.hid (Below.refl _ _)⟩
  case round =>
    obtain ⟨i, hi, rfl, HB⟩ := hrel
    by_cases hlt : i < xs.length
    · obtain ⟨ad, A2, n2, e1, c0, k0, k⟩ := at_L14 (Kd.C_below H.out HB.out) (i : Int) (by omega) (by omega)
      obtain ⟨bd, B2, m2, e2, d0, m0, m⟩ := at_L14 (Kd.C_below H'.out HB.out) (i : Int) (by omega) (by omega)
      subst e1 e2
      obtain ⟨x, hx⟩ : ∃ x, x = rd_L14 xs (i : Int) := ⟨_, rfl⟩
      rw [Int.toNat_natCast] at c0 d0
      simp only [← hx] at c0 d0 k m
      clear hx
      have K := Lib.hid k
      have M := Lib.hid m
      clear k m
      go_wp2
      go_region_held3 (fun W => W.cell? (ad.add i) = some (.slice A2 x.length n2) ∧ W.cell? (bd.add i) = some (.slice B2 x.length m2)) (exact ⟨c0, d0⟩)
        (first | (go_at_call 12; refine (eqDS_calls A2 B2 n2 m2 x wr.drew (Kd.C_below K.out (Below.refl _ wr).drew) (Kd.C_below M.out (Below.refl _ wr).drew)).mono ?_; rintro e w2 ⟨rfl, hb2⟩; have HC : Hid (Below wr.drew.heap.size wr.drew w2) := Lib.hid hb2; clear hb2; have c0z : wr.drew.cell? _ = _ := c0; have d0z : wr.drew.cell? _ = _ := d0; clear c0 d0; have c0 := (HC.out.cell (World.block_lt_of_cell? wr.drew _ c0z)).trans c0z; have d0 := (HC.out.cell (World.block_lt_of_cell? wr.drew _ d0z)).trans d0z; clear c0z d0z))
      have HN : Hid (Below w.heap.size w w2) := Lib.hid (HB.out.drew.trans (HC.out.mono HB.out.size))
      clear c0 d0
      go_wp2
      go_roundw
      case rel => exact ⟨i + 1, by omega, by go_num, HN⟩
      case measure => simp [RowKit.intOf]; omega
    · obtain rfl : i = xs.length := by omega
      go_wp2
      go_ret
      exact ⟨rfl, HB.out⟩
set_option maxHeartbeats 4000000 in
/-- Two modules of the same parts are equal. -/
theorem eqM_calls (cs : List (List S57)) (g : Int) (fs : List S68) (A A' B B' : Option Addr) (c c' d d' : Nat) (w : World) (h : Kd.C (Kd.slice 57 k57) w A cs.length cs) (h' : Kd.C (Kd.slice 57 k57) w A' cs.length cs) (k : Kd.C k68 w B fs.length fs) (k' : Kd.C k68 w B' fs.length fs) :
    Calls Tryd.prog 17 #[.agg #[.slice A cs.length c, .int .i64 g, .slice B fs.length d], .agg #[.slice A' cs.length c', .int .i64 g, .slice B' fs.length d']] w (EqPost w) := by
  obtain ⟨W, hW⟩ : ∃ W, W = (w.alloc (.cells #[.slice A cs.length c, .int .i64 g, .slice B fs.length d] 38)).alloc (.cells #[.slice A' cs.length c', .int .i64 g, .slice B' fs.length d'] 38) := ⟨_, rfl⟩
  have hb : Below w.heap.size w W := by rw [hW]; exact ((Below.refl _ _).alloc (Nat.le_refl _) _).alloc (by simp) _
  have g0 := blk_old2 (blk_new2 w (.cells #[.slice A cs.length c, .int .i64 g, .slice B fs.length d] 38)) (.cells #[.slice A' cs.length c', .int .i64 g, .slice B' fs.length d'] 38)
  have g1 := blk_new2 (w.alloc (.cells #[.slice A cs.length c, .int .i64 g, .slice B fs.length d] 38)) (.cells #[.slice A' cs.length c', .int .i64 g, .slice B' fs.length d'] 38)
  rw [show (w.alloc (.cells #[.slice A cs.length c, .int .i64 g, .slice B fs.length d] 38)).heap.size = w.heap.size + 1 by simp] at g1
  rw [← hW] at g0 g1
  have H := Lib.hid (Kd.C_below h hb)
  have H' := Lib.hid (Kd.C_below h' hb)
  have K := Lib.hid (Kd.C_below k hb)
  have K' := Lib.hid (Kd.C_below k' hb)
  have HB := Lib.hid hb
  have G0 := Lib.hid g0
  have G1 := Lib.hid g1
  have hu := Tryd.underlying38
  clear h h' k k' hb g0 g1
  go_enter Tryd.func17, Tryd.ntmps17
  go_wp2_with fail
  rw [← hW]
  clear hW
  refine (eqDSS_calls A A' c c' cs W H.out H'.out).mono ?_
  rintro e w1 ⟨rfl, hb1⟩
  have g0 := (hb1.block _ (blk_lt2 G0.out)).trans G0.out
  have g1 := (hb1.block _ (blk_lt2 G1.out)).trans G1.out
  have c1 : w1.cell? ⟨w.heap.size, 1, none⟩ = some (.int .i64 g) := by simp [World.cell?, g0]
  have d1 : w1.cell? ⟨w.heap.size + 1, 1, none⟩ = some (.int .i64 g) := by simp [World.cell?, g1]
  have c2 : w1.cell? ⟨w.heap.size, 2, none⟩ = some (.slice B fs.length d) := by simp [World.cell?, g0]
  have d2 : w1.cell? ⟨w.heap.size + 1, 2, none⟩ = some (.slice B' fs.length d') := by simp [World.cell?, g1]
  have hl0 : w.heap.size < w1.heap.size := blk_lt2 g0
  have hl1 : w.heap.size + 1 < w1.heap.size := blk_lt2 g1
  have HB1 : Hid (Below w.heap.size w w1) := Lib.hid (HB.out.trans (hb1.mono HB.out.size))
  have K1 := Lib.hid (Kd.C_below K.out hb1)
  have K1' := Lib.hid (Kd.C_below K'.out hb1)
  clear hb1 g0 g1
  go_wp2_with fail
  refine (eqFS_calls B B' d d' fs w1 K1.out K1'.out).mono ?_
  rintro e w2 ⟨rfl, hb2⟩
  have HB2 : Hid (Below w.heap.size w w2) := Lib.hid (HB1.out.trans (hb2.mono HB1.out.size))
  clear hb2 c1 d1 c2 d2
  go_wp2_with fail
  go_ret
  exact ⟨rfl, HB2.out⟩
end Go.Proofs.YtogmphjhdkgdjaaDoor
