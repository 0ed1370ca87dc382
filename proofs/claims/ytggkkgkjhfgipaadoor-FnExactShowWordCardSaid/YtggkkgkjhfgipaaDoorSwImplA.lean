/-
  DERIVED: THE SHELF's CONTRACTS AT THIS DUMP, IN PLAIN WORDS (tools/lay-plain.mjs out of 'TrydShelf.lean', which tools/lay-shelf.mjs wrote): THE SAME DECLARATIONS UNDER THE SAME NAMES: 'import', 'namespace', 'open', 'def', 'theorem' AND NOTHING ELSE: no command of the shelf's: FOR A HAND-IN. Each laying: the table of numbers ('.._ren') and one theorem, a field a fact of the dump's own or the kernel's comparison; each contract: ONE APPLICATION.
-/
import Derived.Shelf.Strconv.Itoa3
import Derived.Test.YtggkkgkjhfgipaaDoorProg
import Derived.Lib.AppendStr
import Derived.Lib.FrozenHead2
import Derived.Lib.OwnKind
import Derived.Lib.Builder
import Derived.Lib.OthersKept
import Derived.Lib.Hide
import Derived.WalkKit
import Derived.WalkLawsBesides
import Derived.RowKit3
import Derived.Tactics
import Derived.KernelRfl
import Derived.Laws.Externs
import Derived.Lib.ItoaNum
import Derived.Test.YtggkkgkjhfgipaaDoorSwHeap
import Derived.Lib.ItoaLen
import Derived.Lib.AppendIntMem
import Derived.Lib.SmallJoins
import Derived.Test.YtggkkgkjhfgipaaDoorQFnExactShowWordx0
import Derived.Deep.AppendLies
import Derived.StillTailTactics
import Derived.Stop.Asserts
import Derived.Laws.EntriesVeiled
namespace Go.Proofs
open Go.Shelf
def Tryd.laysM171_ren : Go.Shelf.Ren := ⟨fun | 171 => 59 | 243 => 69 | 246 => 71 | 283 => 72 | 284 => 73 | 285 => 74 | 286 => 75 | 129 => 77 | 317 => 76 | 318 => 78 | 319 => 79 | 320 => 80 | 337 => 81 | 338 => 82 | n => n, fun | 3 => 3 | 9 => 9 | 2 => 2 | 4 => 4 | 171 => 117 | 0 => 0 | 53 => 113 | 37 => 28 | 5 => 5 | 173 => 120 | 212 => 123 | 51 => 124 | 20 => 20 | 213 => 125 | 46 => 78 | 232 => 129 | 233 => 130 | n => n, fun | 17 => 0 | 18 => 1 | 19 => 2 | n => n⟩
theorem Tryd.laysM171 : Go.Proofs.LaysM.n171 Tryd.prog Tryd.laysM171_ren := {
  mixed := by kernel_rfl
  f129 := Tryd.func77.trans (congrArg some (by kernel_rfl))
  f171 := Tryd.func59.trans (congrArg some (by kernel_rfl))
  f243 := Tryd.func69.trans (congrArg some (by kernel_rfl))
  f246 := Tryd.func71.trans (congrArg some (by kernel_rfl))
  f283 := Tryd.func72.trans (congrArg some (by kernel_rfl))
  f284 := Tryd.func73.trans (congrArg some (by kernel_rfl))
  f285 := Tryd.func74.trans (congrArg some (by kernel_rfl))
  f286 := Tryd.func75.trans (congrArg some (by kernel_rfl))
  f317 := Tryd.func76.trans (congrArg some (by kernel_rfl))
  f318 := Tryd.func78.trans (congrArg some (by kernel_rfl))
  f319 := Tryd.func79.trans (congrArg some (by kernel_rfl))
  f320 := Tryd.func80.trans (congrArg some (by kernel_rfl))
  f337 := Tryd.func81.trans (congrArg some (by kernel_rfl))
  f338 := Tryd.func82.trans (congrArg some (by kernel_rfl))
  t0 := Tryd.underlying0
  a0 := Tryd.isAgg0
  z0 := Tryd.sizeOf0
  v0 := Tryd.zeroValue0
  t2 := Tryd.underlying2
  a2 := Tryd.isAgg2
  z2 := Tryd.sizeOf2
  v2 := Tryd.zeroValue2
  t3 := Tryd.underlying3
  a3 := Tryd.isAgg3
  z3 := Tryd.sizeOf3
  v3 := Tryd.zeroValue3
  t4 := Tryd.underlying4
  a4 := Tryd.isAgg4
  z4 := Tryd.sizeOf4
  v4 := Tryd.zeroValue4
  t5 := Tryd.underlying5
  a5 := Tryd.isAgg5
  z5 := Tryd.sizeOf5
  v5 := Tryd.zeroValue5
  t9 := Tryd.underlying9
  a9 := Tryd.isAgg9
  z9 := Tryd.sizeOf9
  v9 := Tryd.zeroValue9
  t20 := Tryd.underlying20
  a20 := Tryd.isAgg20
  z20 := Tryd.sizeOf20
  v20 := Tryd.zeroValue20
  t37 := Tryd.underlying28
  a37 := Tryd.isAgg28
  z37 := Tryd.sizeOf28
  v37 := Tryd.zeroValue28
  t46 := Tryd.underlying78
  a46 := Tryd.isAgg78
  z46 := Tryd.sizeOf78
  v46 := Tryd.zeroValue78
  t51 := Tryd.underlying124
  a51 := Tryd.isAgg124
  z51 := Tryd.sizeOf124
  v51 := Tryd.zeroValue124
  t53 := Tryd.underlying113
  a53 := Tryd.isAgg113
  z53 := Tryd.sizeOf113
  v53 := Tryd.zeroValue113
  t171 := Tryd.underlying117
  a171 := Tryd.isAgg117
  z171 := Tryd.sizeOf117
  v171 := Tryd.zeroValue117
  t173 := Tryd.underlying120
  a173 := Tryd.isAgg120
  z173 := Tryd.sizeOf120
  v173 := Tryd.zeroValue120
  t212 := Tryd.underlying123
  a212 := Tryd.isAgg123
  z212 := Tryd.sizeOf123
  v212 := Tryd.zeroValue123
  t213 := Tryd.underlying125
  a213 := Tryd.isAgg125
  z213 := Tryd.sizeOf125
  t232 := Tryd.underlying129
  a232 := Tryd.isAgg129
  z232 := Tryd.sizeOf129
  v232 := Tryd.zeroValue129
  t233 := Tryd.underlying130
  a233 := Tryd.isAgg130
  z233 := Tryd.sizeOf130
  v233 := Tryd.zeroValue130
  g17 := by kernel_rfl
  g18 := by kernel_rfl
  g19 := by kernel_rfl
  i0 := by kernel_rfl
  i2 := by kernel_rfl
  i3 := by kernel_rfl
  i4 := by kernel_rfl
  i5 := by kernel_rfl
  i9 := by kernel_rfl
  i20 := by kernel_rfl
  i37 := by kernel_rfl
  i46 := by kernel_rfl
  i51 := by kernel_rfl
  i53 := by kernel_rfl
  i171 := by kernel_rfl
  i173 := by kernel_rfl
  i212 := by kernel_rfl
  i232 := by kernel_rfl
  i233 := by kernel_rfl
  m17 := by kernel_rfl
  m18 := by kernel_rfl
  m19 := by kernel_rfl }
open Go.RowKit Go.Sort Go.Lib in
/-- strconv.Itoa: "Itoa is equivalent to FormatInt(int64(i), 10).": i's DECIMAL NUMERAL ('Lib.itoa': a '-' where i is negative, then the digits), FOR EVERY int. The world behind the call: the world before it, new blocks behind the heap (the library's 'var a [24]byte'), draws. (LAID: no walk: one application.) -/
theorem Tryd.strconv_Itoa (n : Int) (h0 : -9223372036854775808 ≤ n) (h1 : n ≤ 9223372036854775807) (w : World) (htab : Lib.TabIs Tryd.prog w "internal/strconv.uint64pow10" .u64 Lib.pow10Tab) :
    Calls Tryd.prog 59 #[.int .i64 n] w fun e w' => e = .returned (.string ⟨(Lib.itoa n).toArray⟩) ∧ ∃ k os, w' = grow (w.drewN k) os := Any.strconv_Itoa Tryd.laysM171 n h0 h1 w htab
end Go.Proofs
/- The shower's own row of bytes, and say: a text is appended; at 1000 bytes it panics with 'enough'. -/
namespace Go.Proofs.YtggkkgkjhfgipaaDoor
open Go.RowKit
set_option linter.unusedVariables false
set_option linter.unusedSimpArgs false
/-- The shower in block b, of the call's own (from B on), with what it holds. -/
def Shw (B b : Nat) (bs : List Value) (w : World) : Prop :=
  B ≤ b ∧ ∃ v, w.heap[b]? = some (.cells #[v] 89 (0, 0)) ∧ w.ownsRow B 5 1 v bs.length bs ∧ v.ownBlock ≠ some b
abbrev Oth (b : Nat) (w w' : World) : Prop := Lib.OthersKept 5 (some b) w w'
theorem byteInfo : (Tryd.prog.info? 5).map (fun i => (i.zero, i.size, i.bytes)) = some (some (.int .u8 0), 1, 1) := by kernel_rfl
theorem shw_put {B b : Nat} {bs bs' : List Value} {v v' : Value} {w w2 : World} (hB : B ≤ b) (hbk : w.heap[b]? = some (.cells #[v] 89 (0, 0))) (hown : w.ownsRow B 5 1 v bs.length bs) (hne : v.ownBlock ≠ some b)
    (hgrow : w.grownBy w2 v.ownBlock) (hown' : w2.ownsRow B 5 1 v' bs'.length bs') (hBw : B ≤ w.heap.size) :
    Shw B b bs' (w2.setCell ⟨b, 0, none⟩ v') ∧ Below B w (w2.setCell ⟨b, 0, none⟩ v') ∧ Oth b w (w2.setCell ⟨b, 0, none⟩ v') ∧ w2.heap[b]? = some (.cells #[v] 89 (0, 0)) := by
  have hlt : b < w.heap.size := (Array.getElem?_eq_some_iff.1 hbk).1
  have hb2 : w2.heap[b]? = some (.cells #[v] 89 (0, 0)) := by
    rw [hgrow.block b hlt (fun e => hne e.symm)]
    exact hbk
  have hO : Oth b w w := Lib.OthersKept.refl _ _ _
  have hne' := Lib.ownBlock_ne hown' hb2 (by decide)
  refine ⟨⟨hB, v', ?_, ?_, hne'⟩, ?_, (hO.grown hgrow (Lib.ownsRow_kind hown)).setCell ⟨b, 0, none⟩ rfl _, hb2⟩
  · simp [World.setCell, Array.getElem?_modify, hb2]
  · exact hown'.kept (row := some b) ⟨rfl, rfl, rfl, by simp [World.setCell], fun k _ hk => Below.heap_setCell _ _ _ _ (fun e => hk (by simp [e]))⟩ (Or.inr hne')
  · exact ((Below.refl B w).grown hgrow hBw (fun k hk => (hown.lt k hk).1)).setCell (p := ⟨b, 0, none⟩) hB _
def enoughs : List PanicEntry := [{ v := .iface 91 (.agg #[]), recovered := false }]
set_option maxHeartbeats 2000000 in
set_option maxRecDepth 100000 in
theorem say_any (B b : Nat) (bs : List Value) (s : ByteArray) (w : World) (h : Shw B b bs w) (hlen : bs.length + s.size ≤ 140737488355328) (hBw : B ≤ w.heap.size) :
    Calls Tryd.prog 58 #[.pointer (some ⟨b, 0, none⟩), .string s] w fun e w' => e = (if bs.length + s.size < 1000 then .returned (.tuple #[]) else .panicked enoughs) ∧ Shw B b (bs ++ Lib.strCells s) w' ∧ Below B w w' ∧ Oth b w w' := by
  obtain ⟨i0, hi, hz0, hz1, hz2⟩ := info_parts byteInfo
  obtain ⟨hB, v, hbk, hown, hne⟩ := h
  have c0 : w.cell? ⟨b, 0, none⟩ = some v := by rw [Lib.cell_of_heap hbk]; rfl
  go_enter Tryd.func58, Tryd.ntmps58
  go_wp2_with (at_builtin; refine Lib.wpList_append_own_string _ rfl _ _ 28 9 rfl B 5 i0 Tryd.underlying28 Tryd.underlying9 hi hz0 hz1 hz2 _ _ _ rfl hown s rfl ?c3 ?c4 ?c5 ?_)
  case c3 => unfold maxLen; omega
  case c4 => omega
  case c5 => omega
  intro v' w2 hown' hgrow _
  have HP := Lib.hid (shw_put (bs' := bs ++ Lib.strCells s) hB hbk hown hne hgrow (by simpa [Lib.strCells_length] using hown') hBw)
  have hb2 := HP.out.2.2.2
  have d0 : w2.cell? ⟨b, 0, none⟩ = some v := by rw [Lib.cell_of_heap hb2]; rfl
  have f0 : w2.frozen? ⟨b, 0, none⟩ = false := Lib.frozen_of_heap hb2 0
  obtain ⟨ao, n', cap, rfl, hn⟩ : ∃ ao n' cap, v' = .slice ao n' cap ∧ n' = bs.length + s.size := by
    have hl := hown'.1
    rcases hown'.2 with ⟨hv, h0⟩ | ⟨g, cap, cur, hv, _⟩
    · exact ⟨_, _, _, hv, by omega⟩
    · exact ⟨_, _, _, hv, by simp [Lib.strCells_length]⟩
  clear hb2
  by_cases hlt : bs.length + s.size < 1000
  · have k0 : decide ((n' : Int) ≥ 1000) = false := decide_eq_false (by omega)
    subst hn
    go_wp2
    go_end0
    exact ⟨rfl, HP.out.1, HP.out.2.1, HP.out.2.2.1⟩
  · have k0 : decide ((n' : Int) ≥ 1000) = true := decide_eq_true (by omega)
    subst hn
    go_wp2
    exact ⟨rfl, rfl, HP.out.1, HP.out.2.1, HP.out.2.2.1⟩
end Go.Proofs.YtggkkgkjhfgipaaDoor
/- What a word of a heap shows, in plain Lean: text behind text, up to a thousand bytes. -/
namespace Go.Proofs.YtggkkgkjhfgipaaDoor
set_option linter.unusedVariables false
def decI (n : Int) : List Int := (Lib.itoa n).map fun b => (b.toNat : Int)
def rareT (x : Int) : List Int := if x = 3 then [40, 41] else if x = 7 then [35, 102] else if x = 11 then [35, 116] else if x = 15 then [35, 118, 111, 105, 100] else [35, 117, 110, 115, 101, 116]
def procT : List Int := [35, 112, 114, 111, 99]
def boxT : List Int := [35, 98, 111, 120]
def symT (names : List (List Int)) (i : Int) : List Int := if i < (names.length : Int) then names.getD i.toNat [] else [115, 121, 109] ++ decI i
/-- The field i of the object at p. -/
def fld (ws : List Int) (p i : Nat) : Int := ws.getD (p + 1 + i) 0
def isPairW (ws : List Int) (x : Int) : Bool := x % 4 == 1 && ws.getD (x / 4).toNat 0 % 4 == 0
/-- What is behind the list's elements. -/
def showE (f : Int → List Int → List Int) (rest : Int) (out : List Int) : List Int := if rest = 3 then out else f rest (out ++ [32, 46, 32])
def showV (f : Int → List Int → List Int) (ws : List Int) (p : Nat) : Nat → Nat → List Int → List Int
  | 0, _, out => out
  | d + 1, i, out => if 1000 ≤ out.length then out else showV f ws p d (i + 1) (f (fld ws p i) (if i = 0 then out else out ++ [32]))
def showL (f : Int → List Int → List Int) (ws : List Int) : Nat → Int → List Int → List Int
  | 0, rest, out => showE f rest out
  | j + 1, rest, out => if out.length < 1000 then (if isPairW ws rest = true then showL f ws j (fld ws (rest / 4).toNat 1) (f (fld ws (rest / 4).toNat 0) (out ++ [32])) else showE f rest out) else showE f rest out
def sizeW (ws : List Int) (p : Nat) : Nat := (ws.getD p 0 / 4).toNat
def showW (ws : List Int) (names : List (List Int)) : Nat → Int → List Int → List Int
  | 0, _, out => out
  | k + 1, x, out =>
    if 1000 ≤ out.length then out else if x % 4 = 0 then out ++ decI (x / 4) else if x % 4 = 2 then out ++ symT names (x / 4) else if x % 4 = 3 then out ++ rareT x
    else if ws.getD (x / 4).toNat 0 % 4 = 2 then out ++ procT else if ws.getD (x / 4).toNat 0 % 4 = 3 then out ++ boxT
    else if ws.getD (x / 4).toNat 0 % 4 = 1 then showV (showW ws names k) ws (x / 4).toNat (sizeW ws (x / 4).toNat) 0 (out ++ [35, 40]) ++ [41]
    else showL (showW ws names k) ws 1000 (fld ws (x / 4).toNat 1) (showW ws names k (fld ws (x / 4).toNat 0) (out ++ [40])) ++ [41]
/-- f writes behind what is there. -/
def Ext (f : Int → List Int → List Int) : Prop := ∀ x out, out <+: f x out
theorem pre_app (a b : List Int) : a <+: a ++ b := List.prefix_append a b
theorem pre_snoc {a b : List Int} (c : List Int) (h : a ++ c <+: b) : a <+: b := (pre_app a c).trans h
theorem showE_pre {f : Int → List Int → List Int} (hf : Ext f) (x : Int) (out : List Int) : out <+: showE f x out := by
  unfold showE
  split
  · exact List.prefix_refl _
  · exact pre_snoc _ (hf _ _)
theorem showV_pre {f : Int → List Int → List Int} (hf : Ext f) (ws : List Int) (p : Nat) : ∀ (d i : Nat) (out : List Int), out <+: showV f ws p d i out
  | 0, _, out => List.prefix_refl _
  | d + 1, i, out => by
    unfold showV
    split
    · exact List.prefix_refl _
    · refine List.IsPrefix.trans ?_ (showV_pre hf ws p d (i + 1) _)
      split
      · exact hf _ _
      · exact pre_snoc _ (hf _ _)
theorem showL_pre {f : Int → List Int → List Int} (hf : Ext f) (ws : List Int) : ∀ (j : Nat) (x : Int) (out : List Int), out <+: showL f ws j x out
  | 0, x, out => showE_pre hf x out
  | j + 1, x, out => by
    unfold showL
    split
    · split
      · exact List.IsPrefix.trans (pre_snoc _ (hf _ _)) (showL_pre hf ws j _ _)
      · exact showE_pre hf x out
    · exact showE_pre hf x out
theorem showW_pre (ws : List Int) (names : List (List Int)) : ∀ k, Ext (showW ws names k)
  | 0 => fun x out => List.prefix_refl _
  | k + 1 => fun x out => by
    have ih := showW_pre ws names k
    unfold showW
    split
    · exact List.prefix_refl _
    · split
      · exact pre_app _ _
      · split
        · exact pre_app _ _
        · split
          · exact pre_app _ _
          · split
            · exact pre_app _ _
            · split
              · exact pre_app _ _
              · split
                · exact (pre_snoc _ (showV_pre ih ws _ _ _ _)).trans (pre_app _ _)
                · exact ((pre_snoc _ (ih _ _)).trans (showL_pre ih ws _ _ _)).trans (pre_app _ _)
end Go.Proofs.YtggkkgkjhfgipaaDoor
/- What viewOf gives: a view stands for a word of a valid heap; a part is asked for when it is shown. -/
namespace Go.Proofs.YtggkkgkjhfgipaaDoor
open Go.RowKit Go.Proofs.YtggkkgkjhfgipaaDoorW.PrintWords Go.Proofs.YtggkkgkjhfgipaaDoorW.PrintLast Go.Proofs.YtggkkgkjhfgipaaDoorW.PrintMore
open Go.ChangeMaps (setBlock)
set_option linter.unusedVariables false
set_option linter.unusedSimpArgs false
/-- Bytes as cells. -/
def cel (t : List Int) : List Value := t.map (Value.int .u8)
theorem cel_append (a b : List Int) : cel (a ++ b) = cel a ++ cel b := by simp [cel]
theorem cel_length (a : List Int) : (cel a).length = a.length := by simp [cel]
theorem cel_decI (n : Int) : Lib.strCells ⟨(Lib.itoa n).toArray⟩ = cel (decI n) := by simp [cel, decI, Lib.strCells]
/-- The world in which the heap's words and the names lie. -/
structure Ctx (w0 : World) (ws : List Int) (top : Int) (L : List (Nat × Nat)) (es : List MapEntry) (bm : Nat) (names : List (List Int)) (NA : Option Addr) (nc : Nat) : Prop where
  objs : objsF ws top = some L
  ents : EntsOf w0 ws L es
  map : w0.heap[bm]? = some (.map es.toArray L.length)
  nm : Kd.C (Kd.slice 5 (Kd.int .u8)) w0 NA names.length names
  ncap : names.length ≤ nc
  short : ∀ t ∈ names, t.length ≤ 1099511627776 ∧ ∀ x ∈ t, 0 ≤ x ∧ x < 256
  valid : ∀ q ∈ L, objectAt ws L q = true
  i64 : ∀ x ∈ ws, InI64 x
  tab : Lib.TabIs Tryd.prog w0 "internal/strconv.uint64pow10" .u64 Lib.pow10Tab
/-- A part of an object: field x. -/
def Part (bm : Nat) (NV : Value) (w0 w : World) (v : Value) (x : Int) : Prop :=
  ∃ (bo bi ba bn i n c : Nat) (A : Option Addr) (kd : Int) (fs : List Int), v = .func (.func 62) #[] #[.pointer (some ⟨bo, 0, none⟩), .pointer (some ⟨bi, 0, none⟩), .pointer (some ⟨ba, 0, none⟩), .pointer (some ⟨bn, 0, none⟩)] ∧
    w.heap[bo]? = some (.cells #[.int .i64 kd, .slice A n c] 82 (0, 0)) ∧ w.heap[bi]? = some (.cells #[.int .i64 (i : Int)] 3 (0, 0)) ∧ w.heap[ba]? = some (.cells #[.map (some bm)] 51 (0, 0)) ∧ w.heap[bn]? = some (.cells #[NV] 25 (0, 0)) ∧
    i < n ∧ fs.length = n ∧ Kd.C (Kd.int .i64) w0 A n fs ∧ fs.getD i 0 = x
/-- A word that shows as one text: the view's type, and the text. -/
def atomV (ws : List Int) (names : List (List Int)) (x : Int) : Option (Nat × List Int) :=
  if x % 4 = 0 then some (9, decI (x / 4)) else if x % 4 = 2 then some (94, symT names (x / 4)) else if x % 4 = 3 then some (9, rareT x)
  else if ws.getD (x / 4).toNat 0 % 4 = 2 then some (9, procT) else if ws.getD (x / 4).toNat 0 % 4 = 3 then some (9, boxT) else none
def AtomIs (T : Nat) (t : List Int) (v : Value) : Prop := ∃ s : ByteArray, v = .iface T (.string s) ∧ Lib.strCells s = cel t ∧ s.size ≤ 1099511627780
def VecIs (ws : List Int) (bm : Nat) (NV : Value) (w0 w : World) (p : Nat) (v : Value) : Prop :=
  ∃ (sv : Value) (us : List Value), v = .iface 97 (.agg #[sv]) ∧ w.ownsRow 0 98 1 sv us.length us ∧ us.length = sizeW ws p ∧ ∀ i, i < us.length → Part bm NV w0 w (us.getD i undef) (fld ws p i)
def PairIs (ws : List Int) (bm : Nat) (NV : Value) (w0 w : World) (p : Nat) (v : Value) : Prop :=
  ∃ u1 u2 : Value, v = .iface 100 (.agg #[u1, u2]) ∧ Part bm NV w0 w u1 (fld ws p 0) ∧ Part bm NV w0 w u2 (fld ws p 1)
/-- The view v stands for the word x. -/
def IsView (ws : List Int) (names : List (List Int)) (bm : Nat) (NV : Value) (w0 w : World) (v : Value) (x : Int) : Prop :=
  match atomV ws names x with
  | some (T, t) => AtomIs T t v
  | none => if ws.getD (x / 4).toNat 0 % 4 = 1 then VecIs ws bm NV w0 w (x / 4).toNat v else PairIs ws bm NV w0 w (x / 4).toNat v
/-- Blocks of other kinds than bytes stand. -/
def Kp (w w' : World) : Prop := ∀ (k : Nat) (cs : Array Value) (t : TypeId) (fz : Nat × Nat), w.heap[k]? = some (.cells cs t fz) → t ≠ 5 → t ≠ 89 → w'.heap[k]? = some (.cells cs t fz)
theorem Kp.refl (w : World) : Kp w w := fun _ _ _ _ h _ _ => h
theorem Kp.trans {a b c : World} (h : Kp a b) (k : Kp b c) : Kp a c := fun i cs t fz hi h1 h2 => k i cs t fz (h i cs t fz hi h1 h2) h1 h2
theorem Kp.of_below {w w' : World} (h : Below w.heap.size w w') : Kp w w' := fun k cs t fz hk _ _ => blk_below hk h
theorem Kp.of_oth {b : Nat} {w w' : World} {v : Value} (h : Oth b w w') (hb : w.heap[b]? = some (.cells #[v] 89 (0, 0))) : Kp w w' := by
  intro k cs t fz hk h1 h2
  refine h k _ hk ?_ (fun c fz e => by cases e; exact h1 rfl)
  rintro e
  cases e
  rw [hb] at hk
  cases hk
  exact h2 rfl
theorem Part.keep {bm : Nat} {NV : Value} {w0 w w' : World} {v : Value} {x : Int} (h : Part bm NV w0 w v x) (k : Kp w w') : Part bm NV w0 w' v x := by
  obtain ⟨bo, bi, ba, bn, i, n, c, A, kd, fs, rfl, h1, h2, h3, h4, h5⟩ := h
  exact ⟨bo, bi, ba, bn, i, n, c, A, kd, fs, rfl, k _ _ _ _ h1 (by decide) (by decide), k _ _ _ _ h2 (by decide) (by decide), k _ _ _ _ h3 (by decide) (by decide), k _ _ _ _ h4 (by decide) (by decide), h5⟩
theorem VecIs.keep {ws : List Int} {bm p : Nat} {NV : Value} {w0 w w' : World} {v : Value} (h : VecIs ws bm NV w0 w p v) (k : Kp w w') : VecIs ws bm NV w0 w' p v := by
  obtain ⟨sv, us, rfl, h1, h2, h3⟩ := h
  refine ⟨sv, us, rfl, ⟨h1.1, ?_⟩, h2, fun i hi => (h3 i hi).keep k⟩
  rcases h1.2 with h | ⟨g, cap, cur, e, hb, hg, r⟩
  · exact .inl h
  · exact .inr ⟨g, cap, cur, e, hb, k _ _ _ _ hg (by decide) (by decide), r⟩
theorem IsView.keep {ws : List Int} {names : List (List Int)} {bm : Nat} {NV : Value} {w0 w w' : World} {v : Value} {x : Int} (h : IsView ws names bm NV w0 w v x) (k : Kp w w') : IsView ws names bm NV w0 w' v x := by
  unfold IsView at *
  cases ha : atomV ws names x with
  | some p => rw [ha] at h; exact h
  | none =>
    rw [ha] at h
    dsimp only at h ⊢
    split
    · rename_i hk; rw [if_pos hk] at h; exact h.keep k
    · rename_i hk; rw [if_neg hk] at h
      obtain ⟨u1, u2, rfl, h1, h2⟩ := h
      exact ⟨u1, u2, rfl, h1.keep k, h2.keep k⟩
/-! ### objects -/
theorem tab_below {w0 w : World} (h : Lib.TabIs Tryd.prog w0 "internal/strconv.uint64pow10" .u64 Lib.pow10Tab) (hb : Below w0.heap.size w0 w) : Lib.TabIs Tryd.prog w "internal/strconv.uint64pow10" .u64 Lib.pow10Tab := by
  unfold Lib.TabIs at *
  cases hg : Tryd.prog.globalNamed "internal/strconv.uint64pow10" with
  | none => simp [World.var?, hg] at h
  | some g => exact Go.Joins.var_stays hg h hb (Nat.le_refl _)
theorem itoa_any (n : Int) (h0 : -9223372036854775808 ≤ n) (h1 : n ≤ 9223372036854775807) (w0 w : World) (htab : Lib.TabIs Tryd.prog w0 "internal/strconv.uint64pow10" .u64 Lib.pow10Tab) (hB : Below w0.heap.size w0 w) :
    Calls Tryd.prog 59 #[.int .i64 n] w fun e w' => e = .returned (.string ⟨(Lib.itoa n).toArray⟩) ∧ Below w.heap.size w w' := by
  refine (Tryd.strconv_Itoa n h0 h1 w (tab_below htab hB)).mono ?_
  rintro e w' ⟨rfl, k, os, rfl⟩
  exact ⟨rfl, Lib.below_grow _ _ (Nat.le_refl _) _ _⟩
/-- The object that a pointer names. -/
structure ObjOf (w0 : World) (ws : List Int) (L : List (Nat × Nat)) (es : List MapEntry) (x : Int) (A : Option Addr) (n c : Nat) (fs : List Int) : Prop where
  look : lookAt es ((x - 1) / 4) = some (.agg #[.int .i64 (ws.getD (x / 4).toNat 0 % 4), .slice A n c])
  row : Kd.C (Kd.int .i64) w0 A n fs
  len : fs.length = n
  size : n = sizeW ws (x / 4).toNat
  le : n ≤ 1000
  cap : n ≤ c
  get : ∀ i, i < n → fs.getD i 0 = fld ws (x / 4).toNat i
  good : ∀ i, i < n → wordF (isPlace L) (fld ws (x / 4).toNat i) = true ∧ InI64 (fld ws (x / 4).toNat i)
  pair : ws.getD (x / 4).toNat 0 % 4 = 0 → n = 2
theorem Ctx.obj {w0 : World} {ws : List Int} {top : Int} {L : List (Nat × Nat)} {es : List MapEntry} {bm : Nat} {names : List (List Int)} {NA : Option Addr} {nc : Nat} (h : Ctx w0 ws top L es bm names NA nc) {x : Int} (hx : wordF (isPlace L) x = true) (h4 : x % 4 = 1) :
    0 ≤ x ∧ ∃ A n c fs, ObjOf w0 ws L es x A n c fs := by
  have hw : 0 ≤ x ∧ isPlace L ((x - 1) / 4) = true := by
    unfold wordF at hx
    rw [if_neg (by omega), if_pos h4] at hx
    simpa using hx
  obtain ⟨h0, hp⟩ := hw
  refine ⟨h0, ?_⟩
  have hpx : (x - 1) / 4 = ((x / 4).toNat : Int) := by omega
  have hs := h.ents.look_place ((x - 1) / 4)
  rw [hp] at hs
  rcases findNow_int .i64 ((x - 1) / 4) es 0 h.ents.intKeys with ⟨h1, _⟩ | ⟨j, e0, _, he, hk, h1⟩
  · rw [h1] at hs; cases hs
  · obtain ⟨i, q, n, a, c, hi, rfl, hfl, hc⟩ := h.ents.whole e0 (List.mem_of_getElem? he)
    have hmem := List.mem_of_getElem? hi
    have hq : q = (x / 4).toNat := by
      have : ((q : Int)) = (x - 1) / 4 := by simpa [ent] using hk
      omega
    subst hq
    obtain ⟨hl, ht0, htl, hm⟩ := objsF_mem h.objs
    obtain ⟨hhd, hn⟩ := hm _ hmem
    simp only at hhd hn
    have hhd' := hhd
    unfold headAt at hhd'
    simp only [Bool.and_eq_true, decide_eq_true_eq] at hhd'
    obtain ⟨g0, g1, g2⟩ := hhd'
    have g3 := headF_le g1 (by omega)
    have hle : (x / 4).toNat + 1 + n ≤ ws.length := by rw [hn]; unfold sizeAt; omega
    have hget : ∀ i, i < n → (fieldsAt ws (x / 4).toNat n).getD i 0 = fld ws (x / 4).toNat i := by
      intro i hi'
      unfold fieldsAt fld
      simp only [List.getD_eq_getElem?_getD, List.getElem?_drop, List.getElem?_take]
      rw [if_pos (by omega)]
    have hob := h.valid _ hmem
    unfold objectAt objF at hob
    simp only [Bool.and_eq_true] at hob
    have hall := List.all_eq_true.1 hob.1
    have hcap := h.ents.at_ i _ n hi
    obtain ⟨a', c', e1, e2, _, _⟩ := hcap
    have hcc : n ≤ c := by
      obtain ⟨i', hi2⟩ := List.getElem?_eq_some_iff.1 he
      have hb1 : lookAt es ((x - 1) / 4) = some (.agg #[.int .i64 (ws.getD (x / 4).toNat 0 % 4), .slice a n c]) := h1
      have h2 := h.ents.intKeys
      have h3 : es[j]? = some (ent ((x / 4).toNat : Int) (.agg #[.int .i64 (ws.getD (x / 4).toNat 0 % 4), .slice a n c]) i) := he
      obtain ⟨i3, p3, n3, a3, c3, hi3, e3⟩ := h.ents.keys _ (List.mem_of_getElem? he)
      have hj : j = i := by
        have hjl : j < L.length := by rw [← h.ents.size]; exact i'
        obtain ⟨a4, c4, e4, _⟩ := h.ents.at_ j L[j].1 L[j].2 (by rw [List.getElem?_eq_getElem hjl])
        rw [h3] at e4
        have e4 := Option.some.inj e4
        simp only [ent, MapEntry.mk.injEq] at e4
        exact e4.2.2.symm
      subst hj
      rw [h3] at e1
      have e1 := Option.some.inj e1
      simp only [ent, MapEntry.mk.injEq] at e1
      have e5 := e1.2.1
      injection e5 with e5
      have e6 := congrArg (fun a => a[1]?) e5
      simp at e6
      rw [e6.2]
      exact e2
    refine ⟨a, n, c, fieldsAt ws (x / 4).toNat n, h1, hc, hfl, ?_, ?_, hcc, hget, ?_, ?_⟩
    · rw [hn]; rfl
    · rw [hn]; unfold sizeAt; omega
    · intro i hi'
      have hmem2 : (fieldsAt ws (x / 4).toNat n).getD i 0 ∈ fieldsAt ws (x / 4).toNat n := getD_mem (by omega)
      rw [← hget i hi']
      exact ⟨hall _ hmem2, h.i64 _ (fieldsAt_mem hmem2)⟩
    · intro hk0
      unfold headF at g1
      rw [if_pos hk0] at g1
      have g5 := eq_of_beq g1
      rw [hn]
      unfold sizeAt
      omega
end Go.Proofs.YtggkkgkjhfgipaaDoor
/- The program's viewOf and its closures. -/
namespace Go.Proofs.YtggkkgkjhfgipaaDoor
open Go.RowKit Go.Proofs.YtggkkgkjhfgipaaDoor.QFnExactShowWord Go.Proofs.YtggkkgkjhfgipaaDoorW.PrintWords Go.Proofs.YtggkkgkjhfgipaaDoorW.PrintLast Go.Proofs.YtggkkgkjhfgipaaDoorW.PrintMore
open Go.ChangeMaps (setBlock)
set_option linter.unusedVariables false
set_option linter.unusedSimpArgs false
theorem strCells_app (a b : ByteArray) : Lib.strCells (a ++ b) = Lib.strCells a ++ Lib.strCells b := by
  simp [Lib.strCells]
theorem part_calls (i : Int) (bo ba bn : Nat) (w : World) : Calls Tryd.prog 61 #[.int .i64 i, .pointer (some ⟨bo, 0, none⟩), .pointer (some ⟨ba, 0, none⟩), .pointer (some ⟨bn, 0, none⟩)] w fun e w' =>
    e = .returned (.func (.func 62) #[] #[.pointer (some ⟨bo, 0, none⟩), .pointer (some ⟨w.heap.size, 0, none⟩), .pointer (some ⟨ba, 0, none⟩), .pointer (some ⟨bn, 0, none⟩)]) ∧ w' = w.alloc (.cells #[.int .i64 i] 3 (0, 0)) := by
  have hmf : ∀ (fn : Fn) (first cap : Array Value) (w : World), (Instr.makeFunc fn first cap).run Tryd.prog w = .ok (.func fn first cap) w := fun _ _ _ _ => rfl
  go_enter Tryd.func61, Tryd.ntmps61
  go_wp2_with fail
  go_ret
  exact ⟨rfl, rfl⟩
set_option maxHeartbeats 1000000 in
theorem symbolText_calls {w0 : World} {ws : List Int} {top : Int} {L : List (Nat × Nat)} {es : List MapEntry} {bm : Nat} {names : List (List Int)} {NA : Option Addr} {nc : Nat} (h : Ctx w0 ws top L es bm names NA nc) (i : Int) (h0 : 0 ≤ i) (h1 : i ≤ 9223372036854775807) (w : World) (hB : Below w0.heap.size w0 w) :
    Calls Tryd.prog 60 #[.int .i64 i, .slice NA names.length nc] w fun e w' => ∃ s : ByteArray, e = .returned (.string s) ∧ Lib.strCells s = cel (symT names i) ∧ s.size ≤ 1099511627780 ∧ Below w.heap.size w w' := by
  have HB := Lib.hid hB
  have HT := Lib.hid h.tab
  have HX := Lib.hid h
  unfold symT
  by_cases hlt : i < (names.length : Int)
  · rw [if_pos hlt]
    obtain ⟨ad, A0, c0, rfl, k0, k1, k2⟩ := at_L2 h.nm i h0 hlt
    have k3 := h.short (rd_L2 names i) (by unfold rd_L2; rw [List.getD_eq_getElem?_getD, List.getElem?_eq_getElem (by omega)]; exact List.getElem_mem _)
    have c1 : w.cell? (ad.add i.toNat) = some (.slice A0 (rd_L2 names i).length c0) := (hB.cell (World.block_lt_of_cell? w0 _ k0)).trans k0
    have hcv := Kd.C_string (P := Tryd.prog) (src := 28) (dst := 9) (e := 5) (c := c0) Tryd.underlying28 Tryd.underlying5 Tryd.underlying9 (Kd.C_below k2 hB)
    have HST : Hid (Lib.strCells (strOfNums (rd_L2 names i)) = cel (rd_L2 names i) ∧ (strOfNums (rd_L2 names i)).size ≤ 1099511627780) := Lib.hid ⟨by
      simp only [strOfNums, Lib.strCells, cel, List.map_map]
      apply List.map_congr_left
      intro x hx
      have := k3.2 x hx
      simp
      omega, by have := k3.1; simp [strOfNums, ByteArray.size]; omega⟩
    obtain ⟨t, ht⟩ : ∃ t, t = rd_L2 names i := ⟨_, rfl⟩
    have HT2 : Hid (names.getD i.toNat [] = t) := Lib.hid ht.symm
    rw [← ht] at c1 hcv HST
    obtain ⟨s, hs⟩ : ∃ s, s = strOfNums t := ⟨_, rfl⟩
    rw [← hs] at HST hcv
    clear h hB k0 k1 k2 k3 ht hs
    go_enter Tryd.func60, Tryd.ntmps60
    go_wp2_with fail
    go_ret
    exact ⟨s, rfl, by rw [HT2.out]; exact HST.out.1, HST.out.2, Below.refl _ _⟩
  · rw [if_neg hlt]
    have hlI := Lib.itoa_length_le i (by omega) (by omega)
    have hI := itoa_any i (by omega) (by omega) w0
    have HCE := Lib.hid (cel_decI i)
    generalize hs : (⟨(Lib.itoa i).toArray⟩ : ByteArray) = s at hI HCE
    have hsz : s.size ≤ 21 := by rw [← hs]; simpa [ByteArray.size] using hlI
    have HI := Lib.hid hI
    have hlb : decide (i < (names.length : Int)) = false := decide_eq_false hlt
    clear h hB hI hs hlI hlt
    go_enter Tryd.func60, Tryd.ntmps60
    go_wp2_with fail
    refine (HI.out _ HT.out HB.out).mono ?_
    rintro e w1 ⟨rfl, hb1⟩
    have HB1 := Lib.hid hb1
    clear hb1
    go_wp2_with fail
    go_ret
    refine ⟨_, rfl, ?_, ?_, HB1.out⟩
    · rw [strCells_app, HCE.out]
      rfl
    · rw [ByteArray.size_append]
      have : (ByteArray.mk #[115, 121, 109]).size = 3 := rfl
      omega
end Go.Proofs.YtggkkgkjhfgipaaDoor
/- The program's viewOf: words that show as one text. -/
namespace Go.Proofs.YtggkkgkjhfgipaaDoor
open Go.RowKit Go.Proofs.YtggkkgkjhfgipaaDoor.QFnExactShowWord Go.Proofs.YtggkkgkjhfgipaaDoorW.PrintWords Go.Proofs.YtggkkgkjhfgipaaDoorW.PrintLast Go.Proofs.YtggkkgkjhfgipaaDoorW.PrintMore
open Go.ChangeMaps (setBlock)
set_option linter.unusedVariables false
set_option linter.unusedSimpArgs false
/-- viewOf's answer. -/
def ViewPost (ws : List Int) (names : List (List Int)) (bm : Nat) (NV : Value) (w0 : World) (x : Int) (w : World) (e : Ending) (w' : World) : Prop :=
  ∃ v, e = .returned v ∧ IsView ws names bm NV w0 w' v x ∧ Below w.heap.size w w'
theorem ViewPost.atom {ws : List Int} {names : List (List Int)} {bm : Nat} {NV : Value} {w0 w w' : World} {x : Int} {T : Nat} {t : List Int} {s : ByteArray} (ha : atomV ws names x = some (T, t)) (hs : Lib.strCells s = cel t) (hl : s.size ≤ 1099511627780) (hb : Below w.heap.size w w') :
    ViewPost ws names bm NV w0 x w (.returned (.iface T (.string s))) w' := by
  refine ⟨_, rfl, ?_, hb⟩
  unfold IsView
  rw [ha]
  exact ⟨s, rfl, hs, hl⟩
set_option maxHeartbeats 1000000 in
theorem viewOf_int {w0 : World} {ws : List Int} {top : Int} {L : List (Nat × Nat)} {es : List MapEntry} {bm : Nat} {names : List (List Int)} {NA : Option Addr} {nc : Nat} (h : Ctx w0 ws top L es bm names NA nc) (x : Int) (hx : InI64 x) (h4 : x % 4 = 0) (w : World) (hB : Below w0.heap.size w0 w) :
    Calls Tryd.prog 36 #[.int .i64 x, .map (some bm), .slice NA names.length nc] w (ViewPost ws names bm (.slice NA names.length nc) w0 x w) := by
  have ha : atomV ws names x = some (9, decI (x / 4)) := by unfold atomV; rw [if_pos h4]
  have HA := Lib.hid ha
  have HB := Lib.hid hB
  have HT := Lib.hid h.tab
  have H4 := Lib.hid h4
  have hx0 := hx.1
  have hx1 := hx.2
  have hlI := Lib.itoa_length_le (x / 4) (by omega) (by omega)
  have hI := itoa_any (x / 4) (by omega) (by omega) w0
  have HCE := Lib.hid (cel_decI (x / 4))
  generalize hs : (⟨(Lib.itoa (x / 4)).toArray⟩ : ByteArray) = s at hI HCE
  have hsz : s.size ≤ 21 := by rw [← hs]; simpa [ByteArray.size] using hlI
  have HI := Lib.hid hI
  have hb2 := HB.out.size
  clear ha h hB hI hs hlI h4 hx
  go_enter Tryd.func36, Tryd.ntmps36
  go_wp2_with fail
  refine (tagOf_calls x 0 H4.out _).mono ?_
  rintro e w1 ⟨rfl, rfl⟩
  go_wp2_with fail
  refine (HI.out _ HT.out ((HB.out.alloc HB.out.size _).alloc (by simp; omega) _)).mono ?_
  rintro e w1 ⟨rfl, hb1⟩
  have HB1 := Lib.hid hb1
  clear hb1
  go_wp2_with fail
  go_ret
  exact ViewPost.atom HA.out HCE.out (by omega) ((((Below.refl _ w).alloc (Nat.le_refl _) _).alloc (by simp) _).trans (HB1.out.mono (by simp; omega)))
set_option maxHeartbeats 1000000 in
theorem viewOf_sym {w0 : World} {ws : List Int} {top : Int} {L : List (Nat × Nat)} {es : List MapEntry} {bm : Nat} {names : List (List Int)} {NA : Option Addr} {nc : Nat} (h : Ctx w0 ws top L es bm names NA nc) (x : Int) (hx : InI64 x) (h0 : 0 ≤ x) (h4 : x % 4 = 2) (w : World) (hB : Below w0.heap.size w0 w) :
    Calls Tryd.prog 36 #[.int .i64 x, .map (some bm), .slice NA names.length nc] w (ViewPost ws names bm (.slice NA names.length nc) w0 x w) := by
  have ha : atomV ws names x = some (94, symT names (x / 4)) := by unfold atomV; rw [if_neg (by omega), if_pos h4]
  have HA := Lib.hid ha
  have HB := Lib.hid hB
  have H4 := Lib.hid h4
  have hx0 := hx.1
  have hx1 := hx.2
  have HI := Lib.hid (symbolText_calls h (x / 4) (by omega) (by omega))
  have hb2 := HB.out.size
  clear ha h hB h4 hx
  go_enter Tryd.func36, Tryd.ntmps36
  go_wp2_with fail
  refine (tagOf_calls x 2 H4.out _).mono ?_
  rintro e w1 ⟨rfl, rfl⟩
  go_wp2_with fail
  refine (HI.out _ ((HB.out.alloc HB.out.size _).alloc (by simp; omega) _)).mono ?_
  rintro e w1 ⟨s, rfl, hs, hl, hb1⟩
  have HB1 := Lib.hid hb1
  have HS := Lib.hid hs
  clear hb1 hs
  go_wp2_with fail
  go_ret
  exact ViewPost.atom HA.out HS.out hl ((((Below.refl _ w).alloc (Nat.le_refl _) _).alloc (by simp) _).trans (HB1.out.mono (by simp; omega)))
/-! ### the table of the rare words, made anew at each call -/
def rareS (k : Nat) : ByteArray := ([⟨#[40, 41]⟩, ⟨#[35, 102]⟩, ⟨#[35, 116]⟩, ⟨#[35, 118, 111, 105, 100]⟩, ⟨#[35, 117, 110, 115, 101, 116]⟩] : List ByteArray).getD k ⟨#[]⟩
def rareE : Nat → List MapEntry
  | 0 => []
  | k + 1 => rareE k ++ [ent (4 * k + 3 : Int) (.string (rareS k)) k]
def rareM (k : Nat) : Obj := .map (rareE k).toArray k
theorem rareE_keys : ∀ k, IntKeys (rareE k)
  | 0 => fun e he => by simp [rareE] at he
  | k + 1 => (rareE_keys k).snoc _ _ _
theorem rareE_none : ∀ (k : Nat) (x : Int), (4 * k + 3 : Int) ≤ x → lookAt (rareE k) x = none
  | 0, _, _ => rfl
  | k + 1, x, h => by
    rw [rareE, lookAt_snoc, rareE_none k x (by omega)]
    dsimp only
    rw [if_neg (by omega)]
theorem rareE_look : ∀ (k j : Nat), j < k → lookAt (rareE k) (4 * j + 3 : Int) = some (.string (rareS j))
  | 0, _, h => by omega
  | k + 1, j, h => by
    rw [rareE, lookAt_snoc]
    by_cases e : j = k
    · subst e
      rw [rareE_none j _ (by omega)]
      simp
    · rw [rareE_look k j (by omega)]
theorem alloc_set (W : World) (a b : Obj) : setBlock (W.alloc a) W.heap.size b = W.alloc b := by
  have h : (W.heap.push a).setIfInBounds W.heap.size b = W.heap.push b := by
    apply Array.toList_inj.1
    simp
  show ({ W with heap := (W.heap.push a).setIfInBounds W.heap.size b } : World) = { W with heap := W.heap.push b }
  rw [h]
theorem rare_put (W : World) (b k : Nat) (x : Int) (s : ByteArray) (hb : b = W.heap.size) (hx : x = 4 * k + 3) (hs : s = rareS k) : (Instr.mapUpdate 104 (.map (some b)) (.int .i64 x) (.string s)).run Tryd.prog (W.alloc (rareM k)) = .ok () (W.alloc (rareM (k + 1))) := by
  subst hb hx hs
  unfold rareM
  rw [run_store_new (clock := k) Tryd.underlying104 Tryd.underlying3 (blk_new W _) (rareE_keys k) _ _ (rareE_none k _ (by omega))]
  exact congrArg _ (alloc_set W _ _)
theorem rare_get (W : World) (b j : Nat) (x : Int) (hb : b = W.heap.size) (hx : x = 4 * j + 3) (hj : j < 5) : (Instr.lookup 104 (.map (some b)) (.int .i64 x) false).run Tryd.prog (W.alloc (rareM 5)) = .ok (.string (rareS j)) (W.alloc (rareM 5)) := by
  subst hb hx
  unfold rareM
  rw [run_lookup_one Tryd.underlying104 Tryd.underlying3 (blk_new W _) (rareE_keys 5) _ (z := .string ⟨#[]⟩) (by kernel_rfl), rareE_look 5 j hj]
  rfl
theorem rareS_text (j : Nat) (hj : j < 5) : Lib.strCells (rareS j) = cel (rareT (4 * j + 3)) ∧ (rareS j).size ≤ 1099511627780 := by
  have : j = 0 ∨ j = 1 ∨ j = 2 ∨ j = 3 ∨ j = 4 := by omega
  rcases this with rfl | rfl | rfl | rfl | rfl <;> exact ⟨by kernel_rfl, by decide +kernel⟩
set_option maxHeartbeats 1000000 in
theorem viewOf_rare {w0 : World} {ws : List Int} {top : Int} {L : List (Nat × Nat)} {es : List MapEntry} {bm : Nat} {names : List (List Int)} {NA : Option Addr} {nc : Nat} (h : Ctx w0 ws top L es bm names NA nc) (x : Int) (j : Nat) (hj : j < 5) (hx : x = 4 * j + 3) (w : World) (hB : Below w0.heap.size w0 w) :
    Calls Tryd.prog 36 #[.int .i64 x, .map (some bm), .slice NA names.length nc] w (ViewPost ws names bm (.slice NA names.length nc) w0 x w) := by
  have ha : atomV ws names x = some (9, rareT x) := by unfold atomV; rw [if_neg (by omega), if_neg (by omega), if_pos (by omega)]
  have HA := Lib.hid ha
  have HB := Lib.hid hB
  have hb2 := HB.out.size
  have HS : Hid (Lib.strCells (rareS j) = cel (rareT x) ∧ (rareS j).size ≤ 1099511627780) := Lib.hid (by rw [hx]; exact rareS_text j hj)
  have H3 : Hid (x % 4 = 3) := Lib.hid (by omega)
  obtain ⟨W, hW⟩ : ∃ W, W = (w.alloc (.cells #[.map (some bm)] 51)).alloc (.cells #[.slice NA names.length nc] 25) := ⟨_, rfl⟩
  have hz : w.heap.size + 1 + 1 = W.heap.size := by rw [hW]; simp
  have hmk : (Instr.makeMap 104 none).run Tryd.prog W = .ok (.map (some (w.heap.size + 1 + 1))) (W.alloc (rareM 0)) := by rw [run_makeMap, hz]; rfl
  have p0 := rare_put W (w.heap.size + 1 + 1) 0 3 ⟨#[40, 41]⟩ hz rfl rfl
  have p1 := rare_put W (w.heap.size + 1 + 1) 1 7 ⟨#[35, 102]⟩ hz rfl rfl
  have p2 := rare_put W (w.heap.size + 1 + 1) 2 11 ⟨#[35, 116]⟩ hz rfl rfl
  have p3 := rare_put W (w.heap.size + 1 + 1) 3 15 ⟨#[35, 118, 111, 105, 100]⟩ hz rfl rfl
  have p4 := rare_put W (w.heap.size + 1 + 1) 4 19 ⟨#[35, 117, 110, 115, 101, 116]⟩ hz rfl rfl
  have pg := rare_get W (w.heap.size + 1 + 1) j x hz hx hj
  obtain ⟨s, hs⟩ : ∃ s, s = rareS j := ⟨_, rfl⟩
  rw [← hs] at pg HS
  have HBW : Hid (Below w.heap.size w W) := Lib.hid (by rw [hW]; exact ((Below.refl _ w).alloc (Nat.le_refl _) _).alloc (by simp) _)
  have HZ := Lib.hid hz
  simp only [Nat.zero_add, Nat.reduceAdd] at p0 p1 p2 p3 p4
  clear ha h hB hx hz hs
  go_enter Tryd.func36, Tryd.ntmps36
  go_wp2_with fail
  refine (tagOf_calls x 3 H3.out _).mono ?_
  rintro e w1 ⟨rfl, rfl⟩
  rw [← hW]
  have HW := Lib.hid hW
  clear hW
  go_wp2_with fail
  go_ret
  exact ViewPost.atom HA.out HS.out.1 HS.out.2 (HBW.out.alloc HBW.out.size _)
end Go.Proofs.YtggkkgkjhfgipaaDoor
/- The program's viewOf: objects. -/
namespace Go.Proofs.YtggkkgkjhfgipaaDoor
open Go.RowKit Go.Proofs.YtggkkgkjhfgipaaDoor.QFnExactShowWord Go.Proofs.YtggkkgkjhfgipaaDoorW.PrintWords Go.Proofs.YtggkkgkjhfgipaaDoorW.PrintLast Go.Proofs.YtggkkgkjhfgipaaDoorW.PrintMore
open Go.ChangeMaps (setBlock)
set_option linter.unusedVariables false
set_option linter.unusedSimpArgs false
theorem Ctx.look {w0 : World} {ws : List Int} {top : Int} {L : List (Nat × Nat)} {es : List MapEntry} {bm : Nat} {names : List (List Int)} {NA : Option Addr} {nc : Nat} (h : Ctx w0 ws top L es bm names NA nc) {x : Int} {A : Option Addr} {n c : Nat} {fs : List Int} (ho : ObjOf w0 ws L es x A n c fs) {w : World} (hB : Below w0.heap.size w0 w) :
    (Instr.lookup 51 (.map (some bm)) (.int .i64 ((x - 1) / 4)) false).run Tryd.prog w = .ok (.agg #[.int .i64 (ws.getD (x / 4).toNat 0 % 4), .slice A n c]) w := by
  rw [run_lookup_one Tryd.underlying51 Tryd.underlying3 (blk_below h.map hB) h.ents.intKeys _ (zero_object _), ho.look]
  rfl
theorem atom_proc {ws : List Int} {names : List (List Int)} {x : Int} (h4 : x % 4 = 1) (hk : ws.getD (x / 4).toNat 0 % 4 = 2) : atomV ws names x = some (9, procT) := by
  unfold atomV
  rw [if_neg (by omega), if_neg (by omega), if_neg (by omega), if_pos hk]
theorem atom_box {ws : List Int} {names : List (List Int)} {x : Int} (h4 : x % 4 = 1) (hk : ws.getD (x / 4).toNat 0 % 4 = 3) : atomV ws names x = some (9, boxT) := by
  unfold atomV
  rw [if_neg (by omega), if_neg (by omega), if_neg (by omega), if_neg (by omega), if_pos hk]
theorem atom_none {ws : List Int} {names : List (List Int)} {x : Int} (h4 : x % 4 = 1) (hk : ws.getD (x / 4).toNat 0 % 4 = 0 ∨ ws.getD (x / 4).toNat 0 % 4 = 1) : atomV ws names x = none := by
  unfold atomV
  rw [if_neg (by omega), if_neg (by omega), if_neg (by omega), if_neg (by omega), if_neg (by omega)]
/-- Behind the object's look-up: the variables of the closures. -/
structure Vars (bm : Nat) (NV : Value) (kd : Int) (A : Option Addr) (n c : Nat) (w W : World) (bo ba bn : Nat) : Prop where
  below : Below w.heap.size w W
  o : W.heap[bo]? = some (.cells #[.int .i64 kd, .slice A n c] 82 (0, 0))
  a : W.heap[ba]? = some (.cells #[.map (some bm)] 51 (0, 0))
  n : W.heap[bn]? = some (.cells #[NV] 25 (0, 0))
set_option maxHeartbeats 2000000 in
set_option maxRecDepth 100000 in
theorem viewOf_flat {w0 : World} {ws : List Int} {top : Int} {L : List (Nat × Nat)} {es : List MapEntry} {bm : Nat} {names : List (List Int)} {NA : Option Addr} {nc : Nat} (h : Ctx w0 ws top L es bm names NA nc) (x kd : Int) (hw : wordF (isPlace L) x = true) (hx : InI64 x) (h4 : x % 4 = 1) (hk : ws.getD (x / 4).toNat 0 % 4 = kd) (w : World) (hB : Below w0.heap.size w0 w)
    (t : Bool) (hkk : (kd == 2) = t) (k0 : (kd == 0) = false) (k1 : (kd == 1) = false) :
    Calls Tryd.prog 36 #[.int .i64 x, .map (some bm), .slice NA names.length nc] w (ViewPost ws names bm (.slice NA names.length nc) w0 x w) := by
  obtain ⟨h0, A, n, c, fs, ho⟩ := h.obj hw h4
  have HO := Lib.hid ho
  have HX := Lib.hid h
  have HB := Lib.hid hB
  have H4 := Lib.hid h4
  have HK := Lib.hid hk
  have hx1 := hx.2
  have hx0 : 1 ≤ x := by omega
  obtain ⟨p, hp⟩ : ∃ p, p = (x - 1) / 4 := ⟨_, rfl⟩
  have HLK : Hid (∀ W, Below w0.heap.size w0 W → (Instr.lookup 51 (.map (some bm)) (.int .i64 p) false).run Tryd.prog W = .ok (.agg #[.int .i64 kd, .slice A n c]) W) := Lib.hid (fun W hb => by rw [hp, ← hk]; exact h.look ho hb)
  have HP := Lib.hid hp
  have hb2 := HB.out.size
  have HAT : Hid (atomV ws names x = some (9, cond t procT boxT)) := by
    refine Lib.hid ?_
    cases t with
    | true => exact atom_proc h4 (by rw [hk]; simpa using hkk)
    | false =>
      have h3 : ¬ kd = 2 := by simpa using hkk
      have h5 : ¬ kd = 0 := by simpa using k0
      have h6 : ¬ kd = 1 := by simpa using k1
      exact atom_box h4 (by omega)
  clear h hB h4 hx ho hk hp
  have hmf : ∀ (fn : Fn) (first cap : Array Value) (w : World), (Instr.makeFunc fn first cap).run Tryd.prog w = .ok (.func fn first cap) w := fun _ _ _ _ => rfl
  cases t
  all_goals
    go_enter Tryd.func36, Tryd.ntmps36
    go_wp2_with fail
    refine (tagOf_calls x 1 H4.out _).mono ?_
    rintro e w1 ⟨rfl, rfl⟩
    obtain ⟨W, hW⟩ : ∃ W, W = (w.alloc (.cells #[.map (some bm)] 51)).alloc (.cells #[.slice NA names.length nc] 25) := ⟨_, rfl⟩
    have HW1 : Hid (Below w.heap.size w W) := Lib.hid (by rw [hW]; exact ((Below.refl _ w).alloc (Nat.le_refl _) _).alloc (by simp) _)
    have HWA : Hid (W.heap[w.heap.size]? = some (.cells #[.map (some bm)] 51 (0, 0))) := Lib.hid (by rw [hW]; exact blk_alloc (blk_new w _) _)
    have HWN : Hid (W.heap[w.heap.size + 1]? = some (.cells #[.slice NA names.length nc] 25 (0, 0))) := Lib.hid (by rw [hW]; have := blk_new (w.alloc (.cells #[.map (some bm)] 51)) (.cells #[.slice NA names.length nc] 25); simpa using this)
    rw [← hW]
    clear hW
    obtain ⟨ba, hba⟩ : ∃ ba, ba = w.heap.size := ⟨_, rfl⟩
    rw [← hba] at HWA HWN ⊢
    have HBA := Lib.hid hba
    clear hba
    have H9 : Hid (∀ W', Below W.heap.size W W' → W'.cell? ⟨ba, 0, none⟩ = some (.map (some bm)) ∧ (Instr.lookup 51 (.map (some bm)) (.int .i64 p) false).run Tryd.prog W' = .ok (.agg #[.int .i64 kd, .slice A n c]) W') :=
      Lib.hid (fun W' hb => ⟨blk_cell (blk_below HWA.out hb) 0, HLK.out W' (HB.out.trans ((HW1.out.trans (hb.mono HW1.out.size)).mono HB.out.size))⟩)
    have h9 := H9.out W.drew (Below.refl _ _).drew
    go_wp2_with fail
    go_region_held3 (fun W' => W'.cell? ⟨ba, 0, none⟩ = some (.map (some bm)) ∧ (Instr.lookup 51 (.map (some bm)) (.int .i64 p) false).run Tryd.prog W' = .ok (.agg #[.int .i64 kd, .slice A n c]) W')
      (first | exact h9 | exact H9.out _ ((Below.refl _ W).drew.alloc (Nat.le_refl _) _) | exact H9.out _ ((Below.refl _ W).alloc (Nat.le_refl _) _).drew)
      ((go_at_call 51; refine (placeOf_calls x hx0 hx1 _).mono ?_; rintro e w4 ⟨rfl, rfl⟩; rw [← HP.out]))
    all_goals
      clear h9
      have HVX : Hid (Below w.heap.size w (W.alloc (.cells #[.int .i64 kd, .slice A n c] 82)).drew) := Lib.hid ((HW1.out.alloc HW1.out.size _).drew)
      obtain ⟨W2, hW2⟩ : ∃ W2, W2 = (W.alloc (.cells #[.int .i64 kd, .slice A n c] 82)).drew := ⟨_, rfl⟩
      have c0 : W2.cell? ⟨W.heap.size, 0, none⟩ = some (.int .i64 kd) := by rw [hW2]; exact blk_cell (blk_drew (blk_new W _)) 0
      rw [← hW2] at HVX ⊢
      clear hW2
      go_wp2_with fail
      go_ret
      first
        | exact ViewPost.atom (t := procT) (T := 9) HAT.out (by kernel_rfl) (by decide +kernel) HVX.out
        | exact ViewPost.atom (t := boxT) (T := 9) HAT.out (by kernel_rfl) (by decide +kernel) HVX.out
end Go.Proofs.YtggkkgkjhfgipaaDoor
/- The program's viewOf: pairs. -/
namespace Go.Proofs.YtggkkgkjhfgipaaDoor
open Go.RowKit Go.Proofs.YtggkkgkjhfgipaaDoor.QFnExactShowWord Go.Proofs.YtggkkgkjhfgipaaDoorW.PrintWords Go.Proofs.YtggkkgkjhfgipaaDoorW.PrintLast Go.Proofs.YtggkkgkjhfgipaaDoorW.PrintMore
open Go.ChangeMaps (setBlock)
set_option linter.unusedVariables false
set_option linter.unusedSimpArgs false
set_option maxHeartbeats 2000000 in
set_option maxRecDepth 100000 in
theorem viewOf_pair {w0 : World} {ws : List Int} {top : Int} {L : List (Nat × Nat)} {es : List MapEntry} {bm : Nat} {names : List (List Int)} {NA : Option Addr} {nc : Nat} (h : Ctx w0 ws top L es bm names NA nc) (x kd : Int) (hw : wordF (isPlace L) x = true) (hx : InI64 x) (h4 : x % 4 = 1) (hk : ws.getD (x / 4).toNat 0 % 4 = kd) (w : World) (hB : Below w0.heap.size w0 w)
    (k0 : kd = 0) :
    Calls Tryd.prog 36 #[.int .i64 x, .map (some bm), .slice NA names.length nc] w (ViewPost ws names bm (.slice NA names.length nc) w0 x w) := by
  obtain ⟨h0, A, n, c, fs, ho⟩ := h.obj hw h4
  have HO := Lib.hid ho
  have HX := Lib.hid h
  have HB := Lib.hid hB
  have H4 := Lib.hid h4
  have HK := Lib.hid hk
  have hx1 := hx.2
  have hx0 : 1 ≤ x := by omega
  obtain ⟨p, hp⟩ : ∃ p, p = (x - 1) / 4 := ⟨_, rfl⟩
  have HLK : Hid (∀ W, Below w0.heap.size w0 W → (Instr.lookup 51 (.map (some bm)) (.int .i64 p) false).run Tryd.prog W = .ok (.agg #[.int .i64 kd, .slice A n c]) W) := Lib.hid (fun W hb => by rw [hp, ← hk]; exact h.look ho hb)
  have HP := Lib.hid hp
  have hb2 := HB.out.size
  subst k0
  have HAT : Hid (atomV ws names x = none) := Lib.hid (atom_none h4 (.inl hk))
  clear h hB h4 hx ho hk hp
  have hmf : ∀ (fn : Fn) (first cap : Array Value) (w : World), (Instr.makeFunc fn first cap).run Tryd.prog w = .ok (.func fn first cap) w := fun _ _ _ _ => rfl
  go_enter Tryd.func36, Tryd.ntmps36
  go_wp2_with fail
  refine (tagOf_calls x 1 H4.out _).mono ?_
  rintro e w1 ⟨rfl, rfl⟩
  obtain ⟨W, hW⟩ : ∃ W, W = (w.alloc (.cells #[.map (some bm)] 51)).alloc (.cells #[.slice NA names.length nc] 25) := ⟨_, rfl⟩
  have HW1 : Hid (Below w.heap.size w W) := Lib.hid (by rw [hW]; exact ((Below.refl _ w).alloc (Nat.le_refl _) _).alloc (by simp) _)
  have HWA : Hid (W.heap[w.heap.size]? = some (.cells #[.map (some bm)] 51 (0, 0))) := Lib.hid (by rw [hW]; exact blk_alloc (blk_new w _) _)
  have HWN : Hid (W.heap[w.heap.size + 1]? = some (.cells #[.slice NA names.length nc] 25 (0, 0))) := Lib.hid (by rw [hW]; have := blk_new (w.alloc (.cells #[.map (some bm)] 51)) (.cells #[.slice NA names.length nc] 25); simpa using this)
  rw [← hW]
  clear hW
  obtain ⟨ba, hba⟩ : ∃ ba, ba = w.heap.size := ⟨_, rfl⟩
  rw [← hba] at HWA HWN ⊢
  have HBA := Lib.hid hba
  clear hba
  have H9 : Hid (∀ W', Below W.heap.size W W' → W'.cell? ⟨ba, 0, none⟩ = some (.map (some bm)) ∧ (Instr.lookup 51 (.map (some bm)) (.int .i64 p) false).run Tryd.prog W' = .ok (.agg #[.int .i64 0, .slice A n c]) W') :=
    Lib.hid (fun W' hb => ⟨blk_cell (blk_below HWA.out hb) 0, HLK.out W' (HB.out.trans ((HW1.out.trans (hb.mono HW1.out.size)).mono HB.out.size))⟩)
  have h9 := H9.out W.drew (Below.refl _ _).drew
  go_wp2_with fail
  go_region_held3 (fun W' => W'.cell? ⟨ba, 0, none⟩ = some (.map (some bm)) ∧ (Instr.lookup 51 (.map (some bm)) (.int .i64 p) false).run Tryd.prog W' = .ok (.agg #[.int .i64 0, .slice A n c]) W')
    (first | exact h9 | exact H9.out _ ((Below.refl _ W).drew.alloc (Nat.le_refl _) _) | exact H9.out _ ((Below.refl _ W).alloc (Nat.le_refl _) _).drew)
    ((go_at_call 51; refine (placeOf_calls x hx0 hx1 _).mono ?_; rintro e w4 ⟨rfl, rfl⟩; rw [← HP.out]))
  all_goals
    clear h9
    have HVX : Hid (Below w.heap.size w (W.alloc (.cells #[.int .i64 0, .slice A n c] 82)).drew) := Lib.hid ((HW1.out.alloc HW1.out.size _).drew)
    obtain ⟨W2, hW2⟩ : ∃ W2, W2 = (W.alloc (.cells #[.int .i64 0, .slice A n c] 82)).drew := ⟨_, rfl⟩
    have c0 : W2.cell? ⟨W.heap.size, 0, none⟩ = some (.int .i64 0) := by rw [hW2]; exact blk_cell (blk_drew (blk_new W _)) 0
    have HO2 : Hid (W2.heap[W.heap.size]? = some (.cells #[.int .i64 0, .slice A n c] 82 (0, 0))) := Lib.hid (by rw [hW2]; exact blk_drew (blk_new W _))
    have HA2 : Hid (W2.heap[ba]? = some (.cells #[.map (some bm)] 51 (0, 0))) := Lib.hid (by rw [hW2]; exact blk_drew (blk_alloc HWA.out _))
    have HN2 : Hid (W2.heap[ba + 1]? = some (.cells #[.slice NA names.length nc] 25 (0, 0))) := Lib.hid (by rw [hW2]; exact blk_drew (blk_alloc HWN.out _))
    rw [← hW2] at HVX ⊢
    clear hW2
    obtain ⟨bo, hbo⟩ : ∃ bo, bo = W.heap.size := ⟨_, rfl⟩
    rw [← hbo] at c0 HO2 ⊢
    clear hbo HWA HWN H9
    go_wp2_with fail
    refine (part_calls 0 bo ba (ba + 1) W2).mono ?_
    rintro e w4 ⟨rfl, rfl⟩
    go_wp2_with fail
    refine (part_calls 1 bo ba (ba + 1) _).mono ?_
    rintro e w4 ⟨rfl, rfl⟩
    go_wp2_with fail
    go_ret
    refine ⟨_, rfl, ?_, (HVX.out.alloc HVX.out.size _).alloc (by have := HVX.out.size; simp; omega) _⟩
    unfold IsView
    rw [HAT.out]
    dsimp only
    rw [if_neg (by rw [HK.out]; decide)]
    have hn2 : n = 2 := HO.out.pair HK.out
    refine ⟨_, _, rfl, ⟨bo, W2.heap.size, ba, ba + 1, 0, n, c, A, 0, fs, rfl, blk_alloc (blk_alloc HO2.out _) _, blk_alloc (blk_new W2 _) _, blk_alloc (blk_alloc HA2.out _) _, blk_alloc (blk_alloc HN2.out _) _, by omega, HO.out.len, HO.out.row, HO.out.get 0 (by omega)⟩,
      ⟨bo, (W2.alloc (.cells #[.int .i64 0] 3)).heap.size, ba, ba + 1, 1, n, c, A, 0, fs, by simp, blk_alloc (blk_alloc HO2.out _) _, blk_new (W2.alloc (.cells #[.int .i64 0] 3)) _, blk_alloc (blk_alloc HA2.out _) _, blk_alloc (blk_alloc HN2.out _) _, by omega, HO.out.len, HO.out.row, HO.out.get 1 (by omega)⟩⟩
end Go.Proofs.YtggkkgkjhfgipaaDoor
/- The program's viewOf: vectors. -/
namespace Go.Proofs.YtggkkgkjhfgipaaDoor
open Go.RowKit Go.Proofs.YtggkkgkjhfgipaaDoor.QFnExactShowWord Go.Proofs.YtggkkgkjhfgipaaDoorW.PrintWords Go.Proofs.YtggkkgkjhfgipaaDoorW.PrintLast Go.Proofs.YtggkkgkjhfgipaaDoorW.PrintMore
open Go.ChangeMaps (setBlock)
set_option linter.unusedVariables false
set_option linter.unusedSimpArgs false
theorem viewInfo : (Tryd.prog.info? 98).map (fun i => (i.zero, i.size, i.bytes)) = some (some .nilFunc, 1, 8) := by kernel_rfl
/-- The parts of a vector's view: the first k are there. -/
def VSt (ws : List Int) (bm : Nat) (NV : Value) (w0 w : World) (p : Nat) (A : Option Addr) (n c bo ba bn bv B k : Nat) (wr : World) : Prop :=
  ∃ (sv : Value) (us : List Value), wr.heap[bv]? = some (.cells #[sv] 97 (0, 0)) ∧ wr.ownsRow B 98 1 sv us.length us ∧ us.length = k ∧ (∀ i, i < us.length → Part bm NV w0 wr (us.getD i undef) (fld ws p i)) ∧ Below w.heap.size w wr ∧
    wr.heap[bo]? = some (.cells #[.int .i64 1, .slice A n c] 82 (0, 0)) ∧ wr.heap[ba]? = some (.cells #[.map (some bm)] 51 (0, 0)) ∧ wr.heap[bn]? = some (.cells #[NV] 25 (0, 0)) ∧ B + 1 ≤ wr.heap.size ∧ B ≤ bv
/-- The parts of other kinds of blocks stand. -/
theorem Part.keepV {bm : Nat} {NV : Value} {w0 w w' : World} {v : Value} {x : Int} (h : Part bm NV w0 w v x) (k : ∀ (g : Nat) (cs : Array Value) (t : TypeId), w.heap[g]? = some (.cells cs t (0, 0)) → t ≠ 98 → t ≠ 97 → w'.heap[g]? = some (.cells cs t (0, 0))) : Part bm NV w0 w' v x := by
  obtain ⟨bo, bi, ba, bn, i, n, c, A, kd, fs, rfl, h1, h2, h3, h4, h5⟩ := h
  exact ⟨bo, bi, ba, bn, i, n, c, A, kd, fs, rfl, k _ _ _ h1 (by decide) (by decide), k _ _ _ h2 (by decide) (by decide), k _ _ _ h3 (by decide) (by decide), k _ _ _ h4 (by decide) (by decide), h5⟩
theorem own_below {w w' : World} {B e sz n : Nat} {v : Value} {xs : List Value} (h : w.ownsRow B e sz v n xs) (hb : Below w.heap.size w w') : w'.ownsRow B e sz v n xs :=
  h.kept (row := none) ⟨hb.os, hb.tape, hb.output, hb.size, fun k hk _ => hb.block k hk⟩ (by cases v.ownBlock <;> simp)
theorem vst_next {ws : List Int} {bm : Nat} {NV : Value} {w0 w wr : World} {x : Int} {A : Option Addr} {n c bo ba bn bv B k : Nat} {sv : Value} {us : List Value} {L : List (Nat × Nat)} {es : List MapEntry} {fs : List Int}
    (v1 : wr.heap[bv]? = some (.cells #[sv] 97 (0, 0))) (v2 : wr.ownsRow B 98 1 sv us.length us) (v3 : us.length = k) (v4 : ∀ i, i < us.length → Part bm NV w0 wr (us.getD i undef) (fld ws (x / 4).toNat i)) (v5 : Below w.heap.size w wr)
    (v6 : wr.heap[bo]? = some (.cells #[.int .i64 1, .slice A n c] 82 (0, 0))) (v7 : wr.heap[ba]? = some (.cells #[.map (some bm)] 51 (0, 0))) (v8 : wr.heap[bn]? = some (.cells #[NV] 25 (0, 0))) (v9 : B + 1 ≤ wr.heap.size) (v10 : B ≤ bv) (hk : k < n) (ho : ObjOf w0 ws L es x A n c fs) (hBw : w.heap.size ≤ B) :
    ∀ (W3 w1 : World) (s' : Value), Below wr.heap.size wr W3 → W3.heap[wr.heap.size]? = some (.cells #[.int .i64 (k : Int)] 3 (0, 0)) → W3.grownBy w1 sv.ownBlock → w1.ownsRow B 98 1 s' (us.length + 1) (us ++ [.func (.func 62) #[] #[.pointer (some ⟨bo, 0, none⟩), .pointer (some ⟨wr.heap.size, 0, none⟩), .pointer (some ⟨ba, 0, none⟩), .pointer (some ⟨bn, 0, none⟩)]]) →
      VSt ws bm NV w0 w (x / 4).toNat A n c bo ba bn bv B (k + 1) (w1.setCell ⟨bv, 0, none⟩ s') := by
  intro W3 w1 s' hb3 hi3 hg ho1
  have hne := Lib.ownBlock_ne v2 v1 (by decide)
  have hbv1 : w1.heap[bv]? = some (.cells #[sv] 97 (0, 0)) := blk_grown (blk_below v1 hb3) hg (fun e => hne e.symm)
  have hne1 := Lib.ownBlock_ne ho1 hbv1 (by decide)
  -- every block of another kind stands
  have key : ∀ (g : Nat) (cs : Array Value) (t : TypeId), W3.heap[g]? = some (.cells cs t (0, 0)) → t ≠ 98 → t ≠ 97 → (w1.setCell ⟨bv, 0, none⟩ s').heap[g]? = some (.cells cs t (0, 0)) := by
    intro g cs t hgc h1 h2
    have hgv : g ≠ bv := by
      rintro rfl
      rw [blk_below v1 hb3] at hgc
      cases hgc
      exact h2 rfl
    have hgo : some g ≠ sv.ownBlock := by
      intro e
      have v2' : W3.ownsRow B 98 1 sv us.length us := own_below v2 hb3
      rcases v2'.2 with ⟨e1, _⟩ | ⟨g', cap, cur, e1, _, hg', _⟩
      · rw [e1] at e; cases e
      · rw [e1] at e; simp only [Value.ownBlock, Option.some.injEq] at e; subst e
        rw [hg'] at hgc
        cases hgc
        exact h1 rfl
    exact (Below.heap_setCell _ _ _ g hgv).trans (blk_grown hgc hg hgo)
  have key2 : ∀ (g : Nat) (cs : Array Value) (t : TypeId), wr.heap[g]? = some (.cells cs t (0, 0)) → t ≠ 98 → t ≠ 97 → (w1.setCell ⟨bv, 0, none⟩ s').heap[g]? = some (.cells cs t (0, 0)) := fun g cs t h => key g cs t (blk_below h hb3)
  refine ⟨s', us ++ [(.func (.func 62) #[] #[.pointer (some ⟨bo, 0, none⟩), .pointer (some ⟨wr.heap.size, 0, none⟩), .pointer (some ⟨ba, 0, none⟩), .pointer (some ⟨bn, 0, none⟩)])], blk_put hbv1 0 _ rfl, ?_, by simp [v3], fun i hi => ?_, ?_, key2 _ _ _ v6 (by decide) (by decide), key2 _ _ _ v7 (by decide) (by decide), key2 _ _ _ v8 (by decide) (by decide), ?_, v10⟩
  · rw [List.length_append]
    exact ho1.kept (row := some bv) ⟨rfl, rfl, rfl, by simp [World.setCell], fun j _ hj => Below.heap_setCell _ _ _ _ (fun e => hj (by simp [e]))⟩ (Or.inr hne1)
  · by_cases hlt : i < us.length
    · rw [List.getD_eq_getElem?_getD, List.getElem?_append_left hlt, ← List.getD_eq_getElem?_getD]
      exact (v4 i hlt).keepV key2
    · have hik : i = us.length := by simp at hi; omega
      subst hik
      rw [List.getD_eq_getElem?_getD, List.getElem?_append_right (Nat.le_refl _), Nat.sub_self]
      exact ⟨bo, wr.heap.size, ba, bn, us.length, n, c, A, 1, fs, rfl, key2 _ _ _ v6 (by decide) (by decide), by rw [v3]; exact key _ _ _ hi3 (by decide) (by decide), key2 _ _ _ v7 (by decide) (by decide), key2 _ _ _ v8 (by decide) (by decide), by omega, ho.len, ho.row, ho.get _ (by omega)⟩
  · exact ((v5.trans (hb3.mono v5.size)).grown hg (by have := v5.size; have := hb3.size; omega) (fun g e => by have := v2.lt g e; omega)).setCell (by show w.heap.size ≤ bv; omega) _
  · have := hb3.size
    have := hg.size
    simp [World.setCell]
    omega
set_option maxHeartbeats 2000000 in
set_option maxRecDepth 100000 in
theorem viewOf_vec {w0 : World} {ws : List Int} {top : Int} {L : List (Nat × Nat)} {es : List MapEntry} {bm : Nat} {names : List (List Int)} {NA : Option Addr} {nc : Nat} (h : Ctx w0 ws top L es bm names NA nc) (x kd : Int) (hw : wordF (isPlace L) x = true) (hx : InI64 x) (h4 : x % 4 = 1) (hk : ws.getD (x / 4).toNat 0 % 4 = kd) (w : World) (hB : Below w0.heap.size w0 w)
    (k0 : kd = 1) :
    Calls Tryd.prog 36 #[.int .i64 x, .map (some bm), .slice NA names.length nc] w (ViewPost ws names bm (.slice NA names.length nc) w0 x w) := by
  obtain ⟨h0, A, n, c, fs, ho⟩ := h.obj hw h4
  have HO := Lib.hid ho
  have HX := Lib.hid h
  have HB := Lib.hid hB
  have H4 := Lib.hid h4
  have HK := Lib.hid hk
  have hx1 := hx.2
  have hx0 : 1 ≤ x := by omega
  obtain ⟨p, hp⟩ : ∃ p, p = (x - 1) / 4 := ⟨_, rfl⟩
  have HLK : Hid (∀ W, Below w0.heap.size w0 W → (Instr.lookup 51 (.map (some bm)) (.int .i64 p) false).run Tryd.prog W = .ok (.agg #[.int .i64 kd, .slice A n c]) W) := Lib.hid (fun W hb => by rw [hp, ← hk]; exact h.look ho hb)
  have HP := Lib.hid hp
  have hb2 := HB.out.size
  subst k0
  have HAT : Hid (atomV ws names x = none) := Lib.hid (atom_none h4 (.inr hk))
  clear h hB h4 hx ho hk hp
  have hmf : ∀ (fn : Fn) (first cap : Array Value) (w : World), (Instr.makeFunc fn first cap).run Tryd.prog w = .ok (.func fn first cap) w := fun _ _ _ _ => rfl
  go_enter Tryd.func36, Tryd.ntmps36
  go_wp2_with fail
  refine (tagOf_calls x 1 H4.out _).mono ?_
  rintro e w1 ⟨rfl, rfl⟩
  obtain ⟨W, hW⟩ : ∃ W, W = (w.alloc (.cells #[.map (some bm)] 51)).alloc (.cells #[.slice NA names.length nc] 25) := ⟨_, rfl⟩
  have HW1 : Hid (Below w.heap.size w W) := Lib.hid (by rw [hW]; exact ((Below.refl _ w).alloc (Nat.le_refl _) _).alloc (by simp) _)
  have HWA : Hid (W.heap[w.heap.size]? = some (.cells #[.map (some bm)] 51 (0, 0))) := Lib.hid (by rw [hW]; exact blk_alloc (blk_new w _) _)
  have HWN : Hid (W.heap[w.heap.size + 1]? = some (.cells #[.slice NA names.length nc] 25 (0, 0))) := Lib.hid (by rw [hW]; have := blk_new (w.alloc (.cells #[.map (some bm)] 51)) (.cells #[.slice NA names.length nc] 25); simpa using this)
  rw [← hW]
  clear hW
  obtain ⟨ba, hba⟩ : ∃ ba, ba = w.heap.size := ⟨_, rfl⟩
  rw [← hba] at HWA HWN ⊢
  have HBA := Lib.hid hba
  clear hba
  have H9 : Hid (∀ W', Below W.heap.size W W' → W'.cell? ⟨ba, 0, none⟩ = some (.map (some bm)) ∧ (Instr.lookup 51 (.map (some bm)) (.int .i64 p) false).run Tryd.prog W' = .ok (.agg #[.int .i64 1, .slice A n c]) W') :=
    Lib.hid (fun W' hb => ⟨blk_cell (blk_below HWA.out hb) 0, HLK.out W' (HB.out.trans ((HW1.out.trans (hb.mono HW1.out.size)).mono HB.out.size))⟩)
  have h9 := H9.out W.drew (Below.refl _ _).drew
  go_wp2_with fail
  go_region_held3 (fun W' => W'.cell? ⟨ba, 0, none⟩ = some (.map (some bm)) ∧ (Instr.lookup 51 (.map (some bm)) (.int .i64 p) false).run Tryd.prog W' = .ok (.agg #[.int .i64 1, .slice A n c]) W')
    (first | exact h9 | exact H9.out _ ((Below.refl _ W).drew.alloc (Nat.le_refl _) _) | exact H9.out _ ((Below.refl _ W).alloc (Nat.le_refl _) _).drew)
    ((go_at_call 51; refine (placeOf_calls x hx0 hx1 _).mono ?_; rintro e w4 ⟨rfl, rfl⟩; rw [← HP.out]))
  all_goals
    clear h9
    have HVX : Hid (Below w.heap.size w (W.alloc (.cells #[.int .i64 1, .slice A n c] 82)).drew) := Lib.hid ((HW1.out.alloc HW1.out.size _).drew)
    obtain ⟨W2, hW2⟩ : ∃ W2, W2 = (W.alloc (.cells #[.int .i64 1, .slice A n c] 82)).drew := ⟨_, rfl⟩
    have c0 : W2.cell? ⟨W.heap.size, 0, none⟩ = some (.int .i64 1) := by rw [hW2]; exact blk_cell (blk_drew (blk_new W _)) 0
    have HO2 : Hid (W2.heap[W.heap.size]? = some (.cells #[.int .i64 1, .slice A n c] 82 (0, 0))) := Lib.hid (by rw [hW2]; exact blk_drew (blk_new W _))
    have HA2 : Hid (W2.heap[ba]? = some (.cells #[.map (some bm)] 51 (0, 0))) := Lib.hid (by rw [hW2]; exact blk_drew (blk_alloc HWA.out _))
    have HN2 : Hid (W2.heap[ba + 1]? = some (.cells #[.slice NA names.length nc] 25 (0, 0))) := Lib.hid (by rw [hW2]; exact blk_drew (blk_alloc HWN.out _))
    rw [← hW2] at HVX ⊢
    clear hW2
    obtain ⟨bo, hbo⟩ : ∃ bo, bo = W.heap.size := ⟨_, rfl⟩
    rw [← hbo] at c0 HO2 ⊢
    clear hbo HWA HWN H9
    have hn1 : n ≤ 1000 := HO.out.le
    have c1 : W2.cell? ⟨bo, 1, none⟩ = some (.slice A n c) := blk_cell HO2.out 1
    have hbl : bo < W2.heap.size := blk_lt HO2.out
    obtain ⟨i0, hi, hz0, hz1, hz2⟩ := info_parts viewInfo
    go_wp2_with fail
    obtain ⟨bv, hbv⟩ : ∃ bv, bv = W2.heap.size := ⟨_, rfl⟩
    have HVS : Hid (VSt ws bm (.slice NA names.length nc) w0 w (x / 4).toNat A n c bo ba (ba + 1) bv W2.heap.size 0 (W2.alloc (.cells #[.slice none 0 0] 97))) :=
      Lib.hid ⟨.slice none 0 0, [], by rw [hbv]; exact blk_new W2 _, World.ownsRow_nil _ _ _ _, rfl, fun i hi => by simp at hi, HVX.out.alloc HVX.out.size _, blk_alloc HO2.out _, blk_alloc HA2.out _, blk_alloc HN2.out _, by simp [hbv], by omega⟩
    rw [← hbv]
    have HB2 : Hid (w.heap.size ≤ W2.heap.size) := Lib.hid HVX.out.size
    clear hbv c0 c1 HO2 HA2 HN2
    go_loopw [54] (fun v wr => ∃ k : Nat, k ≤ n ∧ v = .int .i64 k ∧ Hid (VSt ws bm (.slice NA names.length nc) w0 w (x / 4).toNat A n c bo ba (ba + 1) bv W2.heap.size k wr)) (fun v _ => n - (intOf v).toNat)
    case atStart => exact ⟨0, Nat.zero_le _, rfl, HVS⟩
    case round =>
      clear HVS
      obtain ⟨k, hk, rfl, HVS⟩ := hrel
      by_cases hlt : k < n
      · obtain ⟨sv, us, v1, v2, v3, v4, v5, v6, v7, v8, v9, v10⟩ := HVS.out
        have e0 : wr.cell? ⟨bv, 0, none⟩ = some sv := blk_cell v1 0
        have H9 : Hid (∀ W', Below wr.heap.size wr W' → W'.cell? ⟨bv, 0, none⟩ = some sv ∧ W'.frozen? ⟨bv, 0, none⟩ = false) := Lib.hid (fun W' hb => ⟨blk_cell (blk_below v1 hb) 0, blk_frozen (blk_below v1 hb) 0⟩)
        have hne := Lib.ownBlock_ne v2 v1 (by decide)
        have H8 : Hid (∀ W3 W', Below wr.heap.size wr W3 → W3.grownBy W' sv.ownBlock → W'.heap[bv]? = some (.cells #[sv] 97 (0, 0))) := Lib.hid (fun W3 W' hb hg => blk_grown (blk_below v1 hb) hg (fun e => hne e.symm))
        have H7 : Hid (∀ W3 W', Below wr.heap.size wr W3 → W3.grownBy W' sv.ownBlock → W'.cell? ⟨bv, 0, none⟩ = some sv ∧ W'.frozen? ⟨bv, 0, none⟩ = false) := Lib.hid (fun W3 W' hb hg => ⟨blk_cell (H8.out W3 W' hb hg) 0, blk_frozen (H8.out W3 W' hb hg) 0⟩)
        clear hne
        have HOW := Lib.hid v2
        have HUL := Lib.hid v3
        have hul : us.length ≤ 1000 := by omega
        have hwl : W2.heap.size ≤ wr.heap.size := by omega
        have hbv : bv < wr.heap.size := blk_lt v1
        have HNW : Hid (∀ (j : Nat) (u : Value), ([(.func (.func 62) #[] #[.pointer (some ⟨bo, 0, none⟩), .pointer (some ⟨wr.heap.size, 0, none⟩), .pointer (some ⟨ba, 0, none⟩), .pointer (some ⟨ba + 1, 0, none⟩)])] : List Value)[j]? = some u → ((wr.drew.alloc (.cells #[.int .i64 (k : Int)] 3)).alloc (.cells #[(.func (.func 62) #[] #[.pointer (some ⟨bo, 0, none⟩), .pointer (some ⟨wr.heap.size, 0, none⟩), .pointer (some ⟨ba, 0, none⟩), .pointer (some ⟨ba + 1, 0, none⟩)])] 98)).cell? ((⟨wr.heap.size + 1, 0, none⟩ : Addr).add j) = some u) :=
          Lib.hid (World.news_of_block (cs := #[(.func (.func 62) #[] #[.pointer (some ⟨bo, 0, none⟩), .pointer (some ⟨wr.heap.size, 0, none⟩), .pointer (some ⟨ba, 0, none⟩), .pointer (some ⟨ba + 1, 0, none⟩)])]) (t := 98) (fr := (0, 0)) (by have := heap_alloc_new (wr.drew.alloc (.cells #[.int .i64 (k : Int)] 3)) (.cells #[(.func (.func 62) #[] #[.pointer (some ⟨bo, 0, none⟩), .pointer (some ⟨wr.heap.size, 0, none⟩), .pointer (some ⟨ba, 0, none⟩), .pointer (some ⟨ba + 1, 0, none⟩)])] 98); simpa using this))
        have HVN := Lib.hid (vst_next v1 v2 v3 v4 v5 v6 v7 v8 v9 v10 hlt HO.out HB2.out)
        clear v1 v2 v3 v4 v5 v6 v7 v8 v9 v10
        go_wp2_with fail
        go_region_law
          (first
            | (refine step_append_lies _ (by rfl) _ _ _ (by rfl) W2.heap.size 98 i0 _ 1 8 Tryd.underlying95 hi hz0 hz1 hz2 rfl (by omega) sv us.length us (by rfl) (((HOW.out.drew).alloc _).alloc _)
                ⟨wr.heap.size + 1, 0, none⟩ 1 1 [.func (.func 62) #[] #[.pointer (some ⟨bo, 0, none⟩), .pointer (some ⟨wr.heap.size, 0, none⟩), .pointer (some ⟨ba, 0, none⟩), .pointer (some ⟨ba + 1, 0, none⟩)]] (by rfl) (by rfl) (fun j u hj => HNW.out j u hj) (by simp [Value.oneCell'])
                (by omega) (by unfold maxLen; omega) (by omega) (by simp; omega) (wr.heap.size + 1 + 1) (by simp) ?_; intro gg cap w1 hown1 hgrow hat hlt1; obtain ⟨h5, h6⟩ := H7.out _ _ (((Below.refl _ wr).drew.alloc (Nat.le_refl _) _).alloc (by simp) _) hgrow)
            | (go_simp; go_at_call 61; refine (part_calls (k : Int) bo ba (ba + 1) _).mono ?_; rintro e w4 ⟨rfl, rfl⟩))
        all_goals
          have HN : Hid (VSt ws bm (.slice NA names.length nc) w0 w (x / 4).toNat A n c bo ba (ba + 1) bv W2.heap.size (k + 1) (w1.setCell ⟨bv, 0, none⟩ (.slice (some ⟨gg, 0, none⟩) (us.length + 1) cap))) :=
            Lib.hid (HVN.out _ _ _ (((Below.refl _ wr).drew.alloc (Nat.le_refl _) _).alloc (by simp) _) (blk_alloc (blk_new wr.drew _) _) hgrow hown1)
          clear hown1 hgrow hat hlt1 h5 h6 e0
          go_wp2_with fail
          go_roundw
          case rel => exact ⟨k + 1, by omega, by go_num, HN⟩
          case measure => simp [intOf]; omega
      · have hkn : k = n := by omega
        subst hkn
        obtain ⟨sv, us, v1, v2, v3, v4, v5, v6, v7, v8, v9, v10⟩ := HVS.out
        have e0 : wr.cell? ⟨bv, 0, none⟩ = some sv := blk_cell v1 0
        have HVI : Hid (IsView ws names bm (.slice NA names.length nc) w0 wr (.iface 97 (.agg #[sv])) x) := by
          refine Lib.hid ?_
          unfold IsView
          rw [HAT.out]
          dsimp only
          rw [if_pos HK.out]
          refine ⟨sv, us, rfl, ⟨v2.1, ?_⟩, v3.trans HO.out.size, v4⟩
          rcases v2.2 with h | ⟨g, cap, cur, e1, hb, r⟩
          · exact .inl h
          · exact .inr ⟨g, cap, cur, e1, Nat.zero_le _, r⟩
        have HB5 := Lib.hid v5
        clear v1 v2 v3 v4 v5 v6 v7 v8 v9 v10
        go_wp2_with fail
        go_ret
        exact ⟨_, rfl, HVI.out, HB5.out⟩
end Go.Proofs.YtggkkgkjhfgipaaDoor
/- The program's viewOf at any valid word; a part that is asked for. -/
namespace Go.Proofs.YtggkkgkjhfgipaaDoor
open Go.RowKit Go.Proofs.YtggkkgkjhfgipaaDoor.QFnExactShowWord Go.Proofs.YtggkkgkjhfgipaaDoorW.PrintWords Go.Proofs.YtggkkgkjhfgipaaDoorW.PrintLast Go.Proofs.YtggkkgkjhfgipaaDoorW.PrintMore
open Go.ChangeMaps (setBlock)
set_option linter.unusedVariables false
set_option linter.unusedSimpArgs false
theorem viewOf_any {w0 : World} {ws : List Int} {top : Int} {L : List (Nat × Nat)} {es : List MapEntry} {bm : Nat} {names : List (List Int)} {NA : Option Addr} {nc : Nat} (h : Ctx w0 ws top L es bm names NA nc) (x : Int) (hw : wordF (isPlace L) x = true) (hx : InI64 x) (w : World) (hB : Below w0.heap.size w0 w) :
    Calls Tryd.prog 36 #[.int .i64 x, .map (some bm), .slice NA names.length nc] w (ViewPost ws names bm (.slice NA names.length nc) w0 x w) := by
  have hc : x % 4 = 0 ∨ x % 4 = 1 ∨ x % 4 = 2 ∨ x % 4 = 3 := by omega
  rcases hc with h4 | h4 | h4 | h4
  · exact viewOf_int h x hx h4 w hB
  · have hk : ws.getD (x / 4).toNat 0 % 4 = 0 ∨ ws.getD (x / 4).toNat 0 % 4 = 1 ∨ ws.getD (x / 4).toNat 0 % 4 = 2 ∨ ws.getD (x / 4).toNat 0 % 4 = 3 := by omega
    rcases hk with hk | hk | hk | hk
    · exact viewOf_pair h x 0 hw hx h4 hk w hB rfl
    · exact viewOf_vec h x 1 hw hx h4 hk w hB rfl
    · exact viewOf_flat h x 2 hw hx h4 hk w hB true (by decide) (by decide) (by decide)
    · exact viewOf_flat h x 3 hw hx h4 hk w hB false (by decide) (by decide) (by decide)
  · have h0 : 0 ≤ x := by
      unfold wordF at hw
      rw [if_neg (by omega), if_neg (by omega), if_pos h4] at hw
      simpa using hw
    exact viewOf_sym h x hx h0 h4 w hB
  · have hr : x = 3 ∨ x = 7 ∨ x = 11 ∨ x = 15 ∨ x = 19 := by
      unfold wordF at hw
      rw [if_neg (by omega), if_neg (by omega), if_neg (by omega)] at hw
      simp only [Bool.or_eq_true, beq_iff_eq] at hw
      omega
    rcases hr with rfl | rfl | rfl | rfl | rfl
    · exact viewOf_rare h 3 0 (by omega) (by omega) w hB
    · exact viewOf_rare h 7 1 (by omega) (by omega) w hB
    · exact viewOf_rare h 11 2 (by omega) (by omega) w hB
    · exact viewOf_rare h 15 3 (by omega) (by omega) w hB
    · exact viewOf_rare h 19 4 (by omega) (by omega) w hB
set_option maxRecDepth 100000 in
/-- A part, asked for. -/
theorem thunk_calls {w0 : World} {ws : List Int} {top : Int} {L : List (Nat × Nat)} {es : List MapEntry} {bm : Nat} {names : List (List Int)} {NA : Option Addr} {nc : Nat} (h : Ctx w0 ws top L es bm names NA nc) (x : Int) (hw : wordF (isPlace L) x = true) (hx : InI64 x) (w : World) (hB : Below w0.heap.size w0 w) (bo bi ba bn i n c : Nat) (A : Option Addr) (kd : Int) (fs : List Int)
    (h1 : w.heap[bo]? = some (.cells #[.int .i64 kd, .slice A n c] 82 (0, 0))) (h2 : w.heap[bi]? = some (.cells #[.int .i64 (i : Int)] 3 (0, 0))) (h3 : w.heap[ba]? = some (.cells #[.map (some bm)] 51 (0, 0))) (h4 : w.heap[bn]? = some (.cells #[.slice NA names.length nc] 25 (0, 0)))
    (h5 : i < n) (h6 : fs.length = n) (h7 : Kd.C (Kd.int .i64) w0 A n fs) (h8 : fs.getD i 0 = x) :
    Calls Tryd.prog 62 #[.pointer (some ⟨bo, 0, none⟩), .pointer (some ⟨bi, 0, none⟩), .pointer (some ⟨ba, 0, none⟩), .pointer (some ⟨bn, 0, none⟩)] w (ViewPost ws names bm (.slice NA names.length nc) w0 x w) := by
  obtain ⟨ad, ha, hcell⟩ := Kd.at_int h7 (i : Int) (by omega) (by omega)
  rw [Int.toNat_natCast] at hcell
  have hcx : w.cell? (ad.add i) = some (.int .i64 x) := by
    rw [← h8]
    exact (hB.cell (World.block_lt_of_cell? w0 _ hcell)).trans hcell
  cases ha
  have c0 : w.cell? ⟨bo, 1, none⟩ = some (.slice (some ad) n c) := blk_cell h1 1
  have c1 : w.cell? ⟨bi, 0, none⟩ = some (.int .i64 (i : Int)) := blk_cell h2 0
  have c2 : w.cell? ⟨ba, 0, none⟩ = some (.map (some bm)) := blk_cell h3 0
  have c3 : w.cell? ⟨bn, 0, none⟩ = some (.slice NA names.length nc) := blk_cell h4 0
  have HV := Lib.hid (fun W hb => viewOf_any h x hw hx W hb)
  have HB := Lib.hid hB
  have hi0 : (0 : Int) ≤ (i : Int) := by omega
  have hi1 : (i : Int) < (n : Int) := by omega
  clear h hB h1 h2 h3 h4 h6 h7 h8 hcell hw hx
  go_enter Tryd.func62, Tryd.ntmps62
  go_wp2_with fail
  go_still_tail 7, (by kernel_rfl)
  change wpList _ _ _ _ _ w.drew
  go_wp2_with fail
  refine (HV.out _ HB.out.drew).mono ?_
  rintro e w1 ⟨v, rfl, hv, hb1⟩
  have HV1 := Lib.hid hv
  have HB1 : Hid (Below w.heap.size w w1) := Lib.hid ((Below.refl _ w).drew.trans hb1)
  clear hv hb1
  go_wp2_with fail
  go_ret
  exact ⟨v, rfl, HV1.out, HB1.out⟩
end Go.Proofs.YtggkkgkjhfgipaaDoor
/- The shower's value at words that show as one text. -/
namespace Go.Proofs.YtggkkgkjhfgipaaDoor
open Go.RowKit Go.Proofs.YtggkkgkjhfgipaaDoor.QFnExactShowWord Go.Proofs.YtggkkgkjhfgipaaDoorW.PrintWords Go.Proofs.YtggkkgkjhfgipaaDoorW.PrintLast Go.Proofs.YtggkkgkjhfgipaaDoorW.PrintMore
open Go.ChangeMaps (setBlock)
set_option linter.unusedVariables false
set_option linter.unusedSimpArgs false
/-- The shower holds o, in a world behind w. -/
structure Held (w0 : World) (B b : Nat) (o : List Int) (w w' : World) : Prop where
  shw : Shw B b (cel o) w'
  below : Below B w w'
  kp : Kp w w'
  base : Below w0.heap.size w0 w'
  size : B ≤ w'.heap.size
theorem Held.refl {w0 w : World} {B b : Nat} {o : List Int} (h : Shw B b (cel o) w) (hb : Below w0.heap.size w0 w) (hs : B ≤ w.heap.size) : Held w0 B b o w w := ⟨h, Below.refl _ _, Kp.refl _, hb, hs⟩
theorem Held.blk {w0 w w' : World} {B b : Nat} {o : List Int} (h : Held w0 B b o w w') : ∃ v, w'.heap[b]? = some (.cells #[v] 89 (0, 0)) := by
  obtain ⟨_, v, h1, _⟩ := h.shw
  exact ⟨v, h1⟩
theorem shw_below {B b : Nat} {bs : List Value} {w w' : World} (h : Shw B b bs w) (hb : Below w.heap.size w w') : Shw B b bs w' := by
  obtain ⟨hB, v, h1, h2, h3⟩ := h
  exact ⟨hB, v, blk_below h1 hb, h2.kept (row := none) ⟨hb.os, hb.tape, hb.output, hb.size, fun k hk _ => hb.block k hk⟩ (by cases v.ownBlock <;> simp), h3⟩
/-- New blocks alone. -/
theorem Held.more {w0 w w1 w2 : World} {B b : Nat} {o : List Int} (h : Held w0 B b o w w1) (hb : Below w1.heap.size w1 w2) : Held w0 B b o w w2 :=
  ⟨shw_below h.shw hb, h.below.trans (hb.mono h.size), h.kp.trans (Kp.of_below hb), h.base.trans (hb.mono h.base.size), Nat.le_trans h.size hb.size⟩
theorem Held.trans {w0 w w1 w2 : World} {B b : Nat} {o o' : List Int} (h : Held w0 B b o w w1) (h2 : Held w0 B b o' w1 w2) : Held w0 B b o' w w2 :=
  ⟨h2.shw, h.below.trans h2.below, h.kp.trans h2.kp, h2.base, h2.size⟩
/-- What writes: it comes to fin, or stops with a first part of it that is long enough. -/
def Wrote (w0 : World) (B b : Nat) (fin : List Int) (w : World) (e : Ending) (w' : World) : Prop :=
  ∃ o, Held w0 B b o w w' ∧ ((e = .returned (.tuple #[]) ∧ o = fin ∧ o.length < 1000) ∨ (e = .panicked enoughs ∧ o <+: fin ∧ 1000 ≤ o.length))
theorem Wrote.fin {w0 w w' : World} {B b : Nat} {fin : List Int} (h : Held w0 B b fin w w') (hl : fin.length < 1000) : Wrote w0 B b fin w (.returned (.tuple #[])) w' := ⟨fin, h, .inl ⟨rfl, rfl, hl⟩⟩
theorem Wrote.stop {w0 w w' : World} {B b : Nat} {o fin : List Int} (h : Held w0 B b o w w') (hp : o <+: fin) (hl : 1000 ≤ o.length) : Wrote w0 B b fin w (.panicked enoughs) w' := ⟨o, h, .inr ⟨rfl, hp, hl⟩⟩
theorem say_text {w0 w v : World} {B b : Nat} {o t : List Int} {s : ByteArray} (hs : Lib.strCells s = cel t) (hl : s.size ≤ 1099511627780) (h : Held w0 B b o v w) (hlo : o.length < 1000) (hw : w0.heap.size ≤ B) :
    Calls Tryd.prog 58 #[.pointer (some ⟨b, 0, none⟩), .string s] w fun e w' => Held w0 B b (o ++ t) v w' ∧ ((e = .returned (.tuple #[]) ∧ (o ++ t).length < 1000) ∨ (e = .panicked enoughs ∧ 1000 ≤ (o ++ t).length)) := by
  have hsz : s.size = t.length := by rw [← Lib.strCells_length s, hs, cel_length]
  refine (say_any B b (cel o) s w h.shw (by rw [cel_length]; omega) h.size).mono ?_
  rintro e w' ⟨he, h1, h2, h3⟩
  rw [hs, ← cel_append] at h1
  obtain ⟨u, hu⟩ := h.blk
  refine ⟨⟨h1, h.below.trans h2, h.kp.trans (Kp.of_oth h3 hu), h.base.trans (h2.mono hw), Nat.le_trans h.size h2.size⟩, ?_⟩
  rw [cel_length, hsz, ← List.length_append] at he
  split at he
  · rename_i hlt; exact .inl ⟨he, hlt⟩
  · rename_i hge; exact .inr ⟨he, by omega⟩
theorem showW_atom {ws : List Int} {names : List (List Int)} {x : Int} {T : Nat} {t out : List Int} {k : Nat} (ha : atomV ws names x = some (T, t)) (hl : out.length < 1000) : showW ws names (k + 1) x out = out ++ t := by
  unfold showW
  unfold atomV at ha
  rw [if_neg (by omega)]
  split at ha
  · rename_i h; rw [if_pos h]; cases ha; rfl
  · rename_i h; rw [if_neg h]
    split at ha
    · rename_i h; rw [if_pos h]; cases ha; rfl
    · rename_i h; rw [if_neg h]
      split at ha
      · rename_i h; rw [if_pos h]; cases ha; rfl
      · rename_i h; rw [if_neg h]
        split at ha
        · rename_i h; rw [if_pos h]; cases ha; rfl
        · rename_i h; rw [if_neg h]
          split at ha
          · rename_i h; rw [if_pos h]; cases ha; rfl
          · cases ha
theorem atom_type {ws : List Int} {names : List (List Int)} {x : Int} {T : Nat} {t : List Int} (ha : atomV ws names x = some (T, t)) : T = 9 ∨ T = 94 := by
  unfold atomV at ha
  repeat (split at ha; · (cases ha; first | exact .inl rfl | exact .inr rfl))
  cases ha
/-! ### which of the views -/
theorem assert_hit {P : Program} {T X : TypeId} {d : TypeDesc} (hu : P.underlying T = some d) (hd : ∀ i, d ≠ .interface i) (v : Value) (w : World) : (Instr.typeAssert (.iface T v) X T true).run P w = .ok (.tuple #[v, .bool true]) w := by
  unfold Instr.typeAssert
  cases d <;> simp [run_underlying hu, Result.andThen] at hd ⊢
theorem assert_miss {P : Program} {T X t : TypeId} {d : TypeDesc} {z : Value} (hu : P.underlying T = some d) (hd : ∀ i, d ≠ .interface i) (ht : t ≠ T) (v : Value) (w : World) (hz : (zeroValue T).run P w = .ok z w) : (Instr.typeAssert (.iface t v) X T true).run P w = .ok (.tuple #[z, .bool false]) w := by
  unfold Instr.typeAssert
  cases d <;> simp [run_underlying hu, Result.andThen, ht, hz] at hd ⊢
theorem is_str (v : Value) (w : World) : (Instr.typeAssert (.iface 9 v) 57 9 true).run Tryd.prog w = .ok (.tuple #[v, .bool true]) w := assert_hit Tryd.underlying9 (by intro i h; cases h) v w
theorem no_str (t : TypeId) (ht : t ≠ 9) (v : Value) (w : World) : (Instr.typeAssert (.iface t v) 57 9 true).run Tryd.prog w = .ok (.tuple #[.string ⟨#[]⟩, .bool false]) w := assert_miss Tryd.underlying9 (by intro i h; cases h) ht v w (by kernel_rfl)
theorem is_sym (v : Value) (w : World) : (Instr.typeAssert (.iface 94 v) 57 94 true).run Tryd.prog w = .ok (.tuple #[v, .bool true]) w := assert_hit Tryd.underlying94 (by intro i h; cases h) v w
theorem no_sym (t : TypeId) (ht : t ≠ 94) (v : Value) (w : World) : (Instr.typeAssert (.iface t v) 57 94 true).run Tryd.prog w = .ok (.tuple #[.string ⟨#[]⟩, .bool false]) w := assert_miss Tryd.underlying94 (by intro i h; cases h) ht v w (by kernel_rfl)
theorem is_vec (v : Value) (w : World) : (Instr.typeAssert (.iface 97 v) 57 97 true).run Tryd.prog w = .ok (.tuple #[v, .bool true]) w := assert_hit Tryd.underlying97 (by intro i h; cases h) v w
theorem no_vec (t : TypeId) (ht : t ≠ 97) (v : Value) (w : World) : (Instr.typeAssert (.iface t v) 57 97 true).run Tryd.prog w = .ok (.tuple #[.agg #[.slice none 0 0], .bool false]) w := assert_miss Tryd.underlying97 (by intro i h; cases h) ht v w (by kernel_rfl)
theorem is_pair (v : Value) (w : World) : (Instr.typeAssert (.iface 100 v) 57 100 true).run Tryd.prog w = .ok (.tuple #[v, .bool true]) w := assert_hit Tryd.underlying100 (by intro i h; cases h) v w
theorem no_pair (t : TypeId) (ht : t ≠ 100) (v : Value) (w : World) : (Instr.typeAssert (.iface t v) 57 100 true).run Tryd.prog w = .ok (.tuple #[.agg #[.nilFunc, .nilFunc], .bool false]) w := assert_miss Tryd.underlying100 (by intro i h; cases h) ht v w (by kernel_rfl)
set_option maxHeartbeats 1000000 in
set_option maxRecDepth 100000 in
theorem value_atom {w0 w : World} {B b : Nat} {out t : List Int} {T : Nat} {v : Value} (hT : T = 9 ∨ T = 94) (hv : AtomIs T t v) (h : Held w0 B b out w w) (hlo : out.length < 1000) (hw : w0.heap.size ≤ B) :
    Calls Tryd.prog 35 #[.pointer (some ⟨b, 0, none⟩), v] w (Wrote w0 B b (out ++ t) w) := by
  obtain ⟨s, rfl, hs, hl⟩ := hv
  have HS := Lib.hid (say_text hs hl h hlo hw)
  clear hs h
  have a1 := is_str
  have a2 := is_sym
  have a3 := no_str 94 (by decide)
  rcases hT with rfl | rfl
  all_goals
    go_enter Tryd.func35, Tryd.ntmps35
    go_wp2_with fail
    refine HS.out.mono ?_
    rintro e w1 ⟨hh, ⟨rfl, hl1⟩ | ⟨rfl, hl1⟩⟩
    · have HH := Lib.hid hh
      clear hh
      go_wp2_with fail
      go_end0
      exact Wrote.fin HH.out hl1
    · have HH := Lib.hid hh
      clear hh
      go_wp2_with fail
      exact ⟨rfl, Wrote.stop HH.out (List.prefix_refl _) hl1⟩
end Go.Proofs.YtggkkgkjhfgipaaDoor
/- The shower's value at pairs. -/
namespace Go.Proofs.YtggkkgkjhfgipaaDoor
open Go.RowKit Go.Proofs.YtggkkgkjhfgipaaDoor.QFnExactShowWord Go.Proofs.YtggkkgkjhfgipaaDoorW.PrintWords Go.Proofs.YtggkkgkjhfgipaaDoorW.PrintLast Go.Proofs.YtggkkgkjhfgipaaDoorW.PrintMore
open Go.ChangeMaps (setBlock)
set_option linter.unusedVariables false
set_option linter.unusedSimpArgs false
/-- 'x != y' of two interface values of different types. -/
theorem neq_types {P : Program} {ti : TypeId} {ms : Array (String × TypeId)} (tx ty : TypeId) (vx vy : Value) (hi : P.underlying ti = some (.interface ms)) (hne : tx ≠ ty) (w : World) :
    (binOp .neq ti (.iface tx vx) (.iface ty vy)).run P w = .ok (.bool true) w := by
  have h : ∀ d : Nat, (Op.equalIn (d + 1) ti (.iface tx vx) (.iface ty vy)).run P w = .ok false w := fun d => by simp [Op.equalIn, run_underlying hi, hne]
  simp only [binOp]
  simp [Op.equal, Op.maxDepth, h 9999]
theorem neq_strs {P : Program} {t tx : TypeId} {ms : Array (String × TypeId)} (a b : ByteArray) (ht : P.underlying t = some (.interface ms)) (hc : (P.info? tx).map (·.comparable) = some true) (hx : P.underlying tx = some .string) (w : World) :
    (binOp .neq t (.iface tx (.string a)) (.iface tx (.string b))).run P w = .ok (.bool (!(a == b))) w := by
  cases hi : P.info? tx with
  | none => simp [hi] at hc
  | some i =>
    have hcc : i.comparable = true := by simpa [hi] using hc
    have h : ∀ d : Nat, (Op.equalIn (d + 2) t (.iface tx (.string a)) (.iface tx (.string b))).run P w = .ok (a == b) w := fun d => by
      simp [Op.equalIn, run_underlying ht, run_underlying hx, typeInfo, hi, hcc]
    simp only [binOp]
    simp [Op.equal, Op.maxDepth, h 9998]
def nilS : ByteArray := ⟨#[40, 41]⟩
theorem strCells_inj {a b : ByteArray} (h : Lib.strCells a = Lib.strCells b) : a = b := by
  have h1 : a.data.toList = b.data.toList := by
    unfold Lib.strCells at h
    have : ∀ (x y : List UInt8), (x.map fun b => Value.int .u8 (b.toNat : Int)) = (y.map fun b => Value.int .u8 (b.toNat : Int)) → x = y := by
      intro x
      induction x with
      | nil => intro y h; cases y with
        | nil => rfl
        | cons c y => simp at h
      | cons c x ih => intro y h; cases y with
        | nil => simp at h
        | cons d y =>
          simp only [List.map_cons, List.cons.injEq] at h
          obtain ⟨h1, h2⟩ := h
          injection h1 with _ h1
          rw [ih y h2, UInt8.toNat_inj.1 (show c.toNat = d.toNat by omega)]
    exact this _ _ h
  have h2 : a.data = b.data := Array.toList_inj.1 h1
  cases a; cases b; simp_all
theorem decDigits_ge (u : Nat) : ∀ c ∈ Lib.decDigits u, 48 ≤ c.toNat := by
  induction u using Nat.strongRecOn with
  | _ u ih =>
    intro c hc
    rw [Lib.decDigits] at hc
    split at hc
    · rename_i h
      rw [List.mem_singleton] at hc
      subst hc
      simp [UInt8.toNat_ofNat]
      omega
    · rename_i h
      rcases List.mem_append.1 hc with hc | hc
      · exact ih _ (by omega) c hc
      · rw [List.mem_singleton] at hc
        subst hc
        simp [UInt8.toNat_ofNat]
        omega
theorem decI_ne (n : Int) (t : List Int) : decI n ≠ 40 :: t := by
  intro e
  have h1 : (decI n).head? = some 40 := by rw [e]; rfl
  unfold decI Lib.itoa at h1
  split at h1
  · simp at h1
  · rw [List.head?_map] at h1
    obtain ⟨c, hc, h2⟩ := Option.map_eq_some_iff.1 h1
    have hm := decDigits_ge _ c (List.mem_of_mem_head? hc)
    omega
theorem isPair_atom {ws : List Int} {names : List (List Int)} {x : Int} {q : Nat × List Int} (ha : atomV ws names x = some q) : isPairW ws x = false := by
  unfold atomV at ha
  unfold isPairW
  rw [Bool.and_eq_false_iff]
  by_cases h4 : x % 4 = 1
  · right
    rw [if_neg (by omega), if_neg (by omega), if_neg (by omega)] at ha
    split at ha
    · rename_i h; rw [h]; rfl
    · split at ha
      · rename_i h; rw [h]; rfl
      · cases ha
  · left
    simpa using h4
theorem isPair_none {ws : List Int} {names : List (List Int)} {x : Int} (ha : atomV ws names x = none) : x % 4 = 1 ∧ (ws.getD (x / 4).toNat 0 % 4 = 0 ∨ ws.getD (x / 4).toNat 0 % 4 = 1) := by
  unfold atomV at ha
  split at ha
  · cases ha
  · split at ha
    · cases ha
    · split at ha
      · cases ha
      · split at ha
        · cases ha
        · split at ha
          · cases ha
          · omega
theorem atom_nil {ws : List Int} {names : List (List Int)} {L : List (Nat × Nat)} {x : Int} {t : List Int} (ha : atomV ws names x = some (9, t)) (hw : wordF (isPlace L) x = true) : t = [40, 41] ↔ x = 3 := by
  unfold atomV at ha
  split at ha
  · rename_i h
    cases ha
    exact ⟨fun e => absurd e (decI_ne _ _), fun e => by omega⟩
  · split at ha
    · have := congrArg (fun o => o.map Prod.fst) ha
      simp at this
    · split at ha
      · rename_i h
        cases ha
        have hr : x = 3 ∨ x = 7 ∨ x = 11 ∨ x = 15 ∨ x = 19 := by
          unfold wordF at hw
          rw [if_neg (by omega), if_neg (by omega), if_neg (by omega)] at hw
          simp only [Bool.or_eq_true, beq_iff_eq] at hw
          omega
        rcases hr with rfl | rfl | rfl | rfl | rfl <;> decide
      · split at ha
        · cases ha
          exact ⟨fun e => absurd e (by decide), fun e => by omega⟩
        · split at ha
          · cases ha
            exact ⟨fun e => absurd e (by decide), fun e => by omega⟩
          · cases ha
/-- What is no pair. -/
theorem view_other {ws : List Int} {names : List (List Int)} {bm : Nat} {NV : Value} {w0 w : World} {v : Value} {x : Int} {L : List (Nat × Nat)} (h : IsView ws names bm NV w0 w v x) (hw : wordF (isPlace L) x = true) (hp : isPairW ws x = false) :
    ∃ (T : TypeId) (y : Value), v = .iface T y ∧ T ≠ 100 ∧ ∀ W, (binOp .neq 57 (.iface T y) (.iface 9 (.string ⟨#[40, 41]⟩))).run Tryd.prog W = .ok (.bool (decide (x ≠ 3))) W := by
  unfold IsView at h
  cases ha : atomV ws names x with
  | none =>
    rw [ha] at h
    obtain ⟨h1, h2⟩ := isPair_none ha
    have h3 : ws.getD (x / 4).toNat 0 % 4 = 1 := by
      rcases h2 with h2 | h2
      · unfold isPairW at hp
        rw [h1, h2] at hp
        cases hp
      · exact h2
    dsimp only at h
    rw [if_pos h3] at h
    obtain ⟨sv, us, rfl, _⟩ := h
    refine ⟨_, _, rfl, by decide, fun W => ?_⟩
    rw [neq_types _ _ _ _ Tryd.underlying57 (by decide), decide_eq_true (show x ≠ 3 by omega)]
  | some q =>
    obtain ⟨T, t⟩ := q
    rw [ha] at h
    obtain ⟨s, rfl, hs, _⟩ := h
    rcases atom_type ha with rfl | rfl
    · refine ⟨_, _, rfl, by decide, fun W => ?_⟩
      rw [neq_strs _ _ Tryd.underlying57 (by kernel_rfl) Tryd.underlying9]
      have h1 := atom_nil ha hw
      have h2 : s = ⟨#[40, 41]⟩ ↔ t = [40, 41] := by
        constructor
        · rintro rfl
          have h3 : cel t = cel [40, 41] := hs.symm
          unfold cel at h3
          have : ∀ (x y : List Int), x.map (Value.int .u8) = y.map (Value.int .u8) → x = y := by
            intro x
            induction x with
            | nil => intro y h; cases y with
              | nil => rfl
              | cons c y => simp at h
            | cons c x ih => intro y h; cases y with
              | nil => simp at h
              | cons d y =>
                simp only [List.map_cons, List.cons.injEq] at h
                obtain ⟨h1, h2⟩ := h
                injection h1 with _ h1
                rw [ih y h2, h1]
          exact this _ _ h3
        · rintro rfl
          exact strCells_inj hs
      have h3 : (!(s == (⟨#[40, 41]⟩ : ByteArray))) = decide (x ≠ 3) := by
        by_cases e : x = 3
        · have := h2.2 (h1.2 e)
          rw [this, e]
          rfl
        · have hne : s ≠ ⟨#[40, 41]⟩ := fun e2 => e (h1.1 (h2.1 e2))
          rw [decide_eq_true e]
          have h5 : (s == (⟨#[40, 41]⟩ : ByteArray)) = false := by
            cases s with
            | mk d =>
              show (d == #[40, 41]) = false
              rw [beq_eq_false_iff_ne]
              rintro rfl
              exact hne rfl
          rw [h5]
          rfl
      rw [h3]
    · refine ⟨_, _, rfl, by decide, fun W => ?_⟩
      have h4 : x ≠ 3 := by
        rintro rfl
        unfold atomV at ha
        have := congrArg (fun o => o.map Prod.fst) ha
        simp at this
      rw [neq_types _ _ _ _ Tryd.underlying57 (by decide), decide_eq_true h4]
theorem view_pair {ws : List Int} {names : List (List Int)} {bm : Nat} {NV : Value} {w0 w : World} {v : Value} {x : Int} (h : IsView ws names bm NV w0 w v x) (hp : isPairW ws x = true) : x % 4 = 1 ∧ ws.getD (x / 4).toNat 0 % 4 = 0 ∧ PairIs ws bm NV w0 w (x / 4).toNat v := by
  have hh : x % 4 = 1 ∧ ws.getD (x / 4).toNat 0 % 4 = 0 := by
    unfold isPairW at hp
    rw [Bool.and_eq_true] at hp
    exact ⟨eq_of_beq hp.1, eq_of_beq hp.2⟩
  unfold IsView at h
  rw [atom_none hh.1 (.inl hh.2)] at h
  dsimp only at h
  rw [if_neg (by omega)] at h
  exact ⟨hh.1, hh.2, h⟩
end Go.Proofs.YtggkkgkjhfgipaaDoor
/- How long what is shown can be; the objects of a valid heap, by their words. -/
namespace Go.Proofs.YtggkkgkjhfgipaaDoor
open Go.RowKit
set_option linter.unusedVariables false
set_option linter.unusedSimpArgs false
theorem decI_len (n : Int) (h0 : -9223372036854775808 ≤ n) (h1 : n ≤ 9223372036854775807) : (decI n).length ≤ 21 := by
  have := Lib.itoa_length_le n h0 h1
  simpa [decI] using this
def Cmax : Nat := 1099511627900
/-- What f adds is bounded. -/
def Bnd (f : Int → List Int → List Int) (ok : Int → Prop) (D : Nat) : Prop := ∀ x o, ok x → (f x o).length ≤ max o.length 1000 + D
def Idle (f : Int → List Int → List Int) : Prop := ∀ x o, 1000 ≤ o.length → f x o = o
theorem showV_len {f : Int → List Int → List Int} {ok : Int → Prop} {D : Nat} (hf : Bnd f ok D) (ws : List Int) (p : Nat) : ∀ (d i : Nat) (o : List Int), (∀ j, i ≤ j → j < i + d → ok (fld ws p j)) → (showV f ws p d i o).length ≤ max o.length 1000 + (D + 1)
  | 0, _, o, _ => by simp only [showV]; omega
  | d + 1, i, o, h => by
    unfold showV
    split
    · omega
    · rename_i hl
      have ih := showV_len hf ws p d (i + 1) (f (fld ws p i) (if i = 0 then o else o ++ [32])) (fun j h1 h2 => h j (by omega) (by omega))
      have h1 := hf (fld ws p i) (if i = 0 then o else o ++ [32]) (h i (Nat.le_refl _) (by omega))
      have h2 : (if i = 0 then o else o ++ [32]).length ≤ o.length + 1 := by split <;> simp
      -- either still short, or as long as this one element makes it
      by_cases h3 : (f (fld ws p i) (if i = 0 then o else o ++ [32])).length < 1000
      · omega
      · have h4 : showV f ws p d (i + 1) (f (fld ws p i) (if i = 0 then o else o ++ [32])) = f (fld ws p i) (if i = 0 then o else o ++ [32]) := by
          cases d with
          | zero => rfl
          | succ d => rw [showV, if_pos (by omega)]
        rw [h4]
        omega
theorem showE_len {f : Int → List Int → List Int} {ok : Int → Prop} {D : Nat} (hf : Bnd f ok D) (hi : Idle f) (x : Int) (o : List Int) (hx : ok x) : (showE f x o).length ≤ max o.length (1000 + D) + 3 := by
  unfold showE
  split
  · omega
  · by_cases h : 1000 ≤ (o ++ [32, 46, 32]).length
    · rw [hi _ _ h]; simp; omega
    · have := hf x (o ++ [32, 46, 32]) hx
      simp at h
      simp at this
      omega
theorem showL_len {f : Int → List Int → List Int} {ok : Int → Prop} {D : Nat} (hf : Bnd f ok D) (hi : Idle f) (ws : List Int) (hok : ∀ x, ok x → isPairW ws x = true → ok (fld ws (x / 4).toNat 0) ∧ ok (fld ws (x / 4).toNat 1)) : ∀ (j : Nat) (x : Int) (o : List Int), ok x → (showL f ws j x o).length ≤ max o.length (1000 + D + 1) + 3
  | 0, x, o, hx => by have := showE_len hf hi x o hx; simp only [showL]; omega
  | j + 1, x, o, hx => by
    unfold showL
    split
    · rename_i hl
      split
      · rename_i hp
        have ih := showL_len hf hi ws hok j _ (f (fld ws (x / 4).toNat 0) (o ++ [32])) (hok x hx hp).2
        have h1 := hf (fld ws (x / 4).toNat 0) (o ++ [32]) (hok x hx hp).1
        simp at h1
        omega
      · have := showE_len hf hi x o hx
        omega
    · have := showE_len hf hi x o hx
      omega
theorem showW_idle (ws : List Int) (names : List (List Int)) (k : Nat) : Idle (showW ws names k) := by
  intro x o h
  cases k with
  | zero => rfl
  | succ k => rw [showW, if_pos h]
/-- The objects that pointers name. -/
structure ObjW (ws : List Int) (L : List (Nat × Nat)) (x : Int) (n : Nat) : Prop where
  pos : 0 ≤ x
  size : n = sizeW ws (x / 4).toNat
  head : ws.getD (x / 4).toNat 0 / 4 = n
  nn : 0 ≤ ws.getD (x / 4).toNat 0
  le : n ≤ 1000
  fits : (x / 4).toNat + 1 + n ≤ ws.length
  good : ∀ i, i < n → wordF (isPlace L) (fld ws (x / 4).toNat i) = true ∧ InI64 (fld ws (x / 4).toNat i)
  pair : ws.getD (x / 4).toNat 0 % 4 = 0 → n = 2
theorem obj_of {ws : List Int} {top : Int} {L : List (Nat × Nat)} (ho : objsF ws top = some L) (hv : ∀ q ∈ L, objectAt ws L q = true) (h64 : ∀ x ∈ ws, InI64 x) {x : Int} (hx : wordF (isPlace L) x = true) (h4 : x % 4 = 1) : ∃ n, ObjW ws L x n := by
  have hw : 0 ≤ x ∧ isPlace L ((x - 1) / 4) = true := by
    unfold wordF at hx
    rw [if_neg (by omega), if_pos h4] at hx
    simpa using hx
  obtain ⟨h0, hp⟩ := hw
  obtain ⟨q, hq, he⟩ := List.any_eq_true.1 hp
  have he' : (q.1 : Int) = (x - 1) / 4 := by simpa using he
  have hq1 : q.1 = (x / 4).toNat := by omega
  obtain ⟨hl, ht0, htl, hm⟩ := objsF_mem ho
  obtain ⟨hhd, hn⟩ := hm _ hq
  unfold headAt at hhd
  simp only [Bool.and_eq_true, decide_eq_true_eq] at hhd
  obtain ⟨g0, g1, g2⟩ := hhd
  have g3 := headF_le g1 (by omega)
  rw [hq1] at g0 g1 g2 g3 hn
  have hle : (x / 4).toNat + 1 + q.2 ≤ ws.length := by rw [hn]; unfold sizeAt; omega
  have hob := hv _ hq
  unfold objectAt objF at hob
  simp only [Bool.and_eq_true] at hob
  have hall := List.all_eq_true.1 hob.1
  rw [hq1] at hall
  have hlen : (fieldsAt ws (x / 4).toNat q.2).length = q.2 := by unfold fieldsAt; rw [List.length_drop, List.length_take]; omega
  refine ⟨q.2, h0, by rw [hn]; rfl, by rw [hn]; unfold sizeAt; omega, g0, by rw [hn]; unfold sizeAt; omega, hle, fun i hi => ?_, fun hk => ?_⟩
  · have hget : (fieldsAt ws (x / 4).toNat q.2).getD i 0 = fld ws (x / 4).toNat i := by
      unfold fieldsAt fld
      simp only [List.getD_eq_getElem?_getD, List.getElem?_drop, List.getElem?_take]
      rw [if_pos (by omega)]
    have hmem2 : (fieldsAt ws (x / 4).toNat q.2).getD i 0 ∈ fieldsAt ws (x / 4).toNat q.2 := getD_mem (by omega)
    rw [← hget]
    exact ⟨hall _ hmem2, h64 _ (fieldsAt_mem hmem2)⟩
  · unfold headF at g1
    rw [if_pos hk] at g1
    have g5 := eq_of_beq g1
    rw [hn]
    unfold sizeAt
    omega
theorem showW_len {ws : List Int} {top : Int} {L : List (Nat × Nat)} {names : List (List Int)} (ho : objsF ws top = some L) (hv : ∀ q ∈ L, objectAt ws L q = true) (h64 : ∀ x ∈ ws, InI64 x) (hs : ∀ t ∈ names, t.length ≤ 1099511627776) : ∀ k, Bnd (showW ws names k) (fun x => wordF (isPlace L) x = true ∧ InI64 x) (Cmax + 8 * k)
  | 0 => fun x o _ => by simp only [showW]; omega
  | k + 1 => fun x o hx => by
    have ih := showW_len ho hv h64 hs k
    unfold showW
    split
    · omega
    · rename_i hl
      have hi := hx.2
      unfold InI64 at hi
      split
      · have := decI_len (x / 4) (by omega) (by omega)
        simp [Cmax]; omega
      · split
        · have : (symT names (x / 4)).length ≤ 1099511627800 := by
            unfold symT
            split
            · rename_i h1
              by_cases h2 : (x / 4).toNat < names.length
              · rw [List.getD_eq_getElem?_getD, List.getElem?_eq_getElem h2]
                have := hs _ (List.getElem_mem h2)
                simp only [Option.getD_some]
                omega
              · rw [List.getD_eq_getElem?_getD, List.getElem?_eq_none (by omega)]
                simp
            · have := decI_len (x / 4) (by omega) (by omega)
              simp; omega
          simp [Cmax]; omega
        · split
          · have : (rareT x).length ≤ 10 := by unfold rareT; (repeat' split) <;> simp
            simp [Cmax]; omega
          · have h4 : x % 4 = 1 := by omega
            obtain ⟨n, hn⟩ := obj_of ho hv h64 hx.1 h4
            split
            · simp [Cmax, procT]; omega
            · split
              · simp [Cmax, boxT]; omega
              · split
                · have := showV_len ih ws (x / 4).toNat (sizeW ws (x / 4).toNat) 0 (o ++ [35, 40]) (fun j _ h2 => hn.good j (by rw [hn.size]; omega))
                  simp at this ⊢
                  omega
                · have hk0 : ws.getD (x / 4).toNat 0 % 4 = 0 := by omega
                  have hn2 := hn.pair hk0
                  have h1 := ih (fld ws (x / 4).toNat 0) (o ++ [40]) (hn.good 0 (by omega))
                  have h2 := showL_len ih (showW_idle ws names k) ws (fun y hy hp => by
                    unfold isPairW at hp
                    rw [Bool.and_eq_true] at hp
                    obtain ⟨m, hm⟩ := obj_of ho hv h64 hy.1 (eq_of_beq hp.1)
                    have := hm.pair (eq_of_beq hp.2)
                    exact ⟨hm.good 0 (by omega), hm.good 1 (by omega)⟩) 1000 (fld ws (x / 4).toNat 1) (showW ws names k (fld ws (x / 4).toNat 0) (o ++ [40])) (hn.good 1 (by omega))
                  simp at h1 h2 ⊢
                  omega
theorem showL_pair {f : Int → List Int → List Int} {ws : List Int} {j : Nat} {x : Int} {o : List Int} (hj : 1 ≤ j) (hl : o.length < 1000) (hp : isPairW ws x = true) : showL f ws j x o = showL f ws (j - 1) (fld ws (x / 4).toNat 1) (f (fld ws (x / 4).toNat 0) (o ++ [32])) := by
  obtain ⟨j, rfl⟩ : ∃ m, j = m + 1 := ⟨j - 1, by omega⟩
  rw [showL, if_pos hl, if_pos hp]
  rfl
theorem showL_other {f : Int → List Int → List Int} {ws : List Int} {j : Nat} {x : Int} {o : List Int} (hp : isPairW ws x = false) : showL f ws j x o = showE f x o := by
  cases j with
  | zero => rfl
  | succ j =>
    rw [showL]
    split
    · rw [if_neg (by rw [hp]; decide)]
    · rfl
theorem showW_pair {ws : List Int} {names : List (List Int)} {k : Nat} {x : Int} {out : List Int} (hl : out.length < 1000) (h4 : x % 4 = 1) (hk : ws.getD (x / 4).toNat 0 % 4 = 0) :
    showW ws names (k + 1) x out = showL (showW ws names k) ws 1000 (fld ws (x / 4).toNat 1) (showW ws names k (fld ws (x / 4).toNat 0) (out ++ [40])) ++ [41] := by
  rw [showW, if_neg (by omega), if_neg (by omega), if_neg (by omega), if_neg (by omega), if_neg (by omega), if_neg (by omega), if_neg (by omega)]
theorem showW_vec {ws : List Int} {names : List (List Int)} {k : Nat} {x : Int} {out : List Int} (hl : out.length < 1000) (h4 : x % 4 = 1) (hk : ws.getD (x / 4).toNat 0 % 4 = 1) :
    showW ws names (k + 1) x out = showV (showW ws names k) ws (x / 4).toNat (sizeW ws (x / 4).toNat) 0 (out ++ [35, 40]) ++ [41] := by
  rw [showW, if_neg (by omega), if_neg (by omega), if_neg (by omega), if_neg (by omega), if_neg (by omega), if_neg (by omega), if_pos hk]
theorem showV_step {f : Int → List Int → List Int} {ws : List Int} {p n i : Nat} {o : List Int} (hi : i < n) (hl : o.length < 1000) : showV f ws p (n - i) i o = showV f ws p (n - (i + 1)) (i + 1) (f (fld ws p i) (if i = 0 then o else o ++ [32])) := by
  obtain ⟨d, hd⟩ : ∃ d, n - i = d + 1 := ⟨n - i - 1, by omega⟩
  rw [hd, showV, if_neg (by omega), show n - (i + 1) = d by omega]
end Go.Proofs.YtggkkgkjhfgipaaDoor
/- The shower's value at pairs: the walk. -/
namespace Go.Proofs.YtggkkgkjhfgipaaDoor
open Go.RowKit Go.Proofs.YtggkkgkjhfgipaaDoor.QFnExactShowWord Go.Proofs.YtggkkgkjhfgipaaDoorW.PrintWords Go.Proofs.YtggkkgkjhfgipaaDoorW.PrintLast Go.Proofs.YtggkkgkjhfgipaaDoorW.PrintMore
open Go.ChangeMaps (setBlock)
set_option linter.unusedVariables false
set_option linter.unusedSimpArgs false
/-- How much the shower in block b holds. -/
def lenAt (b : Nat) (w : World) : Nat := match w.heap[b]? with
  | some (Obj.cells cs _ _) => (match cs[0]? with
    | some (Value.slice _ n _) => n
    | _ => 0)
  | _ => 0
theorem lenAt_of {B b : Nat} {bs : List Value} {w : World} (h : Shw B b bs w) : lenAt b w = bs.length := by
  obtain ⟨_, v, h1, h2, _⟩ := h
  unfold lenAt
  rw [h1]
  rcases h2.2 with ⟨rfl, h0⟩ | ⟨g, cap, cur, rfl, _⟩
  · simp; omega
  · simp
theorem Held.self {w0 w w' : World} {B b : Nat} {o : List Int} (h : Held w0 B b o w w') : Held w0 B b o w' w' := ⟨h.shw, Below.refl _ _, Kp.refl _, h.base, h.size⟩
/-- What value does, at words with k to go. -/
def ValueIs (w0 : World) (ws : List Int) (names : List (List Int)) (L : List (Nat × Nat)) (bm : Nat) (NV : Value) (B b k : Nat) : Prop :=
  ∀ (x : Int) (v : Value) (out : List Int) (w : World), wordF (isPlace L) x = true → InI64 x → IsView ws names bm NV w0 w v x → Held w0 B b out w w → out.length < 1000 → 1000 ≤ out.length + k →
    Calls Tryd.prog 35 #[.pointer (some ⟨b, 0, none⟩), v] w (Wrote w0 B b (showW ws names k x out) w)
theorem part_ask {w0 : World} {ws : List Int} {top : Int} {L : List (Nat × Nat)} {es : List MapEntry} {bm : Nat} {names : List (List Int)} {NA : Option Addr} {nc : Nat} (h : Ctx w0 ws top L es bm names NA nc) {x : Int} (hw : wordF (isPlace L) x = true) (hx : InI64 x) {w : World} {v : Value} (hp : Part bm (.slice NA names.length nc) w0 w v x) :
    ∃ bo bi ba bn : Nat, v = .func (.func 62) #[] #[.pointer (some ⟨bo, 0, none⟩), .pointer (some ⟨bi, 0, none⟩), .pointer (some ⟨ba, 0, none⟩), .pointer (some ⟨bn, 0, none⟩)] ∧
      ∀ w', Kp w w' → Below w0.heap.size w0 w' → Calls Tryd.prog 62 #[.pointer (some ⟨bo, 0, none⟩), .pointer (some ⟨bi, 0, none⟩), .pointer (some ⟨ba, 0, none⟩), .pointer (some ⟨bn, 0, none⟩)] w' (ViewPost ws names bm (.slice NA names.length nc) w0 x w') := by
  obtain ⟨bo, bi, ba, bn, i, n, c, A, kd, fs, rfl, h1, h2, h3, h4, h5, h6, h7, h8⟩ := hp
  exact ⟨bo, bi, ba, bn, rfl, fun w' hk hb => thunk_calls h x hw hx w' hb bo bi ba bn i n c A kd fs (hk _ _ _ _ h1 (by decide) (by decide)) (hk _ _ _ _ h2 (by decide) (by decide)) (hk _ _ _ _ h3 (by decide) (by decide)) (hk _ _ _ _ h4 (by decide) (by decide)) h5 h6 h7 h8⟩
/-- The loop over a list's rest. -/
def LSt (w0 : World) (ws : List Int) (names : List (List Int)) (L : List (Nat × Nat)) (bm : Nat) (NV : Value) (B b k : Nat) (FIN : List Int) (W : World) (v : Value) (wr : World) : Prop :=
  ∃ (x : Int) (j : Nat) (o : List Int), IsView ws names bm NV w0 wr v x ∧ wordF (isPlace L) x = true ∧ InI64 x ∧ Held w0 B b o W wr ∧ o.length < 1000 ∧ 1000 ≤ o.length + j ∧ 1000 ≤ o.length + k ∧ showL (showW ws names k) ws j x o ++ [41] = FIN
set_option maxHeartbeats 4000000 in
set_option maxRecDepth 100000 in
theorem value_pair {w0 : World} {ws : List Int} {top : Int} {L : List (Nat × Nat)} {es : List MapEntry} {bm : Nat} {names : List (List Int)} {NA : Option Addr} {nc B b k : Nat} (h : Ctx w0 ws top L es bm names NA nc) (hw0 : w0.heap.size ≤ B) (ih : ValueIs w0 ws names L bm (.slice NA names.length nc) B b k) (x : Int) (v : Value) (out : List Int) (w : World)
    (hw : wordF (isPlace L) x = true) (hv : IsView ws names bm (.slice NA names.length nc) w0 w v x) (hp : isPairW ws x = true) (hh : Held w0 B b out w w) (hlo : out.length < 1000) (hk : 1000 ≤ out.length + (k + 1)) :
    Calls Tryd.prog 35 #[.pointer (some ⟨b, 0, none⟩), v] w (Wrote w0 B b (showW ws names (k + 1) x out) w) := by
  obtain ⟨h4, hk0, u1, u2, rfl, p1, p2⟩ := view_pair hv hp
  obtain ⟨h0, A, n, c, fs, ho⟩ := h.obj hw h4
  have hn2 : n = 2 := ho.pair hk0
  have g0 := ho.good 0 (by omega)
  have g1 := ho.good 1 (by omega)
  rw [showW_pair hlo h4 hk0]
  obtain ⟨x0, hx0⟩ : ∃ y, y = fld ws (x / 4).toNat 0 := ⟨_, rfl⟩
  obtain ⟨x1, hx1⟩ : ∃ y, y = fld ws (x / 4).toNat 1 := ⟨_, rfl⟩
  rw [← hx0] at p1 g0 ⊢
  rw [← hx1] at p2 g1 ⊢
  have hE : Ext (showW ws names k) := showW_pre ws names k
  obtain ⟨FIN, hF⟩ : ∃ F, F = showL (showW ws names k) ws 1000 x1 (showW ws names k x0 (out ++ [40])) ++ [41] := ⟨_, rfl⟩
  have q2 : showW ws names k x0 (out ++ [40]) <+: FIN := by rw [hF]; exact (showL_pre hE ws _ _ _).trans (pre_app _ _)
  have Q1 : Hid (out ++ [40] <+: FIN) := Lib.hid ((hE _ _).trans q2)
  have Q2 := Lib.hid q2
  rw [← hF]
  obtain ⟨bo1, bi1, ba1, bn1, rfl, ask1⟩ := part_ask h g0.1 g0.2 p1
  obtain ⟨bo2, bi2, ba2, bn2, rfl, ask2⟩ := part_ask h g1.1 g1.2 p2
  have A1 := Lib.hid ask1
  have A2 := Lib.hid ask2
  have HF := Lib.hid hF
  have IH := Lib.hid ih
  have HX := Lib.hid h
  have HG0 := Lib.hid g0
  have HG1 := Lib.hid g1
  have HE := Lib.hid hE
  -- the world with the pair's variable
  obtain ⟨W, hW⟩ : ∃ W, W = w.alloc (.cells #[.func (.func 62) #[] #[.pointer (some ⟨bo1, 0, none⟩), .pointer (some ⟨bi1, 0, none⟩), .pointer (some ⟨ba1, 0, none⟩), .pointer (some ⟨bn1, 0, none⟩)], .func (.func 62) #[] #[.pointer (some ⟨bo2, 0, none⟩), .pointer (some ⟨bi2, 0, none⟩), .pointer (some ⟨ba2, 0, none⟩), .pointer (some ⟨bn2, 0, none⟩)]] 100) := ⟨_, rfl⟩
  have HW : Hid (Held w0 B b out w W) := Lib.hid (by rw [hW]; exact hh.more ((Below.refl _ _).alloc (Nat.le_refl _) _))
  have HPB : Hid (W.heap[w.heap.size]? = some (.cells #[.func (.func 62) #[] #[.pointer (some ⟨bo1, 0, none⟩), .pointer (some ⟨bi1, 0, none⟩), .pointer (some ⟨ba1, 0, none⟩), .pointer (some ⟨bn1, 0, none⟩)], .func (.func 62) #[] #[.pointer (some ⟨bo2, 0, none⟩), .pointer (some ⟨bi2, 0, none⟩), .pointer (some ⟨ba2, 0, none⟩), .pointer (some ⟨bn2, 0, none⟩)]] 100 (0, 0))) := Lib.hid (by rw [hW]; exact blk_new w _)
  have HS := Lib.hid (fun (w1 : World) (hh : Held w0 B b out W w1) => say_text (s := ⟨#[40]⟩) (t := [40]) (by kernel_rfl) (by decide +kernel) hh hlo hw0)
  have a1 := no_str 100 (by decide)
  have a2 := no_sym 100 (by decide)
  have a3 := no_vec 100 (by decide)
  have a4 := is_pair
  obtain ⟨pb, hpb⟩ : ∃ pb, pb = w.heap.size := ⟨_, rfl⟩
  rw [← hpb] at HPB
  clear hx0 hx1 q2 hF ask1 ask2 ih h g0 g1 hE hh ho p1 p2 hn2 h4 hk0 hw hv hp h0
  go_enter Tryd.func35, Tryd.ntmps35
  go_wp2_with fail
  rw [← hW, ← hpb]
  clear hW hpb a1 a2 a3 a4
  refine (HS.out W HW.out.self).mono ?_
  clear HS
  rintro e w1 ⟨hh, ⟨rfl, hl1⟩ | ⟨rfl, hl1⟩⟩
  case inr =>
    have H1 : Hid (Held w0 B b (out ++ [40]) w w1) := Lib.hid (HW.out.trans hh)
    clear hh
    go_wp2_with fail
    exact ⟨rfl, Wrote.stop H1.out Q1.out hl1⟩
  have H1 : Hid (Held w0 B b (out ++ [40]) w w1) := Lib.hid (HW.out.trans hh)
  have HK1 := Lib.hid hh.kp
  have c0 := blk_cell (hh.kp _ _ _ _ HPB.out (by decide) (by decide)) 0
  clear hh HW
  go_wp2_with fail
  clear c0
  refine (A1.out w1 H1.out.kp H1.out.base).mono ?_
  rintro e w2 ⟨v1, rfl, hv1, hb2⟩
  have HV1 := Lib.hid hv1
  have H2 : Hid (Held w0 B b (out ++ [40]) w w2) := Lib.hid (H1.out.more hb2)
  have HK2 : Hid (Kp W w2) := Lib.hid (HK1.out.trans (Kp.of_below hb2))
  clear hv1 hb2 HK1 H1
  go_wp2_with fail
  refine (IH.out x0 v1 (out ++ [40]) w2 HG0.out.1 HG0.out.2 HV1.out H2.out.self hl1 (by simp; omega)).mono ?_
  rintro e w3 ⟨o3, hh3, ⟨rfl, ho3, hl3⟩ | ⟨rfl, hp3, hl3⟩⟩
  case inr =>
    have H3 : Hid (Held w0 B b o3 w w3) := Lib.hid (H2.out.trans hh3)
    have HP3 := Lib.hid (hp3.trans Q2.out)
    clear hh3 hp3
    go_wp2_with fail
    exact ⟨rfl, Wrote.stop H3.out HP3.out hl3⟩
  have H3 : Hid (Held w0 B b o3 w w3) := Lib.hid (H2.out.trans hh3)
  have HK3 : Hid (Kp W w3) := Lib.hid (HK2.out.trans hh3.kp)
  have HLE : Hid (1000 ≤ o3.length + k) := Lib.hid (by
    have := (HE.out x0 (out ++ [40])).length_le
    rw [← ho3] at this
    simp at this
    omega)
  have HFN : Hid (showL (showW ws names k) ws 1000 x1 o3 ++ [41] = FIN) := Lib.hid (by rw [ho3]; exact HF.out.symm)
  have c1 := blk_cell (HK3.out _ _ _ _ HPB.out (by decide) (by decide)) 1
  clear hh3 H2 HK2 ho3 HV1 HF
  go_wp2_with fail
  clear c1
  refine (A2.out w3 H3.out.kp H3.out.base).mono ?_
  rintro e w4 ⟨v2, rfl, hv2, hb4⟩
  have HL4 : Hid (LSt w0 ws names L bm (.slice NA names.length nc) B b k FIN w v2 w4) := Lib.hid ⟨x1, 1000, o3, hv2, HG1.out.1, HG1.out.2, H3.out.more hb4, hl3, by omega, HLE.out, HFN.out⟩
  clear hv2 hb4 H3 HK3 HLE HFN A1 A2 HPB HG0 HG1 Q1 Q2 hl3 hl1
  go_wp2_with fail
  go_loopw [10] (fun v wr => Hid (LSt w0 ws names L bm (.slice NA names.length nc) B b k FIN w v wr)) (fun _ wr => 1000 - lenAt b wr)
  case atStart => exact HL4
  case round =>
    clear HL4
    obtain ⟨x, j, o, l1, l2, l3, l4, l5, l6, l7, l8⟩ := hrel.out
    clear hrel
    by_cases hp : isPairW ws x = true
    · obtain ⟨h4, hk0, u1, u2, rfl, p1, p2⟩ := view_pair l1 hp
      obtain ⟨h0, A, n, c, fs, ho⟩ := HX.out.obj l2 h4
      have hn2 : n = 2 := ho.pair hk0
      have g0 := ho.good 0 (by omega)
      have g1 := ho.good 1 (by omega)
      rw [showL_pair (by omega) l5 hp] at l8
      obtain ⟨x0, hx0⟩ : ∃ y, y = fld ws (x / 4).toNat 0 := ⟨_, rfl⟩
      obtain ⟨x1, hx1⟩ : ∃ y, y = fld ws (x / 4).toNat 1 := ⟨_, rfl⟩
      rw [← hx0] at p1 g0 l8
      rw [← hx1] at p2 g1 l8
      have q2 : showW ws names k x0 (o ++ [32]) <+: FIN := by rw [← l8]; exact (showL_pre HE.out ws _ _ _).trans (pre_app _ _)
      have Q1 : Hid (o ++ [32] <+: FIN) := Lib.hid ((HE.out _ _).trans q2)
      have Q2 := Lib.hid q2
      obtain ⟨bo1, bi1, ba1, bn1, rfl, ask1⟩ := part_ask HX.out g0.1 g0.2 p1
      obtain ⟨bo2, bi2, ba2, bn2, rfl, ask2⟩ := part_ask HX.out g1.1 g1.2 p2
      have A1 := Lib.hid ask1
      have A2 := Lib.hid ask2
      have HG0 := Lib.hid g0
      have HG1 := Lib.hid g1
      have HR := Lib.hid l4
      have HFN := Lib.hid l8
      have HLN : Hid (lenAt b wr = o.length) := Lib.hid (by rw [lenAt_of l4.shw, cel_length])
      obtain ⟨W, hW⟩ : ∃ W, W = wr.alloc (.cells #[.func (.func 62) #[] #[.pointer (some ⟨bo1, 0, none⟩), .pointer (some ⟨bi1, 0, none⟩), .pointer (some ⟨ba1, 0, none⟩), .pointer (some ⟨bn1, 0, none⟩)], .func (.func 62) #[] #[.pointer (some ⟨bo2, 0, none⟩), .pointer (some ⟨bi2, 0, none⟩), .pointer (some ⟨ba2, 0, none⟩), .pointer (some ⟨bn2, 0, none⟩)]] 100) := ⟨_, rfl⟩
      have HW : Hid (Held w0 B b o w W ∧ Kp wr W) := Lib.hid (by rw [hW]; exact ⟨l4.more ((Below.refl _ _).alloc (Nat.le_refl _) _), Kp.of_below ((Below.refl _ _).alloc (Nat.le_refl _) _)⟩)
      have HPB : Hid (W.heap[wr.heap.size]? = some (.cells #[.func (.func 62) #[] #[.pointer (some ⟨bo1, 0, none⟩), .pointer (some ⟨bi1, 0, none⟩), .pointer (some ⟨ba1, 0, none⟩), .pointer (some ⟨bn1, 0, none⟩)], .func (.func 62) #[] #[.pointer (some ⟨bo2, 0, none⟩), .pointer (some ⟨bi2, 0, none⟩), .pointer (some ⟨ba2, 0, none⟩), .pointer (some ⟨bn2, 0, none⟩)]] 100 (0, 0))) := Lib.hid (by rw [hW]; exact blk_new wr _)
      have HS := Lib.hid (fun (w1 : World) (hh : Held w0 B b o W w1) => say_text (s := ⟨#[32]⟩) (t := [32]) (by kernel_rfl) (by decide +kernel) hh l5 hw0)
      have a4 := is_pair
      obtain ⟨pb, hpb⟩ : ∃ pb, pb = wr.heap.size := ⟨_, rfl⟩
      rw [← hpb] at HPB
      clear hx0 hx1 q2 ask1 ask2 g0 g1 ho p1 p2 hn2 h4 hk0 hp h0 l1 l2 l3 l4 l8
      go_wp2_with fail
      rw [← hW, ← hpb]
      clear hW hpb a4
      refine (HS.out W HW.out.1.self).mono ?_
      clear HS
      rintro e w1 ⟨hh, ⟨rfl, hl1⟩ | ⟨rfl, hl1⟩⟩
      case inr =>
        have H1 : Hid (Held w0 B b (o ++ [32]) w w1) := Lib.hid (HW.out.1.trans hh)
        clear hh
        go_wp2_with fail
        exact ⟨rfl, Wrote.stop H1.out Q1.out hl1⟩
      have H1 : Hid (Held w0 B b (o ++ [32]) w w1) := Lib.hid (HW.out.1.trans hh)
      have HK1 := Lib.hid hh.kp
      have c0 := blk_cell (hh.kp _ _ _ _ HPB.out (by decide) (by decide)) 0
      clear hh
      go_wp2_with fail
      clear c0
      refine (A1.out w1 (HW.out.2.trans HK1.out) H1.out.base).mono ?_
      rintro e w2 ⟨v1, rfl, hv1, hb2⟩
      have HV1 := Lib.hid hv1
      have H2 : Hid (Held w0 B b (o ++ [32]) w w2) := Lib.hid (H1.out.more hb2)
      have HK2 : Hid (Kp W w2) := Lib.hid (HK1.out.trans (Kp.of_below hb2))
      clear hv1 hb2 HK1 H1
      go_wp2_with fail
      refine (IH.out x0 v1 (o ++ [32]) w2 HG0.out.1 HG0.out.2 HV1.out H2.out.self hl1 (by simp; omega)).mono ?_
      rintro e w3 ⟨o3, hh3, ⟨rfl, ho3, hl3⟩ | ⟨rfl, hp3, hl3⟩⟩
      case inr =>
        have H3 : Hid (Held w0 B b o3 w w3) := Lib.hid (H2.out.trans hh3)
        have HP3 := Lib.hid (hp3.trans Q2.out)
        clear hh3 hp3
        go_wp2_with fail
        exact ⟨rfl, Wrote.stop H3.out HP3.out hl3⟩
      have H3 : Hid (Held w0 B b o3 w w3) := Lib.hid (H2.out.trans hh3)
      have HK3 : Hid (Kp W w3) := Lib.hid (HK2.out.trans hh3.kp)
      have HLE : Hid (o.length + 1 ≤ o3.length) := Lib.hid (by
        have := (HE.out x0 (o ++ [32])).length_le
        rw [← ho3] at this
        simpa using this)
      have HFN2 : Hid (showL (showW ws names k) ws (j - 1) x1 o3 ++ [41] = FIN) := Lib.hid (by rw [ho3]; exact HFN.out)
      have c1 := blk_cell (HK3.out _ _ _ _ HPB.out (by decide) (by decide)) 1
      clear hh3 H2 HK2 ho3 HV1 HFN
      go_wp2_with fail
      clear c1
      refine (A2.out w3 (HW.out.2.trans HK3.out) H3.out.base).mono ?_
      rintro e w4 ⟨v2, rfl, hv2, hb4⟩
      have HL4 : Hid (LSt w0 ws names L bm (.slice NA names.length nc) B b k FIN w v2 w4) := Lib.hid ⟨x1, j - 1, o3, hv2, HG1.out.1, HG1.out.2, H3.out.more hb4, hl3, by have := HLE.out; omega, by have := HLE.out; omega, HFN2.out⟩
      have HLN2 : Hid (lenAt b w4 = o3.length) := Lib.hid (by rw [lenAt_of (H3.out.more hb4).shw, cel_length])
      clear hv2 hb4 HFN2
      go_wp2_with fail
      go_roundw
      case rel => exact HL4
      case measure => rw [HLN.out, HLN2.out]; have := HLE.out; omega
    · have hpf : isPairW ws x = false := by simpa using hp
      obtain ⟨T, y, rfl, hT, hne⟩ := view_other l1 l2 hpf
      rw [showL_other hpf] at l8
      have HFN := Lib.hid l8
      have HV := Lib.hid l1
      have HG := Lib.hid (And.intro l2 l3)
      have a1 := no_pair T hT
      obtain ⟨W, hW⟩ : ∃ W, W = wr.alloc (.cells #[.nilFunc, .nilFunc] 100) := ⟨_, rfl⟩
      have HW : Hid (Held w0 B b o w W ∧ Kp wr W) := Lib.hid (by rw [hW]; exact ⟨l4.more ((Below.refl _ _).alloc (Nat.le_refl _) _), Kp.of_below ((Below.refl _ _).alloc (Nat.le_refl _) _)⟩)
      have HS := Lib.hid (fun (w1 : World) (o : List Int) (hh : Held w0 B b o W w1) (l5 : o.length < 1000) => say_text (s := ⟨#[41]⟩) (t := [41]) (by kernel_rfl) (by decide +kernel) hh l5 hw0)
      clear l1 l2 l3 l4 l8 hp hpf hT
      by_cases hx3 : x = 3
      · have hd : decide (x ≠ 3) = false := by simpa using hx3
        rw [hd] at hne
        have HF2 : Hid (o ++ [41] = FIN) := Lib.hid (by rw [← HFN.out]; unfold showE; rw [if_pos hx3])
        clear hd hx3
        go_wp2_with fail
        rw [← hW]
        clear hW a1 hne
        refine (HS.out W o HW.out.1.self l5).mono ?_
        rintro e w1 ⟨hh, ⟨rfl, hl1⟩ | ⟨rfl, hl1⟩⟩
        all_goals
          have H1 : Hid (Held w0 B b (o ++ [41]) w w1) := Lib.hid (HW.out.1.trans hh)
          clear hh
          rw [HF2.out] at H1 hl1
          go_wp2_with fail
        · go_end0
          exact Wrote.fin H1.out hl1
        · exact ⟨rfl, Wrote.stop H1.out (List.prefix_refl _) hl1⟩
      · have hd : decide (x ≠ 3) = true := by simpa using hx3
        rw [hd] at hne
        have hF2 : showW ws names k x (o ++ [32, 46, 32]) ++ [41] = FIN := by rw [← HFN.out]; unfold showE; rw [if_neg hx3]
        have HF2 := Lib.hid hF2
        have Q2 : Hid (showW ws names k x (o ++ [32, 46, 32]) <+: FIN) := Lib.hid (by rw [← hF2]; exact pre_app _ _)
        have Q1 : Hid (o ++ [32, 46, 32] <+: FIN) := Lib.hid ((HE.out _ _).trans Q2.out)
        have HS2 := Lib.hid (fun (w1 : World) (hh : Held w0 B b o W w1) => say_text (s := ⟨#[32, 46, 32]⟩) (t := [32, 46, 32]) (by kernel_rfl) (by decide +kernel) hh l5 hw0)
        clear hd hx3 hF2
        go_wp2_with fail
        rw [← hW]
        clear hW a1 hne
        refine (HS2.out W HW.out.1.self).mono ?_
        rintro e w1 ⟨hh, ⟨rfl, hl1⟩ | ⟨rfl, hl1⟩⟩
        case inr =>
          have H1 : Hid (Held w0 B b (o ++ [32, 46, 32]) w w1) := Lib.hid (HW.out.1.trans hh)
          clear hh
          go_wp2_with fail
          exact ⟨rfl, Wrote.stop H1.out Q1.out hl1⟩
        have H1 : Hid (Held w0 B b (o ++ [32, 46, 32]) w w1) := Lib.hid (HW.out.1.trans hh)
        have HV1 : Hid (IsView ws names bm (.slice NA names.length nc) w0 w1 (.iface T y) x) := Lib.hid (HV.out.keep (HW.out.2.trans hh.kp))
        have HS3 : Hid (∀ (w2 : World) (o : List Int), Held w0 B b o w1 w2 → o.length < 1000 → Calls Tryd.prog 58 #[.pointer (some ⟨b, 0, none⟩), .string ⟨#[41]⟩] w2 fun e w' => Held w0 B b (o ++ [41]) w1 w' ∧ ((e = .returned (.tuple #[]) ∧ (o ++ [41]).length < 1000) ∨ (e = .panicked enoughs ∧ 1000 ≤ (o ++ [41]).length))) :=
          Lib.hid (fun w2 o hh l5 => say_text (s := ⟨#[41]⟩) (t := [41]) (by kernel_rfl) (by decide +kernel) hh l5 hw0)
        clear hh HS2 HS
        go_wp2_with fail
        refine (IH.out x _ (o ++ [32, 46, 32]) w1 HG.out.1 HG.out.2 HV1.out H1.out.self hl1 (by simp; omega)).mono ?_
        rintro e w3 ⟨o3, hh3, ⟨rfl, ho3, hl3⟩ | ⟨rfl, hp3, hl3⟩⟩
        case inr =>
          have H3 : Hid (Held w0 B b o3 w w3) := Lib.hid (H1.out.trans hh3)
          have HP3 := Lib.hid (hp3.trans Q2.out)
          clear hh3 hp3
          go_wp2_with fail
          exact ⟨rfl, Wrote.stop H3.out HP3.out hl3⟩
        have HH3 := Lib.hid hh3
        have HF3 : Hid (o3 ++ [41] = FIN) := Lib.hid (by rw [ho3]; exact HF2.out)
        clear hh3 ho3
        go_wp2_with fail
        refine (HS3.out w3 o3 HH3.out hl3).mono ?_
        rintro e w4 ⟨hh, ⟨rfl, hl1⟩ | ⟨rfl, hl1⟩⟩
        all_goals
          have H4 : Hid (Held w0 B b (o3 ++ [41]) w w4) := Lib.hid (H1.out.trans hh)
          clear hh
          rw [HF3.out] at H4 hl1
          go_wp2_with fail
        · go_end0
          exact Wrote.fin H4.out hl1
        · exact ⟨rfl, Wrote.stop H4.out (List.prefix_refl _) hl1⟩
end Go.Proofs.YtggkkgkjhfgipaaDoor
