/- The program's copier: what its word does to the copier's state. -/
import Derived.Test.YtggkkgkjhfgipaaZCollE
import Derived.Test.YtggkkgkjhfgipaaZCollD
namespace Go.Proofs.Ytggkkgkjhfgipaa
open Go.RowKit Go.Proofs.YtggkkgkjhfgipaaW.PrintWords Go.Proofs.YtggkkgkjhfgipaaW.PrintLast Go.Proofs.YtggkkgkjhfgipaaW.PrintMore
open Go.ChangeMaps (setBlock)
set_option linter.unusedVariables false
set_option linter.unusedSimpArgs false
/-- The copier in memory: the objects ord were copied. -/
structure Cop (w0 : World) (C bf bt g : Nat) (ws : List Int) (ord : List Nat) (row : List Int) (w : World) : Prop where
 box : w.heap[C]? = some (.cells #[.map (some bf), .slice (some ⟨g, 0, none⟩) ws.length ws.length, .int .i64 (offO ws ord : Int), .map (some bt)] 75 (0, 0))
 too : ∃ ts clock, w.heap[bt]? = some (.map ts.toArray clock) ∧ IntKeys ts ∧ ∀ p : Nat, lookAt ts (p : Int) = if p ∈ ord then some (.int .i64 (posO ws ord p : Int)) else none
 cells : w.heap[g]? = some (.cells (ints row).toArray 3 (0, 0))
 len : row.length = ws.length
 below : Below w0.heap.size w0 w
 b1 : w0.heap.size ≤ C
 b2 : w0.heap.size ≤ bt
 b3 : w0.heap.size ≤ g
 n1 : C ≠ bt
 n2 : C ≠ g
 n3 : bt ≠ g
theorem Cop.keep {w0 w w2 : World} {C bf bt g : Nat} {ws : List Int} {ord : List Nat} {row : List Int} (h : Cop w0 C bf bt g ws ord row w) (hk : ∀ k, k = C ∨ k = bt ∨ k = g → w2.heap[k]? = w.heap[k]?) (hb : Below w0.heap.size w0 w2) : Cop w0 C bf bt g ws ord row w2 := by
 obtain ⟨ts, clock, h1, h2, h3⟩ := h.too
 exact ⟨(hk C (.inl rfl)).trans h.box, ⟨ts, clock, (hk bt (.inr (.inl rfl))).trans h1, h2, h3⟩, (hk g (.inr (.inr rfl))).trans h.cells, h.len, hb, h.b1, h.b2, h.b3, h.n1, h.n2, h.n3⟩
/-- A field has been written. -/
theorem Cop.set {w0 w : World} {C bf bt g : Nat} {ws : List Int} {ord : List Nat} {row : List Int} (h : Cop w0 C bf bt g ws ord row w) (i : Nat) (v : Int) : Cop w0 C bf bt g ws ord (row.set i v) (w.setCell ⟨g, i, none⟩ (.int .i64 v)) := by
 obtain ⟨ts, clock, h1, h2, h3⟩ := h.too
 exact ⟨(Below.heap_setCell w _ _ C h.n2).trans h.box, ⟨ts, clock, (Below.heap_setCell w _ _ bt h.n3).trans h1, h2, h3⟩, blk_put h.cells i _ (by simp [ints, List.map_set]), by simp [h.len], h.below.setCell h.b3 _, h.b1, h.b2, h.b3, h.n1, h.n2, h.n3⟩
theorem Cop.drew {w0 w : World} {C bf bt g : Nat} {ws : List Int} {ord : List Nat} {row : List Int} (h : Cop w0 C bf bt g ws ord row w) : Cop w0 C bf bt g ws ord row w.drew := h.keep (fun _ _ => rfl) h.below.drew
theorem EntsOf.look {w0 : World} {ws : List Int} {top : Int} {L : List (Nat × Nat)} {es : List MapEntry} (h : EntsOf w0 ws L es) (hL : objsF ws top = some L) {p : Nat} (hp : (p, sizeAt ws p) ∈ L) :
  ∃ a c, lookAt es (p : Int) = some (.agg #[.int .i64 (ws.getD p 0 % 4), .slice a (sizeAt ws p) c]) ∧ Kd.C (Kd.int .i64) w0 a (sizeAt ws p) (objFields ws p) := by
 have hs := h.look_place (p : Int)
 have hpl : isPlace L (p : Int) = true := List.any_eq_true.2 ⟨_, hp, by simp⟩
 rw [hpl] at hs
 rcases findNow_int .i64 (p : Int) es 0 h.intKeys with ⟨h1, _⟩ | ⟨j, e0, _, he, hk, h1⟩
 ·rw [h1] at hs; cases hs
 ·obtain ⟨i, q, n, a, c, hi, rfl, _, hc⟩ := h.whole e0 (List.mem_of_getElem? he)
  have hq : q = p := by
   have : ((q : Int)) = (p : Int) := by simpa [ent] using hk
   omega
  subst hq
  have hn := ((objsF_mem hL).2.2.2 _ (List.mem_of_getElem? hi)).2
  simp only at hn
  subst hn
  exact ⟨a, c, h1, hc⟩
def SC (C bt g : Nat) (j : Nat) : Prop := j = C ∨ j = bt ∨ j = g
def WordPost (w0 : World) (C bf bt g : Nat) (ws : List Int) (ord : List Nat) (row : List Int) (x : Int) (w : World) (e : Ending) (w' : World) : Prop :=
 e = .returned (.int .i64 (movedO ws (stepO ord x) x)) ∧ Cop w0 C bf bt g ws (stepO ord x) (rowStep ws ord row x) w' ∧ But (SC C bt g) w w'
theorem word_plain (C t : Nat) (x : Int) (w : World) (ht : x % 4 ≠ 1) : Calls Try.prog 50 #[.pointer (some ⟨C, 0, none⟩), .int .i64 x] w fun e w' => e = .returned (.int .i64 x) ∧ w = w' := by
 obtain ⟨t, ht2⟩ : ∃ t, x % 4 = t := ⟨_, rfl⟩
 rw [ht2] at ht
 have hb : (t != 1) = true := by simpa using ht
 have HT := Lib.hid ht2
 clear ht ht2
 go_enter Try.func50, Try.ntmps50
 go_wp2_with (go_at_call 46; refine (tagOf_calls x t HT.out _).mono ?_; rintro e w' ⟨rfl, rfl⟩)
 go_ret
 simp
theorem word_old (C bf bt g N p : Nat) (off q x : Int) (clock : Nat) (ts : List MapEntry) (w : World)
  (hbox : w.heap[C]? = some (.cells #[.map (some bf), .slice (some ⟨g, 0, none⟩) N N, .int .i64 off, .map (some bt)] 75 (0, 0)))
  (hto : w.heap[bt]? = some (.map ts.toArray clock)) (hts : IntKeys ts) (hold : lookAt ts (p : Int) = some (.int .i64 q)) (hx : x = 4 * (p : Int) + 1) (hp : p ≤ 20000) (hq0 : 0 ≤ q) (hq1 : q ≤ 20000) :
  Calls Try.prog 50 #[.pointer (some ⟨C, 0, none⟩), .int .i64 x] w fun e w' => e = .returned (.int .i64 (4 * q + 1)) ∧ w = w' := by
 have c3 : w.cell? ⟨C, 3, none⟩ = some (.map (some bt)) := blk_cell hbox 3
 have hlk := run_lookup_ok Try.underlying68 Try.underlying3 hto hts (p : Int) (zero_int w)
 rw [hold] at hlk
 simp only [Option.getD_some, Option.isSome_some] at hlk
 have HT : Hid (x % 4 = 1) := Lib.hid (by omega)
 have HP : Hid ((x - 1) / 4 = (p : Int)) := Lib.hid (by omega)
 have hx1 : 1 ≤ x := by omega
 have hx2 : x ≤ 9223372036854775807 := by omega
 clear hbox hto hx hts hold
 go_enter Try.func50, Try.ntmps50
 go_wp2_with (first
  | (go_at_call 46; refine (tagOf_calls x 1 HT.out _).mono ?_; rintro e w' ⟨rfl, rfl⟩)
  | (go_at_call 47; refine (placeOf_calls x hx1 hx2 _).mono ?_; rintro e w' ⟨rfl, rfl⟩; rw [HP.out])
  | (go_at_call 44; refine (pointer_calls q hq0 hq1 _).mono ?_; rintro e w' ⟨rfl, rfl⟩))
 go_ret
 simp
theorem word_calls (w0 : World) (C bf bt g : Nat) (ws : List Int) (top : Int) (L : List (Nat × Nat)) (es : List MapEntry) (ord : List Nat) (row : List Int) (x : Int) (w : World) (hL : objsF ws top = some L) (he : EntsOf w0 ws L es)
  (hf : w0.heap[bf]? = some (.map es.toArray L.length)) (hg : GoodO ws L ord) (hw : wordF (isPlace L) x = true) (hc : Cop w0 C bf bt g ws ord row w) :
  Calls Try.prog 50 #[.pointer (some ⟨C, 0, none⟩), .int .i64 x] w (WordPost w0 C bf bt g ws ord row x w) := by
 by_cases h1 : x % 4 = 1
 ·obtain ⟨h0, hin⟩ := place_in hL hw h1
  obtain ⟨hf1, hf2, hf3, hf4, hf5⟩ := obj_fits hL hin
  have hlt := objsF_mem hL
  have hxp : x = 4 * (plc x : Int) + 1 := by unfold plc; omega
  obtain ⟨ts, clock, ht1, ht2, ht3⟩ := hc.too
  by_cases hm : plc x ∈ ord
  ·have hpos := ht3 (plc x)
   rw [if_pos hm] at hpos
   have hle : posO ws ord (plc x) ≤ 20000 := by
    obtain ⟨i, hi, hie⟩ := List.mem_iff_getElem.1 hm
    have := posO_at ws ord i (plc x) hg.nodup (by rw [List.getElem?_eq_getElem hi, hie])
    have h2 := offO_take_le ws ord i
    have h3 := hg.off_le hL
    omega
   refine (word_old C bf bt g ws.length (plc x) _ _ x clock ts w hc.box ht1 ht2 hpos hxp (by omega) (by omega) (by omega)).mono ?_
   rintro e w' ⟨rfl, rfl⟩
   have e1 : stepO ord x = ord := by unfold stepO; rw [if_neg (fun e => e.2 hm)]
   have e2 : rowStep ws ord row x = row := by unfold rowStep; rw [if_neg (fun e => e.2 hm)]
   unfold WordPost
   rw [e1, e2]
   exact ⟨by unfold movedO; rw [if_pos h1], hc, But.refl _ _⟩
  ·have hpos := ht3 (plc x)
   rw [if_neg hm] at hpos
   have e1 : stepO ord x = ord ++ [plc x] := by unfold stepO; rw [if_pos ⟨h1, hm⟩]
   have e2 : rowStep ws ord row x = putObj ws (offO ws ord) (plc x) row := by unfold rowStep; rw [if_pos ⟨h1, hm⟩]
   have hle := (hg.step hL hw).off_le hL
   rw [e1, offO_append] at hle
   have e3 : offO ws [plc x] = 1 + sizeAt ws (plc x) := by simp [offO, sz]
   obtain ⟨a, c, hla, hcf⟩ := he.look hL hin
   have hfb : w.heap[bf]? = some (.map es.toArray L.length) := (hc.below.block bf (blk_lt hf)).trans hf
   have hfrom := run_lookup_one Try.underlying59 Try.underlying3 hfb he.intKeys (plc x : Int) (zero_object w)
   rw [hla] at hfrom
   simp only [Option.getD_some] at hfrom
   refine (word_new C bf bt g (offO ws ord) (plc x) (sizeAt ws (plc x)) c ws.length clock a (ws.getD (plc x) 0 % 4) x (objFields ws (plc x)) row ts w0 w hc.box ht1 ht2 hpos hfrom hc.cells hc.len hxp (by omega) (by omega) (by omega) hf5 (by omega) (by omega) hcf hc.below hc.b1 hc.b2 hc.b3 hc.n1 hc.n2 hc.n3).mono ?_
   rintro e w' ⟨rfl, hn⟩
   unfold WordPost
   have hpr : posO ws (ord ++ [plc x]) (plc x) = offO ws ord := posO_new ws ord (plc x) hm
   rw [e1, e2]
   have hhead : 4 * (sizeAt ws (plc x) : Int) + ws.getD (plc x) 0 % 4 = ws.getD (plc x) 0 := by omega
   have hrow := hn.row
   rw [hhead] at hrow
   have hpo : row.take (offO ws ord) ++ ws.getD (plc x) 0 :: objFields ws (plc x) ++ row.drop (offO ws ord + 1 + sizeAt ws (plc x)) = putObj ws (offO ws ord) (plc x) row := by
    unfold putObj rawObj sz
    rw [Nat.add_assoc]
   rw [hpo] at hrow
   have hbox := hn.box
   have hof : offO ws (ord ++ [plc x]) = offO ws ord + 1 + sizeAt ws (plc x) := by rw [offO_append, e3]; omega
   rw [← hof] at hbox
   refine ⟨by unfold movedO; rw [if_pos h1, hpr], ⟨hbox, ⟨_, _, hn.too, ht2.snoc _ _ _, fun p => ?_⟩, hrow, ?_, hn.but.below hc.below (fun k hk => by rcases hk with rfl | rfl | rfl; exact hc.b1; exact hc.b2; exact hc.b3) hc.below.size, hc.b1, hc.b2, hc.b3, hc.n1, hc.n2, hc.n3⟩, hn.but⟩
   ·rw [lookAt_snoc, ht3 p]
    by_cases hp : p ∈ ord
    ·rw [if_pos hp, if_pos (List.mem_append_left _ hp), posO_append ws ord _ p hp]
    ·rw [if_neg hp]
     by_cases hpe : p = plc x
     ·subst hpe
      rw [if_pos rfl, if_pos (show plc x ∈ ord ++ [plc x] by simp), hpr]
     ·have hpi : ¬ (p : Int) = (plc x : Int) := by omega
      rw [if_neg hpi, if_neg (show ¬ p ∈ ord ++ [plc x] by simp [hp, hpe])]
   ·rw [← hpo]
    have := hc.len
    simp only [List.length_append, List.length_take, List.length_cons, List.length_drop]
    omega
 ·refine (word_plain C 0 x w h1).mono ?_
  rintro e w' ⟨rfl, rfl⟩
  have e1 : stepO ord x = ord := by unfold stepO; rw [if_neg (fun e => h1 e.1)]
  have e2 : rowStep ws ord row x = row := by unfold rowStep; rw [if_neg (fun e => h1 e.1)]
  unfold WordPost
  rw [e1, e2]
  exact ⟨by unfold movedO; rw [if_neg h1], hc, But.refl _ _⟩
end Go.Proofs.Ytggkkgkjhfgipaa
