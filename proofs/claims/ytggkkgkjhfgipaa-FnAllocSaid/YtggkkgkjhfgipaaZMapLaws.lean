/- Laws of Go's map operations in the model, for maps with int keys whose entries are known one by one: look-up, store of a new or an old key, range. Over any program. -/
import Derived.Maps.RangeRun
import Derived.Carry
import Derived.ChangeMaps5
namespace Go.Proofs.Ytggkkgkjhfgipaa
open Go.MapKept
open Go.ChangeMaps (setBlock)
set_option linter.unusedVariables false
set_option linter.unusedSimpArgs false

/-- An entry at an int's key. -/
abbrev ent (x : Int) (v : Value) (n : Nat) : MapEntry := { key := .int .i64 x, val := v, born := n }
/-- What stands at key x: the first entry's value. -/
def lookAt : List MapEntry → Int → Option Value
 | [], _ => none
 | e :: es, x => match e.key with
  | .int _ y => if x = y then some e.val else lookAt es x
  | _ => lookAt es x
/-- All keys are ints. -/
def IntKeys (es : List MapEntry) : Prop := ∀ e ∈ es, ∃ y, e.key = .int .i64 y

theorem findNow_int (q : IntKind) (x : Int) : ∀ (es : List MapEntry) (i : Nat), IntKeys es →
  (lookAt es x = none ∧ Instr.findNow (.int q) (.int .i64 x) es i = some none) ∨ ∃ j e, Instr.findNow (.int q) (.int .i64 x) es i = some (some (i + j, e.val)) ∧ es[j]? = some e ∧ e.key = .int .i64 x ∧ lookAt es x = some e.val
 | [], i, _ => .inl ⟨rfl, rfl⟩
 | e :: es, i, h => by
  obtain ⟨y, hy⟩ := h e (List.mem_cons_self ..)
  by_cases hxy : x = y
  ·subst hxy
   exact .inr ⟨0, e, by simp [Instr.findNow, Instr.sameNow, hy], rfl, hy, by simp [lookAt, hy]⟩
  ·have hb : (x == y) = false := by simpa using hxy
   rcases findNow_int q x es (i + 1) (fun e' he' => h e' (List.mem_cons_of_mem _ he')) with ⟨h1, h2⟩ | ⟨j, e', h1, h2, h3, h4⟩
   ·exact .inl ⟨by simp [lookAt, hy, hxy, h1], by simp [Instr.findNow, Instr.sameNow, hy, hb, h2]⟩
   ·exact .inr ⟨j + 1, e', by simp [Instr.findNow, Instr.sameNow, hy, hb, h1]; omega, by simpa using h2, h3, by simp [lookAt, hy, hxy, h4]⟩

section
variable {P : Program} {w : World} {t k e : TypeId} {b : Nat} {es : List MapEntry} {clock : Nat}
theorem run_lookup_ok (ht : P.underlying t = some (.map k e)) (hk : P.underlying k = some (.int .i64))
  (hb : w.heap[b]? = some (.map es.toArray clock)) (hes : IntKeys es) (x : Int) {z : Value} (hz : (zeroValue e).run P w = .ok z w) :
  (Instr.lookup t (.map (some b)) (.int .i64 x) true).run P w = .ok (.tuple #[(lookAt es x).getD z, .bool (lookAt es x).isSome]) w := by
 have hck := fun em => run_checkKey (P := P) (w := w) (k := .int .i64 x) hk (by simp [IsKey]) em 9999
 rcases findNow_int .i64 x es 0 hes with ⟨h1, h2⟩ | ⟨j, e0, h2, _, _, h1⟩
 ·simp [Instr.lookup, run_underlying ht, MapKept.run_getObj_map hb, hck, run_findKey hk h2, Result.andThen, hz, h1]
 ·simp [Instr.lookup, run_underlying ht, MapKept.run_getObj_map hb, hck, run_findKey hk h2, Result.andThen, h1]
theorem run_lookup_one (ht : P.underlying t = some (.map k e)) (hk : P.underlying k = some (.int .i64))
  (hb : w.heap[b]? = some (.map es.toArray clock)) (hes : IntKeys es) (x : Int) {z : Value} (hz : (zeroValue e).run P w = .ok z w) :
  (Instr.lookup t (.map (some b)) (.int .i64 x) false).run P w = .ok ((lookAt es x).getD z) w := by
 have hck := fun em => run_checkKey (P := P) (w := w) (k := .int .i64 x) hk (by simp [IsKey]) em 9999
 rcases findNow_int .i64 x es 0 hes with ⟨h1, h2⟩ | ⟨j, e0, h2, _, _, h1⟩
 ·simp [Instr.lookup, run_underlying ht, MapKept.run_getObj_map hb, hck, run_findKey hk h2, Result.andThen, hz, h1]
 ·simp [Instr.lookup, run_underlying ht, MapKept.run_getObj_map hb, hck, run_findKey hk h2, Result.andThen, h1]
/-- A new key. -/
theorem run_store_new (ht : P.underlying t = some (.map k e)) (hk : P.underlying k = some (.int .i64))
  (hb : w.heap[b]? = some (.map es.toArray clock)) (hes : IntKeys es) (x : Int) (v : Value) (hx : lookAt es x = none) :
  (Instr.mapUpdate t (.map (some b)) (.int .i64 x) v).run P w = .ok () (setBlock w b (.map (es ++ [ent x v clock]).toArray (clock + 1))) := by
 have hck := fun em => run_checkKey (P := P) (w := w) (k := .int .i64 x) hk (by simp [IsKey]) em 9999
 rcases findNow_int .i64 x es 0 hes with ⟨h1, h2⟩ | ⟨j, e0, h2, _, _, h1⟩
 ·simp [Instr.mapUpdate, run_underlying ht, MapKept.run_getObj_map hb, hck, run_findKey hk h2, Result.andThen, run_setObj_map _ hb, setBlock]
 ·rw [hx] at h1; cases h1
end

theorem IntKeys.snoc {es : List MapEntry} (h : IntKeys es) (x : Int) (v : Value) (n : Nat) : IntKeys (es ++ [ent x v n]) := by
 intro e he
 rcases List.mem_append.1 he with he | he
 ·exact h e he
 ·rw [List.mem_singleton] at he
  subst he
  exact ⟨x, rfl⟩
theorem lookAt_snoc (es : List MapEntry) (y : Int) (v : Value) (n : Nat) (x : Int) : lookAt (es ++ [ent y v n]) x = match lookAt es x with
  | some u => some u
  | none => if x = y then some v else none := by
 induction es with
 | nil => simp [lookAt]
 | cons e es ih =>
  simp only [List.cons_append, lookAt]
  split
  ·split
   ·rfl
   ·exact ih
  ·exact ih
end Go.Proofs.Ytggkkgkjhfgipaa
