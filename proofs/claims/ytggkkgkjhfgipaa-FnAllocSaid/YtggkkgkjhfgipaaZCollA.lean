/- What Collect computes, in plain Lean. -/
import Derived.Test.YtggkkgkjhfgipaaZHeapH
namespace Go.Proofs.Ytggkkgkjhfgipaa
open Go.RowKit
set_option linter.unusedVariables false
set_option linter.unusedSimpArgs false
/-- Words of an object with its head. -/
def sz (ws : List Int) (p : Nat) : Nat := 1 + sizeAt ws p
def offO (ws : List Int) : List Nat → Nat
 | [] => 0
 | p :: r => sz ws p + offO ws r
def posO (ws : List Int) : List Nat → Nat → Nat
 | [], _ => 0
 | q :: r, p => if q = p then 0 else sz ws q + posO ws r p
def plc (x : Int) : Nat := (x / 4).toNat
def stepO (ord : List Nat) (x : Int) : List Nat := if x % 4 = 1 ∧ plc x ∉ ord then ord ++ [plc x] else ord
def visitO (ord : List Nat) (xs : List Int) : List Nat := xs.foldl stepO ord
def objFields (ws : List Int) (p : Nat) : List Int := fieldsAt ws p (sizeAt ws p)
def bfsO (ws : List Int) : Nat → Nat → List Nat → List Nat
 | 0, _, ord => ord
 | k + 1, next, ord => match ord[next]? with
  | none => ord
  | some p => bfsO ws k (next + 1) (visitO ord (objFields ws p))
def movedO (ws : List Int) (ord : List Nat) (x : Int) : Int := if x % 4 = 1 then 4 * (posO ws ord (plc x) : Int) + 1 else x
def mapObj (ws : List Int) (ord : List Nat) (p : Nat) : List Int := ws.getD p 0 :: (objFields ws p).map (movedO ws ord)
def orderO (ws : List Int) (roots : List Int) : List Nat := bfsO ws 20001 0 (visitO [] roots)
def collectF (ws : List Int) (top : Int) (roots : List Int) : List Int × Int × List Int × Int :=
 if validF ws top roots = true then
  ((orderO ws roots).flatMap (mapObj ws (orderO ws roots)) ++ List.replicate (ws.length - offO ws (orderO ws roots)) 0, (offO ws (orderO ws roots) : Int), roots.map (movedO ws (orderO ws roots)), 0)
 else ([], 0, [], 1)

theorem offO_append (ws : List Int) : ∀ (a b : List Nat), offO ws (a ++ b) = offO ws a + offO ws b
 | [], b => by simp [offO]
 | p :: r, b => by
  rw [List.cons_append, offO, offO, offO_append ws r b]
  omega
theorem posO_append (ws : List Int) : ∀ (a b : List Nat) (p : Nat), p ∈ a → posO ws (a ++ b) p = posO ws a p
 | [], b, p, h => by simp at h
 | q :: r, b, p, h => by
  rw [List.cons_append, posO, posO]
  by_cases hq : q = p
  ·rw [if_pos hq, if_pos hq]
  ·rw [if_neg hq, if_neg hq, posO_append ws r b p (by simpa [Ne.symm hq, hq] using (List.mem_cons.1 h).resolve_left (Ne.symm hq))]
theorem posO_new (ws : List Int) : ∀ (a : List Nat) (p : Nat), p ∉ a → posO ws (a ++ [p]) p = offO ws a
 | [], p, h => by simp [posO, offO]
 | q :: r, p, h => by
  have h1 : ¬ q = p := fun e => h (by simp [e])
  rw [List.cons_append, posO, if_neg h1, offO, posO_new ws r p (fun e => h (List.mem_cons_of_mem _ e))]
theorem posO_at (ws : List Int) : ∀ (a : List Nat) (i : Nat) (p : Nat), a.Nodup → a[i]? = some p → posO ws a p = offO ws (a.take i)
 | [], i, p, _, h => by simp at h
 | q :: r, 0, p, hn, h => by
  simp at h
  simp [posO, offO, h]
 | q :: r, i + 1, p, hn, h => by
  simp at h
  have hm : p ∈ r := List.mem_of_getElem? h
  have h1 : ¬ q = p := fun e => (List.nodup_cons.1 hn).1 (e ▸ hm)
  rw [posO, if_neg h1, List.take_succ_cons, offO, posO_at ws r i p (List.nodup_cons.1 hn).2 h]
theorem offO_take_le (ws : List Int) (a : List Nat) (i : Nat) : offO ws (a.take i) ≤ offO ws a := by
 have := offO_append ws (a.take i) (a.drop i)
 rw [List.take_append_drop] at this
 omega
theorem offO_take_succ (ws : List Int) (a : List Nat) (i p : Nat) (h : a[i]? = some p) : offO ws (a.take (i + 1)) = offO ws (a.take i) + sz ws p := by
 rw [List.take_add_one, h, offO_append]
 simp [offO]
/-- What a step adds. -/
theorem stepO_pre (ord : List Nat) (x : Int) : ∃ r, stepO ord x = ord ++ r := by
 unfold stepO
 split
 ·exact ⟨_, rfl⟩
 ·exact ⟨[], by simp⟩
theorem visitO_pre (xs : List Int) : ∀ ord : List Nat, ∃ r, visitO ord xs = ord ++ r := by
 induction xs with
 | nil => exact fun ord => ⟨[], by simp [visitO]⟩
 | cons x r ih =>
  intro ord
  obtain ⟨a, ha⟩ := stepO_pre ord x
  obtain ⟨b, hb⟩ := ih (stepO ord x)
  exact ⟨a ++ b, by
   show visitO (stepO ord x) r = _
   rw [hb, ha, List.append_assoc]⟩
theorem stepO_mem {ord : List Nat} {x : Int} (h : x % 4 = 1) : plc x ∈ stepO ord x := by
 unfold stepO
 by_cases hm : plc x ∈ ord
 ·rw [if_neg (fun e => e.2 hm)]; exact hm
 ·rw [if_pos ⟨h, hm⟩]; simp
theorem visitO_mem {xs : List Int} : ∀ {ord : List Nat} {x : Int}, x ∈ xs → x % 4 = 1 → plc x ∈ visitO ord xs := by
 induction xs with
 | nil => intro ord x h; simp at h
 | cons y r ih =>
  intro ord x h h1
  show plc x ∈ visitO (stepO ord y) r
  rcases List.mem_cons.1 h with rfl | h
  ·obtain ⟨b, hb⟩ := visitO_pre r (stepO ord x)
   rw [hb]
   exact List.mem_append_left _ (stepO_mem h1)
  ·exact ih h h1
theorem bfsO_pre (ws : List Int) : ∀ (k next : Nat) (ord : List Nat), ∃ r, bfsO ws k next ord = ord ++ r
 | 0, next, ord => ⟨[], by simp [bfsO]⟩
 | k + 1, next, ord => by
  unfold bfsO
  split
  ·exact ⟨[], by simp⟩
  ·rename_i p hp
   obtain ⟨a, ha⟩ := visitO_pre (objFields ws p) ord
   obtain ⟨b, hb⟩ := bfsO_pre ws k (next + 1) (visitO ord (objFields ws p))
   exact ⟨a ++ b, by rw [hb, ha, List.append_assoc]⟩
theorem movedO_pre (ws : List Int) (ord r : List Nat) (x : Int) (h : x % 4 = 1 → plc x ∈ ord) : movedO ws (ord ++ r) x = movedO ws ord x := by
 unfold movedO
 by_cases h1 : x % 4 = 1
 ·rw [if_pos h1, if_pos h1, posO_append ws ord r _ (h h1)]
 ·rw [if_neg h1, if_neg h1]
end Go.Proofs.Ytggkkgkjhfgipaa
