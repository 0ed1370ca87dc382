/- Lists of Collect: the table of moved places, the row that is filled. -/
import Derived.Test.YtggkkgkjhfgipaaZCollB
namespace Go.Proofs.Ytggkkgkjhfgipaa
open Go.RowKit
set_option linter.unusedVariables false
set_option linter.unusedSimpArgs false
def mvF (ws : List Int) (t : Nat) (ord : List Nat) : List Int := (List.range t).map fun p => if p ∈ ord then (posO ws ord p : Int) else -1
theorem mvF_length (ws : List Int) (t : Nat) (ord : List Nat) : (mvF ws t ord).length = t := by simp [mvF]
theorem mvF_get (ws : List Int) (t : Nat) (ord : List Nat) (p : Nat) (hp : p < t) : (mvF ws t ord).getD p 0 = if p ∈ ord then (posO ws ord p : Int) else -1 := by
 unfold mvF
 rw [List.getD_eq_getElem?_getD, List.getElem?_map, List.getElem?_range hp]
 rfl
theorem mvF_at (ws : List Int) (t : Nat) (ord : List Nat) (p : Nat) (h : p < (mvF ws t ord).length) : (mvF ws t ord)[p] = if p ∈ ord then (posO ws ord p : Int) else -1 := by
 simp [mvF]
theorem mvF_nil (ws : List Int) (t : Nat) : mvF ws t [] = List.replicate t (-1) := by
 unfold mvF
 apply List.ext_getElem
 ·simp
 ·intro i h1 h2
  simp
theorem mvF_set (ws : List Int) (t : Nat) (ord : List Nat) (p : Nat) (hp : p < t) (hm : p ∉ ord) : (mvF ws t ord).set p (offO ws ord) = mvF ws t (ord ++ [p]) := by
 apply List.ext_getElem
 ·simp [mvF]
 ·intro i h1 h2
  rw [List.getElem_set, mvF_at, mvF_at]
  by_cases he : p = i
  ·subst he
   rw [if_pos rfl, if_pos (by simp), posO_new ws ord p hm]
  ·rw [if_neg he]
   by_cases hi : i ∈ ord
   ·rw [if_pos hi, if_pos (List.mem_append_left _ hi), posO_append ws ord _ i hi]
   ·rw [if_neg hi, if_neg]
    intro h
    rcases List.mem_append.1 h with h | h
    ·exact hi h
    ·exact he (List.mem_singleton.1 h).symm
def natsI (xs : List Nat) : List Int := xs.map Int.ofNat
theorem natsI_length (xs : List Nat) : (natsI xs).length = xs.length := by simp [natsI]
theorem natsI_get (xs : List Nat) (i p : Nat) (h : xs[i]? = some p) : (natsI xs).getD i 0 = (p : Int) := by
 unfold natsI
 rw [List.getD_eq_getElem?_getD, List.getElem?_map, h]
 rfl
theorem natsI_append (a b : List Nat) : natsI (a ++ b) = natsI a ++ natsI b := by simp [natsI]
theorem fill_set (A : List Int) (m : Nat) (v : Int) (n : Nat) (hn : n = A.length) (hm : 0 < m) : (A ++ List.replicate m 0).set n v = A ++ [v] ++ List.replicate (m - 1) 0 := by
 subst hn
 obtain ⟨k, rfl⟩ : ∃ k, m = k + 1 := ⟨m - 1, by omega⟩
 rw [List.set_append_right _ _ (Nat.le_refl _), Nat.sub_self, List.replicate_succ]
 simp
theorem mapObj_length (ws : List Int) (ord : List Nat) (p : Nat) : (mapObj ws ord p).length = 1 + (objFields ws p).length := by
 unfold mapObj
 simp
 omega
theorem flat_length {ws : List Int} {top : Int} {L : List (Nat × Nat)} (hL : objsF ws top = some L) (ord : List Nat) : ∀ (os : List Nat), (∀ p ∈ os, (p, sizeAt ws p) ∈ L) → (os.flatMap (mapObj ws ord)).length = offO ws os
 | [], _ => by simp [offO]
 | p :: r, h => by
  rw [List.flatMap_cons, List.length_append, mapObj_length, flat_length hL ord r (fun q hq => h q (List.mem_cons_of_mem _ hq)), offO, (obj_fits hL (h p List.mem_cons_self)).2.2.2.2]
  rfl
theorem flat_take_succ {α : Type} (f : Nat → List α) (os : List Nat) (i p : Nat) (h : os[i]? = some p) : (os.take (i + 1)).flatMap f = (os.take i).flatMap f ++ f p := by
 rw [List.take_add_one, h]
 simp
/-- All that is pointed to was come to. -/
def Closed (ws : List Int) (ord : List Nat) (i : Nat) : Prop := ∀ (j p : Nat), j < i → ord[j]? = some p → ∀ x ∈ objFields ws p, x % 4 = 1 → plc x ∈ ord
theorem Closed.zero (ws : List Int) (ord : List Nat) : Closed ws ord 0 := fun j p h => absurd h (Nat.not_lt_zero _)
theorem Closed.visit {ws : List Int} {ord : List Nat} {i p : Nat} (h : Closed ws ord i) (hi : i < ord.length) (hp : ord[i]? = some p) : Closed ws (visitO ord (objFields ws p)) (i + 1) := by
 obtain ⟨r, hr⟩ := visitO_pre (objFields ws p) ord
 intro j q hj hq x hx h1
 rw [hr] at hq
 rw [List.getElem?_append_left (by omega)] at hq
 by_cases he : j = i
 ·subst he
  rw [hp] at hq
  cases hq
  exact visitO_mem hx h1
 ·rw [hr]
  exact List.mem_append_left _ (h j q (by omega) hq x hx h1)
theorem bfsO_good {ws : List Int} {top : Int} {L : List (Nat × Nat)} (hL : objsF ws top = some L) (ho : ∀ q ∈ L, objectAt ws L q = true) : ∀ (k next : Nat) (ord : List Nat), GoodO ws L ord → Closed ws ord next → next ≤ ord.length → top.toNat - next < k →
  GoodO ws L (bfsO ws k next ord) ∧ Closed ws (bfsO ws k next ord) (bfsO ws k next ord).length
 | 0, next, ord, _, _, _, h => absurd h (Nat.not_lt_zero _)
 | k + 1, next, ord, hg, hc, hn, h => by
  unfold bfsO
  split
  ·rename_i he
   have : next = ord.length := by
    have := List.getElem?_eq_none_iff.1 he
    omega
   subst this
   exact ⟨hg, hc⟩
  ·rename_i p hp
   have hlt : next < ord.length := (List.getElem?_eq_some_iff.1 hp).1
   have hle := hg.off_le hL
   have := len_le_off ws ord
   have hpi := hg.inn p (List.mem_of_getElem? hp)
   obtain ⟨r, hr⟩ := visitO_pre (objFields ws p) ord
   exact bfsO_good hL ho k (next + 1) _ (hg.visit hL _ (fields_ok ho hpi)) (hc.visit hlt hp) (by rw [hr, List.length_append]; omega) (by omega)
theorem orderO_good {ws : List Int} {top : Int} {L : List (Nat × Nat)} {roots : List Int} (hL : objsF ws top = some L) (ho : ∀ q ∈ L, objectAt ws L q = true) (hr : ∀ x ∈ roots, wordF (isPlace L) x = true) :
  GoodO ws L (orderO ws roots) ∧ Closed ws (orderO ws roots) (orderO ws roots).length ∧ ∀ x ∈ roots, x % 4 = 1 → plc x ∈ orderO ws roots := by
 have hg := (GoodO.nil ws L).visit hL roots hr
 obtain ⟨hlw, ht0, htl, _⟩ := objsF_mem hL
 obtain ⟨h1, h2⟩ := bfsO_good hL ho 20001 0 _ hg (Closed.zero _ _) (Nat.zero_le _) (by omega)
 refine ⟨h1, h2, fun x hx h => ?_⟩
 obtain ⟨r, hr'⟩ := bfsO_pre ws 20001 0 (visitO [] roots)
 unfold orderO
 rw [hr']
 exact List.mem_append_left _ (visitO_mem hx h)
end Go.Proofs.Ytggkkgkjhfgipaa
