/- A valid heap's starts are its objects' places. -/
import Derived.Test.YtggkkgkjhfgipaaZHeapG
namespace Go.Proofs.Ytggkkgkjhfgipaa
open Go.RowKit
set_option linter.unusedVariables false
set_option linter.unusedSimpArgs false
theorem valid_same (ws : List Int) (top : Int) : validF ws top [] = (specValid ws top).2 := by
 rw [← specValidHeap_eq]
 unfold specValidHeap
 simp
theorem valid_place {ws : List Int} {top : Int} (h : (specValid ws top).2 = true) : ∃ L, objsF ws top = some L ∧ startAt (specValid ws top).1 = isPlace L := by
 have hv : validF ws top [] = true := by rw [valid_same]; exact h
 cases hs : specStarts ws top with
 | none =>
  unfold specValid at h
  rw [hs] at h
  cases h
 | some S =>
  obtain ⟨h1, h2, h3, h4, h5⟩ := specStarts_facts hs
  obtain ⟨t, rfl⟩ := Int.eq_ofNat_of_zero_le h2
  have ht : t ≤ ws.length := by omega
  simp only [Int.toNat_natCast] at h4 h5
  have hfst : (specValid ws (t : Int)).1 = S := by
   unfold specValid at h ⊢
   rw [hs] at h ⊢
   simp only at h ⊢
   cases hw : wordsOk ws (t : Int).toNat S ws.length 0 with
   | true => rfl
   | false => rw [hw] at h; cases h
  rw [hfst]
  rcases scan_both ws t (t + 1) 0 (List.replicate t false) [] with ⟨_, h6⟩ | ⟨L, h6, h7⟩
  ·rw [h5] at h6; cases h6
  ·rw [List.nil_append] at h6
   rw [h5] at h7
   have hT := scanF_tiles (t + 1) 0 [] L (by omega) Tiles.nil h6
   have hS : S = setAll L (List.replicate t false) := by
    split at h7
    ·exact Option.some.inj h7
    ·cases h7
   refine ⟨L, ?_, by rw [hS]; exact startAt_place hT⟩
   cases ho : objsF ws (t : Int) with
   | none => rw [validF_none ho] at hv; cases hv
   | some L2 =>
    rw [objsF_scan h1 ht, h6] at ho
    simp only at ho
    split at ho
    ·exact ho.symm ▸ rfl
    ·cases ho
end Go.Proofs.Ytggkkgkjhfgipaa
