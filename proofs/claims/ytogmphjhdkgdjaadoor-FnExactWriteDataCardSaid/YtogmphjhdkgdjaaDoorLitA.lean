/- '[]byte("..")' of a constant: the row of the call's own gets the model's mark behind its end: it is a view from then on. -/
import Derived.Test.YtogmphjhdkgdjaaDoorWMore
import Derived.Test.YtogmphjhdkgdjaaDoorWShare
import Derived.Test.YtogmphjhdkgdjaaDoorWWords
import Derived.Laws.IdiomStrings
namespace Go.Proofs.YtogmphjhdkgdjaaDoor
open Go.RowKit Go.Proofs.YtogmphjhdkgdjaaDoorW.PrintWords Go.Proofs.YtogmphjhdkgdjaaDoorW.PrintLast Go.Proofs.YtogmphjhdkgdjaaDoorW.PrintMore
set_option linter.unusedVariables false
set_option linter.unusedSimpArgs false
theorem conv_own {P : Program} {t e : TypeId} (ht : P.underlying t = some (.slice e)) (he : P.underlying e = some (.int .u8)) {w : World} {base : Nat} {ok : Nat → Prop} {v : Value} {xs : List Int} (h : Kd.R (Kd.int .u8) e w base ok v xs) (hn : 0 < xs.length) :
    ∃ w', (convert t t v).run P w = .ok v w' ∧ Kd.V (Kd.int .u8) e w' base (fun k_ => base ≤ k_) v xs ∧ Below base w w' := by
  obtain ⟨g, cap, rfl, hb, hl, cells, hc⟩ := Kd.R_form h hn
  obtain ⟨_, hcap, hC⟩ := Kd.R_reads' h
  have hsh : w.shape? g = some (e, cells.size) := by simp [World.shape?, hc]
  have hW : (w.freeze ⟨g, cells.size, none⟩ 1).heap[g]? = some (.cells cells e (cells.size, cells.size + 1)) := by
    simp [World.freeze, Array.getElem?_modify, hc]
  have hO : ∀ k, k ≠ g → (w.freeze ⟨g, cells.size, none⟩ 1).heap[k]? = w.heap[k]? := by
    intro k hk
    simp only [World.freeze]
    rw [if_neg (by decide)]
    simp only [Array.getElem?_modify]
    rw [if_neg (fun e => hk e.symm)]
  have hS : (w.freeze ⟨g, cells.size, none⟩ 1).heap.size = w.heap.size := by
    simp only [World.freeze]
    rw [if_neg (by decide)]
    simp
  refine ⟨w.freeze ⟨g, cells.size, none⟩ 1, ?_, ?_, ?_⟩
  · simp [convert, run_underlying ht, run_underlying he, markStringish, hsh]
  · refine ⟨_, _, rfl, hcap, fun W' hk => ?_⟩
    have h1 := hk g hb (by rw [hS]; exact hl)
    rw [hW] at h1
    obtain ⟨h2, h3, h4⟩ := hC
    refine ⟨h2, h3, fun hp => ?_⟩
    obtain ⟨ad, e1, h5⟩ := h4 hp
    cases e1
    refine ⟨_, rfl, fun j p hp => ?_⟩
    obtain ⟨c, c1, c2, c3⟩ := h5 j p hp
    refine ⟨c, c1, c2, fun i u hu => ?_⟩
    have := c3 i u hu
    rw [add_plain] at this ⊢
    simp only [World.cell?, hc] at this
    simp only [World.cell?, h1]
    exact this
  · refine ⟨?_, ?_, ?_, ?_, fun i hi => hO i (by omega)⟩
    · simp only [World.freeze]; rw [if_neg (by decide)]
    · simp only [World.freeze]; rw [if_neg (by decide)]
    · simp only [World.freeze]; rw [if_neg (by decide)]
    · rw [hS]; exact Nat.le_refl _
end Go.Proofs.YtogmphjhdkgdjaaDoor
