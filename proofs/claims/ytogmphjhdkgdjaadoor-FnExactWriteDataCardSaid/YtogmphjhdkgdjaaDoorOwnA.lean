/- Rows of bytes of the call's own, marked behind their end or not: read, kept, and what the law's marks do to them. -/
import Derived.Test.YtogmphjhdkgdjaaDoorQFnExactWriteDatax0
import Derived.Lib.Hide
namespace Go.Proofs.YtogmphjhdkgdjaaDoor
open Go.RowKit Go.Lib Go.Proofs.YtogmphjhdkgdjaaDoor.QFnExactWriteData Go.Proofs.YtogmphjhdkgdjaaDoorW.PrintWords Go.Proofs.YtogmphjhdkgdjaaDoorW.PrintLast Go.Proofs.YtogmphjhdkgdjaaDoorW.PrintMore
set_option linter.unusedVariables false
set_option linter.unusedSimpArgs false
/-- The bytes xs lie in a row from base on; none of them is frozen. -/
def OwnB (base : Nat) (w : World) (v : Value) (xs : List Int) : Prop :=
  (v = .slice none 0 0 ∧ xs = []) ∨ ∃ (g cap : Nat) (cells : Array Value) (fz : Nat × Nat), v = .slice (some ⟨g, 0, none⟩) xs.length cap ∧ base ≤ g ∧ w.heap[g]? = some (.cells cells 5 fz) ∧ (∀ i, i < xs.length → ¬ (fz.1 ≤ i ∧ i < fz.2)) ∧ xs.length ≤ cap ∧ xs.length ≤ 9223372036854775807 ∧ ∀ (j : Nat) (p : Int), xs[j]? = some p → cells[j]? = some (Value.int .u8 p)
theorem OwnB.reads {base : Nat} {w : World} {v : Value} {xs : List Int} (h : OwnB base w v xs) : ∃ A c, v = .slice A xs.length c ∧ xs.length ≤ c ∧ Kd.C (Kd.int .u8) w A xs.length xs := by
  rcases h with ⟨rfl, rfl⟩ | ⟨g, cap, cells, fz, rfl, hb, hg, hf, hc, hm, hx⟩
  · exact ⟨none, 0, rfl, Nat.le_refl _, rfl, by simp, fun h => by simp at h⟩
  · refine ⟨_, cap, rfl, hc, rfl, hm, fun _ => ⟨_, rfl, fun j p hp => ⟨[.int .u8 p], rfl, rfl, fun i u hu => ?_⟩⟩⟩
    have hi : i = 0 := by have := (List.getElem?_eq_some_iff.1 hu).1; simp at this; omega
    subst hi
    simp at hu
    subst hu
    have e : j * (Kd.int .u8).sz + 0 = j := by show j * 1 + 0 = j; omega
    rw [e, add_plain]
    simp [World.cell?, hg, hx j p hp]
theorem OwnB.keep {base : Nat} {w w' : World} {v : Value} {xs : List Int} (h : OwnB base w v xs) (hk : ∀ k, v.ownBlock = some k → base ≤ k → k < w.heap.size → w'.heap[k]? = w.heap[k]?) : OwnB base w' v xs := by
  rcases h with ⟨rfl, rfl⟩ | ⟨g, cap, cells, fz, rfl, hb, hg, hf, hc, hm, hx⟩
  · exact Or.inl ⟨rfl, rfl⟩
  · exact Or.inr ⟨g, cap, cells, fz, rfl, hb, (hk g rfl hb (Array.getElem?_eq_some_iff.1 hg).1).trans hg, hf, hc, hm, hx⟩
theorem OwnB.below {base : Nat} {w w' : World} {v : Value} {xs : List Int} (h : OwnB base w v xs) (hb : Below w.heap.size w w') : OwnB base w' v xs := h.keep (fun k _ _ hk => hb.block k hk)
/-- A row that the print tells of. -/
theorem OwnB.of_R {base : Nat} {ok : Nat → Prop} {w : World} {v : Value} {xs : List Int} (h : Kd.R (Kd.int .u8) 5 w base ok v xs) : OwnB base w v xs := by
  rcases Nat.eq_zero_or_pos xs.length with h0 | h0
  · have hx : xs = [] := List.eq_nil_of_length_eq_zero h0
    subst hx
    rcases h.2 with ⟨inner, hown, _⟩
    rcases hown.2 with ⟨e, _⟩ | ⟨g, cap, cur, e, hb, hg, hn, hm, hs, ht⟩
    · exact Or.inl ⟨e, rfl⟩
    · refine Or.inr ⟨g, cap, cur, (0, 0), e, hb, hg, fun i hi => by simp at hi, by simp, by simp, fun j p hp => by simp at hp⟩
  · obtain ⟨g, cap, rfl, hb, hl, cells, hc⟩ := Kd.R_form h h0
    obtain ⟨_, hcap, hC⟩ := Kd.R_reads' h
    obtain ⟨h2, h3, h4⟩ := hC
    obtain ⟨ad, e1, h5⟩ := h4 h0
    cases e1
    refine Or.inr ⟨g, cap, cells, (0, 0), rfl, hb, hc, fun i _ => by simp, hcap, h3, fun j p hp => ?_⟩
    obtain ⟨c, c1, c2, c3⟩ := h5 j p hp
    have e2 : c = [.int .u8 p] := c2
    subst e2
    have := c3 0 _ rfl
    have e : j * (Kd.int .u8).sz + 0 = j := by show j * 1 + 0 = j; omega
    rw [e, add_plain] at this
    simpa [World.cell?, hc] using this
end Go.Proofs.YtogmphjhdkgdjaaDoor
