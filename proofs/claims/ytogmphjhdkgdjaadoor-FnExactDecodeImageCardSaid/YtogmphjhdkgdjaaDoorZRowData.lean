/- For rows of laws: arguments that hold slices of structs, opened to what the walks' contracts ask. -/
import Derived.Test.YtogmphjhdkgdjaaDoorZSymA
import Derived.ProofKit
import Derived.OpenShut
import Derived.ChangeSlices
import Derived.Deep.Slices
import Derived.Lib.SmallJoins
namespace Go.Proofs.YtogmphjhdkgdjaaDoor
open Go.ChangeShapes Go.WideShapes Go.ChangeAt Go.RowKit Go.Joins
open Go.Proofs.YtogmphjhdkgdjaaDoorW.PrintWords Go.Proofs.YtogmphjhdkgdjaaDoorW.PrintLast
set_option linter.unusedVariables false
set_option linter.unusedSimpArgs false
/-- What a type's cells read as, and what is known of it. -/
def Opens {α : Type} (P : Program) (t : TypeId) (d : Kd α) (G : α → Prop) : Prop :=
 ∀ ⦃H : Type⦄ ⦃enc : TypeId × Value → H⦄ ⦃W : World⦄ ⦃fuel : Nat⦄ ⦃cs : List Value⦄ ⦃x : DataW H × List MemPlace⦄, DataW.trod enc P W 0 (fun _ => true) true fuel t cs = some x → ∃ a : α, d.K W a cs ∧ G a
theorem opens_int {P : Program} {t : TypeId} {k : IntKind} (ht : P.underlying t = some (.int k)) : Opens P t (Kd.int k) (fun n => (Lit.int k n).wf = true) := by
 intro H enc W fuel cs x h
 obtain ⟨n, e1, _, hw⟩ := DataW.trod_int ht h
 exact ⟨n, e1, hw⟩
theorem opens_bool {P : Program} {t : TypeId} (ht : P.underlying t = some .bool) : Opens P t Kd.bool (fun _ => True) := by
 intro H enc W fuel cs x h
 obtain ⟨b, e1, _⟩ := DataW.trod_bool ht h
 exact ⟨b, e1, trivial⟩
theorem opens_row {α : Type} {P : Program} {t e : TypeId} {d : Kd α} {G : α → Prop} (ht : P.underlying t = some (.slice e)) (hc : P.cellsOf e = d.sz) (he : Opens P e d G) {H : Type} {enc : TypeId × Value → H} {W : World} {fuel : Nat} {cs : List Value} {x : DataW H × List MemPlace}
  (h : DataW.trod enc P W 0 (fun _ => true) true fuel t cs = some x) : ∃ (A : Option Addr) (cap : Nat) (l : List α), cs = [.slice A l.length cap] ∧ l.length ≤ cap ∧ d.C W A l.length l ∧ l.length ≤ 9223372036854775807 ∧ ∀ a ∈ l, G a := by
 rcases Deep.open_slice ht h with ⟨rfl, _⟩ | ⟨a, len, cap, m, n, D, Pl, rfl, _, hl, hm, hmm, _, hx⟩
 ·exact ⟨none, 0, [], rfl, Nat.le_refl _, ⟨rfl, by simp, fun h => by cases h⟩, by simp, by simp⟩
 ·rw [if_pos rfl] at hmm
  subst hmm
  unfold maxLen at hm
  have each : ∀ i, i < len → ∃ b : α, G b ∧ ∃ c : List Value, c.length = d.sz ∧ d.K W b c ∧ ∀ j u, c[j]? = some u → W.cell? (a.add (i * d.sz + j)) = some u := by
   intro i hi
   obtain ⟨c, h1, h2⟩ := hx i (by omega)
   obtain ⟨b, hb, hg⟩ := he h2
   rw [hc] at h1
   obtain ⟨_, h4, h5⟩ := World.cells?_some h1
   refine ⟨b, hg, c, h4, hb, fun j u hu => ?_⟩
   have hj : j < d.sz := by have := (List.getElem?_eq_some_iff.1 hu).1; omega
   rw [← hu, ← h5 j hj, Deep.add_add]
  have mk : ∀ k, k ≤ len → ∃ l : List α, l.length = k ∧ ∀ i p, l[i]? = some p → G p ∧ ∃ c : List Value, c.length = d.sz ∧ d.K W p c ∧ ∀ j u, c[j]? = some u → W.cell? (a.add (i * d.sz + j)) = some u := by
   intro k
   induction k with
   | zero => intro _; exact ⟨[], rfl, fun i p h => by simp at h⟩
   | succ k ih =>
    intro hk
    obtain ⟨l, h1, h2⟩ := ih (by omega)
    obtain ⟨b, hb⟩ := each k (by omega)
    refine ⟨l ++ [b], by simp [h1], fun i p hp => ?_⟩
    rcases Nat.lt_or_ge i l.length with hi | hi
    ·rw [List.getElem?_append_left hi] at hp
     exact h2 i p hp
    ·rw [List.getElem?_append_right hi] at hp
     have hi0 : i - l.length = 0 := by
      have := (List.getElem?_eq_some_iff.1 hp).1
      simp at this
      omega
     rw [hi0] at hp
     simp at hp
     subst hp
     obtain rfl : i = k := by omega
     exact hb
  obtain ⟨l, h1, h2⟩ := mk len (Nat.le_refl _)
  subst h1
  refine ⟨some a, m, l, rfl, hl, ⟨rfl, by omega, fun _ => ⟨a, rfl, fun j p hp => (h2 j p hp).2⟩⟩, by omega, fun p hp => ?_⟩
  obtain ⟨i, hi, rfl⟩ := List.mem_iff_getElem.1 hp
  exact (h2 i _ (List.getElem?_eq_getElem hi)).1
theorem opens_slice {α : Type} {P : Program} {t e : TypeId} {d : Kd α} {G : α → Prop} (q : Nat) (ht : P.underlying t = some (.slice e)) (hc : P.cellsOf e = d.sz) (he : Opens P e d G) : Opens P t (Kd.slice q d) (fun l => l.length ≤ 9223372036854775807 ∧ ∀ a ∈ l, G a) := by
 intro H enc W fuel cs x h
 obtain ⟨A, cap, l, e1, e2, e3, e4, e5⟩ := opens_row ht hc he h
 exact ⟨l, ⟨A, cap, e1, e2, e3⟩, e4, e5⟩
theorem list3 {α : Type} {l : List α} (h : l.length = 3) : ∃ a b c, l = [a, b, c] := by
 match l, h with
 | [a, b, c], _ => exact ⟨a, b, c, rfl⟩
theorem list4 {α : Type} {l : List α} (h : l.length = 4) : ∃ a b c d, l = [a, b, c, d] := by
 match l, h with
 | [a, b, c, d], _ => exact ⟨a, b, c, d, rfl⟩
/-- A struct of three fields of one cell each. -/
theorem opens_struct3 {α β γ : Type} {P : Program} {t : TypeId} {f0 f1 f2 : Field} {d0 : Kd α} {d1 : Kd β} {d2 : Kd γ} {G0 : α → Prop} {G1 : β → Prop} {G2 : γ → Prop} (ht : P.underlying t = some (.struct #[f0, f1, f2])) (hc : P.cellsOf t = 3)
  (o0 : f0.offset = 0) (o1 : f1.offset = 1) (o2 : f2.offset = 2) (c0 : P.cellsOf f0.type = 1) (c1 : P.cellsOf f1.type = 1) (c2 : P.cellsOf f2.type = 1) (h0 : Opens P f0.type d0 G0) (h1 : Opens P f1.type d1 G1) (h2 : Opens P f2.type d2 G2) :
  Opens P t (Kd.pair d0 (Kd.pair d1 d2)) (fun x => G0 x.1 ∧ G1 x.2.1 ∧ G2 x.2.2) := by
 intro H enc W fuel cs x h
 obtain ⟨xs, n, rfl, _, hl, hxs, hf⟩ := DataW.trod_struct ht h
 rw [hc] at hl
 obtain ⟨v0, v1, v2, rfl⟩ := list3 hl
 obtain ⟨y0, y1, y2, rfl⟩ := list3 (l := xs) (by simpa using hxs)
 have g0 := hf 0 f0 rfl
 have g1 := hf 1 f1 rfl
 have g2 := hf 2 f2 rfl
 simp [o0, o1, o2, c0, c1, c2] at g0 g1 g2
 obtain ⟨a0, k0, e0⟩ := h0 g0
 obtain ⟨a1, k1, e1⟩ := h1 g1
 obtain ⟨a2, k2, e2⟩ := h2 g2
 exact ⟨(a0, a1, a2), ⟨[v0], [v1, v2], rfl, k0, ⟨[v1], [v2], rfl, k1, k2⟩⟩, e0, e1, e2⟩
/-- A struct of four fields of one cell each. -/
theorem opens_struct4 {α β γ δ : Type} {P : Program} {t : TypeId} {f0 f1 f2 f3 : Field} {d0 : Kd α} {d1 : Kd β} {d2 : Kd γ} {d3 : Kd δ} {G0 : α → Prop} {G1 : β → Prop} {G2 : γ → Prop} {G3 : δ → Prop} (ht : P.underlying t = some (.struct #[f0, f1, f2, f3])) (hc : P.cellsOf t = 4)
  (o0 : f0.offset = 0) (o1 : f1.offset = 1) (o2 : f2.offset = 2) (o3 : f3.offset = 3) (c0 : P.cellsOf f0.type = 1) (c1 : P.cellsOf f1.type = 1) (c2 : P.cellsOf f2.type = 1) (c3 : P.cellsOf f3.type = 1) (h0 : Opens P f0.type d0 G0) (h1 : Opens P f1.type d1 G1) (h2 : Opens P f2.type d2 G2) (h3 : Opens P f3.type d3 G3) :
  Opens P t (Kd.pair d0 (Kd.pair d1 (Kd.pair d2 d3))) (fun x => G0 x.1 ∧ G1 x.2.1 ∧ G2 x.2.2.1 ∧ G3 x.2.2.2) := by
 intro H enc W fuel cs x h
 obtain ⟨xs, n, rfl, _, hl, hxs, hf⟩ := DataW.trod_struct ht h
 rw [hc] at hl
 obtain ⟨v0, v1, v2, v3, rfl⟩ := list4 hl
 obtain ⟨y0, y1, y2, y3, rfl⟩ := list4 (l := xs) (by simpa using hxs)
 have g0 := hf 0 f0 rfl
 have g1 := hf 1 f1 rfl
 have g2 := hf 2 f2 rfl
 have g3 := hf 3 f3 rfl
 simp [o0, o1, o2, o3, c0, c1, c2, c3] at g0 g1 g2 g3
 obtain ⟨a0, k0, e0⟩ := h0 g0
 obtain ⟨a1, k1, e1⟩ := h1 g1
 obtain ⟨a2, k2, e2⟩ := h2 g2
 obtain ⟨a3, k3, e3⟩ := h3 g3
 exact ⟨(a0, a1, a2, a3), ⟨[v0], [v1, v2, v3], rfl, k0, ⟨[v1], [v2, v3], rfl, k1, ⟨[v2], [v3], rfl, k2, k3⟩⟩⟩, e0, e1, e2, e3⟩
theorem opens_iso {α β : Type} {P : Program} {t : TypeId} {d : Kd α} {G : α → Prop} (f : β → α) (g : α → β) (hfg : ∀ a, f (g a) = a) (h : Opens P t d G) : Opens P t (Kd.iso d f) (fun b => G (f b)) := by
 intro H enc W fuel cs x hx
 obtain ⟨a, k, e⟩ := h hx
 exact ⟨g a, by show d.K W (f (g a)) cs; rw [hfg]; exact k, by show G (f (g a)); rw [hfg]; exact e⟩
theorem wf_i64 {n : Int} (h : (Lit.int .i64 n).wf = true) : -9223372036854775808 ≤ n ∧ n ≤ 9223372036854775807 := by
 simp [Lit.wf, IntKind.min, IntKind.max, IntKind.bits, IntKind.signed] at h
 omega
theorem wf_u8 {n : Int} (h : (Lit.int .u8 n).wf = true) : 0 ≤ n ∧ n < 256 := by
 simp [Lit.wf, IntKind.min, IntKind.max, IntKind.bits, IntKind.signed] at h
 omega
end Go.Proofs.YtogmphjhdkgdjaaDoor
