/- The law's marks on whatever rows it has made; bytes that are held. -/
import Derived.Test.YtogmphjhdkgdjaaDoorMarkA
import Derived.Test.YtogmphjhdkgdjaaDoorQFnExactWriteDatax7
namespace Go.Proofs.YtogmphjhdkgdjaaDoor
open Go.RowKit Go.Lib Go.Proofs.YtogmphjhdkgdjaaDoor.QFnExactWriteData Go.Proofs.YtogmphjhdkgdjaaDoorW.PrintWords Go.Proofs.YtogmphjhdkgdjaaDoorW.PrintLast Go.Proofs.YtogmphjhdkgdjaaDoorW.PrintMore
set_option linter.unusedVariables false
set_option linter.unusedSimpArgs false
theorem RowM.below {G : Nat} {P : Nat → Prop} {cur : Array Value} {xs : List S57} {w w' : World} (h : RowM G P cur xs w) (hb : Below w.heap.size w w') : RowM G P cur xs w' := by
  refine ⟨h.own, (hb.block G (Array.getElem?_eq_some_iff.1 h.row).1).trans h.row, h.size, fun i x hx => ?_⟩
  obtain ⟨tv, h1, h2⟩ := h.txt i x hx
  refine ⟨tv, h1, ?_⟩
  rcases h2 with h2 | ⟨g, c, cells, e1, e2, e3, e4, e5⟩
  · exact Or.inl h2
  · exact Or.inr ⟨g, c, cells, e1, e2, e3, (hb.block g (Array.getElem?_eq_some_iff.1 e4).1).trans e4, e5⟩
/-- A row of data of the law's own, empty or not. -/
def RowE (P : Nat → Prop) (v : Value) (xs : List S57) (w : World) : Prop :=
  (xs = [] ∧ ∃ A c, v = .slice A 0 c) ∨ ∃ G cap cur, v = .slice (some ⟨G, 0, none⟩) xs.length cap ∧ RowM G P cur xs w
theorem RowE.below {P : Nat → Prop} {v : Value} {xs : List S57} {w w' : World} (h : RowE P v xs w) (hb : Below w.heap.size w w') : RowE P v xs w' := by
  rcases h with h | ⟨G, cap, cur, h1, h2⟩
  · exact Or.inl h
  · exact Or.inr ⟨G, cap, cur, h1, h2.below hb⟩
theorem RowE.of_R {base : Nat} {ok : Nat → Prop} {w : World} {v : Value} {xs : List S57} (h : Kd.R k57 57 w base ok v xs) : RowE (fun q => base ≤ q ∧ q < w.heap.size) v xs w := by
  rcases Nat.eq_zero_or_pos xs.length with h0 | h0
  · have hx : xs = [] := List.eq_nil_of_length_eq_zero h0
    subst hx
    obtain ⟨A, c, rfl⟩ := Kd.R_slice h
    exact Or.inl ⟨rfl, A, c, rfl⟩
  · obtain ⟨hok, inner, hown, hrl, hre⟩ := h
    have hown2 := hown
    obtain ⟨hil, hor⟩ := hown
    rcases hor with ⟨_, h1⟩ | ⟨G, cap, cur, rfl, hb, hG, hn, hm, hs, ht⟩
    · omega
    · have hsz4 : k57.sz = 4 := rfl
      rw [hsz4] at hs ht hil hrl hre
      refine Or.inr ⟨G, cap, cur, rfl, ⟨hb, (Array.getElem?_eq_some_iff.1 hG).1⟩, hG, by omega, fun i x hx => ?_⟩
      have hi := (List.getElem?_eq_some_iff.1 hx).1
      have h2 := hre i x hx
      obtain ⟨v2, e1, e2⟩ := k57_openM h2
      have h3 : inner[i * 4 + 2]? = some v2 := by
        have h4 := congrArg (fun l => l[2]?) e1
        simp only [List.getElem?_take, List.getElem?_drop] at h4
        rw [if_pos (by omega)] at h4
        simpa using h4
      refine ⟨v2, ?_, ?_⟩
      · rw [← ht, List.getElem?_take, if_pos (by omega)] at h3
        simpa using h3
      · rcases Nat.eq_zero_or_pos x.f2.length with h5 | h5
        · have hx2 : x.f2 = [] := List.eq_nil_of_length_eq_zero h5
          obtain ⟨A, c, e3⟩ := Kd.R_slice e2
          rw [hx2] at e3
          exact Or.inl ⟨h5, A, c, e3⟩
        · obtain ⟨g, c, e3, e4, e5, cells, e6⟩ := Kd.R_form e2 h5
          refine Or.inr ⟨g, c, cells, e3, fun e => ?_, ⟨e4, e5⟩, e6, ?_⟩
          · subst e
            rw [hG] at e6
            cases e6
          · obtain ⟨inner2, ho2⟩ := Kd.R_own e2
            obtain ⟨hl2, hr2⟩ := ho2
            rcases hr2 with ⟨_, h6⟩ | ⟨g', cap', cur', e7, hb', hG', hn', hm', hs', ht'⟩
            · omega
            · rw [e3] at e7
              cases e7
              rw [e6] at hG'
              cases hG'
              have : (Kd.int .u8).sz = 1 := rfl
              rw [this] at hs'
              omega
set_option maxHeartbeats 4000000 in
theorem markDatumS_zero (A : Option Addr) (cap : Nat) (k : Int) (w : World) :
    Calls Tryd.prog 21 #[.slice A 0 cap, .int .i64 k] w fun e w' => e = .returned (.int .i64 k) ∧ w' = w := by
  go_enter Tryd.func21, Tryd.ntmps21
  go_wp2
  go_loopw [1, 5] (fun v1 v5 wr => v5 = .int .i64 0 ∧ v1 = .int .i64 k ∧ wr = w) (fun _ _ _ => 0)
  case atStart => exact ⟨rfl, rfl, rfl⟩
  case round =>
    obtain ⟨rfl, rfl, rfl⟩ := hrel
    go_wp2
    go_ret
    exact ⟨rfl, rfl⟩
theorem markDatumS_any (P : Nat → Prop) (B : Nat) (v : Value) (xs : List S57) (w : World) (hR : RowE P v xs w) (hPB : ∀ q, P q → B ≤ q) (hlen : ∀ x ∈ xs, x.f2.length ≤ 1048576) (hxl : xs.length ≤ 1048576) :
    Calls Tryd.prog 21 #[v, .int .i64 1] w fun e w' => ∃ r : Int, e = .returned (.int .i64 r) ∧ 0 ≤ r ∧ r ≤ 4000000000000 ∧ w'.heap.size = w.heap.size ∧ (∀ q, ¬ P q → w'.heap[q]? = w.heap[q]?) ∧ Below B w w' := by
  rcases hR with ⟨rfl, A, c, rfl⟩ | ⟨G, cap, cur, rfl, hM⟩
  · refine (markDatumS_zero A c 1 w).mono ?_
    rintro e w' ⟨rfl, rfl⟩
    exact ⟨1, rfl, by omega, by omega, rfl, fun _ _ => rfl, Below.refl _ _⟩
  · refine (markDatumS_own G cap P B cur xs 1 w hM hPB hlen hxl (by omega) (by omega)).mono ?_
    rintro e w' ⟨r, rfl, h0, h1, h2⟩
    exact ⟨r, rfl, by omega, by omega, h2.size, h2.others, h2.below⟩
/-- The marks. -/
def marksI (k : Int) (n : Nat) : List Int := (List.range n).map fun (j : Nat) => (k + (j : Int)) % 256
theorem marksI_length (k : Int) (n : Nat) : (marksI k n).length = n := by simp [marksI]
theorem marksI_get (k : Int) (n j : Nat) (hj : j < n) : (marksI k n)[j]? = some ((k + (j : Int)) % 256) := by simp [marksI, hj]
theorem markByteS_any (base : Nat) (v : Value) (t : List Int) (w : World) (h : OwnB base w v t) (hl : t.length ≤ 1000000000000000) :
    Calls Tryd.prog 22 #[v, .int .i64 1] w fun e w' => e = .returned (.int .i64 (1 + (t.length : Int))) ∧ OwnB base w' v (marksI 1 t.length) ∧ w'.heap.size = w.heap.size ∧ (∀ q, v.ownBlock ≠ some q → w'.heap[q]? = w.heap[q]?) ∧ Below base w w' := by
  rcases h with ⟨rfl, rfl⟩ | ⟨g, cap, cells, fz, rfl, hb, hg, hf, hc, hm, hx⟩
  · refine (markByteS_zero none 0 1 w).mono ?_
    rintro e w' ⟨rfl, rfl⟩
    exact ⟨rfl, Or.inl ⟨rfl, rfl⟩, rfl, fun _ _ => rfl, Below.refl _ _⟩
  · have hn : t.length ≤ cells.size := by
      rcases Nat.eq_zero_or_pos t.length with h0 | h0
      · omega
      · have h1 := hx (t.length - 1) _ (List.getElem?_eq_getElem (by omega))
        have := (Array.getElem?_eq_some_iff.1 h1).1
        omega
    refine (markByteS_own g cap t.length cells fz 1 w hg hn hf (by omega) (by omega) hl).mono ?_
    rintro e w' ⟨rfl, hM⟩
    obtain ⟨cells', r1, r2, r3, _⟩ := hM.row
    refine ⟨rfl, Or.inr ⟨g, cap, cells', fz, by rw [marksI_length], hb, r1, by rw [marksI_length]; exact hf, by rw [marksI_length]; exact hc, by rw [marksI_length]; exact hm, fun j p hp => ?_⟩, hM.size, fun q hq => hM.others q (fun e => hq (by rw [e]; rfl)), hM.below base hb⟩
    have hj : j < t.length := by have := (List.getElem?_eq_some_iff.1 hp).1; rwa [marksI_length] at this
    rw [marksI_get 1 _ j hj] at hp
    cases hp
    exact r3 j hj
theorem held_l0 (n : Nat) (hn : n ≤ 1000000000000000) (d : Nat) : ∀ i : Nat, n - i = d → i ≤ n → Ev (fun k => laws_heldByteS.l0 k (marksI 1 n) (1 + (i : Int)) (i : Int)) (1 + (n : Int)) := by
  induction d with
  | zero =>
    intro i hd hi
    obtain rfl : i = n := by omega
    refine Ev.step (f := fun _ => some (1 + (i : Int))) (fun k => ?_) (Ev.now _)
    simp only [laws_heldByteS.l0]
    rw [if_neg (by rw [marksI_length]; omega)]
  | succ d ih =>
    intro i hd hi
    refine Ev.step (f := fun k => laws_heldByteS.l0 k (marksI 1 n) (1 + ((i + 1 : Nat) : Int)) ((i + 1 : Nat) : Int)) (fun k => ?_) (ih (i + 1) (by omega) (by omega))
    have hr : rd (marksI 1 n) (i : Int) = (1 + (i : Int)) % 256 := by
      show (marksI 1 n).getD i 0 = _
      rw [List.getD_eq_getElem?_getD, marksI_get 1 n i (by omega)]
      rfl
    have hw : wrap64 (1 + (i : Int) + 1) = 1 + ((i + 1 : Nat) : Int) := by unfold wrap64; omega
    have hw2 : wrap64 ((i : Int) + 1) = ((i + 1 : Nat) : Int) := by unfold wrap64; omega
    simp only [laws_heldByteS.l0]
    rw [if_pos (by rw [marksI_length]; omega), if_pos (by omega), hr, if_pos rfl, hw, hw2]
theorem held_ev (n : Nat) (hn : n ≤ 1000000000000000) : Ev (fun k => laws_heldByteS.f k (marksI 1 n) 1) (1 + (n : Int)) := by
  have := held_l0 n hn n 0 (by omega) (by omega)
  refine Ev.congr (fun k => ?_) this
  rfl
end Go.Proofs.YtogmphjhdkgdjaaDoor
