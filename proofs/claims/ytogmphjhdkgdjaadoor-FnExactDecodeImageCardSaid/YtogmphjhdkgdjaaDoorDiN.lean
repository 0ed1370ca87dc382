/- Marks with their contents, on rows of rows: what stays, one element put anew. -/
import Derived.Test.YtogmphjhdkgdjaaDoorDiP
import Derived.Test.YtogmphjhdkgdjaaDoorDiM
import Derived.Deep.LoopGhost
import Derived.Test.YtogmphjhdkgdjaaDoorDiJ
namespace Go.Proofs.YtogmphjhdkgdjaaDoor
open Go.RowKit Go.Proofs.YtogmphjhdkgdjaaDoorW.PrintWords Go.Proofs.YtogmphjhdkgdjaaDoor.QFnExactValidModule
set_option linter.unusedVariables false
set_option linter.unusedSimpArgs false
/-- Only blocks of these types within lo .. hi change; every block keeps its kind and size. -/
structure Ch (lo hi : Nat) (ts : List Nat) (w w' : World) : Prop where
  size : w'.heap.size = w.heap.size
  typ : ∀ (q : Nat) (cs : Array Value) (T : Nat), w.heap[q]? = some (.cells cs T (0, 0)) → ∃ cs' : Array Value, w'.heap[q]? = some (.cells cs' T (0, 0))
  back : ∀ (q : Nat) (cs : Array Value) (T : Nat), w'.heap[q]? = some (.cells cs T (0, 0)) → ∃ cs' : Array Value, w.heap[q]? = some (.cells cs' T (0, 0))
  others : ∀ q, (lo ≤ q → q < hi → ∀ (cs : Array Value) (T : Nat), T ∈ ts → w.heap[q]? ≠ some (.cells cs T (0, 0))) → w'.heap[q]? = w.heap[q]?
  below : Below lo w w'
section
variable {lo hi lo' hi' : Nat} {ts us : List Nat} {w w1 w2 w' : World}
theorem Ch.refl : Ch lo hi ts w w := ⟨rfl, fun q cs T h => ⟨cs, h⟩, fun q cs T h => ⟨cs, h⟩, fun _ _ => rfl, Below.refl _ _⟩
theorem Ch.trans (h : Ch lo hi ts w w1) (k : Ch lo hi ts w1 w2) : Ch lo hi ts w w2 := by
  refine ⟨k.size.trans h.size, fun q cs T hq => ?_, fun q cs T hq => ?_, fun q hq => ?_, h.below.trans k.below⟩
  · obtain ⟨c1, h1⟩ := h.typ q cs T hq
    exact k.typ q c1 T h1
  · obtain ⟨c1, h1⟩ := k.back q cs T hq
    exact h.back q c1 T h1
  · exact (k.others q (fun a b cs T hT e => by
      obtain ⟨c, hc⟩ := h.back q cs T e
      exact hq a b c T hT hc)).trans (h.others q hq)
theorem Ch.mono (h : Ch lo hi ts w w') (h1 : lo' ≤ lo) (h2 : hi ≤ hi') (h3 : ∀ T ∈ ts, T ∈ us) : Ch lo' hi' us w w' :=
  ⟨h.size, h.typ, h.back, fun q hq => h.others q (fun a b cs T hT => hq (by omega) (by omega) cs T (h3 T hT)), h.below.mono h1⟩
theorem Ch.set {G j : Nat} {cur : Array Value} {T : Nat} (hG : w.heap[G]? = some (.cells cur T (0, 0))) (h1 : lo ≤ G) (h2 : G < hi) (hT : T ∈ ts) (v : Value) : Ch lo hi ts w (w.setCell ⟨G, j, none⟩ v) := by
  have hb := Go.Joins.block_setCell (i := j) hG v
  refine ⟨by simp [World.setCell], fun q cs U hq => ?_, fun q cs U hq => ?_, fun q hq => Below.heap_setCell _ _ _ _ (fun e => ?_), (Below.refl _ _).setCell (p := ⟨G, j, none⟩) h1 _⟩
  · by_cases e : q = G
    · subst e
      rw [hG] at hq
      cases hq
      exact ⟨_, hb⟩
    · exact ⟨cs, (Below.heap_setCell _ _ _ _ e).trans hq⟩
  · by_cases e : q = G
    · subst e
      rw [hb] at hq
      cases hq
      exact ⟨_, hG⟩
    · exact ⟨cs, (Below.heap_setCell _ _ _ _ e).symm.trans hq⟩
  · simp only at e
    subst e
    exact hq h1 h2 cur T hT hG
theorem Ch.keep (h : Ch lo hi ts w w') {q : Nat} {cs : Array Value} {T : Nat} (hq : w.heap[q]? = some (.cells cs T (0, 0))) (hT : T ∉ ts) : w'.heap[q]? = some (.cells cs T (0, 0)) := by
  refine (h.others q (fun _ _ c U hU e => ?_)).trans hq
  rw [hq] at e
  cases e
  exact hT hU
end
/-- An element lies within its bounds. -/
def Lc {α : Type} (k : Ek α) : Prop := ∀ {w w' : World} {lo hi : Nat} {x : α} {c : List Value}, k.E w lo hi x c → (∀ q, lo ≤ q → q < hi → ∀ (cs : Array Value) (T : Nat), T ∈ k.ts → w.heap[q]? = some (.cells cs T (0, 0)) → w'.heap[q]? = w.heap[q]?) → k.E w' lo hi x c
theorem RowO.loc {α : Type} {k : Ek α} (L : Lc k) {lo hi : Nat} {w w' : World} {v : Value} {xs : List α} (h : RowO k lo hi w v xs) (hs : ∀ q, lo ≤ q → q < hi → ∀ (cs : Array Value) (T : Nat), T ∈ k.T :: k.ts → w.heap[q]? = some (.cells cs T (0, 0)) → w'.heap[q]? = w.heap[q]?) : RowO k lo hi w' v xs := by
  obtain ⟨c0, e0⟩ : True ∧ True := ⟨trivial, trivial⟩
  have ht := h.typed
  have hl := h.lt
  obtain ⟨cs, f, ho, q2, q3, q4, q5, q6, q7⟩ := h
  refine ⟨cs, f, own_move ho (fun g hg => ?_), q2, q3, q4, q5, q6, fun i x c hx hc => L (q7 i x c hx hc) (fun q a b c' T hT hq => hs q ?_ ?_ c' T (List.mem_cons_of_mem _ hT) hq)⟩
  · obtain ⟨c, hc⟩ := ht g hg
    exact hs g (hl g hg).1 (hl g hg).2 c k.T (by simp) hc
  · have := q5 0 i (by omega)
    omega
  · have := (List.getElem?_eq_some_iff.1 hx).1
    have := q5 (i + 1) xs.length (by omega)
    omega
theorem lc_int : Lc ekInt := fun h _ => h
theorem lc_bool : Lc ekBool := fun h _ => h
theorem lc_ins : Lc ekIns := fun h _ => h
theorem lc_dat : Lc ekDat := by
  rintro w w' lo hi x c ⟨tv, rfl, h⟩ hs
  exact ⟨tv, rfl, h.loc lc_int hs⟩
theorem lc_dats : Lc ekDats := by
  rintro w w' lo hi x c ⟨tv, rfl, h⟩ hs
  exact ⟨tv, rfl, h.loc lc_dat hs⟩
theorem lc_fun : Lc ekFun := by
  rintro w w' lo hi x c ⟨bv, iv, rfl, h, k⟩ hs
  exact ⟨bv, iv, rfl, h.loc lc_bool (fun q a b cs T hT => hs q a b cs T (by simp [ekBool] at hT; subst hT; simp [ekFun])), k.loc lc_ins (fun q a b cs T hT => hs q a b cs T (by simp [ekIns] at hT; subst hT; simp [ekFun]))⟩
/-- What other marks leave of a row. -/
theorem RowO.ch {α : Type} {k : Ek α} (L : Lc k) {lo hi a b : Nat} {ts : List Nat} {w w' : World} {v : Value} {xs : List α} (h : RowO k lo hi w v xs) (hc : Ch a b ts w w') (hd : hi ≤ a ∨ b ≤ lo ∨ ∀ T ∈ k.T :: k.ts, T ∉ ts) : RowO k lo hi w' v xs :=
  h.loc L (fun q h1 h2 cs T hT hq => hc.others q (fun h3 h4 cs' U hU e => by
    rcases hd with hd | hd | hd
    · omega
    · omega
    · rw [hq] at e
      cases e
      exact hd _ hT hU))
theorem arr_ext {a : Array Value} {l : List Value} {n : Nat} (hn : n ≤ a.size) (hl : l.length = n) (h : ∀ p, p < n → a[p]? = l[p]?) : a.toList.take n = l := by
  apply List.ext_getElem?
  intro p
  rw [List.getElem?_take]
  split
  · rename_i hp
    have := h p hp
    simpa using this
  · rw [List.getElem?_eq_none (by omega)]
theorem flats_len {sz : Nat} : ∀ (cs : List (List Value)), (∀ c ∈ cs, c.length = sz) → cs.flatten.length = cs.length * sz
  | [], _ => by simp
  | c :: cs, h => by
    rw [List.flatten_cons, List.length_append, flats_len cs (fun c hc => h c (by simp [hc])), h c (by simp), List.length_cons, Nat.succ_mul]
    omega
/-- One element of a row, and the row with it put anew. -/
theorem RowO.at {α : Type} {k : Ek α} (L : Lc k) (hTs : k.T ∉ k.ts) {lo hi : Nat} {w : World} {v : Value} {xs : List α} (h : RowO k lo hi w v xs) {i : Nat} {x : α} (hx : xs[i]? = some x) :
    ∃ (g cap : Nat) (cur : Array Value) (a b : Nat) (c : List Value), v = .slice (some ⟨g, 0, none⟩) xs.length cap ∧ xs.length ≤ cap ∧ lo ≤ g ∧ g < hi ∧ w.heap[g]? = some (.cells cur k.T (0, 0)) ∧ i * k.sz + k.sz ≤ cur.size ∧ lo ≤ a ∧ b ≤ hi ∧ k.E w a b x c ∧ (∀ j, j < k.sz → cur[i * k.sz + j]? = c[j]?) ∧
      ∀ (w' : World) (x' : α) (c' : List Value) (cur' : Array Value), k.E w' a b x' c' → w'.heap[g]? = some (.cells cur' k.T (0, 0)) → cur'.size = cur.size → (∀ j, j < k.sz → cur'[i * k.sz + j]? = c'[j]?) → (∀ p, (p < i * k.sz ∨ i * k.sz + k.sz ≤ p) → cur'[p]? = cur[p]?) →
        (∀ q, q ≠ g → (a ≤ q → q < b → ∀ (cs : Array Value) (T : Nat), T ∈ k.ts → w.heap[q]? ≠ some (.cells cs T (0, 0))) → w'.heap[q]? = w.heap[q]?) → RowO k lo hi w' v (xs.set i x') := by
  obtain ⟨cs, f, ho, h2, h3, h4, h5, h6, h7⟩ := h
  have hi := (List.getElem?_eq_some_iff.1 hx).1
  obtain ⟨c, hc⟩ : ∃ c, cs[i]? = some c := ⟨cs[i]'(by omega), List.getElem?_eq_getElem (by omega)⟩
  have hl : ∀ c ∈ cs, c.length = k.sz := fun c hc => by
    obtain ⟨q, hq, e⟩ := List.mem_iff_getElem.1 hc
    subst e
    exact k.len (h7 q (xs[q]'(by omega)) _ (List.getElem?_eq_getElem (by omega)) (List.getElem?_eq_getElem hq))
  rcases ho.2 with ⟨rfl, h0⟩ | ⟨g, cap, cur, rfl, hb, hg, hca, hm, hs, ht⟩
  · omega
  have hsz : xs.length * k.sz ≤ cur.size := by rw [hs]; exact Nat.mul_le_mul_right _ hca
  have hisz : i * k.sz + k.sz ≤ xs.length * k.sz := by
    have : (i + 1) * k.sz ≤ xs.length * k.sz := Nat.mul_le_mul_right _ hi
    rwa [Nat.succ_mul] at this
  have h50 := h5 0 i (by omega)
  have h51 := h5 (i + 1) xs.length (by omega)
  have hcur : ∀ p, p < xs.length * k.sz → cur[p]? = cs.flatten[p]? := fun p hp => by
    rw [← ht, List.getElem?_take, if_pos hp]
    simp
  refine ⟨g, cap, cur, f i, f (i + 1), c, rfl, hca, hb, h2 g rfl, hg, by omega, by omega, by omega, h7 i x c hx hc, fun j hj => ?_, ?_⟩
  · rw [hcur _ (by omega), flat_get cs i j c hl hc hj]
  · intro w' x' c' cur' hE' hg' hs' hin hout hoth
    have hl' : ∀ d ∈ cs.set i c', d.length = k.sz := fun d hd => by
      rcases List.mem_or_eq_of_mem_set hd with hd | rfl
      · exact hl d hd
      · exact k.len hE'
    have hfl : (cs.set i c').flatten.length = xs.length * k.sz := by rw [flats_len _ hl', List.length_set, h3]
    refine ⟨cs.set i c', f, ⟨by rw [hfl, List.length_set], Or.inr ⟨g, cap, cur', by rw [List.length_set], hb, hg', by rw [List.length_set]; exact hca, hm, by rw [hs', hs], ?_⟩⟩, h2, by rw [List.length_set, List.length_set]; exact h3, h4, h5, by rw [List.length_set]; exact h6, fun j y d hy hd => ?_⟩
    · rw [List.length_set]
      refine arr_ext (by rw [hs']; exact hsz) hfl (fun p hp => ?_)
      have hp0 := k.pos
      obtain ⟨j, r, hr, rfl⟩ : ∃ j r, r < k.sz ∧ p = j * k.sz + r := ⟨p / k.sz, p % k.sz, Nat.mod_lt _ k.pos, by rw [Nat.mul_comm]; exact (Nat.div_add_mod p k.sz).symm⟩
      have hj : j < xs.length := by
        rcases Nat.lt_or_ge j xs.length with h | h
        · exact h
        · have := Nat.mul_le_mul_right k.sz h
          omega
      by_cases e : i = j
      · subst e
        rw [hin r hr, flat_get _ i r c' hl' (by rw [List.getElem?_set_self (by omega)]) hr]
      · obtain ⟨d, hd⟩ : ∃ d, cs[j]? = some d := ⟨cs[j]'(by omega), List.getElem?_eq_getElem (by omega)⟩
        rw [hout _ (by
          rcases Nat.lt_or_ge j i with h | h
          · left
            have : (j + 1) * k.sz ≤ i * k.sz := Nat.mul_le_mul_right _ h
            rw [Nat.succ_mul] at this
            omega
          · right
            have : (i + 1) * k.sz ≤ j * k.sz := Nat.mul_le_mul_right _ (by omega)
            rw [Nat.succ_mul] at this
            omega), hcur _ hp, flat_get cs j r d hl hd hr, flat_get _ j r d hl' (by rw [List.getElem?_set_ne e]; exact hd) hr]
    · by_cases e : i = j
      · subst e
        rw [List.getElem?_set_self (by omega)] at hy hd
        cases hy
        cases hd
        exact hE'
      · rw [List.getElem?_set_ne e] at hy hd
        refine L (h7 j y d hy hd) (fun q q1 q2 cs' T hT hq => hoth q ?_ ?_)
        · rintro rfl
          rw [hg] at hq
          cases hq
          exact hTs hT
        · intro q3 q4
          exfalso
          rcases Nat.lt_or_ge j i with h | h
          · have := h5 (j + 1) i (by omega)
            omega
          · have := h5 (i + 1) j (by omega)
            omega
/-- The marks of a row: each element has its own, and takes so many. -/
def mkL {α : Type} (mk : Int → α → α) (sz : α → Int) : Int → List α → List α
  | _, [] => []
  | k, x :: xs => mk k x :: mkL mk sz (k + sz x) xs
def szL {α : Type} (sz : α → Int) : List α → Int
  | [] => 0
  | x :: xs => sz x + szL sz xs
section
variable {α : Type} {mk : Int → α → α} {sz : α → Int}
theorem szL_append : ∀ (a b : List α), szL sz (a ++ b) = szL sz a + szL sz b
  | [], b => by simp [szL]
  | x :: a, b => by simp only [List.cons_append, szL, szL_append a b]; omega
theorem mkL_length : ∀ (k : Int) (l : List α), (mkL mk sz k l).length = l.length
  | _, [] => rfl
  | k, x :: l => by simp [mkL, mkL_length _ l]
theorem mkL_append : ∀ (k : Int) (a b : List α), mkL mk sz k (a ++ b) = mkL mk sz k a ++ mkL mk sz (k + szL sz a) b
  | k, [], b => by simp [mkL, szL]
  | k, x :: a, b => by simp only [List.cons_append, mkL, szL, mkL_append _ a b]; rw [show k + sz x + szL sz a = k + (sz x + szL sz a) by omega]
theorem mkL_get (k : Int) (l : List α) (i : Nat) (x : α) (h : l[i]? = some x) : (mkL mk sz k l)[i]? = some (mk (k + szL sz (l.take i)) x) := by
  have hi := (List.getElem?_eq_some_iff.1 h).1
  have e : l = l.take i ++ x :: l.drop (i + 1) := by
    rw [(List.getElem?_eq_some_iff.1 h).2.symm, List.getElem_cons_drop, List.take_append_drop]
  have hlt : (l.take i).length = i := by rw [List.length_take]; omega
  conv => lhs; rw [e, mkL_append]
  rw [List.getElem?_append_right (by rw [mkL_length, hlt]; exact Nat.le_refl _), mkL_length, hlt]
  simp [mkL]
theorem szL_take (l : List α) (i : Nat) (x : α) (h : l[i]? = some x) : szL sz (l.take (i + 1)) = szL sz (l.take i) + sz x := by
  rw [List.take_add_one, h, szL_append]
  simp [szL]
theorem mkL_set (k : Int) (l : List α) (i : Nat) (x : α) (h : l[i]? = some x) : (mkL mk sz k (l.take i) ++ l.drop i).set i (mk (k + szL sz (l.take i)) x) = mkL mk sz k (l.take (i + 1)) ++ l.drop (i + 1) := by
  have hi := (List.getElem?_eq_some_iff.1 h).1
  have hlt : (l.take i).length = i := by rw [List.length_take]; omega
  have hd : l.drop i = x :: l.drop (i + 1) := by rw [(List.getElem?_eq_some_iff.1 h).2.symm, List.getElem_cons_drop]
  rw [List.set_append_right _ _ (by rw [mkL_length, hlt]; exact Nat.le_refl _), mkL_length, hlt, hd, List.take_add_one, h, mkL_append]
  simp [mkL]
theorem mkL_at (k : Int) (l : List α) (i : Nat) (x : α) (h : l[i]? = some x) : (mkL mk sz k (l.take i) ++ l.drop i)[i]? = some x := by
  have hi := (List.getElem?_eq_some_iff.1 h).1
  have hlt : (l.take i).length = i := by rw [List.length_take]; omega
  rw [List.getElem?_append_right (by rw [mkL_length, hlt]; exact Nat.le_refl _), mkL_length, hlt, List.getElem?_drop]
  simpa using h
theorem szL_bd {l : List α} {m : Int} (hm : 0 ≤ m) (h : ∀ x ∈ l, 0 ≤ sz x ∧ sz x ≤ m) : 0 ≤ szL sz l ∧ szL sz l ≤ l.length * m := by
  induction l with
  | nil => simp [szL]
  | cons x l ih =>
    obtain ⟨a, b⟩ := h x (by simp)
    obtain ⟨c, d⟩ := ih (fun y hy => h y (by simp [hy]))
    simp only [szL, List.length_cons]
    have e : ((l.length + 1 : Nat) : Int) * m = l.length * m + m := by push_cast; rw [Int.add_mul, Int.one_mul]
    rw [e]
    omega
end
def mkB : Int → List Int → List Int := mkL (fun k _ => k % 256) (fun _ => 1)
def mkT : Int → List Bool → List Bool := mkL (fun k _ => decide (k % 3 = 0)) (fun _ => 1)
def mkI : Int → List S71 → List S71 := mkL (fun k _ => ⟨k, k + 1, k + 1 + 1⟩) (fun _ => 3)
def szD (x : S57) : Int := 3 + x.f2.length
def mkD1 (k : Int) (x : S57) : S57 := ⟨k, k + 1, mkB (k + 1 + 1) x.f2, k + 1 + 1 + x.f2.length⟩
def mkD : Int → List S57 → List S57 := mkL mkD1 szD
def mkDS : Int → List (List S57) → List (List S57) := mkL mkD (szL szD)
def szF (x : S68) : Int := 1 + x.f1.length + 3 * x.f2.length
def mkF1 (k : Int) (x : S68) : S68 := ⟨k, mkT (k + 1) x.f1, mkI (k + 1 + x.f1.length) x.f2⟩
def mkF : Int → List S68 → List S68 := mkL mkF1 szF
end Go.Proofs.YtogmphjhdkgdjaaDoor
/- Marks with their contents: one element of a row of each kind, before and behind. -/
namespace Go.Proofs.YtogmphjhdkgdjaaDoor
open Go.RowKit Go.Proofs.YtogmphjhdkgdjaaDoorW.PrintWords Go.Proofs.YtogmphjhdkgdjaaDoor.QFnExactValidModule
set_option linter.unusedVariables false
set_option linter.unusedSimpArgs false
section
variable {lo hi : Nat} {w : World} {v : Value}
theorem atB {xs : List Int} (h : RowO ekInt lo hi w v xs) {i : Nat} {x : Int} (hx : xs[i]? = some x) :
    ∃ (g cap : Nat), v = .slice (some ⟨g, 0, none⟩) xs.length cap ∧ w.cell? ⟨g, i, none⟩ = some (.int .u8 x) ∧ w.frozen? ⟨g, i, none⟩ = false ∧ g < w.heap.size ∧
      ∀ y : Int, RowO ekInt lo hi (w.setCell ⟨g, i, none⟩ (.int .u8 y)) v (xs.set i y) ∧ Ch lo hi [5] w (w.setCell ⟨g, i, none⟩ (.int .u8 y)) := by
  obtain ⟨g, cap, cur, a, b, c, e, hcap, h1, h2, hG, hs, h3, h4, hE, hc, hu⟩ := h.at lc_int (by simp [ekInt]) hx
  simp only [ekInt, Nat.mul_one] at hG hs hE hc hu
  subst hE
  have c0 := hc 0 (by omega)
  simp at c0
  refine ⟨g, cap, e, by simp [World.cell?, hG, c0], by simp [World.frozen?, hG], blk_lt2 hG, fun y => ⟨hu _ y _ _ rfl (Go.Joins.block_setCell hG _) (by simp) (fun j hj => ?_) (fun p hp => ?_) (fun q hq _ => Below.heap_setCell _ _ _ _ hq), Ch.set hG h1 h2 (by simp) _⟩⟩
  · obtain rfl : j = 0 := by omega
    simp [show i < cur.size by omega]
  · rw [Array.getElem?_setIfInBounds, if_neg (by omega)]
theorem atT {xs : List Bool} (h : RowO ekBool lo hi w v xs) {i : Nat} {x : Bool} (hx : xs[i]? = some x) :
    ∃ (g cap : Nat), v = .slice (some ⟨g, 0, none⟩) xs.length cap ∧ w.cell? ⟨g, i, none⟩ = some (.bool x) ∧ w.frozen? ⟨g, i, none⟩ = false ∧ g < w.heap.size ∧
      ∀ y : Bool, RowO ekBool lo hi (w.setCell ⟨g, i, none⟩ (.bool y)) v (xs.set i y) ∧ Ch lo hi [4] w (w.setCell ⟨g, i, none⟩ (.bool y)) := by
  obtain ⟨g, cap, cur, a, b, c, e, hcap, h1, h2, hG, hs, h3, h4, hE, hc, hu⟩ := h.at lc_bool (by simp [ekBool]) hx
  simp only [ekBool, Nat.mul_one] at hG hs hE hc hu
  subst hE
  have c0 := hc 0 (by omega)
  simp at c0
  refine ⟨g, cap, e, by simp [World.cell?, hG, c0], by simp [World.frozen?, hG], blk_lt2 hG, fun y => ⟨hu _ y _ _ rfl (Go.Joins.block_setCell hG _) (by simp) (fun j hj => ?_) (fun p hp => ?_) (fun q hq _ => Below.heap_setCell _ _ _ _ hq), Ch.set hG h1 h2 (by simp) _⟩⟩
  · obtain rfl : j = 0 := by omega
    simp [show i < cur.size by omega]
  · rw [Array.getElem?_setIfInBounds, if_neg (by omega)]
theorem atI {xs : List S71} (h : RowO ekIns lo hi w v xs) {i : Nat} {x : S71} (hx : xs[i]? = some x) :
    ∃ (g cap : Nat), v = .slice (some ⟨g, 0, none⟩) xs.length cap ∧ (w.cell? ⟨g, i * 3, none⟩ = some (.int .i64 x.f0) ∧ w.cell? ⟨g, i * 3 + 1, none⟩ = some (.int .i64 x.f1) ∧ w.cell? ⟨g, i * 3 + 2, none⟩ = some (.int .i64 x.f2)) ∧ (∀ j, w.frozen? ⟨g, j, none⟩ = false) ∧ g < w.heap.size ∧
      ∀ y0 y1 y2 : Int, RowO ekIns lo hi (((w.setCell ⟨g, i * 3, none⟩ (.int .i64 y0)).setCell ⟨g, i * 3 + 1, none⟩ (.int .i64 y1)).setCell ⟨g, i * 3 + 2, none⟩ (.int .i64 y2)) v (xs.set i ⟨y0, y1, y2⟩) ∧ Ch lo hi [71] w (((w.setCell ⟨g, i * 3, none⟩ (.int .i64 y0)).setCell ⟨g, i * 3 + 1, none⟩ (.int .i64 y1)).setCell ⟨g, i * 3 + 2, none⟩ (.int .i64 y2)) := by
  obtain ⟨g, cap, cur, a, b, c, e, hcap, h1, h2, hG, hs, h3, h4, hE, hc, hu⟩ := h.at lc_ins (by simp [ekIns]) hx
  simp only [ekIns] at hG hs hE hc hu
  subst hE
  have c0 := hc 0 (by omega)
  have c1 := hc 1 (by omega)
  have c2 := hc 2 (by omega)
  simp at c0 c1 c2
  refine ⟨g, cap, e, ⟨by simp [World.cell?, hG, c0], by simp [World.cell?, hG, c1], by simp [World.cell?, hG, c2]⟩, fun j => by simp [World.frozen?, hG], blk_lt2 hG, fun y0 y1 y2 => ⟨hu _ ⟨y0, y1, y2⟩ _ _ rfl (Go.Joins.block_setCell (Go.Joins.block_setCell (Go.Joins.block_setCell hG _) _) _) (by simp) (fun j hj => ?_) (fun p hp => ?_) (fun q hq _ => ((Below.heap_setCell _ _ _ _ hq).trans (Below.heap_setCell _ _ _ _ hq)).trans (Below.heap_setCell _ _ _ _ hq)), ((Ch.set hG h1 h2 (by simp) _).trans (Ch.set (Go.Joins.block_setCell hG _) h1 h2 (by simp) _)).trans (Ch.set (Go.Joins.block_setCell (Go.Joins.block_setCell hG _) _) h1 h2 (by simp) _)⟩⟩
  · obtain rfl | rfl | rfl : j = 0 ∨ j = 1 ∨ j = 2 := by omega
    all_goals simp [Array.getElem?_setIfInBounds, show i * 3 < cur.size by omega, show i * 3 + 1 < cur.size by omega, show i * 3 + 2 < cur.size by omega]
  · rw [Array.getElem?_setIfInBounds, if_neg (by omega), Array.getElem?_setIfInBounds, if_neg (by omega), Array.getElem?_setIfInBounds, if_neg (by omega)]
theorem atD {xs : List S57} (h : RowO ekDat lo hi w v xs) {i : Nat} {x : S57} (hx : xs[i]? = some x) :
    ∃ (g cap a b : Nat) (tv : Value), v = .slice (some ⟨g, 0, none⟩) xs.length cap ∧ (w.cell? ⟨g, i * 4, none⟩ = some (.int .i64 x.f0) ∧ w.cell? ⟨g, i * 4 + 1, none⟩ = some (.int .i64 x.f1) ∧ w.cell? ⟨g, i * 4 + 2, none⟩ = some tv ∧ w.cell? ⟨g, i * 4 + 3, none⟩ = some (.int .i64 x.f3)) ∧ (∀ j, w.frozen? ⟨g, j, none⟩ = false) ∧ g < w.heap.size ∧ lo ≤ a ∧ RowO ekInt a b w tv x.f2 ∧
      ∀ y0 y1 : Int, RowO ekInt a b ((w.setCell ⟨g, i * 4, none⟩ (.int .i64 y0)).setCell ⟨g, i * 4 + 1, none⟩ (.int .i64 y1)) tv x.f2 ∧
        ∀ (w3 : World) (ys : List Int), RowO ekInt a b w3 tv ys → Ch a b [5] ((w.setCell ⟨g, i * 4, none⟩ (.int .i64 y0)).setCell ⟨g, i * 4 + 1, none⟩ (.int .i64 y1)) w3 →
          w3.cell? ⟨g, i * 4 + 3, none⟩ = some (.int .i64 x.f3) ∧ w3.frozen? ⟨g, i * 4 + 3, none⟩ = false ∧ g < w3.heap.size ∧
          ∀ y3 : Int, RowO ekDat lo hi (w3.setCell ⟨g, i * 4 + 3, none⟩ (.int .i64 y3)) v (xs.set i ⟨y0, y1, ys, y3⟩) ∧ Ch lo hi [57, 5] w (w3.setCell ⟨g, i * 4 + 3, none⟩ (.int .i64 y3)) := by
  obtain ⟨g, cap, cur, a, b, c, e, hcap, h1, h2, hG, hs, h3, h4, hE, hc, hu⟩ := h.at lc_dat (by simp [ekDat]) hx
  obtain ⟨tv, rfl, ht⟩ := hE
  simp only [ekDat] at hG hs hc hu
  have c0 := hc 0 (by omega)
  have c1 := hc 1 (by omega)
  have c2 := hc 2 (by omega)
  have c3 := hc 3 (by omega)
  simp at c0 c1 c2 c3
  refine ⟨g, cap, a, b, tv, e, ⟨by simp [World.cell?, hG, c0], by simp [World.cell?, hG, c1], by simp [World.cell?, hG, c2], by simp [World.cell?, hG, c3]⟩, fun j => by simp [World.frozen?, hG], blk_lt2 hG, h3, ht, fun y0 y1 => ?_⟩
  have hG1 := Go.Joins.block_setCell (i := i * 4) hG (.int .i64 y0)
  have hG2 := Go.Joins.block_setCell (i := i * 4 + 1) hG1 (.int .i64 y1)
  refine ⟨(ht.fx (Fx.box hG _ (by simp [ekInt]))).fx (Fx.box hG1 _ (by simp [ekInt])), fun w3 ys ht3 hch => ?_⟩
  have hG3 := hch.keep hG2 (by simp)
  have hG4 := fun y3 : Int => Go.Joins.block_setCell (i := i * 4 + 3) hG3 (.int .i64 y3)
  refine ⟨?_, by simp [World.frozen?, hG3], blk_lt2 hG3, fun y3 => ⟨hu _ ⟨y0, y1, ys, y3⟩ [.int .i64 y0, .int .i64 y1, tv, .int .i64 y3] _ ⟨tv, rfl, ht3.fx (Fx.box hG3 _ (by simp [ekInt]))⟩ (hG4 y3) (by simp) (fun j hj => ?_) (fun p hp => ?_) (fun q hq hn => ?_), ?_⟩⟩
  · simp [World.cell?, hG3, Array.getElem?_setIfInBounds, c3]
  · obtain rfl | rfl | rfl | rfl : j = 0 ∨ j = 1 ∨ j = 2 ∨ j = 3 := by omega
    all_goals simp [Array.getElem?_setIfInBounds, show i * 4 < cur.size by omega, show i * 4 + 1 < cur.size by omega, show i * 4 + 2 < cur.size by omega, show i * 4 + 3 < cur.size by omega, c2, (Array.getElem?_eq_some_iff.1 c2).2]
  · rw [Array.getElem?_setIfInBounds, if_neg (by omega), Array.getElem?_setIfInBounds, if_neg (by omega), Array.getElem?_setIfInBounds, if_neg (by omega)]
  · have e2 : ((w.setCell ⟨g, i * 4, none⟩ (.int .i64 y0)).setCell ⟨g, i * 4 + 1, none⟩ (.int .i64 y1)).heap[q]? = w.heap[q]? := (Below.heap_setCell _ _ _ _ hq).trans (Below.heap_setCell _ _ _ _ hq)
    refine (Below.heap_setCell _ _ _ _ hq).trans ((hch.others q (fun p1 p2 cs T hT => ?_)).trans e2)
    rw [e2]
    exact hn p1 p2 cs T hT
  · exact (((Ch.set hG h1 h2 (by simp) _).trans (Ch.set hG1 h1 h2 (by simp) _)).trans (hch.mono h3 h4 (by simp))).trans (Ch.set hG3 h1 h2 (by simp) _)
theorem atDS {xs : List (List S57)} (h : RowO ekDats lo hi w v xs) {i : Nat} {x : List S57} (hx : xs[i]? = some x) :
    ∃ (g cap a b : Nat) (tv : Value), v = .slice (some ⟨g, 0, none⟩) xs.length cap ∧ w.cell? ⟨g, i, none⟩ = some tv ∧ g < w.heap.size ∧ lo ≤ a ∧ RowO ekDat a b w tv x ∧
      ∀ (w3 : World) (ys : List S57), RowO ekDat a b w3 tv ys → Ch a b [57, 5] w w3 → RowO ekDats lo hi w3 v (xs.set i ys) ∧ Ch lo hi [57, 5] w w3 := by
  obtain ⟨g, cap, cur, a, b, c, e, hcap, h1, h2, hG, hs, h3, h4, hE, hc, hu⟩ := h.at lc_dats (by simp [ekDats]) hx
  obtain ⟨tv, rfl, ht⟩ := hE
  simp only [ekDats, Nat.mul_one] at hG hs hc hu
  have c0 := hc 0 (by omega)
  simp at c0
  refine ⟨g, cap, a, b, tv, e, by simp [World.cell?, hG, c0], blk_lt2 hG, h3, ht, fun w3 ys ht3 hch => ⟨hu _ ys [tv] cur ⟨tv, rfl, ht3⟩ (hch.keep hG (by simp)) rfl hc (fun _ _ => rfl) (fun q hq hn => hch.others q hn), hch.mono h3 h4 (by simp)⟩⟩
theorem atF {xs : List S68} (h : RowO ekFun lo hi w v xs) {i : Nat} {x : S68} (hx : xs[i]? = some x) :
    ∃ (g cap a b : Nat) (bv iv : Value), v = .slice (some ⟨g, 0, none⟩) xs.length cap ∧ (w.cell? ⟨g, i * 3, none⟩ = some (.int .i64 x.f0) ∧ w.cell? ⟨g, i * 3 + 1, none⟩ = some bv ∧ w.cell? ⟨g, i * 3 + 2, none⟩ = some iv) ∧ w.frozen? ⟨g, i * 3, none⟩ = false ∧ g < w.heap.size ∧ lo ≤ a ∧ RowO ekBool a b w bv x.f1 ∧ RowO ekIns a b w iv x.f2 ∧
      ∀ y0 : Int, RowO ekBool a b (w.setCell ⟨g, i * 3, none⟩ (.int .i64 y0)) bv x.f1 ∧
        ∀ (w2 : World) (ys : List Bool), RowO ekBool a b w2 bv ys → Ch a b [4] (w.setCell ⟨g, i * 3, none⟩ (.int .i64 y0)) w2 →
          w2.cell? ⟨g, i * 3 + 2, none⟩ = some iv ∧ g < w2.heap.size ∧ RowO ekIns a b w2 iv x.f2 ∧
          ∀ (w3 : World) (zs : List S71), RowO ekIns a b w3 iv zs → Ch a b [71] w2 w3 → RowO ekFun lo hi w3 v (xs.set i ⟨y0, ys, zs⟩) ∧ Ch lo hi [68, 4, 71] w w3 := by
  obtain ⟨g, cap, cur, a, b, c, e, hcap, h1, h2, hG, hs, h3, h4, hE, hc, hu⟩ := h.at lc_fun (by simp [ekFun]) hx
  obtain ⟨bv, iv, rfl, hb, hv⟩ := hE
  simp only [ekFun] at hG hs hc hu
  have c0 := hc 0 (by omega)
  have c1 := hc 1 (by omega)
  have c2 := hc 2 (by omega)
  simp at c0 c1 c2
  refine ⟨g, cap, a, b, bv, iv, e, ⟨by simp [World.cell?, hG, c0], by simp [World.cell?, hG, c1], by simp [World.cell?, hG, c2]⟩, by simp [World.frozen?, hG], blk_lt2 hG, h3, hb, hv, fun y0 => ?_⟩
  have hG1 := Go.Joins.block_setCell (i := i * 3) hG (.int .i64 y0)
  refine ⟨hb.fx (Fx.box hG _ (by simp [ekBool])), fun w2 ys hb2 hch2 => ?_⟩
  have hG2 := hch2.keep hG1 (by simp)
  have hv2 := (hv.fx (w' := w.setCell ⟨g, i * 3, none⟩ (.int .i64 y0)) (Fx.box hG _ (by simp [ekIns]))).ch lc_ins hch2 (Or.inr (Or.inr (by simp [ekIns])))
  refine ⟨?_, blk_lt2 hG2, hv2, fun w3 zs hv3 hch3 => ?_⟩
  · simp [World.cell?, hG2, Array.getElem?_setIfInBounds, c2]
  have hG3 := hch3.keep hG2 (by simp)
  have hb3 := hb2.ch lc_bool hch3 (Or.inr (Or.inr (by simp [ekBool])))
  refine ⟨hu _ ⟨y0, ys, zs⟩ [.int .i64 y0, bv, iv] _ ⟨bv, iv, rfl, hb3, hv3⟩ hG3 (by simp) (fun j hj => ?_) (fun p hp => ?_) (fun q hq hn => ?_), ?_⟩
  · obtain rfl | rfl | rfl : j = 0 ∨ j = 1 ∨ j = 2 := by omega
    all_goals simp [Array.getElem?_setIfInBounds, show i * 3 < cur.size by omega, c1, c2]
  · rw [Array.getElem?_setIfInBounds, if_neg (by omega)]
  · have e1 : (w.setCell ⟨g, i * 3, none⟩ (.int .i64 y0)).heap[q]? = w.heap[q]? := Below.heap_setCell _ _ _ _ hq
    have e2 : w2.heap[q]? = w.heap[q]? := (hch2.others q (fun p1 p2 cs T hT => by rw [e1]; exact hn p1 p2 cs T (by simp at hT; subst hT; simp))).trans e1
    exact (hch3.others q (fun p1 p2 cs T hT => by rw [e2]; exact hn p1 p2 cs T (by simp at hT; subst hT; simp))).trans e2
  · exact ((Ch.set hG h1 h2 (by simp) _).trans (hch2.mono h3 h4 (by simp))).trans (hch3.mono h3 h4 (by simp))
end
end Go.Proofs.YtogmphjhdkgdjaaDoor
/- Marks with their contents, walked: what they leave, and that they are held. -/
namespace Go.Proofs.YtogmphjhdkgdjaaDoor
open Go.RowKit Go.Proofs.YtogmphjhdkgdjaaDoorW.PrintWords Go.Proofs.YtogmphjhdkgdjaaDoor.QFnExactValidModule
set_option linter.unusedVariables false
set_option linter.unusedSimpArgs false
theorem szL_one {α : Type} (l : List α) : szL (fun _ => (1 : Int)) l = l.length := by
  induction l with
  | nil => rfl
  | cons x l ih => simp only [szL, ih, List.length_cons]; omega
theorem szL_three {α : Type} (l : List α) : szL (fun _ => (3 : Int)) l = 3 * l.length := by
  induction l with
  | nil => rfl
  | cons x l ih => simp only [szL, ih, List.length_cons]; omega
theorem take_one {α : Type} {l : List α} {i : Nat} (h : i ≤ l.length) : szL (fun _ => (1 : Int)) (l.take i) = i := by rw [szL_one, List.length_take]; omega
theorem take_three {α : Type} {l : List α} {i : Nat} (h : i ≤ l.length) : szL (fun _ => (3 : Int)) (l.take i) = 3 * i := by rw [szL_three, List.length_take]; omega
theorem mk_full {α : Type} {mk : Int → α → α} {sz : α → Int} (k : Int) (l : List α) : mkL mk sz k (l.take l.length) ++ l.drop l.length = mkL mk sz k l := by simp
section
variable (lo hi : Nat)
set_option maxHeartbeats 4000000 in
theorem markB_row (v : Value) (xs : List Int) (k : Int) (w : World) (h : RowO ekInt lo hi w v xs) (hk0 : 0 ≤ k) (hk1 : k ≤ 8000000000000000000) (hn : xs.length ≤ 1000000000000000) :
    Calls Tryd.prog 22 #[v, .int .i64 k] w fun e w' => e = .returned (.int .i64 (k + xs.length)) ∧ RowO ekInt lo hi w' v (mkB k xs) ∧ Ch lo hi [5] w w' := by
  have H := Lib.hid h
  obtain ⟨A, c, rfl, hc⟩ := h.form
  clear h
  go_enter Tryd.func22, Tryd.ntmps22
  go_wp2
  go_loopw [1, 5] (fun v1 v5 wr => ∃ i : Nat, i ≤ xs.length ∧ v5 = .int .i64 i ∧ v1 = .int .i64 (k + (i : Int)) ∧ Hid (RowO ekInt lo hi wr (.slice A xs.length c) (mkB k (xs.take i) ++ xs.drop i)) ∧ Hid (Ch lo hi [5] w wr)) (fun _ v5 _ => xs.length - (RowKit.intOf v5).toNat)
  case atStart => exact ⟨0, Nat.zero_le _, rfl, by simp, Lib.hid H.out, Lib.hid Ch.refl⟩
  case round =>
    obtain ⟨i, hi, rfl, rfl, HR, HC⟩ := hrel
    by_cases hlt : i < xs.length
    · obtain ⟨x, hx⟩ : ∃ x, xs[i]? = some x := ⟨xs[i], List.getElem?_eq_getElem hlt⟩
      obtain ⟨g, cap, e, c0, f0, hl, hu⟩ := atB HR.out (mkL_at k xs i x hx)
      have hA : A = some ⟨g, 0, none⟩ := by injection e
      subst hA
      obtain ⟨hu1, hu2⟩ := hu ((k + (i : Int)) % 256)
      have hs := mkL_set (mk := fun k _ => k % 256) (sz := fun _ => 1) k xs i x hx
      rw [take_one hi] at hs
      have HR1 := Lib.hid hu1
      rw [show (mkB k (xs.take i) ++ xs.drop i).set i ((k + (i : Int)) % 256) = mkB k (xs.take (i + 1)) ++ xs.drop (i + 1) from hs] at HR1
      have HC1 := Lib.hid (HC.out.trans hu2)
      clear hu1 hu2 hu hs hx e HR HC
      go_wp2
      go_roundw
      case rel => exact ⟨i + 1, by omega, by go_num, by congr 1; simp; omega, HR1, HC1⟩
      case measure => simp [RowKit.intOf]; omega
    · obtain rfl : i = xs.length := by omega
      go_wp2
      go_ret
      exact ⟨rfl, by have := HR.out; rwa [show mkB k (xs.take xs.length) ++ xs.drop xs.length = mkB k xs from mk_full k xs] at this, HC.out⟩
set_option maxHeartbeats 4000000 in
theorem markT_row (v : Value) (xs : List Bool) (k : Int) (w : World) (h : RowO ekBool lo hi w v xs) (hk0 : 0 ≤ k) (hk1 : k ≤ 8000000000000000000) (hn : xs.length ≤ 1000000000000000) :
    Calls Tryd.prog 83 #[v, .int .i64 k] w fun e w' => e = .returned (.int .i64 (k + xs.length)) ∧ RowO ekBool lo hi w' v (mkT k xs) ∧ Ch lo hi [4] w w' := by
  have H := Lib.hid h
  obtain ⟨A, c, rfl, hc⟩ := h.form
  clear h
  go_enter Tryd.func83, Tryd.ntmps83
  go_wp2
  go_loopw [1, 5] (fun v1 v5 wr => ∃ i : Nat, i ≤ xs.length ∧ v5 = .int .i64 i ∧ v1 = .int .i64 (k + (i : Int)) ∧ Hid (RowO ekBool lo hi wr (.slice A xs.length c) (mkT k (xs.take i) ++ xs.drop i)) ∧ Hid (Ch lo hi [4] w wr)) (fun _ v5 _ => xs.length - (RowKit.intOf v5).toNat)
  case atStart => exact ⟨0, Nat.zero_le _, rfl, by simp, Lib.hid H.out, Lib.hid Ch.refl⟩
  case round =>
    obtain ⟨i, hi, rfl, rfl, HR, HC⟩ := hrel
    by_cases hlt : i < xs.length
    · obtain ⟨x, hx⟩ : ∃ x, xs[i]? = some x := ⟨xs[i], List.getElem?_eq_getElem hlt⟩
      obtain ⟨g, cap, e, c0, f0, hl, hu⟩ := atT HR.out (mkL_at k xs i x hx)
      have hA : A = some ⟨g, 0, none⟩ := by injection e
      subst hA
      obtain ⟨hu1, hu2⟩ := hu (decide ((k + (i : Int)) % 3 = 0))
      have hs := mkL_set (mk := fun k _ => decide (k % 3 = 0)) (sz := fun _ => 1) k xs i x hx
      rw [take_one hi] at hs
      have HR1 := Lib.hid hu1
      rw [show (mkT k (xs.take i) ++ xs.drop i).set i (decide ((k + (i : Int)) % 3 = 0)) = mkT k (xs.take (i + 1)) ++ xs.drop (i + 1) from hs] at HR1
      have HC1 := Lib.hid (HC.out.trans hu2)
      clear hu1 hu2 hu hs hx e HR HC
      go_wp2
      go_roundw
      case rel => exact ⟨i + 1, by omega, by go_num, by congr 1; simp; omega, HR1, HC1⟩
      case measure => simp [RowKit.intOf]; omega
    · obtain rfl : i = xs.length := by omega
      go_wp2
      go_ret
      exact ⟨rfl, by have := HR.out; rwa [show mkT k (xs.take xs.length) ++ xs.drop xs.length = mkT k xs from mk_full k xs] at this, HC.out⟩
set_option maxHeartbeats 4000000 in
theorem markI_row (v : Value) (xs : List S71) (k : Int) (w : World) (h : RowO ekIns lo hi w v xs) (hk0 : 0 ≤ k) (hk1 : k ≤ 8000000000000000000) (hn : xs.length ≤ 1000000000000000) :
    Calls Tryd.prog 84 #[v, .int .i64 k] w fun e w' => e = .returned (.int .i64 (k + 3 * xs.length)) ∧ RowO ekIns lo hi w' v (mkI k xs) ∧ Ch lo hi [71] w w' := by
  have H := Lib.hid h
  obtain ⟨A, c, rfl, hc⟩ := h.form
  clear h
  go_enter Tryd.func84, Tryd.ntmps84
  go_wp2
  go_loopw [1, 5] (fun v1 v5 wr => ∃ i : Nat, i ≤ xs.length ∧ v5 = .int .i64 i ∧ v1 = .int .i64 (k + 3 * (i : Int)) ∧ Hid (RowO ekIns lo hi wr (.slice A xs.length c) (mkI k (xs.take i) ++ xs.drop i)) ∧ Hid (Ch lo hi [71] w wr)) (fun _ v5 _ => xs.length - (RowKit.intOf v5).toNat)
  case atStart => exact ⟨0, Nat.zero_le _, rfl, by simp, Lib.hid H.out, Lib.hid Ch.refl⟩
  case round =>
    obtain ⟨i, hi, rfl, rfl, HR, HC⟩ := hrel
    by_cases hlt : i < xs.length
    · obtain ⟨x, hx⟩ : ∃ x, xs[i]? = some x := ⟨xs[i], List.getElem?_eq_getElem hlt⟩
      obtain ⟨g, cap, e, ⟨c0, c1, c2⟩, hf, hl, hu⟩ := atI HR.out (mkL_at k xs i x hx)
      have hA : A = some ⟨g, 0, none⟩ := by injection e
      subst hA
      have f0 := hf (i * 3)
      have f1 := hf (i * 3 + 1)
      have f2 := hf (i * 3 + 2)
      obtain ⟨z, hz⟩ : ∃ z, z = k + 3 * (i : Int) := ⟨_, rfl⟩
      obtain ⟨hu1, hu2⟩ := hu z (z + 1) (z + 1 + 1)
      have hs := mkL_set (mk := fun k _ => (⟨k, k + 1, k + 1 + 1⟩ : S71)) (sz := fun _ => 3) k xs i x hx
      rw [take_three hi, ← hz] at hs
      have HR1 := Lib.hid hu1
      rw [show (mkI k (xs.take i) ++ xs.drop i).set i ⟨z, z + 1, z + 1 + 1⟩ = mkI k (xs.take (i + 1)) ++ xs.drop (i + 1) from hs] at HR1
      have HC1 := Lib.hid (HC.out.trans hu2)
      have hz0 : 0 ≤ z := by omega
      have hz1 : z ≤ 8100000000000000000 := by omega
      have hz2 : z + 3 = k + 3 * ((i : Int) + 1) := by omega
      have HZ := Lib.hid hz2
      rw [← hz]
      clear hu1 hu2 hu hs hx e HR HC hf hz hz2
      go_wp2
      go_roundw
      case rel => exact ⟨i + 1, by omega, by go_num, by have := HZ.out; congr 1; push_cast; omega, HR1, HC1⟩
      case measure => simp [RowKit.intOf]; omega
    · obtain rfl : i = xs.length := by omega
      go_wp2
      go_ret
      exact ⟨rfl, by have := HR.out; rwa [show mkI k (xs.take xs.length) ++ xs.drop xs.length = mkI k xs from mk_full k xs] at this, HC.out⟩
/-- What is known of data that are marked. -/
def SmD (xs : List S57) : Prop := xs.length ≤ 1048576 ∧ ∀ x ∈ xs, x.f2.length ≤ 1048576
theorem szD_bd {xs : List S57} (h : ∀ x ∈ xs, x.f2.length ≤ 1048576) : 0 ≤ szL szD xs ∧ szL szD xs ≤ xs.length * 1048579 :=
  szL_bd (by omega) (fun x hx => by have := h x hx; unfold szD; omega)
theorem szD_take {xs : List S57} (h : SmD xs) (i : Nat) : 0 ≤ szL szD (xs.take i) ∧ szL szD (xs.take i) ≤ 1099514773504 := by
  have h1 := szD_bd (xs := xs.take i) (fun x hx => h.2 x (List.mem_of_mem_take hx))
  have h2 : (xs.take i).length ≤ 1048576 := by rw [List.length_take]; have := h.1; omega
  omega
set_option maxHeartbeats 8000000 in
theorem markD_row (v : Value) (xs : List S57) (k : Int) (w : World) (h : RowO ekDat lo hi w v xs) (hk0 : 0 ≤ k) (hk1 : k ≤ 4000000000000000000) (hl : SmD xs) :
    Calls Tryd.prog 21 #[v, .int .i64 k] w fun e w' => e = .returned (.int .i64 (k + szL szD xs)) ∧ RowO ekDat lo hi w' v (mkD k xs) ∧ Ch lo hi [57, 5] w w' := by
  have H := Lib.hid h
  have hn := hl.1
  have HL := Lib.hid hl
  obtain ⟨A, c, rfl, hc⟩ := h.form
  clear h hl
  go_enter Tryd.func21, Tryd.ntmps21
  go_wp2
  go_loopw [1, 5] (fun v1 v5 wr => ∃ i : Nat, i ≤ xs.length ∧ v5 = .int .i64 i ∧ v1 = .int .i64 (k + szL szD (xs.take i)) ∧ Hid (RowO ekDat lo hi wr (.slice A xs.length c) (mkD k (xs.take i) ++ xs.drop i)) ∧ Hid (Ch lo hi [57, 5] w wr)) (fun _ v5 _ => xs.length - (RowKit.intOf v5).toNat)
  case atStart => exact ⟨0, Nat.zero_le _, rfl, by simp [szL], Lib.hid H.out, Lib.hid Ch.refl⟩
  case round =>
    obtain ⟨i, hi, rfl, rfl, HR, HC⟩ := hrel
    have hbd := szD_take HL.out i
    obtain ⟨z, hz⟩ : ∃ z, z = k + szL szD (xs.take i) := ⟨_, rfl⟩
    have hz0 : 0 ≤ z := by omega
    have hz1 : z ≤ 4000002000000000000 := by omega
    rw [← hz]
    have HZ := Lib.hid hz
    clear hbd hz
    by_cases hlt : i < xs.length
    · obtain ⟨x, hx⟩ : ∃ x, xs[i]? = some x := ⟨xs[i], List.getElem?_eq_getElem hlt⟩
      obtain ⟨g, cap, a, b, tv, e, ⟨c0, c1, c2, c3⟩, hf, hl, ha, ht, hu⟩ := atD HR.out (mkL_at k xs i x hx)
      have hA : A = some ⟨g, 0, none⟩ := by injection e
      subst hA
      have f0 := hf (i * 4)
      have f1 := hf (i * 4 + 1)
      obtain ⟨hu1, hu2⟩ := hu z (z + 1)
      have hs := mkL_set (mk := mkD1) (sz := szD) k xs i x hx
      rw [← HZ.out] at hs
      have HS := Lib.hid hs
      have HZ2 : Hid (k + szL szD (xs.take (i + 1)) = z + szD x) := Lib.hid (by rw [szL_take xs i x hx, HZ.out]; omega)
      have hxl := HL.out.2 x (List.mem_of_getElem? hx)
      have HT := Lib.hid hu1
      have HU := Lib.hid hu2
      obtain ⟨A2, n2, rfl, _⟩ := ht.form
      clear hu1 hu2 hu hs hx e HR hf ht
      go_wp2_with (go_at_call 22; refine (markB_row a b _ _ _ _ HT.out (by omega) (by omega) (by omega)).mono ?_; rintro e w3 ⟨rfl, hr3, hc3⟩; obtain ⟨c3', f3', hl3, hu3⟩ := HU.out w3 _ hr3 hc3; have HU3 := Lib.hid hu3; clear hr3 hc3 hu3)
      go_roundw
      case rel =>
        obtain ⟨r1, r2⟩ := HU3.out (z + 1 + 1 + x.f2.length)
        rw [show (mkD k (xs.take i) ++ xs.drop i).set i ⟨z, z + 1, mkB (z + 1 + 1) x.f2, z + 1 + 1 + x.f2.length⟩ = mkD k (xs.take (i + 1)) ++ xs.drop (i + 1) from HS.out] at r1
        exact ⟨i + 1, by omega, by go_num, by rw [HZ2.out]; unfold szD; congr 1; omega, Lib.hid r1, Lib.hid (HC.out.trans r2)⟩
      case measure => simp [RowKit.intOf]; omega
    · obtain rfl : i = xs.length := by omega
      go_wp2
      go_ret
      have ez := HZ.out
      rw [List.take_length] at ez
      exact ⟨by rw [← ez] <;> rfl, by have := HR.out; rwa [show mkD k (xs.take xs.length) ++ xs.drop xs.length = mkD k xs from mk_full k xs] at this, HC.out⟩
end
end Go.Proofs.YtogmphjhdkgdjaaDoor
/- Marks with their contents, walked: rows of data, functions, a module. -/
namespace Go.Proofs.YtogmphjhdkgdjaaDoor
open Go.RowKit Go.Proofs.YtogmphjhdkgdjaaDoorW.PrintWords Go.Proofs.YtogmphjhdkgdjaaDoor.QFnExactValidModule
set_option linter.unusedVariables false
set_option linter.unusedSimpArgs false
/-- What is known of constants that are marked. -/
def SmC (cs : List (List S57)) : Prop := cs.length ≤ 65535 ∧ ∀ c ∈ cs, c.length ≤ 65535 ∧ ∀ x ∈ c, x.f2.length ≤ 255
theorem SmC.dat {cs : List (List S57)} (h : SmC cs) {c : List S57} (hc : c ∈ cs) : SmD c := ⟨by have := (h.2 c hc).1; omega, fun x hx => by have := (h.2 c hc).2 x hx; omega⟩
theorem szC_bd {cs : List (List S57)} (h : ∀ c ∈ cs, c.length ≤ 65535 ∧ ∀ x ∈ c, x.f2.length ≤ 255) : 0 ≤ szL (szL szD) cs ∧ szL (szL szD) cs ≤ cs.length * 16908030 :=
  szL_bd (by omega) (fun c hc => by
    have h1 := h c hc
    have h2 := szL_bd (sz := szD) (l := c) (m := 258) (by omega) (fun x hx => by have := h1.2 x hx; unfold szD; omega)
    have := h1.1
    omega)
theorem szC_take {cs : List (List S57)} (h : SmC cs) (i : Nat) : 0 ≤ szL (szL szD) (cs.take i) ∧ szL (szL szD) (cs.take i) ≤ 1108067746050 := by
  have h1 := szC_bd (cs := cs.take i) (fun c hc => h.2 c (List.mem_of_mem_take hc))
  have h2 : (cs.take i).length ≤ 65535 := by rw [List.length_take]; have := h.1; omega
  omega
/-- What is known of functions that are marked. -/
def SmF (fs : List S68) : Prop := fs.length ≤ 65535 ∧ ∀ f ∈ fs, f.f1.length ≤ 65535 ∧ f.f2.length ≤ 65535
theorem szF_take {fs : List S68} (h : SmF fs) (i : Nat) : 0 ≤ szL szF (fs.take i) ∧ szL szF (fs.take i) ≤ 17179410435 := by
  have h1 := szL_bd (sz := szF) (l := fs.take i) (m := 262141) (by omega) (fun f hf => by have := h.2 f (List.mem_of_mem_take hf); unfold szF; omega)
  have h2 : (fs.take i).length ≤ 65535 := by rw [List.length_take]; have := h.1; omega
  omega
section
variable (lo hi : Nat)
set_option maxHeartbeats 8000000 in
theorem markDS_row (v : Value) (xs : List (List S57)) (k : Int) (w : World) (h : RowO ekDats lo hi w v xs) (hk0 : 0 ≤ k) (hk1 : k ≤ 1000000) (hl : SmC xs) :
    Calls Tryd.prog 55 #[v, .int .i64 k] w fun e w' => e = .returned (.int .i64 (k + szL (szL szD) xs)) ∧ RowO ekDats lo hi w' v (mkDS k xs) ∧ Ch lo hi [57, 5] w w' := by
  have H := Lib.hid h
  have hn := hl.1
  have HL := Lib.hid hl
  obtain ⟨A, c, rfl, hc⟩ := h.form
  clear h hl
  go_enter Tryd.func55, Tryd.ntmps55
  go_wp2
  go_loopw [1, 5] (fun v1 v5 wr => ∃ i : Nat, i ≤ xs.length ∧ v5 = .int .i64 i ∧ v1 = .int .i64 (k + szL (szL szD) (xs.take i)) ∧ Hid (RowO ekDats lo hi wr (.slice A xs.length c) (mkDS k (xs.take i) ++ xs.drop i)) ∧ Hid (Ch lo hi [57, 5] w wr)) (fun _ v5 _ => xs.length - (RowKit.intOf v5).toNat)
  case atStart => exact ⟨0, Nat.zero_le _, rfl, by simp [szL], Lib.hid H.out, Lib.hid Ch.refl⟩
  case round =>
    obtain ⟨i, hi, rfl, rfl, HR, HC⟩ := hrel
    have hbd := szC_take HL.out i
    obtain ⟨z, hz⟩ : ∃ z, z = k + szL (szL szD) (xs.take i) := ⟨_, rfl⟩
    have hz0 : 0 ≤ z := by omega
    have hz1 : z ≤ 2000000000000 := by omega
    rw [← hz]
    have HZ := Lib.hid hz
    clear hbd hz
    by_cases hlt : i < xs.length
    · obtain ⟨x, hx⟩ : ∃ x, xs[i]? = some x := ⟨xs[i], List.getElem?_eq_getElem hlt⟩
      obtain ⟨g, cap, a, b, tv, e, c0, hl, ha, ht, hu⟩ := atDS HR.out (mkL_at k xs i x hx)
      have hA : A = some ⟨g, 0, none⟩ := by injection e
      subst hA
      have hs := mkL_set (mk := mkD) (sz := szL szD) k xs i x hx
      rw [← HZ.out] at hs
      have HS := Lib.hid hs
      have HZ2 : Hid (k + szL (szL szD) (xs.take (i + 1)) = z + szL szD x) := Lib.hid (by rw [szL_take xs i x hx, HZ.out]; omega)
      have hxl := HL.out.dat (List.mem_of_getElem? hx)
      have HXL := Lib.hid hxl
      have HT := Lib.hid ht
      have HU := Lib.hid hu
      obtain ⟨A2, n2, rfl, _⟩ := ht.form
      clear hu hs hx e HR ht hxl
      go_wp2_with (go_at_call 21; refine (markD_row a b _ _ _ _ HT.out (by omega) (by omega) HXL.out).mono ?_; rintro e w3 ⟨rfl, hr3, hc3⟩; have HU3 := Lib.hid (HU.out w3 _ hr3 hc3); clear hr3 hc3)
      go_roundw
      case rel =>
        obtain ⟨r1, r2⟩ := HU3.out
        rw [show (mkDS k (xs.take i) ++ xs.drop i).set i (mkD z x) = mkDS k (xs.take (i + 1)) ++ xs.drop (i + 1) from HS.out] at r1
        exact ⟨i + 1, by omega, by go_num, by rw [HZ2.out], Lib.hid r1, Lib.hid (HC.out.trans r2)⟩
      case measure => simp [RowKit.intOf]; omega
    · obtain rfl : i = xs.length := by omega
      go_wp2
      go_ret
      have ez := HZ.out
      rw [List.take_length] at ez
      exact ⟨by rw [← ez] <;> rfl, by have := HR.out; rwa [show mkDS k (xs.take xs.length) ++ xs.drop xs.length = mkDS k xs from mk_full k xs] at this, HC.out⟩
set_option maxHeartbeats 8000000 in
theorem markF_row (v : Value) (xs : List S68) (k : Int) (w : World) (h : RowO ekFun lo hi w v xs) (hk0 : 0 ≤ k) (hk1 : k ≤ 2000000000000) (hl : SmF xs) :
    Calls Tryd.prog 56 #[v, .int .i64 k] w fun e w' => e = .returned (.int .i64 (k + szL szF xs)) ∧ RowO ekFun lo hi w' v (mkF k xs) ∧ Ch lo hi [68, 4, 71] w w' := by
  have H := Lib.hid h
  have hn := hl.1
  have HL := Lib.hid hl
  obtain ⟨A, c, rfl, hc⟩ := h.form
  clear h hl
  go_enter Tryd.func56, Tryd.ntmps56
  go_wp2
  go_loopw [1, 5] (fun v1 v5 wr => ∃ i : Nat, i ≤ xs.length ∧ v5 = .int .i64 i ∧ v1 = .int .i64 (k + szL szF (xs.take i)) ∧ Hid (RowO ekFun lo hi wr (.slice A xs.length c) (mkF k (xs.take i) ++ xs.drop i)) ∧ Hid (Ch lo hi [68, 4, 71] w wr)) (fun _ v5 _ => xs.length - (RowKit.intOf v5).toNat)
  case atStart => exact ⟨0, Nat.zero_le _, rfl, by simp [szL], Lib.hid H.out, Lib.hid Ch.refl⟩
  case round =>
    obtain ⟨i, hi, rfl, rfl, HR, HC⟩ := hrel
    have hbd := szF_take HL.out i
    obtain ⟨z, hz⟩ : ∃ z, z = k + szL szF (xs.take i) := ⟨_, rfl⟩
    have hz0 : 0 ≤ z := by omega
    have hz1 : z ≤ 3000000000000 := by omega
    rw [← hz]
    have HZ := Lib.hid hz
    clear hbd hz
    by_cases hlt : i < xs.length
    · obtain ⟨x, hx⟩ : ∃ x, xs[i]? = some x := ⟨xs[i], List.getElem?_eq_getElem hlt⟩
      obtain ⟨g, cap, a, b, bv, iv, e, ⟨c0, c1, c2⟩, f0, hl, ha, hb, hv, hu⟩ := atF HR.out (mkL_at k xs i x hx)
      have hA : A = some ⟨g, 0, none⟩ := by injection e
      subst hA
      obtain ⟨hu1, hu2⟩ := hu z
      have hs := mkL_set (mk := mkF1) (sz := szF) k xs i x hx
      rw [← HZ.out] at hs
      have HS := Lib.hid hs
      have HZ2 : Hid (k + szL szF (xs.take (i + 1)) = z + szF x) := Lib.hid (by rw [szL_take xs i x hx, HZ.out]; omega)
      obtain ⟨hx1, hx2⟩ := HL.out.2 x (List.mem_of_getElem? hx)
      have HT := Lib.hid hu1
      have HU := Lib.hid hu2
      obtain ⟨A2, n2, rfl, _⟩ := hb.form
      obtain ⟨A3, n3, rfl, _⟩ := hv.form
      clear hu1 hu2 hu hs hx e HR hb hv
      go_wp2_with (first
          | (go_at_call 83; refine (markT_row a b _ _ _ _ HT.out (by omega) (by omega) (by omega)).mono ?_; rintro e w3 ⟨rfl, hr3, hc3⟩; obtain ⟨c2', hl3, hv3, hu3⟩ := HU.out w3 _ hr3 hc3; have HV3 := Lib.hid hv3; have HU3 := Lib.hid hu3; clear hr3 hc3 hv3 hu3)
          | (go_at_call 84; refine (markI_row a b _ _ _ _ HV3.out (by omega) (by omega) (by omega)).mono ?_; rintro e w4 ⟨rfl, hr4, hc4⟩; have HU4 := Lib.hid (HU3.out w4 _ hr4 hc4); clear hr4 hc4))
      go_roundw
      case rel =>
        obtain ⟨r1, r2⟩ := HU4.out
        rw [show (mkF k (xs.take i) ++ xs.drop i).set i ⟨z, mkT (z + 1) x.f1, mkI (z + 1 + x.f1.length) x.f2⟩ = mkF k (xs.take (i + 1)) ++ xs.drop (i + 1) from HS.out] at r1
        exact ⟨i + 1, by omega, by go_num, by rw [HZ2.out]; unfold szF; congr 1; omega, Lib.hid r1, Lib.hid (HC.out.trans r2)⟩
      case measure => simp [RowKit.intOf]; omega
    · obtain rfl : i = xs.length := by omega
      go_wp2
      go_ret
      have ez := HZ.out
      rw [List.take_length] at ez
      exact ⟨by rw [← ez] <;> rfl, by have := HR.out; rwa [show mkF k (xs.take xs.length) ++ xs.drop xs.length = mkF k xs from mk_full k xs] at this, HC.out⟩
end
/-- A module's rows, one below the other. -/
structure MdR (lo mid hi : Nat) (w : World) (v0 v2 : Value) (cs : List (List S57)) (fs : List S68) : Prop where
  con : RowO ekDats lo mid w v0 cs
  fun_ : RowO ekFun mid hi w v2 fs
theorem MdR.below {lo mid hi : Nat} {w w' : World} {v0 v2 : Value} {cs : List (List S57)} {fs : List S68} (h : MdR lo mid hi w v0 v2 cs fs) (hb : Below w.heap.size w w') : MdR lo mid hi w' v0 v2 cs fs := ⟨h.con.below hb, h.fun_.below hb⟩
def szM (cs : List (List S57)) (fs : List S68) : Int := 1 + szL (szL szD) cs + szL szF fs
theorem szM_bd {cs : List (List S57)} {fs : List S68} (hl : SmC cs) (hf : SmF fs) : 1 ≤ szM cs fs ∧ szM cs fs ≤ 3000000000000 := by
  have h1 := szC_take hl cs.length
  have h2 := szF_take hf fs.length
  rw [List.take_length] at h1 h2
  unfold szM
  omega
set_option maxHeartbeats 8000000 in
/-- A module marked, with its contents. -/
theorem markM_row (lo mid hi : Nat) (v0 v2 : Value) (g : Int) (cs : List (List S57)) (fs : List S68) (w : World) (h : MdR lo mid hi w v0 v2 cs fs) (hlo : lo ≤ w.heap.size) (hmid : lo ≤ mid) (hhi : hi ≤ w.heap.size) (hl : SmC cs) (hf : SmF fs) :
    Calls Tryd.prog 26 #[.agg #[v0, .int .i64 g, v2], .int .i64 1] w fun e w' => e = .returned (.int .i64 (szM cs fs)) ∧ MdR lo mid hi w' v0 v2 (mkDS 1 cs) (mkF (1 + szL (szL szD) cs) fs) ∧ Below lo w w' ∧ ∀ q, q < w.heap.size → (q < lo ∨ hi ≤ q) → (q < lo ∨ mid ≤ q) → w'.heap[q]? = w.heap[q]? := by
  obtain ⟨A0, c0, rfl, _⟩ := h.con.form
  obtain ⟨A2, c2, rfl, _⟩ := h.fun_.form
  have H0 := Lib.hid h.con
  have H2 := Lib.hid h.fun_
  have HL := Lib.hid hl
  have HF := Lib.hid hf
  have hbc := szC_take hl cs.length
  rw [List.take_length] at hbc
  have hbf := szF_take hf fs.length
  rw [List.take_length] at hbf
  have hu := Tryd.underlying38
  clear h hl hf
  obtain ⟨r1, hr1⟩ : ∃ r, r = 1 + szL (szL szD) cs := ⟨_, rfl⟩
  obtain ⟨r2, hr2⟩ : ∃ r, r = r1 + szL szF fs := ⟨_, rfl⟩
  have HR1 := Lib.hid hr1
  have HR2 := Lib.hid hr2
  have hr1b : 1 ≤ r1 ∧ r1 ≤ 1200000000000 := by omega
  have hr10 := hr1b.1
  have hr11 := hr1b.2
  clear hr1b hbc hbf hr1 hr2
  obtain ⟨W, hW⟩ : ∃ W, W = w.alloc (.cells #[.slice A0 cs.length c0, .int .i64 g, .slice A2 fs.length c2] 38) := ⟨_, rfl⟩
  have hb : Below w.heap.size w W := by rw [hW]; exact (Below.refl _ _).alloc (Nat.le_refl _) _
  have hx : W.heap[w.heap.size]? = some (.cells #[.slice A0 cs.length c0, .int .i64 g, .slice A2 fs.length c2] 38 (0, 0)) := by rw [hW]; exact blk_new2 _ _
  have HB := Lib.hid hb
  have HX := Lib.hid hx
  have hW1 : w.heap.size < W.heap.size := blk_lt2 hx
  have e0 : W.cell? ⟨w.heap.size, 0, none⟩ = some (.slice A0 cs.length c0) := by simp [World.cell?, hx]
  clear hb hx
  go_enter Tryd.func26, Tryd.ntmps26
  go_wp2_with fail
  rw [← hW]
  clear hW
  refine (markDS_row lo mid _ cs 1 W (H0.out.below HB.out) (by omega) (by omega) HL.out).mono ?_
  rw [← HR1.out]
  rintro e w1 ⟨rfl, hc1, hm1⟩
  have HC1 := Lib.hid hc1
  have HM1 := Lib.hid hm1
  have hx1 := hm1.keep HX.out (by simp)
  have e2 : w1.cell? ⟨w.heap.size, 2, none⟩ = some (.slice A2 fs.length c2) := by simp [World.cell?, hx1]
  have hl1 : w.heap.size < w1.heap.size := blk_lt2 hx1
  clear hm1 hc1 hx1 e0
  go_wp2_with fail
  refine (markF_row mid hi _ fs r1 w1 ((H2.out.below HB.out).ch lc_fun HM1.out (Or.inr (Or.inr (by simp [ekFun])))) (by omega) (by omega) HF.out).mono ?_
  rw [← HR2.out]
  rintro e w2 ⟨rfl, hc2, hm2⟩
  have HC2 := Lib.hid hc2
  have HM2 := Lib.hid hm2
  clear hm2 hc2 e2
  go_wp2_with fail
  go_ret
  have e3 : r2 = szM cs fs := by rw [HR2.out, HR1.out]; rfl
  rw [e3]
  refine ⟨rfl, ⟨HC1.out.ch lc_dats HM2.out (Or.inr (Or.inr (by simp [ekDats]))), ?_⟩, ((HB.out.mono hlo).trans HM1.out.below).trans (HM2.out.below.mono hmid), fun q hq q1 q2 => ?_⟩
  · rw [← HR1.out]; exact HC2.out
  · refine (HM2.out.others q (fun a b => by omega)).trans ((HM1.out.others q (fun a b => by omega)).trans (HB.out.block q hq))
end Go.Proofs.YtogmphjhdkgdjaaDoor
/- Marks held, walked. -/
namespace Go.Proofs.YtogmphjhdkgdjaaDoor
open Go.RowKit Go.Proofs.YtogmphjhdkgdjaaDoorW.PrintWords Go.Proofs.YtogmphjhdkgdjaaDoor.QFnExactValidModule
set_option linter.unusedVariables false
set_option linter.unusedSimpArgs false
section
variable (lo hi : Nat)
set_option maxHeartbeats 4000000 in
theorem heldB_row (v : Value) (xs : List Int) (k : Int) (w : World) (h : RowO ekInt lo hi w v (mkB k xs)) (hk0 : 0 ≤ k) (hk1 : k ≤ 8000000000000000000) (hn : xs.length ≤ 1000000000000000) :
    Calls Tryd.prog 23 #[v, .int .i64 k] w fun e w' => e = .returned (.int .i64 (k + xs.length)) ∧ Below w.heap.size w w' := by
  have H := Lib.hid h
  obtain ⟨A, c, rfl, hc⟩ := h.form
  have e0 : (mkB k xs).length = xs.length := mkL_length _ _
  rw [e0] at H hc ⊢
  clear h e0
  go_enter Tryd.func23, Tryd.ntmps23
  go_wp2
  go_loopw [1, 5] (fun v1 v5 wr => ∃ i : Nat, i ≤ xs.length ∧ v5 = .int .i64 i ∧ v1 = .int .i64 (k + (i : Int)) ∧ Hid (Below w.heap.size w wr)) (fun _ v5 _ => xs.length - (RowKit.intOf v5).toNat)
  case atStart => exact ⟨0, Nat.zero_le _, rfl, by simp, Lib.hid (Below.refl _ _)⟩
  case round =>
    obtain ⟨i, hi, rfl, rfl, HB⟩ := hrel
    by_cases hlt : i < xs.length
    · obtain ⟨x, hx⟩ : ∃ x, xs[i]? = some x := ⟨xs[i], List.getElem?_eq_getElem hlt⟩
      have hy := mkL_get (mk := fun k _ => k % 256) (sz := fun _ => 1) k xs i x hx
      rw [take_one hi] at hy
      obtain ⟨g, cap, e, c0, f0, hl, hu⟩ := atB (H.out.below HB.out) hy
      have hA : A = some ⟨g, 0, none⟩ := by injection e
      subst hA
      clear hu hy hx e
      go_wp2
      go_roundw
      case rel => exact ⟨i + 1, by omega, by go_num, by congr 1; simp; omega, HB⟩
      case measure => simp [RowKit.intOf]; omega
    · obtain rfl : i = xs.length := by omega
      go_wp2
      go_ret
      exact ⟨rfl, HB.out⟩
set_option maxHeartbeats 4000000 in
theorem heldT_row (v : Value) (xs : List Bool) (k : Int) (w : World) (h : RowO ekBool lo hi w v (mkT k xs)) (hk0 : 0 ≤ k) (hk1 : k ≤ 8000000000000000000) (hn : xs.length ≤ 1000000000000000) :
    Calls Tryd.prog 91 #[v, .int .i64 k] w fun e w' => e = .returned (.int .i64 (k + xs.length)) ∧ Below w.heap.size w w' := by
  have H := Lib.hid h
  obtain ⟨A, c, rfl, hc⟩ := h.form
  have e0 : (mkT k xs).length = xs.length := mkL_length _ _
  rw [e0] at H hc ⊢
  clear h e0
  go_enter Tryd.func91, Tryd.ntmps91
  go_wp2
  go_loopw [1, 5] (fun v1 v5 wr => ∃ i : Nat, i ≤ xs.length ∧ v5 = .int .i64 i ∧ v1 = .int .i64 (k + (i : Int)) ∧ Hid (Below w.heap.size w wr)) (fun _ v5 _ => xs.length - (RowKit.intOf v5).toNat)
  case atStart => exact ⟨0, Nat.zero_le _, rfl, by simp, Lib.hid (Below.refl _ _)⟩
  case round =>
    obtain ⟨i, hi, rfl, rfl, HB⟩ := hrel
    by_cases hlt : i < xs.length
    · obtain ⟨x, hx⟩ : ∃ x, xs[i]? = some x := ⟨xs[i], List.getElem?_eq_getElem hlt⟩
      have hy := mkL_get (mk := fun k _ => decide (k % 3 = 0)) (sz := fun _ => 1) k xs i x hx
      rw [take_one hi] at hy
      obtain ⟨g, cap, e, c0, f0, hl, hu⟩ := atT (H.out.below HB.out) hy
      have hA : A = some ⟨g, 0, none⟩ := by injection e
      subst hA
      have hq : (decide ((k + (i : Int)) % 3 = 0) == ((k + (i : Int)) % 3 == 0)) = true := by by_cases h : (k + (i : Int)) % 3 = 0 <;> simp [h]
      clear hu hy hx e
      go_wp2
      go_roundw
      case rel => exact ⟨i + 1, by omega, by go_num, by congr 1; simp; omega, HB⟩
      case measure => simp [RowKit.intOf]; omega
    · obtain rfl : i = xs.length := by omega
      go_wp2
      go_ret
      exact ⟨rfl, HB.out⟩
set_option maxHeartbeats 4000000 in
theorem heldI_row (v : Value) (xs : List S71) (k : Int) (w : World) (h : RowO ekIns lo hi w v (mkI k xs)) (hk0 : 0 ≤ k) (hk1 : k ≤ 8000000000000000000) (hn : xs.length ≤ 1000000000000000) :
    Calls Tryd.prog 92 #[v, .int .i64 k] w fun e w' => e = .returned (.int .i64 (k + 3 * xs.length)) ∧ Below w.heap.size w w' := by
  have H := Lib.hid h
  obtain ⟨A, c, rfl, hc⟩ := h.form
  have e0 : (mkI k xs).length = xs.length := mkL_length _ _
  rw [e0] at H hc ⊢
  clear h e0
  go_enter Tryd.func92, Tryd.ntmps92
  go_wp2
  go_loopw [1, 5] (fun v1 v5 wr => ∃ i : Nat, i ≤ xs.length ∧ v5 = .int .i64 i ∧ v1 = .int .i64 (k + 3 * (i : Int)) ∧ Hid (Below w.heap.size w wr)) (fun _ v5 _ => xs.length - (RowKit.intOf v5).toNat)
  case atStart => exact ⟨0, Nat.zero_le _, rfl, by simp, Lib.hid (Below.refl _ _)⟩
  case round =>
    obtain ⟨i, hi, rfl, rfl, HB⟩ := hrel
    by_cases hlt : i < xs.length
    · obtain ⟨x, hx⟩ : ∃ x, xs[i]? = some x := ⟨xs[i], List.getElem?_eq_getElem hlt⟩
      have hy := mkL_get (mk := fun k _ => (⟨k, k + 1, k + 1 + 1⟩ : S71)) (sz := fun _ => 3) k xs i x hx
      rw [take_three hi] at hy
      obtain ⟨g, cap, e, ⟨c0, c1, c2⟩, hf, hl, hu⟩ := atI (H.out.below HB.out) hy
      have hA : A = some ⟨g, 0, none⟩ := by injection e
      subst hA
      obtain ⟨z, hz⟩ : ∃ z, z = k + 3 * (i : Int) := ⟨_, rfl⟩
      rw [← hz] at c0 c1 c2 ⊢
      have hz0 : 0 ≤ z := by omega
      have hz1 : z ≤ 8100000000000000000 := by omega
      have hz2 : z + 3 = k + 3 * ((i : Int) + 1) := by omega
      have HZ := Lib.hid hz2
      clear hu hy hx e hf hz hz2
      go_wp2
      go_roundw
      case rel => exact ⟨i + 1, by omega, by go_num, by have := HZ.out; congr 1; push_cast; omega, HB⟩
      case measure => simp [RowKit.intOf]; omega
    · obtain rfl : i = xs.length := by omega
      go_wp2
      go_ret
      exact ⟨rfl, HB.out⟩
set_option maxHeartbeats 8000000 in
theorem heldD_row (v : Value) (xs : List S57) (k : Int) (w : World) (h : RowO ekDat lo hi w v (mkD k xs)) (hk0 : 0 ≤ k) (hk1 : k ≤ 4000000000000000000) (hl : SmD xs) :
    Calls Tryd.prog 90 #[v, .int .i64 k] w fun e w' => e = .returned (.int .i64 (k + szL szD xs)) ∧ Below w.heap.size w w' := by
  have H := Lib.hid h
  have hn := hl.1
  have HL := Lib.hid hl
  obtain ⟨A, c, rfl, hc⟩ := h.form
  have e0 : (mkD k xs).length = xs.length := mkL_length _ _
  rw [e0] at H hc ⊢
  clear h hl e0
  go_enter Tryd.func90, Tryd.ntmps90
  go_wp2
  go_loopw [1, 5] (fun v1 v5 wr => ∃ i : Nat, i ≤ xs.length ∧ v5 = .int .i64 i ∧ v1 = .int .i64 (k + szL szD (xs.take i)) ∧ Hid (Below w.heap.size w wr)) (fun _ v5 _ => xs.length - (RowKit.intOf v5).toNat)
  case atStart => exact ⟨0, Nat.zero_le _, rfl, by simp [szL], Lib.hid (Below.refl _ _)⟩
  case round =>
    obtain ⟨i, hi, rfl, rfl, HB⟩ := hrel
    have hbd := szD_take HL.out i
    obtain ⟨z, hz⟩ : ∃ z, z = k + szL szD (xs.take i) := ⟨_, rfl⟩
    have hz0 : 0 ≤ z := by omega
    have hz1 : z ≤ 4000002000000000000 := by omega
    rw [← hz]
    have HZ := Lib.hid hz
    clear hbd hz
    by_cases hlt : i < xs.length
    · obtain ⟨x, hx⟩ : ∃ x, xs[i]? = some x := ⟨xs[i], List.getElem?_eq_getElem hlt⟩
      have hy := mkL_get (mk := mkD1) (sz := szD) k xs i x hx
      rw [← HZ.out] at hy
      obtain ⟨g, cap, a, b, tv, e, ⟨c0, c1, c2, c3⟩, hf, hl, ha, ht, hu⟩ := atD (H.out.below HB.out) hy
      have hA : A = some ⟨g, 0, none⟩ := by injection e
      subst hA
      have HZ2 : Hid (k + szL szD (xs.take (i + 1)) = z + szD x) := Lib.hid (by rw [szL_take xs i x hx, HZ.out]; omega)
      have hxl := HL.out.2 x (List.mem_of_getElem? hx)
      have e3 : (mkB (z + 1 + 1) x.f2).length = x.f2.length := mkL_length _ _
      have HG : Hid (∀ w', Below wr.heap.size wr w' → w'.cell? ⟨g, i * 4 + 3, none⟩ = some (.int .i64 (z + 1 + 1 + x.f2.length)) ∧ g < w'.heap.size) := Lib.hid (fun w' hb => ⟨(World.cell?_of_block (hb.block g hl)).trans c3, by have := hb.size; omega⟩)
      simp only [mkD1] at c0 c1 c3 ht
      have HT := Lib.hid ht
      obtain ⟨A2, n2, rfl, _⟩ := ht.form
      rw [e3] at c2 HT
      clear hu hx hy e hf ht c3 e3
      go_wp2_with (go_at_call 23; refine (heldB_row a b _ x.f2 _ _ HT.out (by omega) (by omega) (by omega)).mono ?_; rintro e w3 ⟨rfl, hb3⟩; have HB3 : Hid (Below w.heap.size w w3) := Lib.hid (HB.out.trans (hb3.mono HB.out.size)); obtain ⟨c3, hl3⟩ := HG.out w3 hb3; have c4 : decide (z + 1 + 1 + (x.f2.length : Int) < 0) = false := decide_eq_false (by omega); clear hb3)
      go_roundw
      case rel => exact ⟨i + 1, by omega, by go_num, by rw [HZ2.out]; unfold szD; congr 1; omega, HB3⟩
      case measure => simp [RowKit.intOf]; omega
    · obtain rfl : i = xs.length := by omega
      go_wp2
      go_ret
      have ez := HZ.out
      rw [List.take_length] at ez
      exact ⟨by rw [← ez] <;> rfl, HB.out⟩
set_option maxHeartbeats 8000000 in
theorem heldDS_row (v : Value) (xs : List (List S57)) (k : Int) (w : World) (h : RowO ekDats lo hi w v (mkDS k xs)) (hk0 : 0 ≤ k) (hk1 : k ≤ 1000000) (hl : SmC xs) :
    Calls Tryd.prog 61 #[v, .int .i64 k] w fun e w' => e = .returned (.int .i64 (k + szL (szL szD) xs)) ∧ Below w.heap.size w w' := by
  have H := Lib.hid h
  have hn := hl.1
  have HL := Lib.hid hl
  obtain ⟨A, c, rfl, hc⟩ := h.form
  have e0 : (mkDS k xs).length = xs.length := mkL_length _ _
  rw [e0] at H hc ⊢
  clear h hl e0
  go_enter Tryd.func61, Tryd.ntmps61
  go_wp2
  go_loopw [1, 5] (fun v1 v5 wr => ∃ i : Nat, i ≤ xs.length ∧ v5 = .int .i64 i ∧ v1 = .int .i64 (k + szL (szL szD) (xs.take i)) ∧ Hid (Below w.heap.size w wr)) (fun _ v5 _ => xs.length - (RowKit.intOf v5).toNat)
  case atStart => exact ⟨0, Nat.zero_le _, rfl, by simp [szL], Lib.hid (Below.refl _ _)⟩
  case round =>
    obtain ⟨i, hi, rfl, rfl, HB⟩ := hrel
    have hbd := szC_take HL.out i
    obtain ⟨z, hz⟩ : ∃ z, z = k + szL (szL szD) (xs.take i) := ⟨_, rfl⟩
    have hz0 : 0 ≤ z := by omega
    have hz1 : z ≤ 2000000000000 := by omega
    rw [← hz]
    have HZ := Lib.hid hz
    clear hbd hz
    by_cases hlt : i < xs.length
    · obtain ⟨x, hx⟩ : ∃ x, xs[i]? = some x := ⟨xs[i], List.getElem?_eq_getElem hlt⟩
      have hy := mkL_get (mk := mkD) (sz := szL szD) k xs i x hx
      rw [← HZ.out] at hy
      obtain ⟨g, cap, a, b, tv, e, c0, hl, ha, ht, hu⟩ := atDS (H.out.below HB.out) hy
      have hA : A = some ⟨g, 0, none⟩ := by injection e
      subst hA
      have HZ2 : Hid (k + szL (szL szD) (xs.take (i + 1)) = z + szL szD x) := Lib.hid (by rw [szL_take xs i x hx, HZ.out]; omega)
      have hxl := HL.out.dat (List.mem_of_getElem? hx)
      have hb := szD_take hxl x.length
      rw [List.take_length] at hb
      obtain ⟨d, hd⟩ : ∃ d, d = z + szL szD x := ⟨_, rfl⟩
      have hd0 : 0 ≤ d := by omega
      have HD := Lib.hid hd
      have HXL := Lib.hid hxl
      have HT := Lib.hid ht
      obtain ⟨A2, n2, rfl, _⟩ := ht.form
      clear hu hx hy e ht hxl hb hd
      go_wp2_with (go_at_call 90; refine (heldD_row a b _ x _ _ HT.out (by omega) (by omega) HXL.out).mono ?_; rw [← HD.out]; rintro e w3 ⟨rfl, hb3⟩; have HB3 : Hid (Below w.heap.size w w3) := Lib.hid (HB.out.trans (hb3.mono HB.out.size)); have c4 : decide (d < 0) = false := decide_eq_false (by omega); clear hb3)
      go_roundw
      case rel => exact ⟨i + 1, by omega, by go_num, by rw [HZ2.out, HD.out], HB3⟩
      case measure => simp [RowKit.intOf]; omega
    · obtain rfl : i = xs.length := by omega
      go_wp2
      go_ret
      have ez := HZ.out
      rw [List.take_length] at ez
      exact ⟨by rw [← ez] <;> rfl, HB.out⟩
set_option maxHeartbeats 8000000 in
theorem heldF_row (v : Value) (xs : List S68) (k : Int) (w : World) (h : RowO ekFun lo hi w v (mkF k xs)) (hk0 : 0 ≤ k) (hk1 : k ≤ 2000000000000) (hl : SmF xs) :
    Calls Tryd.prog 62 #[v, .int .i64 k] w fun e w' => e = .returned (.int .i64 (k + szL szF xs)) ∧ Below w.heap.size w w' := by
  have H := Lib.hid h
  have hn := hl.1
  have HL := Lib.hid hl
  obtain ⟨A, c, rfl, hc⟩ := h.form
  have e0 : (mkF k xs).length = xs.length := mkL_length _ _
  rw [e0] at H hc ⊢
  clear h hl e0
  go_enter Tryd.func62, Tryd.ntmps62
  go_wp2
  go_loopw [1, 5] (fun v1 v5 wr => ∃ i : Nat, i ≤ xs.length ∧ v5 = .int .i64 i ∧ v1 = .int .i64 (k + szL szF (xs.take i)) ∧ Hid (Below w.heap.size w wr)) (fun _ v5 _ => xs.length - (RowKit.intOf v5).toNat)
  case atStart => exact ⟨0, Nat.zero_le _, rfl, by simp [szL], Lib.hid (Below.refl _ _)⟩
  case round =>
    obtain ⟨i, hi, rfl, rfl, HB⟩ := hrel
    have hbd := szF_take HL.out i
    obtain ⟨z, hz⟩ : ∃ z, z = k + szL szF (xs.take i) := ⟨_, rfl⟩
    have hz0 : 0 ≤ z := by omega
    have hz1 : z ≤ 3000000000000 := by omega
    rw [← hz]
    have HZ := Lib.hid hz
    clear hbd hz
    by_cases hlt : i < xs.length
    · obtain ⟨x, hx⟩ : ∃ x, xs[i]? = some x := ⟨xs[i], List.getElem?_eq_getElem hlt⟩
      have hy := mkL_get (mk := mkF1) (sz := szF) k xs i x hx
      rw [← HZ.out] at hy
      obtain ⟨g, cap, a, b, bv, iv, e, ⟨c0, c1, c2⟩, f0, hl, ha, hb, hv, hu⟩ := atF (H.out.below HB.out) hy
      have hA : A = some ⟨g, 0, none⟩ := by injection e
      subst hA
      have HZ2 : Hid (k + szL szF (xs.take (i + 1)) = z + szF x) := Lib.hid (by rw [szL_take xs i x hx, HZ.out]; omega)
      obtain ⟨hx1, hx2⟩ := HL.out.2 x (List.mem_of_getElem? hx)
      have e3 : (mkT (z + 1) x.f1).length = x.f1.length := mkL_length _ _
      have e4 : (mkI (z + 1 + x.f1.length) x.f2).length = x.f2.length := mkL_length _ _
      simp only [mkF1] at c0 hb hv
      have HT := Lib.hid hb
      have HV := Lib.hid hv
      have HG : Hid (∀ w', Below wr.heap.size wr w' → w'.cell? ⟨g, i * 3 + 2, none⟩ = some iv ∧ g < w'.heap.size ∧ RowO ekIns a b w' iv (mkI (z + 1 + x.f1.length) x.f2)) := Lib.hid (fun w' hb => ⟨(World.cell?_of_block (hb.block g hl)).trans c2, by have := hb.size; omega, HV.out.below hb⟩)
      obtain ⟨A2, n2, rfl, _⟩ := hb.form
      obtain ⟨A3, n3, rfl, _⟩ := hv.form
      rw [e3] at c1 HT
      rw [e4] at c2 HG
      clear hu hx hy e hb hv e3 e4 f0 HV c2
      go_wp2_with (first
        | (go_at_call 91; refine (heldT_row a b _ x.f1 _ _ HT.out (by omega) (by omega) (by omega)).mono ?_; rintro e w3 ⟨rfl, hb3⟩; have HB3 : Hid (Below w.heap.size w w3) := Lib.hid (HB.out.trans (hb3.mono HB.out.size)); obtain ⟨c2, hl3, hv3⟩ := HG.out w3 hb3; have HV3 := Lib.hid hv3; have c4 : decide (z + 1 + (x.f1.length : Int) < 0) = false := decide_eq_false (by omega); clear hb3 hv3)
        | (go_at_call 92; refine (heldI_row a b _ x.f2 _ _ HV3.out (by omega) (by omega) (by omega)).mono ?_; rintro e w4 ⟨rfl, hb4⟩; have HB4 : Hid (Below w.heap.size w w4) := Lib.hid (HB3.out.trans (hb4.mono HB3.out.size)); have c5 : decide (z + 1 + (x.f1.length : Int) + 3 * (x.f2.length : Int) < 0) = false := decide_eq_false (by omega); clear hb4))
      go_roundw
      case rel => exact ⟨i + 1, by omega, by go_num, by rw [HZ2.out]; unfold szF; congr 1; omega, HB4⟩
      case measure => simp [RowKit.intOf]; omega
    · obtain rfl : i = xs.length := by omega
      go_wp2
      go_ret
      have ez := HZ.out
      rw [List.take_length] at ez
      exact ⟨by rw [← ez] <;> rfl, HB.out⟩
end
set_option maxHeartbeats 8000000 in
/-- A module's marks, held. -/
theorem heldM_row (lo mid hi : Nat) (v0 v2 : Value) (g : Int) (cs : List (List S57)) (fs : List S68) (w : World) (h : MdR lo mid hi w v0 v2 (mkDS 1 cs) (mkF (1 + szL (szL szD) cs) fs)) (hl : SmC cs) (hf : SmF fs) :
    Calls Tryd.prog 30 #[.agg #[v0, .int .i64 g, v2], .int .i64 1] w fun e w' => e = .returned (.int .i64 (szM cs fs)) ∧ Below w.heap.size w w' := by
  have q0 : (mkDS 1 cs).length = cs.length := mkL_length _ _
  have q2 : (mkF (1 + szL (szL szD) cs) fs).length = fs.length := mkL_length _ _
  obtain ⟨A0, c0, rfl, _⟩ := h.con.form
  obtain ⟨A2, c2, rfl, _⟩ := h.fun_.form
  rw [q0, q2] at h ⊢
  have H0 := Lib.hid h.con
  have H2 := Lib.hid h.fun_
  have HL := Lib.hid hl
  have HF := Lib.hid hf
  have hbc := szC_take hl cs.length
  rw [List.take_length] at hbc
  have hbf := szF_take hf fs.length
  rw [List.take_length] at hbf
  have hu := Tryd.underlying38
  obtain ⟨r1, hr1⟩ : ∃ r, r = 1 + szL (szL szD) cs := ⟨_, rfl⟩
  obtain ⟨r2, hr2⟩ : ∃ r, r = r1 + szL szF fs := ⟨_, rfl⟩
  have HR1 := Lib.hid hr1
  have HR2 := Lib.hid hr2
  have hr10 : 1 ≤ r1 := by omega
  have hr11 : r1 ≤ 1200000000000 := by omega
  have hr20 : 1 ≤ r2 := by omega
  have d1 : decide (r1 < 0) = false := decide_eq_false (by omega)
  have d2 : decide (r2 < 0) = false := decide_eq_false (by omega)
  clear h hl hf hbc hbf hr1 hr2 q0 q2
  rw [← HR1.out] at H2
  obtain ⟨W, hW⟩ : ∃ W, W = w.alloc (.cells #[.slice A0 cs.length c0, .int .i64 g, .slice A2 fs.length c2] 38) := ⟨_, rfl⟩
  have hb : Below w.heap.size w W := by rw [hW]; exact (Below.refl _ _).alloc (Nat.le_refl _) _
  have hx : W.heap[w.heap.size]? = some (.cells #[.slice A0 cs.length c0, .int .i64 g, .slice A2 fs.length c2] 38 (0, 0)) := by rw [hW]; exact blk_new2 _ _
  have HB := Lib.hid hb
  have HX := Lib.hid hx
  have hW1 : w.heap.size < W.heap.size := blk_lt2 hx
  have e0 : W.cell? ⟨w.heap.size, 0, none⟩ = some (.slice A0 cs.length c0) := by simp [World.cell?, hx]
  clear hb hx
  go_enter Tryd.func30, Tryd.ntmps30
  go_wp2_with fail
  rw [← hW]
  clear hW
  refine (heldDS_row lo mid _ cs 1 W (H0.out.below HB.out) (by omega) (by omega) HL.out).mono ?_
  rw [← HR1.out]
  rintro e w1 ⟨rfl, hb1⟩
  have HB1 : Hid (Below w.heap.size w w1) := Lib.hid (HB.out.trans (hb1.mono HB.out.size))
  have hx1 := (hb1.block _ (blk_lt2 HX.out)).trans HX.out
  have e2 : w1.cell? ⟨w.heap.size, 2, none⟩ = some (.slice A2 fs.length c2) := by simp [World.cell?, hx1]
  have hl1 : w.heap.size < w1.heap.size := blk_lt2 hx1
  clear hb1 hx1 e0
  go_wp2_with fail
  refine (heldF_row mid hi _ fs r1 w1 (H2.out.below HB1.out) (by omega) (by omega) HF.out).mono ?_
  rw [← HR2.out]
  rintro e w2 ⟨rfl, hb2⟩
  have HB2 : Hid (Below w.heap.size w w2) := Lib.hid (HB1.out.trans (hb2.mono HB1.out.size))
  clear hb2 e2
  go_wp2_with fail
  go_ret
  have e3 : r2 = szM cs fs := by rw [HR2.out, HR1.out]; rfl
  rw [e3]
  exact ⟨rfl, HB2.out⟩
end Go.Proofs.YtogmphjhdkgdjaaDoor
/- The law's copy of its argument; its own rows beside others. -/
namespace Go.Proofs.YtogmphjhdkgdjaaDoor
open Go.RowKit Go.Proofs.YtogmphjhdkgdjaaDoorW.PrintWords Go.Proofs.YtogmphjhdkgdjaaDoor.QFnExactValidModule
set_option linter.unusedVariables false
set_option linter.unusedSimpArgs false
theorem rowO_made (w : World) (n : Nat) (hn : n ≤ 1048576) : RowO ekInt w.heap.size (w.heap.size + 1) (w.alloc (.cells (madeCells (Value.int .u8 0).cells n) 5 (0, 0))) (.slice (some ⟨w.heap.size, 0, none⟩) n n) (List.replicate n 0) := by
  have e1 : ∀ n : Nat, (List.replicate n [Value.int .u8 0]).flatten = List.replicate n (Value.int .u8 0) := fun n => by
    induction n with
    | zero => rfl
    | succ n ih => rw [List.replicate_succ, List.flatten_cons, ih, List.replicate_succ]; rfl
  refine ⟨List.replicate n [.int .u8 0], fun _ => w.heap.size, ⟨by rw [e1]; simp [ekInt], Or.inr ⟨w.heap.size, n, _, by simp, Nat.le_refl _, blk_new w _, by simp, by unfold maxLen; omega, by rw [size_madeCells]; simp [ekInt], ?_⟩⟩, fun g hg => by simp [Value.ownBlock] at hg; omega, by simp, Nat.le_refl _, fun _ _ _ => Nat.le_refl _, by simp, fun i x c hx hc => ?_⟩
  · rw [show (Value.int .u8 0).cells = #[Value.int .u8 0] from rfl, toList_madeCells_one, e1]
    simp [ekInt]
  · have h1 := List.mem_of_getElem? hx
    have h2 := List.mem_of_getElem? hc
    rw [List.mem_replicate] at h1 h2
    rw [h1.2, h2.2]
    rfl
theorem make_bytes (w : World) (n : Nat) (hn : n ≤ 1048576) :
    (Instr.makeSlice 42 (.int .i64 (n : Int)) (.int .i64 (n : Int))).run Tryd.prog w = .ok (.slice (some ⟨w.heap.size, 0, none⟩) n n) (w.alloc (.cells (madeCells (Value.int .u8 0).cells n) 5 (0, 0))) := by
  obtain ⟨i0, hi, hz0, hz1, hz2⟩ := info_parts (show (Tryd.prog.info? 5).map (fun i => (i.zero, i.size, i.bytes)) = some (some (.int .u8 0), 1, 1) by kernel_rfl)
  have h := run_make (P := Tryd.prog) w 42 5 i0 (.int .u8 0) Tryd.underlying42 hi hz0 .i64 .i64 (n : Int) (n : Int) (by omega) (by omega) (by rw [hz2]; omega) (by omega)
  rw [hz1, Nat.mul_one, Int.toNat_natCast] at h
  exact h
theorem set_step {α : Type} (b : List α) (r : List α) (i : Nat) (x : α) (hx : b[i]? = some x) (hr : r.length = b.length) : (b.take i ++ r.drop i).set i x = b.take (i + 1) ++ r.drop (i + 1) := by
  have hi := (List.getElem?_eq_some_iff.1 hx).1
  have hlt : (b.take i).length = i := by rw [List.length_take]; omega
  have hd : r.drop i = r[i]'(by omega) :: r.drop (i + 1) := (List.getElem_cons_drop (by omega)).symm
  rw [List.set_append_right _ _ (by omega), hlt, Nat.sub_self, hd, List.set_cons_zero, List.take_add_one, hx]
  simp
set_option maxHeartbeats 4000000 in
theorem toB_calls (A : Option Addr) (c : Nat) (b : List Int) (w : World) (hC : Kd.C (Kd.int .u8) w A b.length b) (hl : b.length ≤ 1048576) :
    Calls Tryd.prog 28 #[.slice A b.length c] w fun e w' => ∃ v, e = .returned v ∧ RowO ekInt w.heap.size w'.heap.size w' v b ∧ Below w.heap.size w w' := by
  have HC := Lib.hid hC
  have hmk := make_bytes w b.length hl
  have hb := (Below.refl w.heap.size w).alloc (Nat.le_refl _) (.cells (madeCells (Value.int .u8 0).cells b.length) 5 (0, 0))
  have hr := rowO_made w b.length hl
  have hz : (w.alloc (.cells (madeCells (Value.int .u8 0).cells b.length) 5 (0, 0))).heap.size = w.heap.size + 1 := by simp
  obtain ⟨W, hW⟩ : ∃ W, W = w.alloc (.cells (madeCells (Value.int .u8 0).cells b.length) 5 (0, 0)) := ⟨_, rfl⟩
  rw [← hW] at hmk hb hr hz
  have HB := Lib.hid hb
  have HR := Lib.hid hr
  have HZ := Lib.hid hz
  clear hC hb hr hW hz
  go_enter Tryd.func28, Tryd.ntmps28
  go_wp2
  go_loopw [4] (fun v5 wr => ∃ i : Nat, i ≤ b.length ∧ v5 = .int .i64 i ∧ Hid (RowO ekInt w.heap.size (w.heap.size + 1) wr (.slice (some ⟨w.heap.size, 0, none⟩) b.length b.length) (b.take i ++ (List.replicate b.length 0).drop i)) ∧ Hid (Below w.heap.size w wr) ∧ Hid (wr.heap.size = w.heap.size + 1)) (fun v5 _ => b.length - (RowKit.intOf v5).toNat)
  case atStart => exact ⟨0, Nat.zero_le _, rfl, Lib.hid (by rw [List.take_zero, List.drop_zero, List.nil_append]; exact HR.out), HB, HZ⟩
  case round =>
    obtain ⟨i, hi, rfl, HRr, HBr, HZr⟩ := hrel
    by_cases hlt : i < b.length
    · obtain ⟨x, hx⟩ : ∃ x, b[i]? = some x := ⟨b[i], List.getElem?_eq_getElem hlt⟩
      obtain ⟨ad, e1, c1⟩ := at_byte (Kd.C_below HC.out HBr.out) i hlt
      subst e1
      rw [List.getD_eq_getElem?_getD, hx] at c1
      dsimp only [Option.getD_some] at c1
      obtain ⟨y, hy⟩ : ∃ y, (b.take i ++ (List.replicate b.length 0).drop i)[i]? = some y := ⟨0, by
        rw [List.getElem?_append_right (by rw [List.length_take]; omega), List.length_take, Nat.min_eq_left (by omega), Nat.sub_self, List.getElem?_drop, Nat.add_zero, List.getElem?_replicate, if_pos hlt]⟩
      obtain ⟨g, cap, e, c0, f0, hl0, hu⟩ := atB HRr.out hy
      have hg : g = w.heap.size := (Option.some.inj (congrArg Value.ownBlock e)).symm
      subst hg
      obtain ⟨hu1, hu2⟩ := hu x
      rw [set_step b _ i x hx (by simp)] at hu1
      have HR1 := Lib.hid hu1
      have HB1 := Lib.hid (HBr.out.trans hu2.below)
      have HZ1 := Lib.hid (hu2.size.trans HZr.out)
      clear hu1 hu2 hu hx hy e HRr HBr HZr
      go_wp2
      go_roundw
      case rel => exact ⟨i + 1, by omega, by go_num, HR1, HB1, HZ1⟩
      case measure => simp [RowKit.intOf]; omega
    · obtain rfl : i = b.length := by omega
      go_wp2
      go_ret
      refine ⟨_, rfl, ?_, HBr.out⟩
      have := HRr.out
      simp only [List.take_length] at this
      rw [List.drop_eq_nil_of_le (by simp), List.append_nil] at this
      exact this.mono (Nat.le_refl _) (by rw [HZr.out]; exact Nat.le_refl _)
theorem RowO.bounds {α : Type} {k : Ek α} {lo hi : Nat} {w : World} {v : Value} {xs : List α} (h : RowO k lo hi w v xs) : lo ≤ hi := by
  obtain ⟨cs, f, _, _, _, h4, h5, h6, _⟩ := h
  have := h5 0 xs.length (Nat.zero_le _)
  omega
/-- A row above marked bytes is as it was. -/
theorem RowO.above {α : Type} {k : Ek α} (L : Lc k) {lo hi a b : Nat} {ts : List Nat} {w w' : World} {v : Value} {xs : List α} (h : RowO k lo hi w v xs) (hc : Ch a b ts w w') (hd : b ≤ lo) : RowO k lo hi w' v xs := h.ch L hc (Or.inr (Or.inl hd))
end Go.Proofs.YtogmphjhdkgdjaaDoor
