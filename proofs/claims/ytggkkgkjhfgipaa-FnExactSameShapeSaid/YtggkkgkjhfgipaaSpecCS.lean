/- What the specification's Collect comes to: 'collectF'. -/
import Derived.Test.YtggkkgkjhfgipaaQFnExactSameShapex5
import Derived.Test.YtggkkgkjhfgipaaSpecVS
import Derived.Test.YtggkkgkjhfgipaaCollD
namespace Go.Proofs.Ytggkkgkjhfgipaa.SpecCS
open Go.RowKit Go.Proofs.Ytggkkgkjhfgipaa.QFnExactSameShape Go.Proofs.YtggkkgkjhfgipaaW.PrintWords Go.Proofs.YtggkkgkjhfgipaaW.PrintLast
set_option linter.unusedVariables false
set_option linter.unusedSimpArgs false
theorem div4 {x : Int} (h0 : 0 ≤ x) (h1 : x ≤ 9223372036854775807) : wrap64 (Int.tdiv x 4) = (plc x : Int) := by
  rw [Int.tdiv_eq_ediv_of_nonneg h0, SpecVS.wrap_in (by omega) (by omega)]
  unfold plc
  omega
theorem div4h {ws : List Int} {p : Nat} {n : Nat} (h0 : 0 ≤ ws.getD p 0) (hd : ws.getD p 0 / 4 = n) (hn : n ≤ 1000) : wrap64 (Int.tdiv (ws.getD p 0) 4) = (n : Int) := by
  rw [Int.tdiv_eq_ediv_of_nonneg h0, SpecVS.wrap_in (by omega) (by omega), hd]
section
variable {ws : List Int} {t : Nat} {L : List (Nat × Nat)} (hL : objsF ws (t : Int) = some L) (ho : ∀ q ∈ L, objectAt ws L q = true)
include hL
theorem len_ok : ws.length ≤ 20000 ∧ t ≤ ws.length := by
  have := objsF_mem hL
  omega
theorem order_l0 (roots : List Int) (d : Nat) : ∀ (i : Nat) (m : List Int), t - i = d → i ≤ t → m.length = t → (∀ j < i, m.getD j 0 = -1) →
    ∀ {r : List Int × List Int}, Ev (fun k => spec_l2order.l1 k (mvF ws t []) [] 0 roots 0 ws t) r → Ev (fun k => spec_l2order.l0 k roots m (i : Int) ws (t : Int)) r := by
  have hlt := len_ok hL
  induction d with
  | zero =>
    intro i m hd hi hm hall r h
    obtain rfl : i = t := by omega
    have he : m = mvF ws i [] := by
      rw [mvF_nil]
      apply List.ext_getElem
      · simp [hm]
      · intro j h1 h2
        have := hall j (by omega)
        rw [List.getD_eq_getElem?_getD, List.getElem?_eq_getElem h1] at this
        simp at this
        simp [this]
    refine Ev.step (fun k => ?_) h
    rw [spec_l2order.l0, if_neg (by omega), he]
  | succ d ih =>
    intro i m hd hi hm hall r h
    refine Ev.step (fun k => ?_) (ih (i + 1) (m.set i (-1)) (by omega) (by omega) (by simpa using hm) (fun j hj => ?_) h)
    · rw [spec_l2order.l0, if_pos (by omega), if_pos (by omega), SpecVS.wrap_up i (by omega), Int.toNat_natCast]
    · rw [List.getD_eq_getElem?_getD, List.getElem?_set]
      by_cases hji : i = j
      · rw [if_pos hji, if_pos (by omega)]; rfl
      · rw [if_neg hji, ← List.getD_eq_getElem?_getD]
        exact hall j (by omega)
theorem order_l2 (xs : List Int) (next : Int) (hx : ∀ x ∈ xs, InI64 x) (hw : ∀ x ∈ xs, wordF (isPlace L) x = true) (hxl : xs.length ≤ 20000) (d : Nat) : ∀ (i : Nat) (ord : List Nat), xs.length - i = d → i ≤ xs.length → GoodO ws L ord →
    ∀ {r : List Int × List Int}, Ev (fun k => spec_l2order.l2 k (mvF ws t (visitO ord (xs.drop i))) (natsI (visitO ord (xs.drop i))) (offO ws (visitO ord (xs.drop i))) xs next (xs.length : Int) ws t) r →
      Ev (fun k => spec_l2order.l2 k (mvF ws t ord) (natsI ord) (offO ws ord) xs next (i : Int) ws t) r := by
  have hlt := len_ok hL
  induction d with
  | zero =>
    intro i ord hd hi hg r h
    obtain rfl : i = xs.length := by omega
    rw [List.drop_eq_nil_of_le (Nat.le_refl _)] at h
    exact h
  | succ d ih =>
    intro i ord hd hi hg r h
    have hil : i < xs.length := by omega
    obtain ⟨x, hxd⟩ : ∃ x, x = xs.getD i 0 := ⟨_, rfl⟩
    have hmem : x ∈ xs := by rw [hxd]; exact getD_mem hil
    have hdrop : xs.drop i = x :: xs.drop (i + 1) := by
      rw [List.drop_eq_getElem_cons hil, hxd, List.getD_eq_getElem?_getD, List.getElem?_eq_getElem hil]
      rfl
    have hxi := hx x hmem
    have hrd : rd xs (i : Int) = x := by rw [hxd]; rfl
    rw [hdrop] at h
    have hstep := ih (i + 1) (stepO ord x) (by omega) (by omega) (hg.step hL (hw x hmem)) h
    refine Ev.step (fun k => ?_) hstep
    show spec_l2order.l2 (k + 1) (mvF ws t ord) (natsI ord) (offO ws ord) xs next (i : Int) ws t = spec_l2order.l2 k (mvF ws t (stepO ord x)) (natsI (stepO ord x)) (offO ws (stepO ord x)) xs next ((i + 1 : Nat) : Int) ws t
    rw [spec_l2order.l2, if_pos (by omega), if_pos (by omega), hrd, SpecVS.tag_ev, SpecVS.wrap_up i (by omega)]
    simp only [Option.bind_some]
    by_cases h1 : x % 4 = 1
    · obtain ⟨h0, hin⟩ := place_in hL (hw x hmem) h1
      have hfit := obj_fits hL hin
      have hp : plc x < t := by have := hfit.2.2.1; omega
      have e1 := div4 h0 hxi.2
      have hoff := hg.off_le hL
      rw [if_pos h1, e1, if_pos (by omega), mvF_length, if_pos (by omega), SpecVS.rd_nat, mvF_get ws t ord _ hp]
      by_cases hm : plc x ∈ ord
      · rw [if_pos hm, if_neg (by omega)]
        unfold stepO
        rw [if_neg (fun e => e.2 hm)]
      · have hs : stepO ord x = ord ++ [plc x] := by
          unfold stepO
          rw [if_pos ⟨h1, hm⟩]
        have hlen : (natsI ord).length < 17592186044416 := by
          rw [natsI_length]
          have := len_le_off ws ord
          omega
        rw [if_neg hm, if_pos (by omega), if_pos (by omega), if_pos hlen, Int.toNat_natCast, mvF_set ws t ord _ hp hm, hs, natsI_append, offO_append, SpecVS.rd_nat, div4h hfit.1 hfit.2.1 hfit.2.2.2.1,
          SpecVS.wrap_in (x := 1 + (sizeAt ws (plc x) : Int)) (by omega) (by omega), SpecVS.wrap_in (x := (offO ws ord : Int) + (1 + (sizeAt ws (plc x) : Int))) (by omega) (by omega)]
        have : ((offO ws ord + offO ws [plc x] : Nat) : Int) = (offO ws ord : Int) + (1 + (sizeAt ws (plc x) : Int)) := by
          simp [offO, sz]
        rw [this]
        rfl
    · rw [if_neg h1]
      unfold stepO
      rw [if_neg (fun e => h1 e.1)]
omit hL in
theorem order_next (k : Nat) (mv oi : List Int) (off : Int) (xs : List Int) (next : Nat) (t2 : Int) (p n : Nat) (h : next < oi.length) (hrd : oi.getD next 0 = (p : Int)) (hp : p < ws.length) (hn : wrap64 (Int.tdiv (ws.getD p 0) 4) = (n : Int)) (hfit : p + 1 + n ≤ ws.length) (hl : ws.length ≤ 20000) (hno : oi.length ≤ 20000) :
    spec_l2order.l2 (k + 1) mv oi off xs (next : Int) (xs.length : Int) ws t2 = spec_l2order.l1 k mv oi off ((ws.take (p + 1 + n)).drop (p + 1)) ((next + 1 : Nat) : Int) ws t2 := by
  have HRD := Lib.hid hrd
  have HNN := Lib.hid hn
  clear hrd hn
  have g1 : ¬ ((xs.length : Int) < (xs.length : Int)) := by omega
  have g2 : ¬ ((next : Int) = (oi.length : Int)) := by omega
  have g3 : (0 : Int) ≤ (next : Int) := by omega
  have g4 : (next : Int) < (oi.length : Int) := by omega
  have g5 : (0 : Int) ≤ (p : Int) := by omega
  have g6 : (p : Int) < (ws.length : Int) := by omega
  have g7 : (0 : Int) ≤ ((p + 1 : Nat) : Int) := by omega
  have g8 : ((p + 1 : Nat) : Int) ≤ ((p + 1 + n : Nat) : Int) := by omega
  have g9 : ((p + 1 + n : Nat) : Int) ≤ (ws.length : Int) := by omega
  have e4a : ((p + 1 : Nat) : Int) + (n : Int) = ((p + 1 + n : Nat) : Int) := by omega
  have r1 : -9223372036854775808 ≤ ((p + 1 + n : Nat) : Int) := by omega
  have r2 : ((p + 1 + n : Nat) : Int) ≤ 9223372036854775807 := by omega
  have e4 : wrap64 (((p + 1 : Nat) : Int) + (n : Int)) = ((p + 1 + n : Nat) : Int) := by rw [e4a]; exact SpecVS.wrap_in r1 r2
  have e3 : wrap64 ((p : Int) + 1) = ((p + 1 : Nat) : Int) := SpecVS.wrap_up p (by omega)
  have e5 : wrap64 ((next : Int) + 1) = ((next + 1 : Nat) : Int) := SpecVS.wrap_up next (by omega)
  clear hp hfit hl hno h r1 r2 e4a
  have e1 : rd oi (next : Int) = (p : Int) := HRD.out
  have e6 : rd ws (p : Int) = ws.getD p 0 := rfl
  have hn := HNN.out
  rw [spec_l2order.l2, if_neg g1, if_neg g2, if_pos g3, if_pos g4, e1, if_pos g5, if_pos g6, e6, hn, e3, e4, e5, if_pos g7, if_pos g8, if_pos g9, Int.toNat_natCast, Int.toNat_natCast]
include ho
theorem order_end (hx : ∀ x ∈ ws, InI64 x) (n : Nat) : ∀ (next : Nat) (ord : List Nat) (xs : List Int), GoodO ws L ord → next ≤ ord.length → t - next < n →
    Ev (fun k => spec_l2order.l2 k (mvF ws t ord) (natsI ord) (offO ws ord) xs (next : Int) (xs.length : Int) ws t) (natsI (bfsO ws n next ord), mvF ws t (bfsO ws n next ord)) := by
  have hlt := len_ok hL
  induction n with
  | zero => exact fun next ord xs _ _ h => absurd h (Nat.not_lt_zero _)
  | succ n ih =>
    intro next ord xs hg hn h
    have hle := hg.off_le hL
    have hlo := len_le_off ws ord
    unfold bfsO
    split
    · rename_i he
      have he' := List.getElem?_eq_none_iff.1 he
      refine SpecVS.Ev.const fun k => ?_
      rw [spec_l2order.l2, if_neg (by omega), natsI_length, if_pos (by omega)]
    · rename_i p hp
      have hlt2 : next < ord.length := (List.getElem?_eq_some_iff.1 hp).1
      have hpi := hg.inn p (List.mem_of_getElem? hp)
      have hfit := obj_fits hL hpi
      have hfo := fields_ok ho hpi
      have hpw : p < ws.length := by have := hfit.2.2.1; omega
      have hpf : p + 1 + sizeAt ws p ≤ ws.length := by have := hfit.2.2.1; omega
      have hno : (natsI ord).length ≤ 20000 := by rw [natsI_length]; omega
      obtain ⟨r, hr⟩ := visitO_pre (objFields ws p) ord
      have hcut : (ws.take (p + 1 + sizeAt ws p)).drop (p + 1) = objFields ws p := rfl
      have hgo := ih (next + 1) (visitO ord (objFields ws p)) (objFields ws p) (hg.visit hL _ hfo) (by rw [hr, List.length_append]; omega) (by omega)
      have hin := order_l2 hL (objFields ws p) ((next + 1 : Nat) : Int) (fun x hxm => hx x (fieldsAt_mem hxm)) hfo (by rw [hfit.2.2.2.2]; omega) (objFields ws p).length 0 ord (by omega) (by omega) hg (r := (natsI (bfsO ws n (next + 1) (visitO ord (objFields ws p))), mvF ws t (bfsO ws n (next + 1) (visitO ord (objFields ws p))))) (by rw [List.drop_zero]; exact hgo)
      refine Ev.step (f := fun k => spec_l2order.l1 k (mvF ws t ord) (natsI ord) (offO ws ord) (objFields ws p) ((next + 1 : Nat) : Int) ws t) (fun k => ?_) (Ev.step (fun k => ?_) hin)
      · exact order_next k _ (natsI ord) _ xs next t p (sizeAt ws p) (by rw [natsI_length]; exact hlt2) (natsI_get ord next p hp) hpw (div4h hfit.1 hfit.2.1 hfit.2.2.2.1) hpf hlt.1 hno
      · have z : ((0 : Nat) : Int) = 0 := rfl
        rw [spec_l2order.l1, z]
theorem order_ev (roots : List Int) (hx : ∀ x ∈ ws, InI64 x) (hx2 : ∀ x ∈ roots, InI64 x) (hr : ∀ x ∈ roots, wordF (isPlace L) x = true) (hrl : roots.length ≤ 20000) :
    Ev (fun k => spec_l2order.f k ws (t : Int) roots) (natsI (orderO ws roots), mvF ws t (orderO ws roots)) := by
  have hlt := len_ok hL
  have hg := (GoodO.nil ws L).visit hL roots hr
  have he := order_end hL ho hx 20001 0 (visitO [] roots) roots hg (Nat.zero_le _) (by omega)
  have h2 := order_l2 hL roots 0 hx2 hr hrl roots.length 0 [] (by omega) (by omega) (GoodO.nil ws L) (r := (natsI (orderO ws roots), mvF ws t (orderO ws roots))) (by rw [List.drop_zero]; exact he)
  have h2' : Ev (fun k => spec_l2order.l2 k (mvF ws t []) [] 0 roots 0 ((0 : Nat) : Int) ws t) (natsI (orderO ws roots), mvF ws t (orderO ws roots)) := h2
  have h1 : Ev (fun k => spec_l2order.l1 k (mvF ws t []) [] 0 roots 0 ws t) (natsI (orderO ws roots), mvF ws t (orderO ws roots)) := Ev.step (fun k => by rw [spec_l2order.l1, show ((0 : Nat) : Int) = 0 from rfl]) h2'
  have h0 := order_l0 hL roots t 0 (List.replicate t 0) (by omega) (by omega) (by simp) (by omega) h1
  refine Ev.congr (fun k => ?_) h0
  unfold spec_l2order.f
  rw [if_pos (by omega), if_pos (by omega), Int.toNat_natCast]
  rfl
end
/-! ### Collect itself -/
theorem moved_ev {ws : List Int} {t : Nat} {L : List (Nat × Nat)} (hL : objsF ws (t : Int) = some L) {ord : List Nat} (hg : GoodO ws L ord) {x : Int} (hx : InI64 x) (hw : wordF (isPlace L) x = true) (hm : x % 4 = 1 → plc x ∈ ord) :
    spec_l2moved.f x (mvF ws t ord) = some (movedO ws ord x) := by
  have hlt := len_ok hL
  unfold spec_l2moved.f movedO
  rw [SpecVS.tag_ev]
  simp only [Option.bind_some]
  by_cases h1 : x % 4 = 1
  · obtain ⟨h0, hin⟩ := place_in hL hw h1
    have hfit := obj_fits hL hin
    have hp : plc x < t := by have := hfit.2.2.1; omega
    have hmem := hm h1
    have hpo : posO ws ord (plc x) ≤ 20000 := by
      obtain ⟨i, hi, hie⟩ := List.mem_iff_getElem.1 hmem
      have := posO_at ws ord i (plc x) hg.nodup (by rw [List.getElem?_eq_getElem hi, hie])
      have h2 := offO_take_le ws ord i
      have h3 := hg.off_le hL
      omega
    rw [if_pos h1, if_pos h1, div4 h0 hx.2, if_pos (by omega), mvF_length, if_pos (by omega), SpecVS.rd_nat, mvF_get ws t ord _ hp, if_pos hmem, SpecVS.wrap_in (x := 4 * (posO ws ord (plc x) : Int)) (by omega) (by omega), SpecVS.wrap_in (by omega) (by omega)]
  · rw [if_neg h1, if_neg h1]
/-- What the loop over the roots adds. -/
theorem coll_l2 {ws : List Int} {t : Nat} {L : List (Nat × Nat)} (hL : objsF ws (t : Int) = some L) {ord : List Nat} (hg : GoodO ws L ord) (roots : List Int) (hrl : roots.length ≤ 20000) (hx : ∀ x ∈ roots, InI64 x) (hw : ∀ x ∈ roots, wordF (isPlace L) x = true) (hm : ∀ x ∈ roots, x % 4 = 1 → plc x ∈ ord)
    (row : List Int) (tp : Int) (d : Nat) : ∀ (i : Nat), roots.length - i = d → i ≤ roots.length →
    Ev (fun k => spec_Collect.l2 k roots (mvF ws t ord) ((roots.take i).map (movedO ws ord)) (i : Int) row tp) (row, tp, roots.map (movedO ws ord), 0) := by
  induction d with
  | zero =>
    intro i hd hi
    obtain rfl : i = roots.length := by omega
    refine SpecVS.Ev.const fun k => ?_
    rw [spec_Collect.l2, if_neg (by omega), List.take_length]
  | succ d ih =>
    intro i hd hi
    have hil : i < roots.length := by omega
    have hmem := getD_mem hil
    refine Ev.step (fun k => ?_) (ih (i + 1) (by omega) (by omega))
    show spec_Collect.l2 (k + 1) roots (mvF ws t ord) ((roots.take i).map (movedO ws ord)) (i : Int) row tp = spec_Collect.l2 k roots (mvF ws t ord) ((roots.take (i + 1)).map (movedO ws ord)) ((i + 1 : Nat) : Int) row tp
    have e1 : (roots.take (i + 1)).map (movedO ws ord) = (roots.take i).map (movedO ws ord) ++ [movedO ws ord (roots.getD i 0)] := by
      rw [take_snoc hil, List.map_append]
      rfl
    rw [spec_Collect.l2, if_pos (by omega), if_pos (by omega), SpecVS.rd_nat, moved_ev hL hg (hx _ hmem) (hw _ hmem) (hm _ hmem)]
    simp only [Option.bind_some]
    rw [if_pos (by simp; omega), SpecVS.wrap_up i (by omega), e1]
/-- The row, with n of an object's words moved. -/
def partR (ws : List Int) (ord os : List Nat) (p j : Nat) : List Int := os.flatMap (mapObj ws ord) ++ (ws.getD p 0 :: ((objFields ws p).take j).map (movedO ws ord)) ++ List.replicate (ws.length - (offO ws os + 1 + j)) 0
theorem coll_next {ws : List Int} (k : Nat) (roots mv oi row : List Int) (i : Int) (t2 : Int) (p n q j : Nat) (v : Int) (hj : j < n) (h1 : p + 1 + j < ws.length) (h2 : q + 1 + j < row.length) (hl : ws.length ≤ 20000) (hr : row.length ≤ 20000) (hm : spec_l2moved.f (ws.getD (p + 1 + j) 0) mv = some v) :
    spec_Collect.l1 (k + 1) roots oi mv i (p : Int) (n : Int) ((j + 1 : Nat) : Int) ws t2 row (q : Int) = spec_Collect.l1 k roots oi mv i (p : Int) (n : Int) ((j + 1 + 1 : Nat) : Int) ws t2 (row.set (q + 1 + j) v) (q : Int) := by
  have a1 : (p : Int) + ((j + 1 : Nat) : Int) = ((p + 1 + j : Nat) : Int) := by omega
  have a2 : (q : Int) + ((j + 1 : Nat) : Int) = ((q + 1 + j : Nat) : Int) := by omega
  have r1 : ((p + 1 + j : Nat) : Int) ≤ 9223372036854775807 := by omega
  have r2 : ((q + 1 + j : Nat) : Int) ≤ 9223372036854775807 := by omega
  have r3 : -9223372036854775808 ≤ ((p + 1 + j : Nat) : Int) := by omega
  have r4 : -9223372036854775808 ≤ ((q + 1 + j : Nat) : Int) := by omega
  have g1 : ((j + 1 : Nat) : Int) ≤ (n : Int) := by omega
  have g2 : (0 : Int) ≤ ((p + 1 + j : Nat) : Int) := by omega
  have g3 : ((p + 1 + j : Nat) : Int) < (ws.length : Int) := by omega
  have g4 : (0 : Int) ≤ ((q + 1 + j : Nat) : Int) := by omega
  have g5 : ((q + 1 + j : Nat) : Int) < (row.length : Int) := by omega
  have e3 : wrap64 (((j + 1 : Nat) : Int) + 1) = ((j + 1 + 1 : Nat) : Int) := SpecVS.wrap_up (j + 1) (by omega)
  have e1 : wrap64 ((p : Int) + ((j + 1 : Nat) : Int)) = ((p + 1 + j : Nat) : Int) := by rw [a1]; exact SpecVS.wrap_in r3 r1
  have e2 : wrap64 ((q : Int) + ((j + 1 : Nat) : Int)) = ((q + 1 + j : Nat) : Int) := by rw [a2]; exact SpecVS.wrap_in r4 r2
  clear a1 a2 r1 r2 r3 r4 hl hr hj h1 h2
  rw [spec_Collect.l1, if_pos g1, e1, if_pos g2, if_pos g3, SpecVS.rd_nat, hm]
  rw [Option.bind_some, e2, if_pos g4, if_pos g5, Int.toNat_natCast, e3]
theorem coll_stop {ws : List Int} (k : Nat) (roots mv oi row : List Int) (i : Nat) (t2 : Int) (p : Int) (n q q2 : Nat) (hi : i ≤ 20000) (hq2 : q2 = q + (1 + n)) (hq : q2 ≤ 20000) :
    spec_Collect.l1 (k + 1) roots oi mv (i : Int) p (n : Int) ((n + 1 : Nat) : Int) ws t2 row (q : Int) = spec_Collect.l0 k roots oi mv ((i + 1 : Nat) : Int) ws t2 row (q2 : Int) := by
  have g1 : ¬ (((n + 1 : Nat) : Int) ≤ (n : Int)) := by omega
  have e1 : wrap64 (1 + (n : Int)) = 1 + (n : Int) := SpecVS.wrap_in (by omega) (by omega)
  have e2 : wrap64 ((q : Int) + (1 + (n : Int))) = (q2 : Int) := by
    have a2 : (q : Int) + (1 + (n : Int)) = (q2 : Int) := by omega
    have r1 : -9223372036854775808 ≤ (q2 : Int) := by omega
    have r2 : (q2 : Int) ≤ 9223372036854775807 := by omega
    rw [a2]
    exact SpecVS.wrap_in r1 r2
  have e3 : wrap64 ((i : Int) + 1) = ((i + 1 : Nat) : Int) := SpecVS.wrap_up i hi
  clear hq2 hq hi
  rw [spec_Collect.l1, if_neg g1, e1, e2, e3]
theorem coll_head {ws : List Int} (k : Nat) (roots mv oi row : List Int) (i : Nat) (t2 : Int) (p n q : Nat) (hi : i < oi.length) (hrd : oi.getD i 0 = (p : Int)) (hp : p < ws.length) (hq : q < row.length) (hn : wrap64 (Int.tdiv (ws.getD p 0) 4) = (n : Int)) :
    spec_Collect.l0 (k + 1) roots oi mv (i : Int) ws t2 row (q : Int) = spec_Collect.l1 k roots oi mv (i : Int) (p : Int) (n : Int) ((0 + 1 : Nat) : Int) ws t2 (row.set q (ws.getD p 0)) (q : Int) := by
  have HRD := Lib.hid hrd
  have HNN := Lib.hid hn
  clear hrd hn
  have g1 : (i : Int) < (oi.length : Int) := by omega
  have g2 : (0 : Int) ≤ (i : Int) := by omega
  have g3 : (0 : Int) ≤ (p : Int) := by omega
  have g4 : (p : Int) < (ws.length : Int) := by omega
  have g5 : (0 : Int) ≤ (q : Int) := by omega
  have g6 : (q : Int) < (row.length : Int) := by omega
  clear hi hp hq
  have e1 : rd oi (i : Int) = (p : Int) := HRD.out
  have e6 : rd ws (p : Int) = ws.getD p 0 := rfl
  have hn := HNN.out
  rw [spec_Collect.l0, if_pos g1, if_pos g2, e1, if_pos g3, if_pos g4, if_pos g5, if_pos g6, e6, hn, Int.toNat_natCast]
  rfl
theorem coll_l1 {ws : List Int} {t : Nat} {L : List (Nat × Nat)} (hL : objsF ws (t : Int) = some L) (ho : ∀ q ∈ L, objectAt ws L q = true) (hx : ∀ x ∈ ws, InI64 x) {ord : List Nat} (hg : GoodO ws L ord) (hcl : Closed ws ord ord.length) (roots : List Int) {i p : Nat} (hp : ord[i]? = some p)
    {R : List Int × Int × List Int × Int} (d : Nat) : ∀ (j : Nat), sizeAt ws p - j = d → j ≤ sizeAt ws p →
    Ev (fun k => spec_Collect.l0 k roots (natsI ord) (mvF ws t ord) ((i + 1 : Nat) : Int) ws t (partR ws ord (ord.take i) p (sizeAt ws p)) ((offO ws (ord.take (i + 1)) : Nat) : Int)) R →
    Ev (fun k => spec_Collect.l1 k roots (natsI ord) (mvF ws t ord) (i : Int) (p : Int) (sizeAt ws p : Int) ((j + 1 : Nat) : Int) ws t (partR ws ord (ord.take i) p j) (offO ws (ord.take i) : Int)) R := by
  have hlt := len_ok hL
  have hil : i < ord.length := (List.getElem?_eq_some_iff.1 hp).1
  have hpi := hg.inn p (List.mem_of_getElem? hp)
  obtain ⟨hf1, hf2, hf3, hf4, hf5⟩ := obj_fits hL hpi
  have hfo := fields_ok ho hpi
  have hoff : offO ws (ord.take (i + 1)) = offO ws (ord.take i) + sz ws p := offO_take_succ ws ord i p hp
  have hle1 := offO_take_le ws ord (i + 1)
  have hle := hg.off_le hL
  have hlen : ((ord.take i).flatMap (mapObj ws ord)).length = offO ws (ord.take i) := flat_length hL ord _ (fun q hq => hg.inn q (List.mem_of_mem_take hq))
  have hsz : sz ws p = 1 + sizeAt ws p := rfl
  have hlo := len_le_off ws ord
  have hl : ∀ j, j ≤ sizeAt ws p → (partR ws ord (ord.take i) p j).length = ws.length := by
    intro j hj
    unfold partR
    simp only [List.length_append, List.length_cons, List.length_map, List.length_take, List.length_replicate, hlen]
    omega
  induction d with
  | zero =>
    intro j hd hj h
    obtain rfl : j = sizeAt ws p := by omega
    exact Ev.step (fun k => coll_stop k roots (mvF ws t ord) (natsI ord) _ i t p (sizeAt ws p) (offO ws (ord.take i)) (offO ws (ord.take (i + 1))) (by omega) (by omega) (by omega)) h
  | succ d ih =>
    intro j hd hj h
    have hjl : j < sizeAt ws p := by omega
    have hjf : j < (objFields ws p).length := by omega
    have hmem := getD_mem hjf
    have hval : ws.getD (p + 1 + j) 0 = (objFields ws p).getD j 0 := (fieldsAt_get hjl (by omega)).symm
    have hmv := moved_ev hL hg (hx _ (by rw [← hval]; exact getD_mem (by omega))) (hfo _ hmem) (fun h1 => hcl i p hil hp _ hmem h1)
    rw [← hval] at hmv
    have hset : (partR ws ord (ord.take i) p j).set (offO ws (ord.take i) + 1 + j) (movedO ws ord (ws.getD (p + 1 + j) 0)) = partR ws ord (ord.take i) p (j + 1) := by
      rw [hval]
      unfold partR
      rw [fill_set _ _ _ _ (by simp only [List.length_append, List.length_cons, List.length_map, List.length_take, hlen]; omega) (by omega), take_snoc hjf, List.map_append]
      have e : ws.length - (offO ws (ord.take i) + 1 + j) - 1 = ws.length - (offO ws (ord.take i) + 1 + (j + 1)) := by omega
      rw [e]
      simp
    have hnext := ih (j + 1) (by omega) (by omega) h
    refine Ev.step (fun k => ?_) hnext
    have := coll_next (ws := ws) k roots (mvF ws t ord) (natsI ord) (partR ws ord (ord.take i) p j) (i : Int) (t : Int) p (sizeAt ws p) (offO ws (ord.take i)) j _ hjl (by omega) (by rw [hl j hj]; omega) hlt.1 (by rw [hl j hj]; exact hlt.1) hmv
    rw [hset] at this
    exact this
theorem coll_l0 {ws : List Int} {t : Nat} {L : List (Nat × Nat)} (hL : objsF ws (t : Int) = some L) (ho : ∀ q ∈ L, objectAt ws L q = true) (hx : ∀ x ∈ ws, InI64 x) {ord : List Nat} (hg : GoodO ws L ord) (hcl : Closed ws ord ord.length) (roots : List Int)
    {R : List Int × Int × List Int × Int} (hR : Ev (fun k => spec_Collect.l2 k roots (mvF ws t ord) [] 0 (ord.flatMap (mapObj ws ord) ++ List.replicate (ws.length - offO ws ord) 0) (offO ws ord : Int)) R) (d : Nat) : ∀ (i : Nat), ord.length - i = d → i ≤ ord.length →
    Ev (fun k => spec_Collect.l0 k roots (natsI ord) (mvF ws t ord) (i : Int) ws t ((ord.take i).flatMap (mapObj ws ord) ++ List.replicate (ws.length - offO ws (ord.take i)) 0) (offO ws (ord.take i) : Int)) R := by
  have hlt := len_ok hL
  have hle := hg.off_le hL
  have hlo := len_le_off ws ord
  induction d with
  | zero =>
    intro i hd hi
    obtain rfl : i = ord.length := by omega
    rw [List.take_length]
    refine Ev.step (fun k => ?_) hR
    rw [spec_Collect.l0, natsI_length, if_neg (by omega)]
  | succ d ih =>
    intro i hd hi
    have hil : i < ord.length := by omega
    obtain ⟨p, hp⟩ : ∃ p, ord[i]? = some p := ⟨_, List.getElem?_eq_getElem hil⟩
    have hpi := hg.inn p (List.mem_of_getElem? hp)
    obtain ⟨hf1, hf2, hf3, hf4, hf5⟩ := obj_fits hL hpi
    have hoff : offO ws (ord.take (i + 1)) = offO ws (ord.take i) + sz ws p := offO_take_succ ws ord i p hp
    have hle1 := offO_take_le ws ord (i + 1)
    have hsz : sz ws p = 1 + sizeAt ws p := rfl
    have hlen : ((ord.take i).flatMap (mapObj ws ord)).length = offO ws (ord.take i) := flat_length hL ord _ (fun q hq => hg.inn q (List.mem_of_mem_take hq))
    have hend : partR ws ord (ord.take i) p (sizeAt ws p) = (ord.take (i + 1)).flatMap (mapObj ws ord) ++ List.replicate (ws.length - offO ws (ord.take (i + 1))) 0 := by
      unfold partR
      have ht1 : (objFields ws p).take (sizeAt ws p) = objFields ws p := List.take_of_length_le (by omega)
      rw [flat_take_succ (mapObj ws ord) ord i p hp, hoff, hsz, ht1, Nat.add_assoc]
      rfl
    have h1 := coll_l1 hL ho hx hg hcl roots hp (sizeAt ws p) 0 (by omega) (by omega) (R := R) (by rw [hend]; exact ih (i + 1) (by omega) (by omega))
    have hstart : ((ord.take i).flatMap (mapObj ws ord) ++ List.replicate (ws.length - offO ws (ord.take i)) 0).set (offO ws (ord.take i)) (ws.getD p 0) = partR ws ord (ord.take i) p 0 := by
      rw [fill_set _ _ _ _ hlen.symm (by omega)]
      unfold partR
      have e : ws.length - offO ws (ord.take i) - 1 = ws.length - (offO ws (ord.take i) + 1 + 0) := by omega
      rw [e]
      simp
    have hpw : p < ws.length := by omega
    have hql : offO ws (ord.take i) < ((ord.take i).flatMap (mapObj ws ord) ++ List.replicate (ws.length - offO ws (ord.take i)) 0).length := by
      rw [List.length_append, hlen, List.length_replicate]
      omega
    refine Ev.step (fun k => ?_) h1
    have := coll_head (ws := ws) k roots (mvF ws t ord) (natsI ord) _ i (t : Int) p (sizeAt ws p) (offO ws (ord.take i)) (by rw [natsI_length]; exact hil) (natsI_get ord i p hp) hpw hql (div4h hf1 hf2 hf4)
    rw [hstart] at this
    exact this
theorem Collect_ev (ws : List Int) (top : Int) (roots : List Int) (hx : ∀ x ∈ ws, InI64 x) (hx2 : ∀ x ∈ roots, InI64 x) : Ev (fun k => spec_Collect.f k ws top roots) (collectF ws top roots) := by
  unfold spec_Collect.f
  have hv := SpecVS.ValidHeap_ev ws top roots hx hx2
  rw [specValidHeap_eq] at hv
  refine Ev.bind hv ?_
  unfold collectF
  by_cases hb : validF ws top roots = true
  · obtain ⟨L, hL, hrl, ho, hr⟩ := validF_parts hb
    have h0 := (objsF_mem hL).2.1
    obtain ⟨t, rfl⟩ := Int.eq_ofNat_of_zero_le h0
    have hlt := len_ok hL
    obtain ⟨hg, hcl, hrm⟩ := orderO_good hL ho hr
    simp only [hb, if_true]
    refine Ev.bind (order_ev hL ho roots hx hx2 hr hrl) ?_
    simp only
    have h2 := coll_l2 hL hg roots hrl hx2 hr hrm ((orderO ws roots).flatMap (mapObj ws (orderO ws roots)) ++ List.replicate (ws.length - offO ws (orderO ws roots)) 0) (offO ws (orderO ws roots) : Int) roots.length 0 (by omega) (by omega)
    have h1 := coll_l0 hL ho hx hg hcl roots h2 (orderO ws roots).length 0 (by omega) (by omega)
    refine Ev.congr (fun k => ?_) h1
    rw [if_pos (by omega), if_pos (by simp; omega), Int.toNat_natCast]
    simp [offO]
  · simp only [hb, if_false]
    exact Ev.now _
end Go.Proofs.Ytggkkgkjhfgipaa.SpecCS
