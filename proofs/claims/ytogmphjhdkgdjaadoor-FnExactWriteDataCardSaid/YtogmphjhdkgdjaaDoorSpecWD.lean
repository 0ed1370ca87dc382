/- What the specification's WriteData comes to: writeT. -/
import Derived.Test.YtogmphjhdkgdjaaDoorQFnExactWriteDatax5
import Derived.Test.YtogmphjhdkgdjaaDoorSpecVD
import Derived.Test.YtogmphjhdkgdjaaDoorWriteA
import Derived.Test.YtogmphjhdkgdjaaDoorNextA
namespace Go.Proofs.YtogmphjhdkgdjaaDoor.SpecWD
open Go.RowKit Go.Lib Go.Proofs.YtogmphjhdkgdjaaDoor.QFnExactWriteData Go.Proofs.YtogmphjhdkgdjaaDoorW.PrintWords Go.Proofs.YtogmphjhdkgdjaaDoorW.PrintLast
open Go.Proofs.YtogmphjhdkgdjaaDoor.SpecVD (toD Byt wrap_up rd_nat drop_cons Fits rdT_nat mem_getD drop_map)
set_option linter.unusedVariables false
set_option linter.unusedSimpArgs false
theorem wrapu (x : Int) : IntKind.u64.wrap x = x % 18446744073709551616 := by
  simp [IntKind.wrap, IntKind.bits, IntKind.signed, IntKind.min]
/-! ### numerals -/
def digI (u : Nat) : List Int := (decDigits u).map fun b => (b.toNat : Int)
theorem digits_ev : ∀ (u : Nat), u < 18446744073709551616 → Ev (fun k => spec_l1digits.f k (u : Int)) (digI u) := by
  intro u
  induction u using Nat.strongRecOn with
  | _ u ih =>
    intro hu
    by_cases h : u < 10
    · have e : digI u = [48 + (u : Int)] := by
        unfold digI
        rw [decDigits, dif_pos h]
        simp
        omega
      refine Ev.step (f := fun _ => some [48 + (u : Int)]) (fun k => ?_) (by rw [e]; exact Ev.now _)
      simp only [spec_l1digits.f]
      rw [if_pos (by omega), wrapu, show (48 + (u : Int)) % 18446744073709551616 % 256 = 48 + (u : Int) by omega]
    · have e : digI u = digI (u / 10) ++ [48 + ((u % 10 : Nat) : Int)] := by
        unfold digI
        rw [decDigits, dif_neg h, List.map_append]
        simp
        omega
      have hlen : (digI (u / 10)).length < 140737488355328 := by
        unfold digI
        rw [List.length_map, decDigits_length]
        have := nDigits_le20 (u / 10) (by omega)
        omega
      refine Ev.step (f := fun k => (spec_l1digits.f k ((u / 10 : Nat) : Int)).bind fun t => if t.length < 140737488355328 then some (t ++ [48 + ((u % 10 : Nat) : Int)]) else none) (fun k => ?_) ?_
      · simp only [spec_l1digits.f]
        rw [if_neg (by omega), wrapu, wrapu, show Int.tdiv (u : Int) 10 % 18446744073709551616 = ((u / 10 : Nat) : Int) by rw [Int.tdiv_eq_ediv_of_nonneg (by omega)]; omega,
          show (48 + Int.tmod (u : Int) 10) % 18446744073709551616 % 256 = 48 + ((u % 10 : Nat) : Int) by rw [Int.tmod_eq_emod_of_nonneg (by omega)]; omega]
      · refine Ev.bind (ih (u / 10) (by omega) (by omega)) ?_
        simp only [if_pos hlen]
        rw [e]
        exact Ev.now _
theorem dec_ev (n : Int) (h0 : -2305843009213693952 ≤ n) (h1 : n ≤ 2305843009213693951) : Ev (fun k => spec_l1dec.f k n) (decI n) := by
  by_cases h : n < 0
  · have e : decI n = [45] ++ digI n.natAbs := by
      unfold decI digI Lib.itoa
      rw [if_pos h]
      simp
    have hlen : (digI n.natAbs).length < 140737488355327 := by
      unfold digI
      rw [List.length_map, decDigits_length]
      have := nDigits_le20 n.natAbs (by omega)
      omega
    refine Ev.congr (f := fun k => (spec_l1digits.f k ((n.natAbs : Nat) : Int)).bind fun t => if ([45] : List Int).length + t.length < 140737488355328 then some ([45] ++ t) else none) (fun k => ?_) ?_
    · unfold spec_l1dec.f
      rw [if_pos h, wrapu, wrapu, show -(n % 18446744073709551616) % 18446744073709551616 = ((n.natAbs : Nat) : Int) by omega]
      rfl
    · refine Ev.bind (digits_ev n.natAbs (by omega)) ?_
      simp only [List.length_cons, List.length_nil]
      rw [e]
      refine Ev.congr (fun k => ?_) (Ev.now _)
      rw [if_pos (by omega)]
  · have e : decI n = digI n.toNat := by
      unfold decI digI Lib.itoa
      rw [if_neg h]
    refine Ev.congr (f := fun k => (spec_l1digits.f k ((n.toNat : Nat) : Int)).bind fun t => some t) (fun k => ?_) ?_
    · unfold spec_l1dec.f
      rw [if_neg h, wrapu, show n % 18446744073709551616 = ((n.toNat : Nat) : Int) by omega]
    · refine Ev.bind (digits_ev n.toNat (by omega)) ?_
      rw [e]
      exact Ev.now _
/-! ### places -/
theorem next_l0 {l : List S57} (hl : l.length ≤ 1048576) (d : Nat) : ∀ (i n : Nat) (r : List Dat), l.length - i = d → i ≤ l.length → nextN ((l.map toD).drop i) n = some r → (∀ x ∈ l, 0 ≤ x.f3 ∧ x.f3 ≤ 9223372036854775807) →
    Ev (fun k => spec_l1next.l0 k l (i : Int) (n : Int)) ((l.length : Int) - r.length) := by
  induction d with
  | zero =>
    intro i n r hd hi hn hc
    rw [List.drop_eq_nil_of_le (by simp; omega)] at hn
    simp only [nextN] at hn
    split at hn
    · cases hn
      refine Ev.step (f := fun _ => some (i : Int)) (fun k => ?_) ?_
      · simp only [spec_l1next.l0]
        rw [if_neg (by omega)]
      · rw [show (l.length : Int) - (([] : List Dat).length : Int) = (i : Int) by simp; omega]
        exact Ev.now _
    · cases hn
  | succ d ih =>
    intro i n r hd hi hn hc
    have h : i < l.length := by omega
    have hdm := drop_map l i h
    rw [hdm] at hn
    simp only [nextN] at hn
    split at hn
    · rename_i h0
      cases hn
      refine Ev.step (f := fun _ => some (i : Int)) (fun k => ?_) ?_
      · simp only [spec_l1next.l0]
        rw [if_neg (by omega)]
      · rw [← hdm, List.length_drop, List.length_map, show (l.length : Int) - ((l.length - i : Nat) : Int) = (i : Int) by omega]
        exact Ev.now _
    · rename_i h0
      have hlen := nextN_len _ _ _ hn
      simp only [List.length_drop, List.length_map] at hlen
      obtain ⟨c0, c1⟩ := hc _ (mem_getD (z := z57) h)
      have hcc : (toD (l.getD i z57)).c = (l.getD i z57).f3 := rfl
      rw [hcc] at hn hlen
      refine Ev.step (f := fun k => spec_l1next.l0 k l ((i + 1 : Nat) : Int) ((n - 1 + (l.getD i z57).f3.toNat : Nat) : Int)) (fun k => ?_) (ih (i + 1) _ r (by omega) (by omega) hn hc)
      simp only [spec_l1next.l0]
      rw [if_pos (by omega), if_pos (by omega), if_pos (by omega), rdT_nat, wrap_up i (by omega)]
      congr 1
      rw [show wrap64 ((l.getD i z57).f3 - 1) = (l.getD i z57).f3 - 1 by unfold wrap64; omega]
      unfold wrap64
      omega
/-- The place behind the datum at i. -/
def nx (m : Nat) (L : List Dat) (i : Nat) : Nat := L.length - ((endD m (L.drop i)).getD []).length
theorem nx_some {m : Nat} {L : List Dat} {i : Nat} {r : List Dat} (h : endD m (L.drop i) = some r) (hi : i ≤ L.length) : r = L.drop (nx m L i) ∧ i < nx m L i ∧ nx m L i ≤ L.length ∧ ((nx m L i : Nat) : Int) = (L.length : Int) - r.length := by
  have e : nx m L i = L.length - r.length := by unfold nx; rw [h]; rfl
  have hr := endD_len m _ _ h
  simp only [List.length_drop] at hr
  obtain ⟨p, hp⟩ := endD_suffix m _ _ h
  have hpl := congrArg List.length hp
  simp only [List.length_append, List.length_drop] at hpl
  refine ⟨?_, by omega, by omega, by omega⟩
  have h2 : L.drop (nx m L i) = (L.drop i).drop (nx m L i - i) := by rw [List.drop_drop]; congr 1; omega
  rw [h2, ← hp, List.drop_append, List.drop_eq_nil_of_le (by omega), List.nil_append, show nx m L i - i - p.length = 0 by omega, List.drop_zero]
structure Ok (l : List S57) : Prop where
  len : l.length ≤ 3000
  cnt : ∀ x ∈ l, 0 ≤ x.f3 ∧ x.f3 ≤ 9223372036854775807
theorem next_ev {l : List S57} (hl : Ok l) (m i : Nat) (hi : i < l.length) (r : List Dat) (he : endD m ((l.map toD).drop i) = some r) : Ev (fun k => spec_l1next.f k l (i : Int)) ((nx m (l.map toD) i : Nat) : Int) := by
  have hn : nextN ((l.map toD).drop (i + 1)) (l.getD i z57).f3.toNat = some r := by
    have := end_next m _ _ he 0
    rw [nextN_zero, drop_map l i hi, nextN, if_neg (by omega), show 0 + 1 - 1 + (toD (l.getD i z57)).c.toNat = (l.getD i z57).f3.toNat from by show 0 + 1 - 1 + (l.getD i z57).f3.toNat = _; omega] at this
    exact this
  rw [(nx_some he (by simp; omega)).2.2.2, List.length_map]
  have hlen := hl.len
  refine Ev.congr (fun k => ?_) (next_l0 (by omega) _ (i + 1) _ r rfl (by omega) hn hl.cnt)
  unfold spec_l1next.f
  obtain ⟨c0, c1⟩ := hl.cnt _ (mem_getD (z := z57) hi)
  rw [if_pos (by omega), if_pos (by omega), rdT_nat, wrap_up i (by omega), show (((l.getD i z57).f3.toNat : Nat) : Int) = (l.getD i z57).f3 by omega]
/-- The places of c data from i on. -/
def plcs (m : Nat) (L : List Dat) : Nat → Nat → List Int
  | 0, _ => []
  | c + 1, i => (i : Int) :: plcs m L c (nx m L i)
theorem plcs_length (m : Nat) (L : List Dat) : ∀ (c i : Nat), (plcs m L c i).length = c
  | 0, _ => rfl
  | c + 1, i => by simp [plcs, plcs_length m L c]
theorem endD_in {m : Nat} {L : List Dat} {i : Nat} {r : List Dat} (h : endD m (L.drop i) = some r) : i < L.length := by
  rcases Nat.lt_or_ge i L.length with h1 | h1
  · exact h1
  · rw [List.drop_eq_nil_of_le h1] at h
    cases m <;> cases h
theorem kids_l0 {l : List S57} (hl : Ok l) (m p : Nat) (hp : p < l.length) (d : Nat) : ∀ (j i : Nat) (acc : List Int) (r : List Dat), (l.getD p z57).f3 = ((j + d : Nat) : Int) → i ≤ l.length → kidsF (endD m) d ((l.map toD).drop i) = some r → acc.length = j → j ≤ i →
    Ev (fun k => spec_l1kids.l0 k l (p : Int) acc (i : Int) (j : Int)) (acc ++ plcs m (l.map toD) d i) := by
  have hlen := hl.len
  induction d with
  | zero =>
    intro j i acc r hc hi hk ha hji
    refine Ev.step (f := fun _ => some acc) (fun k => ?_) (by simpa [plcs] using Ev.now acc)
    simp only [spec_l1kids.l0]
    rw [if_pos (by omega), if_pos (by omega), rdT_nat, hc, if_neg (by omega)]
  | succ d ih =>
    intro j i acc r hc hi hk ha hji
    have hkl := kidsF_len (endD_len m) _ _ _ hk
    simp only [List.length_drop, List.length_map] at hkl
    simp only [kidsF] at hk
    cases he : endD m ((l.map toD).drop i) with
    | none => rw [he] at hk; cases hk
    | some s =>
      rw [he] at hk
      simp only [Option.bind_some] at hk
      obtain ⟨h1, h2, h3, h4⟩ := nx_some he (by simpa using hi)
      have hil := endD_in he
      rw [List.length_map] at hil h3
      rw [h1] at hk
      refine Ev.step (f := fun k => (spec_l1next.f k l (i : Int)).bind fun t => spec_l1kids.l0 k l (p : Int) (acc ++ [(i : Int)]) t ((j + 1 : Nat) : Int)) (fun k => ?_) ?_
      · simp only [spec_l1kids.l0]
        rw [if_pos (by omega), if_pos (by omega), rdT_nat, hc, if_pos (by omega), if_pos (by omega), wrap_up j (by omega)]
      · refine Ev.bind (next_ev hl m i hil s he) ?_
        have := ih (j + 1) (nx m (l.map toD) i) (acc ++ [(i : Int)]) r (by rw [hc]; congr 1; omega) h3 hk (by simp [ha]) (by omega)
        simpa [plcs, List.append_assoc] using this
/-! ### texts -/
theorem text_l0 {l : List S57} (hl : Ok l) (m : Nat) (ih : ∀ (i : Nat) (t : List Int) (r : List Dat), textD m ((l.map toD).drop i) = some (t, r) → Ev (fun k => spec_l1text.f k l (i : Int)) t) (P : List Int) (d : Nat) :
    ∀ (j i : Nat) (out u : List Int) (r : List Dat), P.drop j = plcs m (l.map toD) d i → j + d = P.length → P.length ≤ 3000 → i ≤ l.length → kidsT (textD m) d (decide (j = 0)) ((l.map toD).drop i) = some (u, r) → out.length + 103 * (l.length - i) ≤ 1000000000 →
      Ev (fun k => spec_l1text.l0 k l out P (j : Int)) (out ++ u ++ [41]) := by
  induction d with
  | zero =>
    intro j i out u r hP hj hPl hi hk ho
    simp only [kidsT, Option.some.injEq, Prod.mk.injEq] at hk
    obtain ⟨rfl, rfl⟩ := hk
    refine Ev.step (f := fun _ => some (out ++ [41])) (fun k => ?_) (by simpa using Ev.now (out ++ [41]))
    simp only [spec_l1text.l0]
    rw [if_neg (by omega), if_pos (by omega)]
  | succ d ihd =>
    intro j i out u r hP hj hPl hi hk ho
    simp only [kidsT] at hk
    cases ht : textD m ((l.map toD).drop i) with
    | none => rw [ht] at hk; cases hk
    | some p =>
      obtain ⟨t1, s1⟩ := p
      rw [ht] at hk
      simp only [Option.bind_some] at hk
      have he := textD_end ht
      obtain ⟨h1, h2, h3, h4⟩ := nx_some he (by simpa using hi)
      have hil := endD_in he
      have hlt := textD_len m _ _ _ ht
      rw [List.length_map] at hil h3
      simp only [List.length_drop, List.length_map, h1] at hlt
      rw [h1] at hk
      cases hk2 : kidsT (textD m) d false ((l.map toD).drop (nx m (l.map toD) i)) with
      | none => rw [hk2] at hk; cases hk
      | some q =>
        obtain ⟨v, x⟩ := q
        rw [hk2] at hk
        simp only [Option.map_some, Option.some.injEq, Prod.mk.injEq] at hk
        obtain ⟨hu, rfl⟩ := hk
        have hjl : j < P.length := by omega
        have hrd : rd P (j : Int) = (i : Int) := by
          rw [drop_cons P j 0 hjl, plcs] at hP
          rw [rd_nat]
          exact (List.cons.inj hP).1
        have hP2 : P.drop (j + 1) = plcs m (l.map toD) d (nx m (l.map toD) i) := by
          rw [drop_cons P j 0 hjl, plcs] at hP
          exact (List.cons.inj hP).2
        by_cases h0 : j = 0
        · subst h0
          refine Ev.step (f := fun k => (spec_l1text.f k l (i : Int)).bind fun t => if out.length + t.length < 140737488355328 then spec_l1text.l0 k l (out ++ t) P ((0 + 1 : Nat) : Int) else none) (fun k => ?_) ?_
          · simp only [spec_l1text.l0]
            rw [if_pos (by omega), if_neg (by simp), if_pos (by simp), hrd, wrap_up 0 (by omega)]
          · refine Ev.bind (ih i t1 s1 ht) ?_
            simp only [if_pos (show out.length + t1.length < 140737488355328 by omega)]
            have := ihd 1 (nx m (l.map toD) i) (out ++ t1) v x hP2 (by omega) hPl h3 (by simpa using hk2) (by simp only [List.length_append]; omega)
            rw [← hu]
            simpa [List.append_assoc] using this
        · refine Ev.step (f := fun k => (spec_l1text.f k l (i : Int)).bind fun t => if (out ++ [32]).length + t.length < 140737488355328 then spec_l1text.l0 k l ((out ++ [32]) ++ t) P ((j + 1 : Nat) : Int) else none) (fun k => ?_) ?_
          · simp only [spec_l1text.l0]
            rw [if_pos (by omega), if_pos (by omega), if_pos (by omega)]
            simp only [Option.bind_some]
            rw [if_pos (by omega), hrd, wrap_up j (by omega)]
          · refine Ev.bind (ih i t1 s1 ht) ?_
            simp only [if_pos (show (out ++ [32]).length + t1.length < 140737488355328 by simp only [List.length_append, List.length_cons, List.length_nil]; omega)]
            have := ihd (j + 1) (nx m (l.map toD) i) ((out ++ [32]) ++ t1) v x hP2 (by omega) hPl h3 (by simpa using hk2) (by simp only [List.length_append, List.length_cons, List.length_nil]; omega)
            rw [← hu, if_neg (by simpa using h0)]
            simpa [List.append_assoc] using this
theorem atom_ev {l : List S57} (i : Nat) (hi : i < l.length) (hg : goodB (toD (l.getD i z57)) = true) (h3 : ¬ (toD (l.getD i z57)).k = 3) : Ev (fun k => spec_l1text.f k l (i : Int)) (atomT (toD (l.getD i z57))) := by
  unfold atomT
  by_cases h0 : (toD (l.getD i z57)).k = 0
  · have h0' : (l.getD i z57).f0 = 0 := h0
    have hn := good_int hg h0
    rw [if_pos h0]
    refine Ev.step (f := fun k => (spec_l1dec.f k (l.getD i z57).f1).bind fun t => some t) (fun k => ?_) (Ev.bind (dec_ev _ hn.1 hn.2.1) (Ev.now _))
    simp only [spec_l1text.f]
    rw [if_pos (by omega), if_pos (by omega), rdT_nat, if_pos h0']
  · have h0' : ¬ (l.getD i z57).f0 = 0 := h0
    rw [if_neg h0]
    by_cases h1 : (toD (l.getD i z57)).k = 1
    · have h1' : (l.getD i z57).f0 = 1 := h1
      rw [if_pos h1]
      refine Ev.step (f := fun _ => some (if (toD (l.getD i z57)).n = 1 then [35, 116] else [35, 102])) (fun k => ?_) (Ev.now _)
      simp only [spec_l1text.f]
      rw [if_pos (by omega), if_pos (by omega), rdT_nat, if_neg h0', if_neg (by omega), if_pos h1']
      show (if (l.getD i z57).f1 = 1 then _ else _) = some (if (l.getD i z57).f1 = 1 then _ else _)
      split <;> rfl
    · rw [if_neg h1]
      obtain ⟨e1, e2, _⟩ := good_sym hg h0 h1 h3
      have e1' : (l.getD i z57).f0 = 2 := e1
      have e3 : (l.getD i z57).f2.length ≤ 100 := (symB_len e2).2
      refine Ev.step (f := fun _ => some (toD (l.getD i z57)).t) (fun k => ?_) (Ev.now _)
      simp only [spec_l1text.f]
      rw [if_pos (by omega), if_pos (by omega), rdT_nat, if_neg h0', if_pos e1']
      unfold spec_l1copy.f
      rw [if_pos (by simp only [List.length_nil]; omega)]
      rfl
theorem text_ev {l : List S57} (hl : Ok l) : ∀ (m i : Nat) (t : List Int) (r : List Dat), textD m ((l.map toD).drop i) = some (t, r) → Ev (fun k => spec_l1text.f k l (i : Int)) t := by
  intro m
  induction m with
  | zero =>
    intro i t r ht
    have hi := endD_in (textD_end ht)
    rw [List.length_map] at hi
    rw [drop_map l i hi] at ht
    simp only [textD] at ht
    split at ht
    · rename_i hg
      split at ht
      · cases ht
      · rename_i h3
        simp only [Option.some.injEq, Prod.mk.injEq] at ht
        obtain ⟨rfl, rfl⟩ := ht
        exact atom_ev i hi hg h3
    · cases ht
  | succ m ih =>
    intro i t r ht
    have hi := endD_in (textD_end ht)
    rw [List.length_map] at hi
    rw [drop_map l i hi] at ht
    simp only [textD] at ht
    split at ht
    · rename_i hg
      split at ht
      · rename_i h3
        have h3' : (l.getD i z57).f0 = 3 := h3
        cases hk : kidsT (textD m) (toD (l.getD i z57)).c.toNat true ((l.map toD).drop (i + 1)) with
        | none => rw [hk] at ht; cases ht
        | some p =>
          obtain ⟨u, r'⟩ := p
          rw [hk] at ht
          simp only [Option.map_some, Option.some.injEq, Prod.mk.injEq] at ht
          obtain ⟨rfl, rfl⟩ := ht
          have hkf := kidsT_end hk
          have hkl := kidsF_len (endD_len m) _ _ _ hkf
          simp only [List.length_drop, List.length_map] at hkl
          have hlen := hl.len
          have hc := good_cnt hg h3
          have hcc : (l.getD i z57).f3 = ((0 + (toD (l.getD i z57)).c.toNat : Nat) : Int) := by
            show (l.getD i z57).f3 = ((0 + (l.getD i z57).f3.toNat : Nat) : Int)
            have : 0 ≤ (l.getD i z57).f3 := hc
            omega
          refine Ev.step (f := fun k => (spec_l1kids.f k l (i : Int)).bind fun t => spec_l1text.l0 k l [40] t 0) (fun k => ?_) ?_
          · simp only [spec_l1text.f]
            rw [if_pos (by omega), if_pos (by omega), rdT_nat, if_neg (by omega), if_neg (by omega), if_neg (by omega)]
          · have h1 : Ev (fun k => spec_l1kids.f k l (i : Int)) (plcs m (l.map toD) (toD (l.getD i z57)).c.toNat (i + 1)) := by
              have := kids_l0 hl m i hi _ 0 (i + 1) [] r' hcc (by omega) hkf rfl (by omega)
              refine Ev.congr (fun k => ?_) (by simpa using this)
              unfold spec_l1kids.f
              rw [wrap_up i (by omega)]
              rfl
            refine Ev.bind h1 ?_
            have := text_l0 hl m ih (plcs m (l.map toD) (toD (l.getD i z57)).c.toNat (i + 1)) _ 0 (i + 1) [40] u r' rfl (by rw [plcs_length]; omega) (by rw [plcs_length]; omega) (by omega) (by simpa using hk) (by simp only [List.length_cons, List.length_nil]; omega)
            simpa using this
      · rename_i h3
        simp only [Option.some.injEq, Prod.mk.injEq] at ht
        obtain ⟨rfl, rfl⟩ := ht
        exact atom_ev i hi hg h3
    · cases ht
/-! ### the row -/
def fplc (L : List Dat) : Nat → Nat → List Int
  | 0, _ => []
  | f + 1, i => if i < L.length then (i : Int) :: fplc L f (nx 100 L i) else []
theorem forms_l0 {l : List S57} (hl : Ok l) (f : Nat) : ∀ (i : Nat) (acc : List Int), l.length - i ≤ f → i ≤ l.length → rowsF f ((l.map toD).drop i) = true → acc.length ≤ i → Ev (fun k => spec_l1forms.l0 k l acc (i : Int)) (acc ++ fplc (l.map toD) f i) := by
  have hlen := hl.len
  induction f with
  | zero =>
    intro i acc hf hi hr ha
    refine Ev.step (f := fun _ => some acc) (fun k => ?_) (by simpa [fplc] using Ev.now acc)
    simp only [spec_l1forms.l0]
    rw [if_neg (by omega)]
  | succ f ih =>
    intro i acc hf hi hr ha
    by_cases h : i < l.length
    · rw [drop_map l i h] at hr
      simp only [rowsF] at hr
      rw [← drop_map l i h] at hr
      cases he : endD 100 ((l.map toD).drop i) with
      | none => rw [he] at hr; cases hr
      | some s =>
        rw [he] at hr
        simp only at hr
        obtain ⟨h1, h2, h3, h4⟩ := nx_some he (by simpa using hi)
        rw [List.length_map] at h3
        rw [h1] at hr
        refine Ev.step (f := fun k => (spec_l1next.f k l (i : Int)).bind fun t => spec_l1forms.l0 k l (acc ++ [(i : Int)]) t) (fun k => ?_) ?_
        · simp only [spec_l1forms.l0]
          rw [if_pos (by omega), if_pos (by omega)]
        · refine Ev.bind (next_ev hl 100 i h s he) ?_
          have := ih (nx 100 (l.map toD) i) (acc ++ [(i : Int)]) (by omega) h3 hr (by simp only [List.length_append, List.length_cons, List.length_nil]; omega)
          simpa [fplc, h, List.append_assoc] using this
    · refine Ev.step (f := fun _ => some acc) (fun k => ?_) (by simpa [fplc, h] using Ev.now acc)
      simp only [spec_l1forms.l0]
      rw [if_neg (by omega)]
theorem write_l0 {l : List S57} (hl : Ok l) (P : List Int) (f : Nat) : ∀ (j i : Nat) (out u : List Int), P.drop j = fplc (l.map toD) f i → j ≤ P.length → P.length ≤ 1000000 → l.length - i ≤ f → i ≤ l.length → rowsT f ((l.map toD).drop i) = some u → out.length + 103 * (l.length - i) ≤ 1000000000 →
    Ev (fun k => spec_WriteData.l0 k l out P (j : Int)) (out ++ u) := by
  have hlen := hl.len
  induction f with
  | zero =>
    intro j i out u hP hj hPl hf hi hr ho
    have hn : (l.map toD).drop i = [] := List.drop_eq_nil_of_le (by simp; omega)
    rw [hn] at hr
    simp only [rowsT, Option.some.injEq] at hr
    subst hr
    have hjl : P.length ≤ j := by
      simp only [fplc] at hP
      exact List.drop_eq_nil_iff.1 hP
    refine Ev.step (f := fun _ => some out) (fun k => ?_) (by simpa using Ev.now out)
    simp only [spec_WriteData.l0]
    rw [if_neg (by omega)]
  | succ f ih =>
    intro j i out u hP hj hPl hf hi hr ho
    by_cases h : i < l.length
    · rw [drop_map l i h] at hr
      simp only [rowsT] at hr
      rw [← drop_map l i h] at hr
      cases ht : textD 100 ((l.map toD).drop i) with
      | none => rw [ht] at hr; cases hr
      | some p =>
        obtain ⟨t1, s1⟩ := p
        rw [ht] at hr
        simp only [Option.bind_some] at hr
        have he := textD_end ht
        obtain ⟨h1, h2, h3, h4⟩ := nx_some he (by simpa using hi)
        have hlt := textD_len 100 _ _ _ ht
        rw [List.length_map] at h3
        simp only [List.length_drop, List.length_map, h1] at hlt
        rw [h1] at hr
        cases hr2 : rowsT f ((l.map toD).drop (nx 100 (l.map toD) i)) with
        | none => rw [hr2] at hr; cases hr
        | some v =>
          rw [hr2] at hr
          simp only [Option.map_some, Option.some.injEq] at hr
          have hjl : j < P.length := by
            rcases Nat.lt_or_ge j P.length with h5 | h5
            · exact h5
            · rw [List.drop_eq_nil_of_le h5, fplc, if_pos (by simpa using h)] at hP
              cases hP
          rw [drop_cons P j 0 hjl, fplc, if_pos (by simpa using h)] at hP
          have hrd : rd P (j : Int) = (i : Int) := by rw [rd_nat]; exact (List.cons.inj hP).1
          have hP2 := (List.cons.inj hP).2
          refine Ev.step (f := fun k => (spec_l1text.f k l (i : Int)).bind fun t => if out.length + t.length < 140737488355328 then (if (out ++ t).length < 140737488355328 then spec_WriteData.l0 k l ((out ++ t) ++ [10]) P ((j + 1 : Nat) : Int) else none) else none) (fun k => ?_) ?_
          · simp only [spec_WriteData.l0]
            rw [if_pos (by omega), if_pos (by omega), hrd, wrap_up j (by omega)]
            rfl
          · refine Ev.bind (text_ev hl 100 i t1 s1 ht) ?_
            simp only [if_pos (show out.length + t1.length < 140737488355328 by omega), if_pos (show (out ++ t1).length < 140737488355328 by simp only [List.length_append]; omega)]
            have := ih (j + 1) (nx 100 (l.map toD) i) ((out ++ t1) ++ [10]) v hP2 (by omega) hPl (by omega) h3 hr2 (by simp only [List.length_append, List.length_cons, List.length_nil]; omega)
            rw [← hr]
            simpa [List.append_assoc] using this
    · have hn : (l.map toD).drop i = [] := List.drop_eq_nil_of_le (by simp; omega)
      rw [hn] at hr
      simp only [rowsT, Option.some.injEq] at hr
      subst hr
      have hjl : P.length ≤ j := by
        rw [fplc, if_neg (by simpa using h)] at hP
        exact List.drop_eq_nil_iff.1 hP
      refine Ev.step (f := fun _ => some out) (fun k => ?_) (by simpa using Ev.now out)
      simp only [spec_WriteData.l0]
      rw [if_neg (by omega)]
theorem fplc_length (L : List Dat) : ∀ (f i : Nat), (fplc L f i).length ≤ f
  | 0, _ => by simp [fplc]
  | f + 1, i => by
    simp only [fplc]
    split
    · have := fplc_length L f (nx 100 L i)
      simp only [List.length_cons]; omega
    · simp
theorem write_ev {l : List S57} (hl : Fits l) (hc : validD (l.map toD) = true → ∀ x ∈ l, 0 ≤ x.f3) : Ev (fun k => spec_WriteData.f k l) (writeT (l.map toD)) := by
  unfold spec_WriteData.f
  refine Ev.bind (SpecVD.valid_ev hl) ?_
  unfold writeT
  cases hv : validD (l.map toD) with
  | false => simpa using Ev.now ([] : List Int)
  | true =>
    simp only [if_true]
    have hv2 := hv
    unfold validD at hv2
    simp only [List.length_map, Bool.and_eq_true, decide_eq_true_eq] at hv2
    have hok : Ok l := ⟨hv2.1, fun x hx => ⟨hc hv x hx, hl.cnt x hx⟩⟩
    have h1 : Ev (fun k => spec_l1forms.f k l) (fplc (l.map toD) l.length 0) := by
      have := forms_l0 hok l.length 0 [] (by omega) (by omega) (by simpa using hv2.2) (by simp)
      refine Ev.congr (fun k => ?_) (by simpa using this)
      rfl
    refine Ev.bind h1 ?_
    obtain ⟨u, hu⟩ : ∃ u, rowsT l.length (l.map toD) = some u := by
      have h2 := hv2.2
      rw [← rowsT_some] at h2
      exact Option.isSome_iff_exists.1 h2
    have := write_l0 hok (fplc (l.map toD) l.length 0) l.length 0 0 [] u (by simp) (by omega) (by have := fplc_length (l.map toD) l.length 0; omega) (by omega) (by omega) (by simpa using hu) (by simp; omega)
    rw [List.length_map, hu]
    simpa using this
end Go.Proofs.YtogmphjhdkgdjaaDoor.SpecWD
