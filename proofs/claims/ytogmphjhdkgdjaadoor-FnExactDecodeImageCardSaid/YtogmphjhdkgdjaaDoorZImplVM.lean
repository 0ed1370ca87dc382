/- What the program's functions on data (isNumber, symbolOk, datumOk, ValidData) come to: validD. -/
import Derived.Test.YtogmphjhdkgdjaaDoorZQFnExactValidModulex9
import Derived.Test.YtogmphjhdkgdjaaDoorZSpecVM
namespace Go.Proofs.YtogmphjhdkgdjaaDoor.ImplVM
open Go.RowKit Go.Lib Go.Proofs.YtogmphjhdkgdjaaDoor.QFnExactValidModule Go.Proofs.YtogmphjhdkgdjaaDoorW.PrintWords Go.Proofs.YtogmphjhdkgdjaaDoorW.PrintLast
open Go.Proofs.YtogmphjhdkgdjaaDoor.SpecVM (toD Byt wrap_up rd_nat drop_cons Fits rdT_nat mem_getD drop_map)
set_option linter.unusedVariables false
set_option linter.unusedSimpArgs false
theorem digit_ev (a : Int) : impl_isDigit.f a = some (digB a) := by
 unfold impl_isDigit.f digB
 by_cases h : a ≥ 48
 ·rw [if_pos h, decide_eq_true (show 48 ≤ a from h), Bool.true_and]
 ·rw [if_neg h, decide_eq_false (show ¬ 48 ≤ a from h), Bool.false_and]
theorem small_ev (v : Int) : impl_smallInt.f v = some (smallB v) := by
 unfold impl_smallInt.f smallB
 by_cases h : v ≥ -2305843009213693952
 ·rw [if_pos h, decide_eq_true (show -2305843009213693952 ≤ v from h), Bool.true_and]
 ·rw [if_neg h, decide_eq_false (show ¬ -2305843009213693952 ≤ v from h), Bool.false_and]
/-! ### strings of bytes -/
theorem str_data (s : List Int) : (strOfNums s).data.toList = s.map fun n => UInt8.ofNat n.toNat := by simp [strOfNums]
theorem str_size (s : List Int) : (strOfNums s).size = s.length := by simp [strOfNums, ByteArray.size]
theorem dropWhile_nil {α : Type} (p : α → Bool) : ∀ l : List α, (l.dropWhile p).isEmpty = l.all p
 | [] => rfl
 | a :: l => by
  cases h : p a with
  | true => simp only [List.dropWhile_cons, h, if_true, List.all_cons, Bool.true_and]; exact dropWhile_nil p l
  | false => simp [List.dropWhile_cons, h]
theorem trimS_nil (l cs : List UInt8) : (trimS l cs).isEmpty = l.all (cs.contains ·) := by
 unfold trimS trimLeftS trimRightS
 rw [dropWhile_nil]
 rw [Bool.eq_iff_iff]
 constructor
 ·intro h
  have h1 : (l.reverse.dropWhile (cs.contains ·)).all (cs.contains ·) = true := by
   rw [List.all_reverse] at h
   exact h
  rw [← List.all_reverse]
  rw [← List.takeWhile_append_dropWhile (p := (cs.contains ·)) (l := l.reverse), List.all_append, h1, Bool.and_true]
  exact List.all_takeWhile
 ·intro h
  rw [List.all_reverse, List.all_eq_true]
  intro x hx
  have hx' : x ∈ l.reverse := (List.dropWhile_suffix _).mem hx
  exact List.all_eq_true.1 h x (List.mem_reverse.1 hx')
theorem byte_digit (b : Int) (h0 : 0 ≤ b) (h1 : b < 256) : ([48, 49, 50, 51, 52, 53, 54, 55, 56, 57] : List UInt8).contains (UInt8.ofNat b.toNat) = digB b := by
 have key : ∀ n : Fin 256, ([48, 49, 50, 51, 52, 53, 54, 55, 56, 57] : List UInt8).contains (UInt8.ofNat (n : Nat)) = digB ((n : Nat) : Int) := by decide +kernel
 have := key ⟨b.toNat, by omega⟩
 simpa [show (b.toNat : Int) = b by omega] using this
theorem all_on {α : Type} {p q : α → Bool} : ∀ l : List α, (∀ x ∈ l, p x = q x) → l.all p = l.all q
 | [], _ => rfl
 | a :: l, h => by rw [List.all_cons, List.all_cons, h a (List.mem_cons_self ..), all_on l (fun x hx => h x (List.mem_cons_of_mem _ hx))]
theorem digs_str (s : List Int) (hb : Byt s) : digs (strOfNums s) = (s.all digB && !s.isEmpty) := by
 unfold digs
 rw [trimS_nil, str_data, str_size, List.all_map, Bool.and_comm]
 congr 1
 ·exact all_on s (fun x hx => byte_digit x (hb x hx).1 (hb x hx).2)
 ·cases s <;> simp
theorem str_drop (s : List Int) : (strOfNums s).extract 1 (strOfNums s).size = strOfNums (s.drop 1) := by
 rw [str_size]
 apply WideShapes.bytes_inj
 simp [strOfNums, ByteArray.extract_mk]
 rw [List.take_of_length_le (by simp)]
theorem bt_str (s : List Int) (hb : Byt s) (h : 0 < s.length) : bt (strOfNums s) 0 = s.getD 0 0 := by
 have hbb := hb.get h
 obtain ⟨a, l, rfl⟩ : ∃ a l, s = a :: l := by cases s with | nil => simp at h | cons a l => exact ⟨a, l, rfl⟩
 simp only [List.getD_cons_zero] at hbb ⊢
 unfold bt
 rw [dif_pos (by rw [str_size]; exact h)]
 show (((strOfNums (a :: l)).data[0]'(by simp [strOfNums])).toNat : Int) = a
 simp [strOfNums]
 omega
theorem number_ev (s : List Int) (hb : Byt s) (hs : s.length ≤ 4611686018427387904) : impl_isNumber.f (strOfNums s) = some (numB s) := by
 have hd : ∀ t : List Int, t.length ≤ s.length → Byt t → impl_digitsOnly.f (strOfNums t) = some (t.all digB && !t.isEmpty) := by
  intro t ht hbt
  unfold impl_digitsOnly.f
  rw [if_pos (by rw [str_size]; omega), digs_str t hbt]
 unfold impl_isNumber.f
 rw [hd s (Nat.le_refl _) hb]
 simp only [Option.bind_some]
 by_cases he : s = []
 ·subst he
  have hn : (strOfNums []).toList = [] := by rw [toList_nil_iff_emptyBytes]; rfl
  rw [if_neg (by decide), if_pos hn]
  rfl
 ·have hpos : 0 < s.length := List.length_pos_iff.2 he
  have hE : s.isEmpty = false := by cases s with | nil => exact absurd rfl he | cons => rfl
  have hne : ¬ (strOfNums s).toList = [] := by
   rw [toList_nil_iff_emptyBytes]
   intro h
   have := congrArg ByteArray.size h
   rw [str_size] at this
   exact he (List.eq_nil_of_length_eq_zero this)
  unfold numB
  by_cases h45 : s.getD 0 0 = 45
  ·have hsd : s.all digB = false := by
    rw [List.all_eq_false]
    exact ⟨s.getD 0 0, mem_getD hpos, by rw [h45]; decide⟩
   rw [hsd, Bool.false_and, if_neg (by decide), if_neg hne, if_pos (by rw [str_size]; omega), bt_str s hb hpos, if_pos h45, if_pos (by rw [str_size]; omega), str_drop, hd (s.drop 1) (by simp) (hb.drop 1)]
   simp only [Option.bind_some]
   by_cases h1 : 1 < s.length
   ·rw [if_pos ⟨h1, h45⟩]
   ·rw [if_neg (fun e => h1 e.1), List.drop_eq_nil_of_le (by omega)]
    rfl
  ·rw [if_neg (show ¬ (1 < s.length ∧ s.getD 0 0 = 45) from fun e => h45 e.2), hE]
   cases s.all digB with
   | true => rfl
   | false =>
    rw [Bool.false_and, if_neg (by decide), if_neg hne, if_pos (by rw [str_size]; omega), bt_str s hb hpos, if_neg h45]
/-! ### symbols -/
theorem symbol_l0 (s : List Int) (hs : s.length ≤ 4611686018427387904) (d : Nat) : ∀ i : Nat, s.length - i = d → i ≤ s.length → Ev (fun k => impl_symbolOk.l0 k s (s.length : Int) (i : Int)) ((s.drop i).all symByte) := by
 induction d with
 | zero =>
  intro i hd hi
  refine Ev.step (f := fun _ => some true) (fun k => ?_) ?_
  ·simp only [impl_symbolOk.l0]
   rw [if_neg (by omega)]
  ·rw [List.drop_eq_nil_of_le (by omega)]
   exact Ev.now _
 | succ d ih =>
  intro i hd hi
  have hlt : i < s.length := by omega
  rw [drop_cons s i 0 hlt, List.all_cons]
  refine Ev.step (f := fun k => if symByte (s.getD i 0) = true then impl_symbolOk.l0 k s (s.length : Int) ((i + 1 : Nat) : Int) else some false) (fun k => ?_) ?_
  ·simp only [impl_symbolOk.l0]
   rw [if_pos (by omega), if_pos (by omega), if_pos (by omega), rd_nat, wrap_up i (by omega)]
   rfl
  ·cases symByte (s.getD i 0) with
   | true => simpa using ih (i + 1) (by omega) (by omega)
   | false => simpa using Ev.now false
theorem symbol_ev (s : List Int) (hb : Byt s) (hs : s.length ≤ 4611686018427387904) : Ev (fun k => impl_symbolOk.f k s) (symB s) := by
 have ht : Ev (fun k => impl_symbolOk.j0 k s true) false := Ev.step (f := fun _ => some false) (fun k => by simp only [impl_symbolOk.j0, if_true]) (Ev.now _)
 have hf : Ev (fun k => impl_symbolOk.j0 k s false) (s.all symByte) := Ev.step (f := fun k => impl_symbolOk.l0 k s (s.length : Int) ((0 : Nat) : Int)) (fun k => by simp only [impl_symbolOk.j0, Bool.false_eq_true, if_false]; rfl) (symbol_l0 s hs s.length 0 (by omega) (by omega))
 unfold symB
 by_cases h1 : (s.length : Int) < 1
 ·have : s = [] := List.eq_nil_of_length_eq_zero (by omega)
  subst this
  refine Ev.congr (fun k => ?_) ht
  rfl
 ·have e1 : s.isEmpty = false := by cases s with | nil => simp at h1 | cons => rfl
  rw [e1]
  by_cases h2 : (s.length : Int) > 100
  ·rw [decide_eq_false (by omega)]
   refine Ev.congr (fun k => ?_) ht
   unfold impl_symbolOk.f
   rw [if_neg h1, if_pos h2]
  ·rw [decide_eq_true (by omega)]
   refine Ev.congr (f := fun k => if digB (s.getD 0 0) = true then impl_symbolOk.j0 k s true else impl_symbolOk.j0 k s (numB s)) (fun k => ?_) ?_
   ·unfold impl_symbolOk.f
    rw [if_neg h1, if_neg h2, if_pos (by omega), digit_ev, number_ev s hb hs]
    rfl
   ·cases digB (s.getD 0 0) with
    | true => simpa using ht
    | false =>
     simp only [Bool.false_eq_true, if_false]
     cases numB s with
     | true => simpa using ht
     | false => simpa using hf
theorem good_ev (a n : Int) (t : List Int) (c : Int) (hb : Byt t) (hs : t.length ≤ 4611686018427387904) : Ev (fun k => impl_datumOk.f k a n t c) (goodB ⟨a, n, t, c⟩) := by
 have hE : ((t.length : Int) = 0) = (t.isEmpty = true) := by cases t <;> simp <;> omega
 unfold goodB impl_datumOk.f
 simp only
 by_cases h0 : a = 0
 ·simp only [if_pos h0]
  refine Ev.congr (fun k => ?_) (Ev.now _)
  rw [small_ev]
  simp only [Option.bind_some, hE]
  cases smallB n <;> cases t.isEmpty <;> simp
 ·simp only [if_neg h0]
  by_cases h1 : a = 1
  ·simp only [if_pos h1]
   refine Ev.congr (fun k => ?_) (Ev.now _)
   simp only [hE]
   by_cases n0 : n = 0
   ·subst n0
    cases t.isEmpty <;> simp
   ·by_cases n1 : n = 1
    ·subst n1
     cases t.isEmpty <;> simp
    ·rw [if_neg n0, if_neg n1, show (n == 0) = false by simpa using n0, show (n == 1) = false by simpa using n1]
     rfl
  ·simp only [if_neg h1]
   by_cases h2 : a = 2
   ·simp only [if_pos h2]
    by_cases n0 : n = 0
    ·subst n0
     simp only [if_true]
     refine Ev.bind (symbol_ev t hb hs) ?_
     cases symB t with
     | true => simpa using Ev.now _
     | false => simpa using Ev.now false
    ·simp only [if_neg n0, show (n == 0) = false by simpa using n0, Bool.false_and]
     exact Ev.now _
   ·simp only [if_neg h2]
    refine Ev.congr (fun k => ?_) (Ev.now _)
    simp only [hE]
    by_cases h3 : a = 3
    ·subst h3
     by_cases n0 : n = 0
     ·subst n0
      cases t.isEmpty <;> simp
     ·rw [if_pos rfl, if_neg n0, show (n == 0) = false by simpa using n0]
      rfl
    ·rw [if_neg h3, show (a == 3) = false by simpa using h3]
     rfl
/-! ### the stack of open lists, as the program holds it -/
def opn (st : List Nat) : List Int := (st.map fun c : Nat => (c : Int)).reverse
theorem opn_cons (c : Nat) (st : List Nat) : opn (c :: st) = opn st ++ [(c : Int)] := by simp [opn]
theorem opn_len (st : List Nat) : (opn st).length = st.length := by simp [opn]
def Low (st : List Nat) : Prop := ∀ c ∈ st, c ≤ 9223372036854775807
theorem popS_low : ∀ {st : List Nat}, Low st → Low (popS st) ∧ (popS st).length ≤ st.length
 | [], h => ⟨h, Nat.le_refl _⟩
 | c :: st, h => by
  have ht : Low st := fun x hx => h x (List.mem_cons_of_mem _ hx)
  have hc := h c (List.mem_cons_self ..)
  simp only [popS]
  split
  ·refine ⟨fun x hx => ?_, by simp⟩
   rcases List.mem_cons.1 hx with rfl | hx
   ·omega
   ·exact ht x hx
  ·have := popS_low ht
   exact ⟨this.1, by simp only [List.length_cons]; omega⟩
theorem pop_l1 (l : List S57) (i : Nat) (hi : i ≤ 1048576) (r : Bool) : ∀ (st : List Nat), Low st → st.length ≤ 100 → Ev (fun k => impl_ValidData.l0 k (opn (popS st)) l (l.length : Int) ((i + 1 : Nat) : Int)) r →
  Ev (fun k => impl_ValidData.l1 k (opn st) l (l.length : Int) (i : Int)) r
 | [], _, _, h => by
  refine Ev.step (fun k => ?_) h
  simp only [impl_ValidData.l1]
  rw [if_neg (by simp [opn]), wrap_up i (by omega)]
  rfl
 | c :: st, hl, hlen, h => by
  have hc := hl c (List.mem_cons_self ..)
  have hn : ((opn (c :: st)).length : Int) = (st.length : Int) + 1 := by rw [opn_len]; simp
  have hi1 : wrap64 (((opn (c :: st)).length : Int) - 1) = (st.length : Int) := by rw [hn]; simp only [List.length_cons] at hlen; unfold wrap64; omega
  have hrd : rd (opn (c :: st)) (st.length : Int) = (c : Int) := by
   rw [rd_nat, opn_cons, List.getD_eq_getElem?_getD, List.getElem?_append_right (by rw [opn_len]; omega), opn_len, Nat.sub_self]
   rfl
  have hset : (opn (c :: st)).set (st.length : Int).toNat (wrap64 ((c : Int) - 1)) = opn st ++ [(c : Int) - 1] := by
   rw [Int.toNat_natCast, opn_cons, show wrap64 ((c : Int) - 1) = (c : Int) - 1 by unfold wrap64; omega, List.set_append_right _ _ (by rw [opn_len]; omega), opn_len, Nat.sub_self]
   rfl
  have hrd2 : rd (opn st ++ [(c : Int) - 1]) (st.length : Int) = (c : Int) - 1 := by
   rw [rd_nat, List.getD_eq_getElem?_getD, List.getElem?_append_right (by rw [opn_len]; omega), opn_len, Nat.sub_self]
   rfl
  have htake : (opn st ++ [(c : Int) - 1]).take (st.length : Int).toNat = opn st := by
   rw [Int.toNat_natCast, ← opn_len st, List.take_left']
   rfl
  have hgo : ∀ k, impl_ValidData.l1 (k + 1) (opn (c :: st)) l (l.length : Int) (i : Int) = if (c : Int) - 1 > 0 then impl_ValidData.l0 k (opn st ++ [(c : Int) - 1]) l (l.length : Int) ((i + 1 : Nat) : Int) else impl_ValidData.l1 k (opn st) l (l.length : Int) (i : Int) := by
   intro k
   simp only [impl_ValidData.l1]
   rw [hi1, if_pos (by omega), if_pos (by omega), if_pos (by omega), hrd, hset]
   simp only [Option.bind_some]
   rw [hrd2, wrap_up i (by omega), htake, if_pos (show (st.length : Int) ≤ ((opn (c :: st)).length : Int) by omega)]
  simp only [popS] at h
  by_cases h1 : 1 < c
  ·rw [if_pos h1, opn_cons] at h
   refine Ev.step (f := fun k => impl_ValidData.l0 k (opn st ++ [((c - 1 : Nat) : Int)]) l (l.length : Int) ((i + 1 : Nat) : Int)) (fun k => ?_) h
   rw [hgo, if_pos (by omega), show ((c - 1 : Nat) : Int) = (c : Int) - 1 by omega]
  ·rw [if_neg h1] at h
   refine Ev.step (f := fun k => impl_ValidData.l1 k (opn st) l (l.length : Int) (i : Int)) (fun k => ?_) (pop_l1 l i hi r st (fun x hx => hl x (List.mem_cons_of_mem _ hx)) (by simp only [List.length_cons] at hlen; omega) h)
   rw [hgo, if_neg (by omega)]
theorem main_l0 {l : List S57} (hl : Fits l) (d : Nat) : ∀ (i : Nat) (st : List Nat), l.length - i = d → i ≤ l.length → Low st → st.length ≤ 100 →
  Ev (fun k => impl_ValidData.l0 k (opn st) l (l.length : Int) (i : Int)) (runS ((l.map toD).drop i) st) := by
 have hlen := hl.len
 induction d with
 | zero =>
  intro i st hd hi hlow hst
  rw [List.drop_eq_nil_of_le (by simp; omega)]
  refine Ev.step (f := fun _ => some (((opn st).length : Int) == 0)) (fun k => ?_) ?_
  ·simp only [impl_ValidData.l0]
   rw [if_neg (by omega)]
  ·rw [opn_len]
   have : ((st.length : Int) == 0) = st.isEmpty := by cases st <;> simp <;> omega
   rw [this]
   exact Ev.now _
 | succ d ih =>
  intro i st hd hi hlow hst
  have h : i < l.length := by omega
  have hbt := hl.byt _ (mem_getD (z := z57) h)
  have hcn := hl.cnt _ (mem_getD (z := z57) h)
  have hpop : ∀ st', Low st' → st'.length ≤ 100 → Ev (fun k => impl_ValidData.j1 k (opn st') l (l.length : Int) (i : Int)) (runS ((l.map toD).drop (i + 1)) (popS st')) := by
   intro st' h1 h2
   have hp := popS_low h1
   refine Ev.step (f := fun k => impl_ValidData.l1 k (opn st') l (l.length : Int) (i : Int)) (fun k => by simp only [impl_ValidData.j1]) ?_
   exact pop_l1 l i (by omega) _ st' h1 h2 (ih (i + 1) (popS st') (by omega) (by omega) hp.1 (by omega))
  rw [drop_map l i h]
  obtain ⟨x, hx⟩ : ∃ x, l.getD i z57 = x := ⟨_, rfl⟩
  rw [hx] at hbt hcn ⊢
  refine Ev.step (f := fun k => (impl_datumOk.f k x.f0 x.f1 x.f2 x.f3).bind fun t => if t = true then (if x.f0 = 3 then (if 100 < st.length + 1 then some false else if x.f3 > 0 then impl_ValidData.l0 k (opn st ++ [x.f3]) l (l.length : Int) ((i + 1 : Nat) : Int) else impl_ValidData.j1 k (opn st) l (l.length : Int) (i : Int)) else impl_ValidData.j1 k (opn st) l (l.length : Int) (i : Int)) else some false) (fun k => ?_) ?_
  ·simp only [impl_ValidData.l0]
   rw [if_pos (by omega), if_pos (by omega), if_pos (by omega), rdT_nat, hx, wrap_up i (by omega)]
   have hn : ((opn st ++ [x.f3]).length : Int) = (st.length : Int) + 1 := by simp [opn_len]
   have hw : wrap64 ((st.length : Int) + 1 - 1) = (st.length : Int) := by unfold wrap64; omega
   have ht : (opn st ++ [x.f3]).take (st.length : Int).toNat = opn st := by rw [Int.toNat_natCast, ← opn_len st, List.take_left']; rfl
   simp only [hn, hw, ht, Option.bind_some]
   rw [if_pos (show (opn st).length < 17592186044416 by rw [opn_len]; omega), if_pos (show (0 : Int) ≤ (st.length : Int) by omega), if_pos (show (st.length : Int) ≤ (st.length : Int) + 1 by omega)]
   congr 1
   funext t
   cases t with
   | false => rfl
   | true =>
    simp only [if_true]
    by_cases h3 : x.f0 = 3
    ·rw [if_pos h3, if_pos h3]
     by_cases hb : 100 < st.length + 1
     ·rw [if_pos hb, if_pos (by omega)]
     ·rw [if_neg hb, if_neg (by omega)]
    ·rw [if_neg h3, if_neg h3]
  ·refine Ev.bind (good_ev _ _ _ _ hbt.1 hbt.2) ?_
   simp only [runS]
   rw [show (⟨x.f0, x.f1, x.f2, x.f3⟩ : Dat) = toD x from rfl]
   cases hg : goodB (toD x) with
   | false => simpa using Ev.now false
   | true =>
    simp only [if_true]
    have ek : (toD x).k = x.f0 := rfl
    have ec : (toD x).c = x.f3 := rfl
    by_cases h3 : x.f0 = 3
    ·rw [ek, ec]
     simp only [if_pos h3]
     by_cases hb : 100 < st.length + 1
     ·simp only [if_pos hb]
      exact Ev.now _
     ·simp only [if_neg hb]
      by_cases hc : 0 < x.f3
      ·simp only [if_pos hc, if_pos (show x.f3 > 0 from hc)]
       have := ih (i + 1) (x.f3.toNat :: st) (by omega) (by omega) (by
        intro c hcm
        rcases List.mem_cons.1 hcm with rfl | hcm
        ·omega
        ·exact hlow c hcm) (by simp only [List.length_cons]; omega)
       rw [opn_cons, show ((x.f3.toNat : Nat) : Int) = x.f3 by omega] at this
       exact this
      ·simp only [if_neg hc, if_neg (show ¬ x.f3 > 0 from hc)]
       exact hpop st hlow hst
    ·rw [ek]
     simp only [if_neg h3]
     exact hpop st hlow hst
theorem valid_ev {l : List S57} (hl : Fits l) : Ev (fun k => impl_ValidData.f k l) (validD (l.map toD)) := by
 unfold validD
 rw [List.length_map]
 by_cases h : (l.length : Int) > 3000
 ·rw [decide_eq_false (by omega)]
  refine Ev.congr (fun k => ?_) (Ev.now false)
  unfold impl_ValidData.f
  rw [if_pos h]
 ·rw [decide_eq_true (by omega), Bool.true_and, ← runS_rows l.length (l.map toD) (by simp)]
  refine Ev.congr (fun k => ?_) (main_l0 hl l.length 0 [] (by omega) (by omega) (fun _ h => by cases h) (by simp))
  unfold impl_ValidData.f
  rw [if_neg h]
  rfl
end Go.Proofs.YtogmphjhdkgdjaaDoor.ImplVM
