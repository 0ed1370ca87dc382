/- What the specification's functions on modules (l1next, l1forms, l3insOK, ValidModule) come to: validM. -/
import Derived.Test.YtogmphjhdkgdjaaDoorZQFnExactValidModulex6
import Derived.Test.YtogmphjhdkgdjaaDoorZSpecVM
import Derived.Test.YtogmphjhdkgdjaaDoorZModA
namespace Go.Proofs.YtogmphjhdkgdjaaDoor.SpecMM
open Go.RowKit Go.Lib Go.Proofs.YtogmphjhdkgdjaaDoor.QFnExactValidModule Go.Proofs.YtogmphjhdkgdjaaDoorW.PrintWords Go.Proofs.YtogmphjhdkgdjaaDoorW.PrintLast
open Go.Proofs.YtogmphjhdkgdjaaDoor.SpecVM (toD Byt wrap_up rd_nat drop_cons Fits rdT_nat mem_getD drop_map)
set_option linter.unusedVariables false
set_option linter.unusedSimpArgs false
theorem next_l0 {l : List S57} (hl : l.length ≤ 1048576) (d : Nat) : ∀ (i n : Nat) (r : List Dat), l.length - i = d → i ≤ l.length → nextN ((l.map toD).drop i) n = some r → (∀ x ∈ l, 0 ≤ x.f3 ∧ x.f3 ≤ 9223372036854775807) →
    Ev (fun k => spec_l1next.l0 k l (i : Int) (n : Int)) ((l.length : Int) - r.length) := by
  induction d with
  | zero =>
    intro i n r hd hi hn hc
    rw [List.drop_eq_nil_of_le (by simp; omega)] at hn
    simp only [nextN] at hn
    split at hn
    · cases hn
      refine Ev.step (f := fun _ => some (i : Int)) (fun k => ?_) ?_
      · simp only [spec_l1next.l0]
        rw [if_neg (by omega)]
      · rw [show (l.length : Int) - (([] : List Dat).length : Int) = (i : Int) by simp; omega]
        exact Ev.now _
    · cases hn
  | succ d ih =>
    intro i n r hd hi hn hc
    have h : i < l.length := by omega
    have hdm := drop_map l i h
    rw [hdm] at hn
    simp only [nextN] at hn
    split at hn
    · rename_i h0
      cases hn
      refine Ev.step (f := fun _ => some (i : Int)) (fun k => ?_) ?_
      · simp only [spec_l1next.l0]
        rw [if_neg (by omega)]
      · rw [← hdm, List.length_drop, List.length_map, show (l.length : Int) - ((l.length - i : Nat) : Int) = (i : Int) by omega]
        exact Ev.now _
    · rename_i h0
      have hlen := nextN_len _ _ _ hn
      simp only [List.length_drop, List.length_map] at hlen
      obtain ⟨c0, c1⟩ := hc _ (mem_getD (z := z57) h)
      have hcc : (toD (l.getD i z57)).c = (l.getD i z57).f3 := rfl
      rw [hcc] at hn hlen
      refine Ev.step (f := fun k => spec_l1next.l0 k l ((i + 1 : Nat) : Int) ((n - 1 + (l.getD i z57).f3.toNat : Nat) : Int)) (fun k => ?_) (ih (i + 1) _ r (by omega) (by omega) hn hc)
      simp only [spec_l1next.l0]
      rw [if_pos (by omega), if_pos (by omega), if_pos (by omega), rdT_nat, wrap_up i (by omega)]
      congr 1
      rw [show wrap64 ((l.getD i z57).f3 - 1) = (l.getD i z57).f3 - 1 by unfold wrap64; omega]
      unfold wrap64
      omega
theorem next_ev {l : List S57} (hl : l.length ≤ 1048576) (hc : ∀ x ∈ l, 0 ≤ x.f3 ∧ x.f3 ≤ 9223372036854775807) (i : Nat) (hi : i < l.length) (r : List Dat) (he : endD 100 ((l.map toD).drop i) = some r) : Ev (fun k => spec_l1next.f k l (i : Int)) ((l.length : Int) - r.length) := by
  have hn : nextN ((l.map toD).drop (i + 1)) (l.getD i z57).f3.toNat = some r := by
    have := end_next 100 _ _ he 0
    rw [nextN_zero, drop_map l i hi, nextN, if_neg (by omega), show 0 + 1 - 1 + (toD (l.getD i z57)).c.toNat = (l.getD i z57).f3.toNat from by show 0 + 1 - 1 + (l.getD i z57).f3.toNat = _; omega] at this
    exact this
  refine Ev.congr (fun k => ?_) (next_l0 hl _ (i + 1) _ r rfl (by omega) hn hc)
  unfold spec_l1next.f
  obtain ⟨c0, c1⟩ := hc _ (mem_getD (z := z57) hi)
  rw [if_pos (by omega), if_pos (by omega), rdT_nat, wrap_up i (by omega), show (((l.getD i z57).f3.toNat : Nat) : Int) = (l.getD i z57).f3 by omega]
/-- In valid rows of data all counts are from 0 on. -/
theorem rows_cnt : ∀ (f : Nat) (l : List Dat), rowsF f l = true → ∀ d ∈ l, goodB d = true := by
  have kids : ∀ (m : Nat), (∀ l r, endD m l = some r → ∃ p, p ++ r = l ∧ ∀ d ∈ p, goodB d = true) → ∀ (c : Nat) (l r : List Dat), kidsF (endD m) c l = some r → ∃ p, p ++ r = l ∧ ∀ d ∈ p, goodB d = true := by
    intro m ih c
    induction c with
    | zero => intro l r h; simp only [kidsF, Option.some.injEq] at h; subst h; exact ⟨[], rfl, by simp⟩
    | succ c ihc =>
      intro l r h
      simp only [kidsF] at h
      cases hl : endD m l with
      | none => rw [hl] at h; cases h
      | some l1 =>
        rw [hl] at h
        obtain ⟨p, hp, hg⟩ := ih l l1 hl
        obtain ⟨q, hq, hg2⟩ := ihc l1 r h
        exact ⟨p ++ q, by rw [List.append_assoc, hq, hp], fun d hd => (List.mem_append.1 hd).elim (hg d) (hg2 d)⟩
  have ends : ∀ (m : Nat) (l r : List Dat), endD m l = some r → ∃ p, p ++ r = l ∧ ∀ d ∈ p, goodB d = true := by
    intro m
    induction m with
    | zero =>
      intro l r h
      cases l with
      | nil => simp [endD] at h
      | cons d l =>
        cases hg : goodB d with
        | false => rw [endD_bad _ _ hg] at h; cases h
        | true =>
          by_cases h3 : d.k = 3
          · rw [endD_zero _ h3] at h; cases h
          · rw [endD_atom _ _ hg h3] at h; cases h; exact ⟨[d], rfl, by simpa using hg⟩
    | succ m ih =>
      intro l r h
      cases l with
      | nil => simp [endD] at h
      | cons d l =>
        cases hg : goodB d with
        | false => rw [endD_bad _ _ hg] at h; cases h
        | true =>
          by_cases h3 : d.k = 3
          · rw [endD_list _ _ hg h3] at h
            obtain ⟨p, hp, hg2⟩ := kids m ih _ _ _ h
            exact ⟨d :: p, by rw [List.cons_append, hp], fun x hx => (List.mem_cons.1 hx).elim (fun e => e ▸ hg) (hg2 x)⟩
          · rw [endD_atom _ _ hg h3] at h; cases h; exact ⟨[d], rfl, by simpa using hg⟩
  intro f
  induction f with
  | zero => intro l h d hd; cases l with | nil => cases hd | cons => simp [rowsF] at h
  | succ f ih =>
    intro l h d hd
    cases l with
    | nil => cases hd
    | cons e l =>
      simp only [rowsF] at h
      cases he : endD 100 (e :: l) with
      | none => rw [he] at h; cases h
      | some r =>
        rw [he] at h
        obtain ⟨p, hp, hg⟩ := ends 100 _ _ he
        rw [← hp] at hd
        exact (List.mem_append.1 hd).elim (hg d) (ih r h d)
theorem good_cnt0 {d : Dat} (hg : goodB d = true) : 0 ≤ d.c := by
  by_cases h3 : d.k = 3
  · exact good_cnt hg h3
  · unfold goodB at hg
    split at hg
    · simp at hg; omega
    · split at hg
      · simp at hg; omega
      · split at hg
        · simp at hg; omega
        · simp at hg; exact absurd hg.1.1.1 h3
theorem forms_l0 {l : List S57} (hl : l.length ≤ 1048576) (hc : ∀ x ∈ l, 0 ≤ x.f3 ∧ x.f3 ≤ 9223372036854775807) : ∀ (f i : Nat) (acc : List Int), l.length - i ≤ f → i ≤ l.length → acc.length ≤ i → rowsF f ((l.map toD).drop i) = true →
    ∃ out : List Int, Ev (fun k => spec_l1forms.l0 k l acc (i : Int)) out ∧ out.length = acc.length + formsC f ((l.map toD).drop i) := by
  intro f
  induction f with
  | zero =>
    intro i acc hf hi ha hv
    rw [List.drop_eq_nil_of_le (by simp; omega)]
    refine ⟨acc, Ev.step (f := fun _ => some acc) (fun k => ?_) (Ev.now _), by simp [formsC]⟩
    simp only [spec_l1forms.l0]
    rw [if_neg (by omega)]
  | succ f ih =>
    intro i acc hf hi ha hv
    by_cases h : i < l.length
    · have hd := drop_map l i h
      have hR : rowsF (f + 1) ((l.map toD).drop i) = match endD 100 ((l.map toD).drop i) with | none => false | some r' => rowsF f r' := by rw [hd]; rfl
      have hF : formsC (f + 1) ((l.map toD).drop i) = match endD 100 ((l.map toD).drop i) with | none => 0 | some r' => formsC f r' + 1 := by rw [hd]; rfl
      rw [hR] at hv
      rw [hF]
      cases he : endD 100 ((l.map toD).drop i) with
      | none => rw [he] at hv; cases hv
      | some r =>
        rw [he] at hv
        simp only at hv ⊢
        have hr := endD_len 100 _ _ he
        simp only [List.length_drop, List.length_map] at hr
        obtain ⟨b, hb, hb2⟩ : ∃ b : Nat, (l.length : Int) - r.length = (b : Int) ∧ b ≤ l.length := ⟨l.length - r.length, by omega, by omega⟩
        have hrb : r = (l.map toD).drop b := by
          obtain ⟨p, hp⟩ := endD_suffix 100 _ _ he
          have hpl := congrArg List.length hp
          simp only [List.length_append, List.length_drop, List.length_map] at hpl
          have h2 : (l.map toD).drop b = ((l.map toD).drop i).drop (b - i) := by rw [List.drop_drop]; congr 1; omega
          rw [h2, ← hp, List.drop_append, List.drop_eq_nil_of_le (by omega), List.nil_append, show b - i - p.length = 0 by omega, List.drop_zero]
        obtain ⟨out, ho, hol⟩ := ih b (acc ++ [(i : Int)]) (by omega) hb2 (by simp; omega) (by rw [← hrb]; exact hv)
        refine ⟨out, Ev.step (f := fun k => (spec_l1next.f k l (i : Int)).bind fun t => spec_l1forms.l0 k l (acc ++ [(i : Int)]) t) (fun k => ?_) (Ev.bind (next_ev hl hc i h r he) (by rw [hb]; exact ho)), ?_⟩
        · simp only [spec_l1forms.l0]
          rw [if_pos (by omega), if_pos (by omega)]
        · rw [hol, ← hrb]
          simp only [List.length_append, List.length_cons, List.length_nil]
          omega
    · rw [List.drop_eq_nil_of_le (by simp; omega)]
      refine ⟨acc, Ev.step (f := fun _ => some acc) (fun k => ?_) (Ev.now _), by simp [formsC]⟩
      simp only [spec_l1forms.l0]
      rw [if_neg (by omega)]
theorem forms_ev {l : List S57} (hl : Fits l) (hv : validD (l.map toD) = true) : ∃ out : List Int, Ev (fun k => spec_l1forms.f k l) out ∧ (((out.length : Int) = 1) ↔ lastB (l.map toD) = true) := by
  have hr : rowsF (l.map toD).length (l.map toD) = true := by unfold validD at hv; simp only [Bool.and_eq_true] at hv; exact hv.2
  have hc : ∀ x ∈ l, 0 ≤ x.f3 ∧ x.f3 ≤ 9223372036854775807 := fun x hx => ⟨good_cnt0 (rows_cnt _ _ hr (toD x) (List.mem_map.2 ⟨x, hx, rfl⟩)), hl.cnt x hx⟩
  have hr0 : rowsF (l.map toD).length ((l.map toD).drop 0) = true := hr
  obtain ⟨out, ho, hol⟩ := forms_l0 hl.len hc (l.map toD).length 0 [] (by simp) (by omega) (by simp) hr0
  refine ⟨out, Ev.congr (fun k => ?_) ho, ?_⟩
  · unfold spec_l1forms.f
    rfl
  · rw [← forms_one hr]
    simp only [List.length_nil, Nat.zero_add, List.drop_zero] at hol
    rw [hol]
    simp
    omega
/-! ### instructions -/
theorem range_ev (v n : Int) : spec_l3range.f v n = some (decide (0 ≤ v) && decide (v < n)) := by
  unfold spec_l3range.f
  by_cases h : v ≥ 0
  · rw [if_pos h, decide_eq_true (show 0 ≤ v from h), Bool.true_and]
  · rw [if_neg h, decide_eq_false (show ¬ 0 ≤ v from h), Bool.false_and]
theorem lt_le (v n : Int) : decide (v < n + 1) = decide (v ≤ n) := by rw [decide_eq_decide]; omega
theorem lt_sub (v n : Int) : decide (v < n) = decide (v ≤ n - 1) := by rw [decide_eq_decide]; omega
def insP (x : S71) : InsP := ⟨x.f0, x.f1, x.f2⟩
def funP (x : S68) : FunP := ⟨x.f0, x.f1, x.f2.map insP⟩
theorem rd8_nat (l : List S68) (i : Nat) : rd_T68 l (i : Int) = l.getD i z68 := rfl
theorem rd1_nat (l : List S71) (i : Nat) : rd_T71 l (i : Int) = l.getD i z71 := rfl
theorem ins_ev (k : Nat) (cs : List (List S57)) (g : Int) (fs : List S68) (p : Int) (fr : List Bool) (code : List S71) (op a b : Int) (hg0 : 0 ≤ g) (hg1 : g ≤ 200) :
    spec_l3insOK.f (k + 4) cs g fs p fr code op a b = some (insW cs.length fs.length fr.length code.length ((rd_T68 fs a).f1.length : Int) g op a b) := by
  have hw : wrap64 (g - 1) = g - 1 := by unfold wrap64; omega
  unfold insW
  rw [hw]
  by_cases h : 0 ≤ op ∧ op ≤ 17
  · rw [if_pos h]
    have e1 : spec_l3insOK.f (k + 4) cs g fs p fr code op a b = spec_l3insOK.j0 (k + 4) false cs g fs p fr code op a b := by
      unfold spec_l3insOK.f
      rw [if_neg (by omega), decide_eq_false (by omega)]
    rw [e1]
    have hc : op = 0 ∨ op = 1 ∨ op = 2 ∨ op = 3 ∨ op = 4 ∨ op = 5 ∨ op = 6 ∨ op = 7 ∨ op = 8 ∨ op = 9 ∨ op = 10 ∨ op = 11 ∨ op = 12 ∨ op = 13 ∨ op = 14 ∨ op = 15 ∨ op = 16 ∨ op = 17 := by omega
    clear h e1
    by_cases h8 : op = 8
    · subst h8
      rw [if_pos rfl]
      simp only [spec_l3insOK.j0, Bool.false_eq_true, if_false, if_true]
      by_cases a1 : a ≥ 1
      · by_cases a2 : a < (fs.length : Int)
        · rw [if_pos a1, if_pos a2, if_pos (by omega), decide_eq_true (show 1 ≤ a from a1), decide_eq_true (by omega : a ≤ (fs.length : Int) - 1)]
          rfl
        · rw [if_pos a1, if_neg a2, decide_eq_false (by omega : ¬ a ≤ (fs.length : Int) - 1), Bool.and_false, Bool.false_and]
      · rw [if_neg a1, decide_eq_false (show ¬ 1 ≤ a from a1), Bool.false_and, Bool.false_and]
    · rw [if_neg h8]
      by_cases hb : b = 0
      · subst hb
        rcases hc with rfl | rfl | rfl | rfl | rfl | rfl | rfl | rfl | rfl | rfl | rfl | rfl | rfl | rfl | rfl | rfl | rfl | rfl
        all_goals first | exact absurd rfl h8 | skip
        all_goals simp [spec_l3insOK.j0, spec_l3insOK.j1, spec_l3insOK.j2, spec_l3insOK.j3, range_ev]
        all_goals first
          | done
          | (congr 1; rw [decide_eq_decide]; omega)
          | (rw [lt_sub]; done)
          | (by_cases a0 : a = 0
             · simp [a0]
             · rw [if_neg a0]
               congr 1
               rw [Bool.eq_iff_iff]
               simp
               omega)
      · rw [if_pos hb]
        simp only [spec_l3insOK.j0, Bool.false_eq_true, if_false]
        rw [if_neg h8, if_neg hb]
  · rw [if_neg h]
    have : spec_l3insOK.f (k + 4) cs g fs p fr code op a b = spec_l3insOK.j0 (k + 4) true cs g fs p fr code op a b := by
      unfold spec_l3insOK.f
      by_cases h0 : op < 0
      · rw [if_pos h0]
      · rw [if_neg h0, decide_eq_true (by omega)]
    rw [this]
    simp only [spec_l3insOK.j0, if_true]
theorem ins_Ev (cs : List (List S57)) (g : Int) (fs : List S68) (p : Int) (fr : List Bool) (code : List S71) (op a b : Int) (hg0 : 0 ≤ g) (hg1 : g ≤ 200) :
    Ev (fun k => spec_l3insOK.f k cs g fs p fr code op a b) (insW cs.length fs.length fr.length code.length ((rd_T68 fs a).f1.length : Int) g op a b) :=
  ⟨4, fun n hn => by obtain ⟨m, rfl⟩ : ∃ m, n = m + 4 := ⟨n - 4, by omega⟩; exact ins_ev m cs g fs p fr code op a b hg0 hg1⟩
/-! ### modules -/
structure FitsM (cs : List (List S57)) (fs : List S68) : Prop where
  clen : cs.length ≤ 1048576
  con : ∀ c ∈ cs, Fits c
  flen : fs.length ≤ 1048576
  fun_ : ∀ f ∈ fs, f.f1.length ≤ 1048576 ∧ f.f2.length ≤ 1048576
def conP (cs : List (List S57)) : List (List Dat) := cs.map fun c => c.map toD
theorem rdL_nat (cs : List (List S57)) (i : Nat) : rd_L14 cs (i : Int) = cs.getD i [] := rfl
theorem conP_drop (cs : List (List S57)) (i : Nat) (h : i < cs.length) : (conP cs).drop i = (cs.getD i []).map toD :: (conP cs).drop (i + 1) := by
  unfold conP
  rw [← List.map_drop, drop_cons cs i [] h, List.map_cons, List.map_drop]
theorem funs_drop (fs : List S68) (i : Nat) (h : i < fs.length) : (fs.map funP).drop i = funP (fs.getD i z68) :: (fs.map funP).drop (i + 1) := by
  rw [← List.map_drop, drop_cons fs i z68 h, List.map_cons, List.map_drop]
section
variable {cs : List (List S57)} {g : Int} {fs : List S68} (hM : FitsM cs fs)
include hM
/-- The instructions of one function, then the next one. -/
theorem code_l3 (hg0 : 0 ≤ g) (hg1 : g ≤ 200) (R : Bool) (i : Nat) (hi : i < fs.length) (hR : Ev (fun k => spec_ValidModule.l2 k ((i + 1 : Nat) : Int) cs g fs) R) (d : Nat) : ∀ (j : Nat), (fs.getD i z68).f2.length - j = d → j ≤ (fs.getD i z68).f2.length →
    Ev (fun k => spec_ValidModule.l3 k (i : Int) (j : Int) cs g fs (fs.getD i z68).f0 (fs.getD i z68).f1 (fs.getD i z68).f2) ((((funP (fs.getD i z68)).code.drop j).all (insOkB (conP cs).length g (fs.map funP) (funP (fs.getD i z68)))) && R) := by
  have hf := hM.fun_ _ (mem_getD (z := z68) hi)
  have hfl := hM.flen
  obtain ⟨f, hfe⟩ : ∃ f, fs.getD i z68 = f := ⟨_, rfl⟩
  rw [hfe] at hf ⊢
  induction d with
  | zero =>
    intro j hd hj
    rw [List.drop_eq_nil_of_le (by simp [funP]; omega), List.all_nil, Bool.true_and]
    refine Ev.step (fun k => ?_) hR
    simp only [spec_ValidModule.l3]
    rw [if_neg (by omega), wrap_up i (by omega)]
  | succ d ih =>
    intro j hd hj
    have hlt : j < f.f2.length := by omega
    have hdr : (funP f).code.drop j = insP (f.f2.getD j z71) :: (funP f).code.drop (j + 1) := by
      show (f.f2.map insP).drop j = insP (f.f2.getD j z71) :: (f.f2.map insP).drop (j + 1)
      rw [← List.map_drop, drop_cons f.f2 j z71 hlt, List.map_cons, List.map_drop]
    have hb : insOkB (conP cs).length g (fs.map funP) (funP f) (insP (f.f2.getD j z71)) = insW cs.length fs.length f.f1.length f.f2.length ((rd_T68 fs (f.f2.getD j z71).f1).f1.length : Int) g (f.f2.getD j z71).f0 (f.f2.getD j z71).f1 (f.f2.getD j z71).f2 := by
      unfold insOkB freeOf
      have e : ((fs.map funP).getD (f.f2.getD j z71).f1.toNat ⟨0, [], []⟩).free.length = (rd_T68 fs (f.f2.getD j z71).f1).f1.length := by
        show _ = (fs.getD (f.f2.getD j z71).f1.toNat z68).f1.length
        rw [List.getD_eq_getElem?_getD, List.getD_eq_getElem?_getD (l := fs), List.getElem?_map]
        cases fs[(f.f2.getD j z71).f1.toNat]? <;> rfl
      show insW (conP cs).length (fs.map funP).length f.f1.length (f.f2.map insP).length (((fs.map funP).getD (f.f2.getD j z71).f1.toNat ⟨0, [], []⟩).free.length : Int) g _ _ _ = _
      rw [e, List.length_map, List.length_map]
      unfold conP
      rw [List.length_map]
      rfl
    rw [hdr, List.all_cons, hb]
    refine Ev.step (f := fun k => (spec_l3insOK.f k cs g fs f.f0 f.f1 f.f2 (f.f2.getD j z71).f0 (f.f2.getD j z71).f1 (f.f2.getD j z71).f2).bind fun t => if t = true then spec_ValidModule.l3 k (i : Int) ((j + 1 : Nat) : Int) cs g fs f.f0 f.f1 f.f2 else some false) (fun k => ?_) ?_
    · simp only [spec_ValidModule.l3]
      rw [if_pos (by omega), if_pos (by omega), rd1_nat, wrap_up j (by omega)]
    · refine Ev.bind (ins_Ev cs g fs f.f0 f.f1 f.f2 _ _ _ hg0 hg1) ?_
      cases insW cs.length fs.length f.f1.length f.f2.length ((rd_T68 fs (f.f2.getD j z71).f1).f1.length : Int) g (f.f2.getD j z71).f0 (f.f2.getD j z71).f1 (f.f2.getD j z71).f2 with
      | true => simpa using ih (j + 1) (by omega) (by omega)
      | false => simpa using Ev.now false
theorem funs_l2 (hg0 : 0 ≤ g) (hg1 : g ≤ 200) (d : Nat) : ∀ i : Nat, fs.length - i = d → i ≤ fs.length → Ev (fun k => spec_ValidModule.l2 k (i : Int) cs g fs) (((fs.map funP).drop i).all (codeB (conP cs).length g (fs.map funP))) := by
  have hfl := hM.flen
  induction d with
  | zero =>
    intro i hd hi
    rw [List.drop_eq_nil_of_le (by simp; omega)]
    refine Ev.step (f := fun _ => some true) (fun k => ?_) (Ev.now _)
    simp only [spec_ValidModule.l2]
    rw [if_neg (by omega)]
  | succ d ih =>
    intro i hd hi
    have hlt : i < fs.length := by omega
    rw [funs_drop fs i hlt, List.all_cons]
    have := code_l3 hM hg0 hg1 _ i hlt (ih (i + 1) (by omega) (by omega)) _ 0 rfl (by omega)
    refine Ev.step (fun k => ?_) (show Ev (fun k => spec_ValidModule.l3 k (i : Int) ((0 : Nat) : Int) cs g fs (fs.getD i z68).f0 (fs.getD i z68).f1 (fs.getD i z68).f2) _ from this)
    simp only [spec_ValidModule.l2]
    rw [if_pos (by omega), if_pos (by omega), rd8_nat]
    rfl
theorem funs_l1 (hg0 : 0 ≤ g) (hg1 : g ≤ 200) (h1 : 1 ≤ fs.length) (d : Nat) : ∀ i acc : Nat, fs.length - i = d → i ≤ fs.length → acc ≤ 5000 →
    Ev (fun k => spec_ValidModule.l1 k (acc : Int) (i : Int) cs g fs) (funcsB acc ((fs.map funP).drop i) && (mainB (fs.map funP) && (fs.map funP).all (codeB (conP cs).length g (fs.map funP)))) := by
  have hfl := hM.flen
  induction d with
  | zero =>
    intro i acc hd hi hacc
    rw [List.drop_eq_nil_of_le (by simp; omega)]
    simp only [funcsB, Bool.true_and]
    have hmain : mainB (fs.map funP) = ((fs.getD 0 z68).f0 == 0 && (fs.getD 0 z68).f1.isEmpty) := by
      unfold mainB
      obtain ⟨f, r, rfl⟩ : ∃ f r, fs = f :: r := by cases fs with | nil => simp at h1 | cons f r => exact ⟨f, r, rfl⟩
      rfl
    rw [hmain]
    have hall := funs_l2 hM hg0 hg1 fs.length 0 (by omega) (by omega)
    rw [List.drop_zero] at hall
    have hj : ∀ b : Bool, Ev (fun k => spec_ValidModule.j3 k b cs g fs) (!b && (fs.map funP).all (codeB (conP cs).length g (fs.map funP))) := by
      intro b
      cases b with
      | true => exact Ev.step (f := fun _ => some false) (fun k => by simp only [spec_ValidModule.j3, if_true]) (Ev.now _)
      | false => exact Ev.step (f := fun k => spec_ValidModule.l2 k ((0 : Nat) : Int) cs g fs) (fun k => by simp only [spec_ValidModule.j3, Bool.false_eq_true, if_false]; rfl) (by simpa using hall)
    by_cases h0 : (fs.getD 0 z68).f0 = 0
    · refine Ev.step (f := fun k => spec_ValidModule.j3 k ((((fs.getD 0 z68).f1).length : Int) != 0) cs g fs) (fun k => ?_) ?_
      · simp only [spec_ValidModule.l1]
        rw [if_neg (by omega), if_pos (by omega), show rd_T68 fs 0 = fs.getD 0 z68 from rfl, if_pos h0]
      · have := hj ((((fs.getD 0 z68).f1).length : Int) != 0)
        have e : (!((((fs.getD 0 z68).f1).length : Int) != 0)) = ((fs.getD 0 z68).f0 == 0 && (fs.getD 0 z68).f1.isEmpty) := by
          rw [h0]
          generalize (fs.getD 0 z68).f1 = l
          cases l with
          | nil => rfl
          | cons a l =>
            rw [show ((((a :: l).length : Nat) : Int) != 0) = true by simp; omega]
            rfl
        rw [e] at this
        exact this
    · refine Ev.step (f := fun k => spec_ValidModule.j3 k true cs g fs) (fun k => ?_) ?_
      · simp only [spec_ValidModule.l1]
        rw [if_neg (by omega), if_pos (by omega), show rd_T68 fs 0 = fs.getD 0 z68 from rfl, if_neg h0]
      · rw [show ((fs.getD 0 z68).f0 == 0) = false by simpa using h0]
        simpa using hj true
  | succ d ih =>
    intro i acc hd hi hacc
    have hlt : i < fs.length := by omega
    have hf := hM.fun_ _ (mem_getD (z := z68) hlt)
    rw [funs_drop fs i hlt]
    obtain ⟨f, hfe⟩ : ∃ f, fs.getD i z68 = f := ⟨_, rfl⟩
    rw [hfe] at hf ⊢
    have el : (funP f).code.length = f.f2.length := by simp [funP]
    simp only [funcsB]
    rw [el, show (funP f).p = f.f0 from rfl, show (funP f).free = f.f1 from rfl]
    have hgo : ∀ k, spec_ValidModule.l1 (k + 1) (acc : Int) (i : Int) cs g fs = if f.f0 < 0 then some false else if f.f0 > 20 then some false else if (f.f1.length : Int) > 50 then some false else if (f.f2.length : Int) < 1 then some false else if ((acc + f.f2.length : Nat) : Int) > 5000 then some false else spec_ValidModule.l1 k ((acc + f.f2.length : Nat) : Int) ((i + 1 : Nat) : Int) cs g fs := by
      intro k
      simp only [spec_ValidModule.l1]
      rw [if_pos (by omega), if_pos (by omega), rd8_nat, hfe, wrap_up i (by omega), show wrap64 ((acc : Int) + (f.f2.length : Int)) = ((acc + f.f2.length : Nat) : Int) by unfold wrap64; omega]
    by_cases c1 : f.f0 < 0
    · rw [decide_eq_false (show ¬ 0 ≤ f.f0 by omega)]
      exact Ev.step (f := fun _ => some false) (fun k => by rw [hgo, if_pos c1]) (by simpa using Ev.now false)
    rw [decide_eq_true (show 0 ≤ f.f0 by omega)]
    by_cases c2 : f.f0 > 20
    · rw [decide_eq_false (show ¬ f.f0 ≤ 20 by omega)]
      exact Ev.step (f := fun _ => some false) (fun k => by rw [hgo, if_neg c1, if_pos c2]) (by simpa using Ev.now false)
    rw [decide_eq_true (show f.f0 ≤ 20 by omega)]
    by_cases c3 : (f.f1.length : Int) > 50
    · rw [decide_eq_false (show ¬ f.f1.length ≤ 50 by omega)]
      exact Ev.step (f := fun _ => some false) (fun k => by rw [hgo, if_neg c1, if_neg c2, if_pos c3]) (by simpa using Ev.now false)
    rw [decide_eq_true (show f.f1.length ≤ 50 by omega)]
    by_cases c4 : (f.f2.length : Int) < 1
    · rw [decide_eq_false (show ¬ 1 ≤ f.f2.length by omega)]
      exact Ev.step (f := fun _ => some false) (fun k => by rw [hgo, if_neg c1, if_neg c2, if_neg c3, if_pos c4]) (by simpa using Ev.now false)
    rw [decide_eq_true (show 1 ≤ f.f2.length by omega)]
    by_cases c5 : ((acc + f.f2.length : Nat) : Int) > 5000
    · rw [decide_eq_false (show ¬ acc + f.f2.length ≤ 5000 by omega)]
      exact Ev.step (f := fun _ => some false) (fun k => by rw [hgo, if_neg c1, if_neg c2, if_neg c3, if_neg c4, if_pos c5]) (by simpa using Ev.now false)
    rw [decide_eq_true (show acc + f.f2.length ≤ 5000 by omega)]
    have := ih (i + 1) (acc + f.f2.length) (by omega) (by omega) (by omega)
    refine Ev.step (f := fun k => spec_ValidModule.l1 k ((acc + f.f2.length : Nat) : Int) ((i + 1 : Nat) : Int) cs g fs) (fun k => by rw [hgo, if_neg c1, if_neg c2, if_neg c3, if_neg c4, if_neg c5]) ?_
    simpa using this
theorem cons_l0 (R : Bool) (hR : Ev (fun k => spec_ValidModule.l1 k 0 0 cs g fs) R) (d : Nat) : ∀ i acc : Nat, cs.length - i = d → i ≤ cs.length → acc ≤ 3000 → Ev (fun k => spec_ValidModule.l0 k (acc : Int) (i : Int) cs g fs) (constsB acc ((conP cs).drop i) && R) := by
  have hcl := hM.clen
  induction d with
  | zero =>
    intro i acc hd hi hacc
    rw [List.drop_eq_nil_of_le (by simp [conP]; omega)]
    simp only [constsB, Bool.true_and]
    refine Ev.step (fun k => ?_) hR
    simp only [spec_ValidModule.l0]
    rw [if_neg (by omega)]
  | succ d ih =>
    intro i acc hd hi hacc
    have hlt : i < cs.length := by omega
    have hc := hM.con _ (mem_getD (z := []) hlt)
    rw [conP_drop cs i hlt]
    obtain ⟨c, hce⟩ : ∃ c, cs.getD i [] = c := ⟨_, rfl⟩
    rw [hce] at hc ⊢
    have hcl2 := hc.len
    simp only [constsB, List.length_map]
    have hgo : ∀ k, spec_ValidModule.l0 (k + 1) (acc : Int) (i : Int) cs g fs = if ((acc + c.length : Nat) : Int) > 3000 then some false else (spec_ValidData.f k c).bind fun t => if t = true then (spec_l1forms.f k c).bind fun u => if (u.length : Int) = 1 then spec_ValidModule.l0 k ((acc + c.length : Nat) : Int) ((i + 1 : Nat) : Int) cs g fs else some false else some false := by
      intro k
      simp only [spec_ValidModule.l0]
      rw [if_pos (by omega), if_pos (by omega), rdL_nat, hce, wrap_up i (by omega), show wrap64 ((acc : Int) + (c.length : Int)) = ((acc + c.length : Nat) : Int) by unfold wrap64; omega]
    by_cases c1 : ((acc + c.length : Nat) : Int) > 3000
    · rw [if_pos (by omega)]
      exact Ev.step (f := fun _ => some false) (fun k => by rw [hgo, if_pos c1]) (by simpa using Ev.now false)
    · rw [if_neg (by omega)]
      refine Ev.step (fun k => by rw [hgo, if_neg c1]) (Ev.bind (SpecVM.valid_ev hc) ?_)
      unfold oneB
      cases hv : validD (c.map toD) with
      | false => simpa using Ev.now false
      | true =>
        simp only [if_true, Bool.true_and]
        obtain ⟨out, ho, hiff⟩ := forms_ev hc hv
        refine Ev.bind ho ?_
        by_cases h1 : (out.length : Int) = 1
        · rw [hiff.1 h1]
          simp only [if_pos h1, Bool.true_and]
          exact ih (i + 1) (acc + c.length) (by omega) (by omega) (by omega)
        · have : lastB (c.map toD) = false := by
            cases hb : lastB (c.map toD) with
            | false => rfl
            | true => exact absurd (hiff.2 hb) h1
          rw [this]
          simp only [if_neg h1, Bool.false_and]
          exact Ev.now _
theorem valid_ev : Ev (fun k => spec_ValidModule.f k cs g fs) (validM (conP cs) g (fs.map funP)) := by
  have hcl := hM.clen
  have hfl := hM.flen
  have ht : Ev (fun k => spec_ValidModule.j0 k true cs g fs) false := Ev.step (f := fun _ => some false) (fun k => by simp only [spec_ValidModule.j0, if_true]) (Ev.now _)
  have el : (conP cs).length = cs.length := by simp [conP]
  unfold validM
  rw [List.length_map, el]
  by_cases c1 : (fs.length : Int) < 1
  · rw [decide_eq_false (show ¬ 1 ≤ fs.length by omega)]
    refine Ev.congr (fun k => ?_) (by simpa using ht)
    unfold spec_ValidModule.f
    rw [if_pos c1]
  rw [decide_eq_true (show 1 ≤ fs.length by omega)]
  by_cases c2 : (fs.length : Int) > 200
  · rw [decide_eq_false (show ¬ fs.length ≤ 200 by omega)]
    refine Ev.congr (fun k => ?_) (by simpa using ht)
    unfold spec_ValidModule.f
    rw [if_neg c1, if_pos c2]
  rw [decide_eq_true (show fs.length ≤ 200 by omega)]
  by_cases c3 : (cs.length : Int) > 500
  · rw [decide_eq_false (show ¬ cs.length ≤ 500 by omega)]
    refine Ev.congr (fun k => ?_) (by simpa using ht)
    unfold spec_ValidModule.f
    rw [if_neg c1, if_neg c2, if_pos c3]
  rw [decide_eq_true (show cs.length ≤ 500 by omega)]
  by_cases c4 : g < 0
  · rw [decide_eq_false (show ¬ 0 ≤ g by omega)]
    refine Ev.congr (fun k => ?_) (by simpa using ht)
    unfold spec_ValidModule.f
    rw [if_neg c1, if_neg c2, if_neg c3, if_pos c4]
  rw [decide_eq_true (show 0 ≤ g by omega)]
  by_cases c5 : g > 200
  · rw [decide_eq_false (show ¬ g ≤ 200 by omega)]
    refine Ev.congr (fun k => ?_) (by simpa using ht)
    unfold spec_ValidModule.f
    rw [if_neg c1, if_neg c2, if_neg c3, if_neg c4, decide_eq_true c5]
  rw [decide_eq_true (show g ≤ 200 by omega)]
  have h1 := funs_l1 hM (show 0 ≤ g by omega) (show g ≤ 200 by omega) (by omega) fs.length 0 0 (by omega) (by omega) (by omega)
  have h0 := cons_l0 hM _ h1 cs.length 0 0 (by omega) (by omega) (by omega)
  rw [List.drop_zero, List.drop_zero, el] at h0
  refine Ev.congr (f := fun k => spec_ValidModule.j0 k false cs g fs) (fun k => ?_) (Ev.step (f := fun k => spec_ValidModule.l0 k ((0 : Nat) : Int) ((0 : Nat) : Int) cs g fs) (fun k => by simp only [spec_ValidModule.j0, Bool.false_eq_true, if_false]; rfl) (by simpa using h0))
  unfold spec_ValidModule.f
  rw [if_neg c1, if_neg c2, if_neg c3, if_neg c4, decide_eq_false c5]
end
end Go.Proofs.YtogmphjhdkgdjaaDoor.SpecMM
