/- The program's reader: take, number. -/
import Derived.Test.YtogmphjhdkgdjaaDoorDiP
import Derived.Deep.AppendLies
namespace Go.Proofs.YtogmphjhdkgdjaaDoor
open Go.RowKit Go.Proofs.YtogmphjhdkgdjaaDoorW.PrintWords Go.Proofs.YtogmphjhdkgdjaaDoor.QFnExactValidModule
set_option linter.unusedVariables false
set_option linter.unusedSimpArgs false
/-- What is thrown where an image ends too early. -/
def torns : List PanicEntry := [{ v := .iface 133 (.agg #[]), recovered := false }]
/-- The reader in R has l before it. -/
def RdI (w0 : World) (R : Nat) (l : List Int) (w : World) : Prop := ∃ A c, w.heap[R]? = some (.cells #[.slice A l.length c] 104 (0, 0)) ∧ Kd.C (Kd.int .u8) w0 A l.length l ∧ l.length ≤ c
theorem RdI.old {w0 : World} {R : Nat} {l : List Int} {w w' : World} (h : RdI w0 R l w) (hk : w'.heap[R]? = w.heap[R]?) : RdI w0 R l w' := by
  obtain ⟨A, c, h1, h2⟩ := h
  exact ⟨A, c, hk.trans h1, h2⟩
/-- What a reader's step answers: what p reads, or the throw. -/
def PPost {α : Type} (w0 : World) (R : Nat) (p : Ps α) (l : List Int) (w : World) (ret : α → World → Value → Prop) (e : Ending) (w' : World) : Prop :=
  Rk w0 R w w' ∧ ((∃ x l' v, p l = some (x, l') ∧ e = .returned v ∧ ret x w' v ∧ RdI w0 R l' w') ∨ (p l = none ∧ e = .panicked torns))
def retT (w0 : World) (x : List Int) (w : World) (v : Value) : Prop := ∃ A c, v = .slice A x.length c ∧ Kd.C (Kd.int .u8) w0 A x.length x ∧ x.length ≤ c
theorem head_C {w : World} {A : Option Addr} {l : List Int} (h : Kd.C (Kd.int .u8) w A l.length l) (n : Nat) (hn : n ≤ l.length) : Kd.C (Kd.int .u8) w A (l.take n).length (l.take n) := by
  have hm := h.2.1
  refine mk_C (by rw [List.length_take]; omega) fun j hj => ?_
  rw [List.length_take] at hj
  obtain ⟨ad, e1, e2⟩ := at_byte h j (by omega)
  refine ⟨ad, e1, ?_⟩
  rw [e2, List.getD_eq_getElem?_getD, List.getD_eq_getElem?_getD, List.getElem?_take, if_pos (by omega)]
set_option maxHeartbeats 4000000 in
set_option maxRecDepth 100000 in
theorem take_calls (w0 : World) (R n : Nat) (l : List Int) (w : World) (h : RdI w0 R l w) (hBR : w0.heap.size ≤ R) (hn : n ≤ 1048576) (hl : l.length ≤ 1048576) :
    Calls Tryd.prog 86 #[.pointer (some ⟨R, 0, none⟩), .int .i64 n] w (fun e w' => PPost w0 R (txtP n) l w (retT w0) e w' ∧ w'.heap.size = w.heap.size) := by
  obtain ⟨A, c, h1, h2, h3⟩ := h
  have c0 : w.cell? ⟨R, 0, none⟩ = some (.slice A l.length c) := by simp [World.cell?, h1]
  have f0 : w.frozen? ⟨R, 0, none⟩ = false := by simp [World.frozen?, h1]
  have hRl : R < w.heap.size := blk_lt2 h1
  have H1 := Lib.hid h1
  have H2 := Lib.hid h2
  obtain ⟨i0, hi, hz0, hz1, hz2⟩ := info_parts byteInfo
  have hu := Tryd.underlying133
  clear h1 h2
  by_cases hfit : n ≤ l.length
  · have hg : ¬ ((l.length : Int) < (n : Int)) := by omega
    have hsl := cut_to (P := Tryd.prog) 42 5 .i64 Tryd.underlying42 hi A l.length c (n : Int) (by omega) (by omega) h3
    have hsf := cut_from (P := Tryd.prog) 42 5 .i64 Tryd.underlying42 hi 1 hz1 A l.length c (n : Int) (by omega) (by omega)
    rw [Int.toNat_natCast] at hsl hsf
    obtain ⟨A2, hA2⟩ : ∃ A2, A2 = (if c = n then A else A.map (·.add (n * 1))) := ⟨_, rfl⟩
    rw [← hA2] at hsf
    have HA2 := Lib.hid hA2
    clear hA2
    go_enter Tryd.func86, Tryd.ntmps86
    go_wp2_with fail
    go_ret
    refine ⟨⟨(Rk.refl _ _ _).rd hBR 0 0 _, Or.inl ⟨l.take n, l.drop n, .slice A n c, if_pos hfit, rfl, ⟨A, c, by rw [List.length_take, Nat.min_eq_left hfit], head_C H2.out n hfit, by rw [List.length_take]; omega⟩, A2, c - n, ?_, ?_, by rw [List.length_drop]; omega⟩⟩, by simp [World.setCell]⟩
    · have := Go.Joins.block_setCell (i := 0) H1.out (.slice A2 (l.length - n) (c - n))
      rw [List.length_drop]
      simpa using this
    · have h4 := sub_C H2.out h3 n (l.length - n) (by omega)
      rw [← HA2.out, List.take_of_length_le (by rw [List.length_drop]; exact Nat.le_refl _)] at h4
      exact h4
  · have hg : (l.length : Int) < (n : Int) := by omega
    go_enter Tryd.func86, Tryd.ntmps86
    go_wp2_with fail
    exact ⟨rfl, ⟨Rk.refl _ _ _, Or.inr ⟨if_neg hfit, rfl⟩⟩, rfl⟩
/-- A number's loop: the bytes so far, the next one laid above. -/
theorem or_step {x c s : Nat} (hx : x < 2 ^ s) (hc : c < 256) (hs : s + 8 ≤ 64) : bits .or .i64 (x : Int) (w64 ((c * 2 ^ s : Nat) : Int)) = w64 ((x + c * 2 ^ s : Nat) : Int) := by
  have h1 : c * 2 ^ s < 2 ^ 64 := by
    have h2 : c * 2 ^ s < 256 * 2 ^ s := Nat.mul_lt_mul_of_pos_right hc (Nat.two_pow_pos s)
    have h3 : (256 : Nat) * 2 ^ s = 2 ^ (s + 8) := by rw [Nat.pow_add]; omega
    have h4 : (2 : Nat) ^ (s + 8) ≤ 2 ^ 64 := Nat.pow_le_pow_right (by omega) hs
    omega
  have h0 : (2 : Nat) ^ s ≤ 2 ^ 64 := Nat.pow_le_pow_right (by omega) (by omega)
  have ea : (BitVec.ofInt 64 (x : Int)).toNat = x := by
    rw [BitVec.toNat_ofInt]
    omega
  have eb : (BitVec.ofInt 64 (w64 ((c * 2 ^ s : Nat) : Int))).toNat = c * 2 ^ s := by
    rw [BitVec.toNat_ofInt]
    unfold w64
    omega
  have eo : (BitVec.ofInt 64 (x : Int) ||| BitVec.ofInt 64 (w64 ((c * 2 ^ s : Nat) : Int))).toNat = x + c * 2 ^ s := by
    rw [BitVec.toNat_or, ea, eb, Nat.or_comm, Nat.mul_comm c, ← Nat.two_pow_add_eq_or_of_lt hx]
    omega
  show IntKind.i64.wrap (((BitVec.ofInt 64 (x : Int) ||| BitVec.ofInt 64 (w64 ((c * 2 ^ s : Nat) : Int))).toNat : Nat) : Int) = _
  rw [eo]
  simp [IntKind.wrap, IntKind.bits, IntKind.signed, w64]
  split <;> omega
theorem leN_snoc : ∀ (a : List Int) (u : Int), leN (a ++ [u]) = leN a + u * 256 ^ a.length
  | [], u => by simp [leN]
  | x :: a, u => by
    have h := leN_snoc a u
    have e : (256 : Int) ^ (a.length + 1) = 256 ^ a.length * 256 := Int.pow_succ _ _
    have e2 : u * (256 ^ a.length * 256) = 256 * (u * 256 ^ a.length) := by rw [← Int.mul_assoc, Int.mul_comm]
    simp only [List.cons_append, leN, h, List.length_cons, e, e2]
    omega
theorem num_or {y u : Int} {i : Nat} {t : List Int} (hy : y = w64 (leN (t.take i))) (htu : t[i]? = some u) (hb : Bys t) (hi : i ≤ 7) : bits .or .i64 y (wrap64 (u * 2 ^ (8 * i))) = w64 (leN (t.take (i + 1))) := by
  have hlt := (List.getElem?_eq_some_iff.1 htu).1
  have hl : (t.take i).length = i := by rw [List.length_take]; omega
  obtain ⟨b0, b1⟩ := leN_bound (t.take i) (hb.take i)
  rw [hl] at b1
  obtain ⟨u0, u1⟩ := hb u (List.mem_of_getElem? htu)
  obtain ⟨x, hx⟩ : ∃ x : Nat, leN (t.take i) = (x : Int) := ⟨(leN (t.take i)).toNat, by omega⟩
  obtain ⟨c, hc⟩ : ∃ c : Nat, u = (c : Int) := ⟨u.toNat, by omega⟩
  have e256 : (256 : Nat) ^ i = 2 ^ (8 * i) := by rw [Nat.pow_mul]
  have hx2 : x < 2 ^ (8 * i) := by
    rw [← e256]
    have : ((x : Nat) : Int) < ((256 ^ i : Nat) : Int) := by rw [← hx, Int.natCast_pow]; exact b1
    exact Int.ofNat_lt.1 this
  have hp7 := pow_le7 (m := i) hi
  have hxs : w64 (x : Int) = x := by unfold w64; omega
  have e1 : u * 2 ^ (8 * i) = ((c * 2 ^ (8 * i) : Nat) : Int) := by rw [hc, Int.natCast_mul, Int.natCast_pow]; rfl
  have e2 : leN (t.take (i + 1)) = ((x + c * 2 ^ (8 * i) : Nat) : Int) := by
    rw [List.take_add_one, htu]
    show leN (t.take i ++ [u]) = _
    rw [leN_snoc, hl, hx, hc, ← e256, Int.natCast_add, Int.natCast_mul, Int.natCast_pow]
    rfl
  rw [hy, hx, hxs, e1, e2, wrap_w]
  exact or_step hx2 (by omega) (by omega)
def retN (x : Int) (w : World) (v : Value) : Prop := v = .int .i64 x
set_option maxHeartbeats 4000000 in
set_option maxRecDepth 100000 in
theorem number_calls (w0 : World) (R n : Nat) (l : List Int) (w : World) (h : RdI w0 R l w) (hB : Below w0.heap.size w0 w) (hBR : w0.heap.size ≤ R) (hn : 0 < n) (hn8 : n ≤ 8) (hl : l.length ≤ 1048576) (hby : Bys l) :
    Calls Tryd.prog 87 #[.pointer (some ⟨R, 0, none⟩), .int .i64 n] w (fun e w' => PPost w0 R (numP n) l w retN e w' ∧ w'.heap.size = w.heap.size) := by
  have H := Lib.hid h
  have HBY := Lib.hid hby
  have HB := Lib.hid hB
  clear h hby hB
  go_enter Tryd.func87, Tryd.ntmps87
  go_wp2_with fail
  refine (take_calls w0 R n l w H.out hBR (by omega) hl).mono ?_
  rintro e w1 ⟨⟨hk, hp⟩, hs⟩
  rcases hp with ⟨t, l', v, hp, rfl, ⟨A, c, rfl, hC, hc⟩, hR⟩ | ⟨hp, rfl⟩
  · have ht : n ≤ l.length ∧ t = l.take n ∧ l' = l.drop n := by
      unfold txtP at hp
      split at hp
      · cases hp; exact ⟨by assumption, rfl, rfl⟩
      · cases hp
    obtain ⟨hfit, ht, hl'⟩ := ht
    have htl : t.length = n := by rw [ht, List.length_take]; omega
    have HK := Lib.hid hk
    have HS := Lib.hid hs
    have HC := Lib.hid (Kd.C_below hC (HB.out.trans hk.bel))
    have HTB : Hid (Bys t) := Lib.hid (by rw [ht]; exact HBY.out.take n)
    have HT := Lib.hid ht
    have HR : Hid (RdI w0 R (l.drop n) w1) := Lib.hid (by rw [← hl']; exact hR)
    have HTL := Lib.hid htl
    clear hk hp hs hC hR ht hl' htl
    go_wp2_with fail
    go_loopw [5, 12] (fun v5 v12 wr => ∃ (i : Nat) (y : Int), i ≤ n ∧ v12 = .int .i64 i ∧ v5 = .int .i64 y ∧ -9223372036854775808 ≤ y ∧ y ≤ 9223372036854775807 ∧ wr = w1 ∧ Hid (y = w64 (leN (t.take i)))) (fun _ v12 _ => n - (RowKit.intOf v12).toNat)
    case atStart => exact ⟨0, 0, Nat.zero_le _, rfl, rfl, by omega, by omega, rfl, Lib.hid rfl⟩
    case round =>
      obtain ⟨i, y, hi, rfl, rfl, hy0, hy1, rfl, HY⟩ := hrel
      by_cases hlt : i < n
      · obtain ⟨ad, e1, e2⟩ := at_byte HC.out i (by rw [HTL.out]; exact hlt)
        subst e1
        obtain ⟨u, hu⟩ : ∃ u, u = t.getD i 0 := ⟨_, rfl⟩
        have htu : t[i]? = some u := by
          rw [hu, List.getD_eq_getElem?_getD, List.getElem?_eq_getElem (by rw [HTL.out]; exact hlt)]; rfl
        rw [← hu] at e2
        have hub := HTB.out u (List.mem_of_getElem? htu)
        have hu0 := hub.1
        have hu1 := hub.2
        have hi7 : i ≤ 7 := by omega
        have hn' : t.length = n := HTL.out
        have HTU := Lib.hid htu
        clear hu hub htu
        have HN : Hid (bits .or .i64 y (wrap64 (u * 2 ^ (8 * i))) = w64 (leN (t.take (i + 1)))) := Lib.hid (num_or HY.out HTU.out HTB.out hi7)
        go_wp2_with fail
        go_roundw
        case rel => exact ⟨i + 1, w64 (leN (t.take (i + 1))), by omega, by go_num, by rw [HN.out], (w64_in _).1, (w64_in _).2, by first | trivial | rfl, Lib.hid rfl⟩
        case measure => simp [RowKit.intOf]; omega
      · obtain rfl : i = n := by omega
        have hye : y = w64 (leN (l.take i)) := by
          rw [HY.out, HT.out, List.take_of_length_le (by rw [List.length_take]; omega)]
        have hn' : t.length = i := HTL.out
        have HYE := Lib.hid hye
        clear hye
        go_wp2_with fail
        go_ret
        exact ⟨⟨HK.out, Or.inl ⟨y, l.drop i, .int .i64 y, by unfold numP; rw [if_pos hfit, HYE.out], rfl, rfl, HR.out⟩⟩, HS.out⟩
  · have hf : ¬ n ≤ l.length := by
      unfold txtP at hp
      split at hp
      · cases hp
      · assumption
    have HK := Lib.hid hk
    have HS := Lib.hid hs
    clear hk hp hs
    go_wp2_with fail
    exact ⟨rfl, ⟨HK.out, Or.inr ⟨if_neg hf, rfl⟩⟩, HS.out⟩
end Go.Proofs.YtogmphjhdkgdjaaDoor
/- The program's reader: a datum. -/
namespace Go.Proofs.YtogmphjhdkgdjaaDoor
open Go.RowKit Go.Proofs.YtogmphjhdkgdjaaDoorW.PrintWords Go.Proofs.YtogmphjhdkgdjaaDoor.QFnExactValidModule
set_option linter.unusedVariables false
set_option linter.unusedSimpArgs false
set_option maxHeartbeats 4000000 in
set_option maxRecDepth 100000 in
theorem clone_calls (A : Option Addr) (c : Nat) (t : List Int) (w : World) (hC : Kd.C (Kd.int .u8) w A t.length t) (hl : t.length ≤ 1048576) :
    Calls Tryd.prog 107 #[.slice A t.length c] w fun e w' => ∃ v, e = .returned v ∧ RowO ekInt w.heap.size w'.heap.size w' v t ∧ Below w.heap.size w w' := by
  cases A with
  | none =>
    have ht : t = [] := by
      cases t with
      | nil => rfl
      | cons a r => obtain ⟨ad, e, _⟩ := hC.2.2 (by simp); cases e
    subst ht
    clear hC
    have hq : ∀ W, (binOp .eql 42 (.slice none 0 c) (.slice none 0 0)).run Tryd.prog W = .ok (.bool true) W := fun W => by kernel_rfl
    go_enter Tryd.func107, Tryd.ntmps107
    go_wp2_with fail
    go_ret
    exact ⟨_, rfl, RowO.nil _ _ _ _ (Nat.le_refl _), Below.refl _ _⟩
  | some ad =>
    have HN : Hid (∀ (W' : World), Below w.heap.size w W' → ∀ (j : Nat) (u : Value), (cel t)[j]? = some u → W'.cell? (ad.add j) = some u) := Lib.hid (fun W' hb j u hj => by
      obtain ⟨y, hy, rfl⟩ : ∃ y, t[j]? = some y ∧ Value.int .u8 y = u := by simpa [cel] using hj
      obtain ⟨ad', e1, e2⟩ := at_byte (Kd.C_below hC hb) j (List.getElem?_eq_some_iff.1 hy).1
      cases e1
      rw [List.getD_eq_getElem?_getD, hy] at e2
      exact e2)
    obtain ⟨i0, hi, hz0, hz1, hz2⟩ := info_parts byteInfo
    have HA : Hid (Below w.heap.size w (w.alloc (.cells #[] 5))) := Lib.hid ((Below.refl _ _).alloc (Nat.le_refl _) _)
    have HO0 : Hid ((w.alloc (.cells #[] 5)).ownsRow w.heap.size 5 1 (.slice (some ⟨w.heap.size, 0, none⟩) 0 0) 0 []) := Lib.hid ⟨by simp, .inr ⟨w.heap.size, 0, #[], rfl, Nat.le_refl _, blk_new2 _ _, Nat.le_refl _, by unfold maxLen; omega, rfl, rfl⟩⟩
    have hq : ∀ W, (binOp .eql 42 (.slice (some ad) t.length c) (.slice none 0 0)).run Tryd.prog W = .ok (.bool false) W := fun W => by kernel_rfl
    have HZ : Hid (w.heap.size ≤ (w.alloc (.cells #[] 5)).heap.size) := Lib.hid (by simp)
    clear hC
    go_enter Tryd.func107, Tryd.ntmps107
    go_wp2_with (at_builtin; refine wpList_append_own_at _ rfl _ _ 42 rfl w.heap.size 5 i0 (.int .u8 0) 1 1 Tryd.underlying42 hi hz0 hz1 hz2 rfl (by omega) (.slice (some ⟨w.heap.size, 0, none⟩) 0 0) 0 [] rfl HO0.out ad t.length c (cel t) rfl (by simp [cel]) (fun j u hj => HN.out _ HA.out j u hj) (by simp [cel, Value.oneCell']) (by unfold maxLen; omega) (by omega) HZ.out ?_; intro v1 w1 h1 h2 _ _; have HO := Lib.hid h1; have HG := Lib.hid h2; clear h1 h2)
    have HB : Hid (Below w.heap.size w w1) := Lib.hid (HA.out.grown HG.out HZ.out (fun k hk => by simp [Value.ownBlock] at hk; omega))
    have hr : RowO ekInt w.heap.size w1.heap.size w1 v1 t := RowO.of_bytes (by simpa using HO.out) HB.out.size (fun g hg => (HO.out.lt g hg).2)
    have HR := Lib.hid hr
    obtain ⟨A', c', rfl, _⟩ := hr.form
    clear hr HO HG
    go_wp2_with fail
    go_ret
    exact ⟨_, rfl, HR.out, HB.out⟩
/-- A datum that was read. -/
def retD (lo : Nat) (x : S57) (w : World) (v : Value) : Prop := ∃ tv, v = .agg #[.int .i64 x.f0, .int .i64 x.f1, tv, .int .i64 x.f3] ∧ RowO ekInt lo w.heap.size w tv x.f2
theorem dI_fin {w0 w W : World} {R : Nat} {l l' : List Int} {x : S57} {tv : Value} {cX : Array Value} (hw : w0.heap.size ≤ w.heap.size) (hRl : R < w.heap.size) (hk : Rk w0 R w W) (hR : RdI w0 R l' W) (hX : W.heap[w.heap.size]? = some (.cells cX 57 (0, 0))) (hT : RowO ekInt w.heap.size W.heap.size W tv x.f2) (hp : datP l = some (x, l')) :
    PPost w0 R datP l w (retD w.heap.size) (.returned (.agg #[.int .i64 x.f0, .int .i64 x.f1, tv, .int .i64 x.f3])) ((((W.setCell ⟨w.heap.size, 0, none⟩ (.int .i64 x.f0)).setCell ⟨w.heap.size, 1, none⟩ (.int .i64 x.f1)).setCell ⟨w.heap.size, 2, none⟩ tv).setCell ⟨w.heap.size, 3, none⟩ (.int .i64 x.f3)) := by
  refine ⟨(((hk.set hw (Nat.le_refl _) _).set hw (Nat.le_refl _) _).set hw (Nat.le_refl _) _).set hw (Nat.le_refl _) _, Or.inl ⟨x, l', _, hp, rfl, ⟨tv, rfl, ?_⟩, hR.old ?_⟩⟩
  · refine (hT.fx fun q cs T hTs hq => put4_far hq ?_).mono (Nat.le_refl _) (by rw [put4_size]; exact Nat.le_refl _)
    rintro rfl
    rw [hX] at hq
    cases hq
    simp [ekInt] at hTs
  · obtain ⟨A, c, h1, _⟩ := hR
    rw [h1]
    exact put4_far h1 (by omega)
theorem num_case {w0 w w' : World} {R n : Nat} {l : List Int} {e : Ending} (h : PPost w0 R (numP n) l w retN e w') : Rk w0 R w w' ∧ ((∃ x l', numP n l = some (x, l') ∧ e = .returned (.int .i64 x) ∧ RdI w0 R l' w') ∨ (numP n l = none ∧ e = .panicked torns)) := by
  obtain ⟨h1, h2⟩ := h
  refine ⟨h1, ?_⟩
  rcases h2 with ⟨x, l', v, a, b, hv, d⟩ | h2
  · exact Or.inl ⟨x, l', a, by rw [b, show v = _ from hv], d⟩
  · exact Or.inr h2
theorem num_len {n : Nat} {l l' : List Int} {x : Int} (h : numP n l = some (x, l')) : l'.length ≤ l.length := by
  unfold numP at h
  split at h
  · cases h; rw [List.length_drop]; omega
  · cases h
theorem num_bys {n : Nat} {l l' : List Int} {x : Int} (hb : Bys l) (h : numP n l = some (x, l')) : Bys l' := by
  unfold numP at h
  split at h
  · cases h; exact hb.drop n
  · cases h
set_option maxHeartbeats 8000000 in
set_option maxRecDepth 100000 in
theorem datI_calls (w0 : World) (R : Nat) (l : List Int) (w : World) (h : RdI w0 R l w) (hB : Below w0.heap.size w0 w) (hBR : w0.heap.size ≤ R) (hl : l.length ≤ 1048576) (hby : Bys l) :
    Calls Tryd.prog 88 #[.pointer (some ⟨R, 0, none⟩)] w (PPost w0 R datP l w (retD w.heap.size)) := by
  have hRl : R < w.heap.size := by obtain ⟨_, _, h1, _⟩ := h; exact blk_lt2 h1
  have hw0 : w0.heap.size ≤ w.heap.size := hB.size
  have hu := Tryd.underlying57
  obtain ⟨W, hW⟩ : ∃ W, W = w.alloc (.cells #[.int .i64 0, .int .i64 0, .slice none 0 0, .int .i64 0] 57) := ⟨_, rfl⟩
  have hbW : Below w.heap.size w W := by rw [hW]; exact (Below.refl _ _).alloc (Nat.le_refl _) _
  have hX : W.heap[w.heap.size]? = some (.cells #[.int .i64 0, .int .i64 0, .slice none 0 0, .int .i64 0] 57 (0, 0)) := by rw [hW]; exact blk_new2 _ _
  have HX := Lib.hid hX
  have HKW := Lib.hid (Rk.below (R := R) hw0 hbW)
  have HRW := Lib.hid (h.old (hbW.block R hRl))
  have HB := Lib.hid hB
  have HBY := Lib.hid hby
  have HBW : Hid (Below w0.heap.size w0 W) := Lib.hid (hB.trans (hbW.mono hw0))
  clear h hB hby hbW hX
  go_enter Tryd.func88, Tryd.ntmps88
  go_wp2_with fail
  rw [← hW]
  clear hW
  refine (number_calls w0 R 1 l W HRW.out HBW.out hBR (by omega) (by omega) hl HBY.out).mono ?_
  rintro e w1 ⟨hp, hs1⟩
  obtain ⟨hk1, hp⟩ := num_case hp
  rcases hp with ⟨k, l1, hp1, rfl, hR1⟩ | ⟨hp1, rfl⟩
  case inr =>
    have HP1 := Lib.hid hp1
    have HK1 := Lib.hid (HKW.out.trans hk1)
    clear hp1 hk1 hs1
    go_wp2_with fail
    exact ⟨rfl, HK1.out, Or.inr ⟨by rw [dat_eq, HP1.out]; rfl, rfl⟩⟩
  have hl1 : l1.length ≤ 1048576 := by have := num_len hp1; omega
  have hkb := num1 HBY.out hp1
  have hk0 := hkb.1
  have hk2 := hkb.2.1
  have HBY1 := Lib.hid (num_bys HBY.out hp1)
  have HP1 := Lib.hid hp1
  have HK1 := Lib.hid (HKW.out.trans hk1)
  have HX1 := Lib.hid (hk1.box HX.out (by omega))
  have HB1 : Hid (Below w0.heap.size w0 w1) := Lib.hid (HBW.out.trans hk1.bel)
  have hxl : w.heap.size < w1.heap.size := blk_lt2 HX1.out
  obtain ⟨Wd, hWd⟩ : ∃ Wd, Wd = w1.alloc (.cells #[.int .i64 k, .int .i64 0, .slice none 0 0, .int .i64 0] 57) := ⟨_, rfl⟩
  have hbd : Below w1.heap.size w1 Wd := by rw [hWd]; exact (Below.refl _ _).alloc (Nat.le_refl _) _
  have hD : Wd.heap[w1.heap.size]? = some (.cells #[.int .i64 k, .int .i64 0, .slice none 0 0, .int .i64 0] 57 (0, 0)) := by rw [hWd]; exact blk_new2 _ _
  have HD := Lib.hid hD
  have HXd := Lib.hid ((hbd.block _ (blk_lt2 HX1.out)).trans HX1.out)
  have HRd := Lib.hid (hR1.old (hbd.block R (by omega)))
  have HKd : Hid (Rk w0 R w Wd) := Lib.hid (HK1.out.trans (Rk.below HB1.out.size hbd))
  have HBd : Hid (Below w0.heap.size w0 Wd) := Lib.hid (HB.out.trans HKd.out.bel)
  obtain ⟨D, hDe⟩ : ∃ D, D = w1.heap.size := ⟨_, rfl⟩
  rw [← hDe] at HD hbd hxl
  clear hR1 hk1 hs1 hp1 hkb hD hbd
  by_cases k0 : k = 0
  · subst k0
    go_wp2_with fail
    rw [← hWd, ← hDe]
    clear hWd hDe
    refine (number_calls w0 R 8 l1 Wd HRd.out HBd.out hBR (by omega) (by omega) hl1 HBY1.out).mono ?_
    rintro e w2 ⟨hp, hs2⟩
    obtain ⟨hk2', hp⟩ := num_case hp
    have HK2 := Lib.hid (HKd.out.trans hk2')
    rcases hp with ⟨v, l2, hp2, rfl, hR2⟩ | ⟨hp2, rfl⟩
    case inr =>
      have HP2 := Lib.hid hp2
      clear hp2 hk2' hs2
      go_wp2_with fail
      exact ⟨rfl, HK2.out, Or.inr ⟨by rw [dat_eq, HP1.out]; show datK 0 l1 = none; unfold datK; rw [if_pos rfl]; rw [HP2.out]; rfl, rfl⟩⟩
    obtain ⟨a0, a1, a2, a3, fa0, fa1, fa2, fa3, al⟩ := box4 (hk2'.box HD.out (by omega))
    have HX2 := Lib.hid (hk2'.box HXd.out (by omega))
    obtain ⟨x0, x1, x2, x3, fx0, fx1, fx2, fx3, xl⟩ := box4 HX2.out
    have HR2 := Lib.hid hR2
    have HP2 := Lib.hid hp2
    clear hR2 hp2 hk2' hs2
    go_wp2_with fail
    have HXD := Lib.hid (set_far (j := 1) HX2.out (show w.heap.size ≠ D by omega) (.int .i64 v))
    refine bodyPost_ret (results_cell_row rfl _ _ w.heap.size 57 #[.int .i64 0, .int .i64 v, .slice none 0 0, .int .i64 0] (0, 0) _ rfl (put4_box HXD.out) Tryd.underlying57 rfl (by kernel_rfl)) rfl ?_
    exact dI_fin (x := ⟨0, v, [], 0⟩) hw0 hRl (HK2.out.set hw0 (by omega) _) (HR2.out.old (Below.heap_setCell _ _ _ _ (by simp; omega))) HXD.out (RowO.nil _ _ _ _ (by have := HK2.out.size; simp [World.setCell]; exact this)) (by rw [dat_eq, HP1.out]; show datK 0 l1 = _; unfold datK; rw [if_pos rfl]; rw [HP2.out]; rfl)
  by_cases k1 : k = 1
  · subst k1
    go_wp2_with fail
    rw [← hWd, ← hDe]
    clear hWd hDe
    refine (number_calls w0 R 1 l1 Wd HRd.out HBd.out hBR (by omega) (by omega) hl1 HBY1.out).mono ?_
    rintro e w2 ⟨hp, hs2⟩
    obtain ⟨hk2', hp⟩ := num_case hp
    have HK2 := Lib.hid (HKd.out.trans hk2')
    rcases hp with ⟨v, l2, hp2, rfl, hR2⟩ | ⟨hp2, rfl⟩
    case inr =>
      have HP2 := Lib.hid hp2
      clear hp2 hk2' hs2
      go_wp2_with fail
      exact ⟨rfl, HK2.out, Or.inr ⟨by rw [dat_eq, HP1.out]; show datK 1 l1 = none; unfold datK; rw [if_neg (by decide), if_pos rfl]; rw [HP2.out]; rfl, rfl⟩⟩
    obtain ⟨a0, a1, a2, a3, fa0, fa1, fa2, fa3, al⟩ := box4 (hk2'.box HD.out (by omega))
    have HX2 := Lib.hid (hk2'.box HXd.out (by omega))
    obtain ⟨x0, x1, x2, x3, fx0, fx1, fx2, fx3, xl⟩ := box4 HX2.out
    have HR2 := Lib.hid hR2
    have HP2 := Lib.hid hp2
    clear hR2 hp2 hk2' hs2
    go_wp2_with fail
    have HXD := Lib.hid (set_far (j := 1) HX2.out (show w.heap.size ≠ D by omega) (.int .i64 v))
    refine bodyPost_ret (results_cell_row rfl _ _ w.heap.size 57 #[.int .i64 1, .int .i64 v, .slice none 0 0, .int .i64 0] (0, 0) _ rfl (put4_box HXD.out) Tryd.underlying57 rfl (by kernel_rfl)) rfl ?_
    exact dI_fin (x := ⟨1, v, [], 0⟩) hw0 hRl (HK2.out.set hw0 (by omega) _) (HR2.out.old (Below.heap_setCell _ _ _ _ (by simp; omega))) HXD.out (RowO.nil _ _ _ _ (by have := HK2.out.size; simp [World.setCell]; exact this)) (by rw [dat_eq, HP1.out]; show datK 1 l1 = _; unfold datK; rw [if_neg (by decide), if_pos rfl]; rw [HP2.out]; rfl)
  by_cases k2 : k = 2
  · subst k2
    go_wp2_with fail
    rw [← hWd, ← hDe]
    clear hWd hDe
    refine (number_calls w0 R 1 l1 Wd HRd.out HBd.out hBR (by omega) (by omega) hl1 HBY1.out).mono ?_
    rintro e w2 ⟨hp, hs2⟩
    obtain ⟨hk2', hp⟩ := num_case hp
    have HK2 := Lib.hid (HKd.out.trans hk2')
    rcases hp with ⟨v, l2, hp2, rfl, hR2⟩ | ⟨hp2, rfl⟩
    case inr =>
      have HP2 := Lib.hid hp2
      clear hp2 hk2' hs2
      go_wp2_with fail
      exact ⟨rfl, HK2.out, Or.inr ⟨by rw [dat_eq, HP1.out]; show datK 2 l1 = none; unfold datK; rw [if_neg (by decide), if_neg (by decide), if_pos rfl]; rw [HP2.out]; rfl, rfl⟩⟩
    have hvb := num1 HBY1.out hp2
    obtain ⟨m, rfl⟩ : ∃ m : Nat, v = (m : Int) := ⟨v.toNat, by have := hvb.1; omega⟩
    have hm255 : m ≤ 255 := by have := hvb.2.1; omega
    have hl2 : l2.length ≤ 1048576 := by have := num_len hp2; omega
    have HD2 := Lib.hid (hk2'.box HD.out (by omega))
    have HX2 := Lib.hid (hk2'.box HXd.out (by omega))
    have HB2 : Hid (Below w0.heap.size w0 w2) := Lib.hid (HBd.out.trans hk2'.bel)
    have HR2 := Lib.hid hR2
    have HP2 := Lib.hid hp2
    clear hR2 hp2 hk2' hs2 hvb
    go_wp2_with fail
    refine (take_calls w0 R m l2 w2 HR2.out hBR (by omega) hl2).mono ?_
    rintro e w3 ⟨⟨hk3, hp⟩, hs3⟩
    have HK3 := Lib.hid (HK2.out.trans hk3)
    rcases hp with ⟨t, l3, v3, hp3, rfl, ⟨A3, c3, rfl, hC3, hc3⟩, hR3⟩ | ⟨hp3, rfl⟩
    case inr =>
      have HP3 := Lib.hid hp3
      clear hp3 hk3 hs3
      go_wp2_with fail
      exact ⟨rfl, HK3.out, Or.inr ⟨by rw [dat_eq, HP1.out]; show datK 2 l1 = none; unfold datK; rw [if_neg (by decide), if_neg (by decide), if_pos rfl]; rw [HP2.out]; show (txtP (m : Int).toNat l2).bind _ = none; rw [Int.toNat_natCast, HP3.out]; rfl, rfl⟩⟩
    have HD3 := Lib.hid (hk3.box HD2.out (by omega))
    have HX3 := Lib.hid (hk3.box HX2.out (by omega))
    have HB3 : Hid (Below w0.heap.size w0 w3) := Lib.hid (HB2.out.trans hk3.bel)
    have HR3 := Lib.hid hR3
    have HP3 := Lib.hid hp3
    have HC3 := Lib.hid (Kd.C_below hC3 HB3.out)
    have htl : t.length ≤ 1048576 := by
      unfold txtP at hp3
      split at hp3
      · cases hp3; rw [List.length_take]; omega
      · cases hp3
    clear hR3 hp3 hk3 hs3 hC3
    go_wp2_with fail
    refine (clone_calls A3 c3 t w3 HC3.out htl).mono ?_
    rintro e w4 ⟨tv, rfl, ht4, hb4⟩
    have HT4 := Lib.hid ht4
    obtain ⟨A4, n4, rfl, _⟩ := ht4.form
    have HD4 := Lib.hid ((hb4.block D (blk_lt2 HD3.out)).trans HD3.out)
    have HX4 := Lib.hid ((hb4.block w.heap.size (blk_lt2 HX3.out)).trans HX3.out)
    have HR4 := Lib.hid (HR3.out.old (hb4.block R (by have := HK3.out.size; omega)))
    have HK4 := Lib.hid (HK3.out.trans (Rk.below (R := R) HB3.out.size hb4))
    obtain ⟨a0, a1, a2, a3, fa0, fa1, fa2, fa3, al⟩ := box4 HD4.out
    obtain ⟨x0, x1, x2, x3, fx0, fx1, fx2, fx3, xl⟩ := box4 HX4.out
    clear ht4 hb4
    go_wp2_with fail
    have HXD := Lib.hid (set_far (j := 2) HX4.out (show w.heap.size ≠ D by omega) (.slice A4 t.length n4))
    refine bodyPost_ret (results_cell_row rfl _ _ w.heap.size 57 #[.int .i64 2, .int .i64 0, .slice A4 t.length n4, .int .i64 0] (0, 0) _ rfl (put4_box HXD.out) Tryd.underlying57 rfl (by kernel_rfl)) rfl ?_
    exact dI_fin (x := ⟨2, 0, t, 0⟩) hw0 hRl (HK4.out.set hw0 (by omega) _) (HR4.out.old (Below.heap_setCell _ _ _ _ (by simp; omega))) HXD.out ((HT4.out.fx (Fx.box HD4.out _ (by simp [ekInt]))).mono HK3.out.size (by rw [set_size]; exact Nat.le_refl _)) (by rw [dat_eq, HP1.out]; show datK 2 l1 = _; unfold datK; rw [if_neg (by decide), if_neg (by decide), if_pos rfl]; rw [HP2.out]; show (txtP (m : Int).toNat l2).bind _ = _; rw [Int.toNat_natCast, HP3.out]; rfl)
  · have d0 : (k == 0) = false := by simpa using k0
    have d1 : (k == 1) = false := by simpa using k1
    have d2 : (k == 2) = false := by simpa using k2
    go_wp2_with fail
    rw [← hWd, ← hDe]
    clear hWd hDe
    refine (number_calls w0 R 2 l1 Wd HRd.out HBd.out hBR (by omega) (by omega) hl1 HBY1.out).mono ?_
    rintro e w2 ⟨hp, hs2⟩
    obtain ⟨hk2', hp⟩ := num_case hp
    have HK2 := Lib.hid (HKd.out.trans hk2')
    rcases hp with ⟨v, l2, hp2, rfl, hR2⟩ | ⟨hp2, rfl⟩
    case inr =>
      have HP2 := Lib.hid hp2
      clear hp2 hk2' hs2
      go_wp2_with fail
      exact ⟨rfl, HK2.out, Or.inr ⟨by rw [dat_eq, HP1.out]; show datK k l1 = none; unfold datK; rw [if_neg k0, if_neg k1, if_neg k2]; rw [HP2.out]; rfl, rfl⟩⟩
    obtain ⟨a0, a1, a2, a3, fa0, fa1, fa2, fa3, al⟩ := box4 (hk2'.box HD.out (by omega))
    have HX2 := Lib.hid (hk2'.box HXd.out (by omega))
    obtain ⟨x0, x1, x2, x3, fx0, fx1, fx2, fx3, xl⟩ := box4 HX2.out
    have HR2 := Lib.hid hR2
    have HP2 := Lib.hid hp2
    clear hR2 hp2 hk2' hs2
    go_wp2_with fail
    have HXD := Lib.hid (set_far (j := 3) HX2.out (show w.heap.size ≠ D by omega) (.int .i64 v))
    refine bodyPost_ret (results_cell_row rfl _ _ w.heap.size 57 #[.int .i64 k, .int .i64 0, .slice none 0 0, .int .i64 v] (0, 0) _ rfl (put4_box HXD.out) Tryd.underlying57 rfl (by kernel_rfl)) rfl ?_
    exact dI_fin (x := ⟨k, 0, [], v⟩) hw0 hRl (HK2.out.set hw0 (by omega) _) (HR2.out.old (Below.heap_setCell _ _ _ _ (by simp; omega))) HXD.out (RowO.nil _ _ _ _ (by have := HK2.out.size; simp [World.setCell]; exact this)) (by rw [dat_eq, HP1.out]; show datK k l1 = _; unfold datK; rw [if_neg k0, if_neg k1, if_neg k2]; rw [HP2.out]; rfl)
end Go.Proofs.YtogmphjhdkgdjaaDoor
/- The program's reader: a function. -/
namespace Go.Proofs.YtogmphjhdkgdjaaDoor
open Go.RowKit Go.Proofs.YtogmphjhdkgdjaaDoorW.PrintWords Go.Proofs.YtogmphjhdkgdjaaDoor.QFnExactValidModule
set_option linter.unusedVariables false
set_option linter.unusedSimpArgs false
/-- One element appended, at a step of a region that draws its order. -/
theorem step_elem {α : Type} (k : Ek α) (t : TypeId) {z : Value} {bytes : Nat} (ht : Tryd.prog.underlying t = some (.slice k.T)) (hinfo : (Tryd.prog.info? k.T).map (fun i => (i.zero, i.size, i.bytes)) = some (some z, k.sz, bytes)) (hz : z.cells.size = k.sz) (hb0 : 0 < bytes) (hTs : k.T ∉ k.ts)
    {ops : Array Oper} {o : Oper} {a : Act} {K : Act → World → Prop} {Q : Exit → Act → World → Prop} {E' : Prop} {lo hi : Nat} {W : World} {v : Value} {xs : List α} {x : α} {c : List Value} (hgd : o.guard = none) (sl y : Operand) (ho : o.op = .call { callee := .builtin .append, args := #[sl, y], argTypes := #[t, t] }) (hs : a.eval sl = v) (hy : a.eval y = .slice (some ⟨W.heap.size, 0, none⟩) 1 1)
    (H : RowO k lo hi W v xs) (hE : k.E W hi W.heap.size x c) (hhi : hi ≤ W.heap.size) (hlo : lo ≤ W.heap.size) (hl : (xs.length + 1) * bytes ≤ 140737488355328)
    (h : ∀ (g cap : Nat) (w1 : World), Hid (RowO k lo w1.heap.size w1 (.slice (some ⟨g, 0, none⟩) (xs.length + 1) cap) (xs ++ [x])) → Hid (W.grownBy w1 v.ownBlock) → K (a.put o.dst (.slice (some ⟨g, 0, none⟩) (xs.length + 1) cap)) w1) :
    if Region.wanted o (yielded ops a.tmps) = true then Oper.wp Tryd.prog o a (W.alloc (.cells c.toArray k.T)) K Q else E' := by
  obtain ⟨cs, f, ho', h2, h3, h4, h5, h6, h7⟩ := H
  obtain ⟨i0, hi0, hzz⟩ := Option.map_eq_some_iff.1 hinfo
  simp only [Prod.mk.injEq] at hzz
  obtain ⟨hz0, hz1, hz2⟩ := hzz
  have hlen : xs.length + 1 ≤ 140737488355328 := Nat.le_trans (Nat.le_mul_of_pos_right _ hb0) hl
  refine step_append_lies (W.alloc (.cells c.toArray k.T)) hgd sl y t ho lo k.T i0 z k.sz bytes ht hi0 hz0 hz1 hz2 hz k.pos v xs.length cs.flatten hs (ho'.alloc _) ⟨W.heap.size, 0, none⟩ 1 1 c hy (by rw [k.len hE]; simp)
    (by simpa using World.news_of_block (cs := c.toArray) (t := k.T) (fr := (0, 0)) (heap_alloc_new W (.cells c.toArray k.T))) (k.one hE) (by omega) (by simp only [maxLen]; omega) hl (by simp; omega) _ rfl ?_
  intro g cap w1 g1 g2 _ _
  have g3 := World.grownBy.trans (World.grownBy_alloc W (.cells c.toArray k.T) _) g2
  exact h g cap w1 (Lib.hid (RowO.put hTs hE hhi ho' h3 h4 h5 h6 h7 g1 g3)) (Lib.hid g3)
theorem Fx.rkI {ts : List Nat} {w0 w w' : World} {R : Nat} {l : List Int} (h : Rk w0 R w w') (hR : RdI w0 R l w) (hT : 104 ∉ ts) : Fx ts w w' := by
  obtain ⟨A, c, h1, _⟩ := hR
  exact Fx.rk h h1 hT
theorem RdI.grown {w0 w w' : World} {R : Nat} {l : List Int} {v : Value} {T0 : Nat} (h : RdI w0 R l w) (hg : w.grownBy w' v.ownBlock) (hv : ∀ k, v.ownBlock = some k → ∃ cs, w.heap[k]? = some (.cells cs T0 (0, 0))) (hT : T0 ≠ 104) : RdI w0 R l w' := by
  obtain ⟨A, c, h1, h2⟩ := h
  exact ⟨A, c, Fx.grown (ts := [104]) hg hv (by simpa using hT) _ _ _ (by simp) h1, h2⟩
theorem Rk.grown {w0 w w1 w' : World} {R : Nat} {v : Value} (h : Rk w0 R w w1) (hg : w1.grownBy w' v.ownBlock) (hv : ∀ k, v.ownBlock = some k → w.heap.size ≤ k) (hw : w0.heap.size ≤ w.heap.size) : Rk w0 R w w' :=
  ⟨fun q hq hR => (hg.block q (Nat.lt_of_lt_of_le hq h.size) (fun e => by have := hv q e.symm; omega)).trans (h.oth q hq hR), Nat.le_trans h.size hg.size, h.bel.grown hg (Nat.le_trans hw h.size) (fun k hk => Nat.le_trans hw (hv k hk))⟩
/-- A function that was read. -/
def retF (lo : Nat) (x : S68) (w : World) (v : Value) : Prop := ∃ bv iv, v = .agg #[.int .i64 x.f0, bv, iv] ∧ RowO ekBool lo w.heap.size w bv x.f1 ∧ RowO ekIns lo w.heap.size w iv x.f2
def funK (p : Int) (l : List Int) : Option (S68 × List Int) := (numP 1 l).bind fun r => (repP boxPs r.1.toNat r.2).bind fun s => (numP 2 s.2).bind fun t => (repP insPs t.1.toNat t.2).bind fun u => some (⟨p, s.1, u.1⟩, u.2)
theorem fun_eq (l : List Int) : funPs l = (numP 1 l).bind fun q => funK q.1 q.2 := rfl
set_option maxHeartbeats 8000000 in
set_option maxRecDepth 100000 in
theorem funI_calls (w0 : World) (R : Nat) (l : List Int) (w : World) (h : RdI w0 R l w) (hB : Below w0.heap.size w0 w) (hBR : w0.heap.size ≤ R) (hl : l.length ≤ 1048576) (hby : Bys l) :
    Calls Tryd.prog 89 #[.pointer (some ⟨R, 0, none⟩)] w (PPost w0 R funPs l w (retF w.heap.size)) := by
  have hRl : R < w.heap.size := by obtain ⟨_, _, h1, _⟩ := h; exact blk_lt2 h1
  have hw0 : w0.heap.size ≤ w.heap.size := hB.size
  have hu := Tryd.underlying68
  obtain ⟨RES, hRES⟩ : ∃ R, R = funPs l := ⟨_, rfl⟩
  have HRES := Lib.hid hRES
  obtain ⟨W, hW⟩ : ∃ W, W = w.alloc (.cells #[.int .i64 0, .slice none 0 0, .slice none 0 0] 68) := ⟨_, rfl⟩
  have hbW : Below w.heap.size w W := by rw [hW]; exact (Below.refl _ _).alloc (Nat.le_refl _) _
  have hX : W.heap[w.heap.size]? = some (.cells #[.int .i64 0, .slice none 0 0, .slice none 0 0] 68 (0, 0)) := by rw [hW]; exact blk_new2 _ _
  have HX := Lib.hid hX
  have HKW := Lib.hid (Rk.below (R := R) hw0 hbW)
  have HRW := Lib.hid (h.old (hbW.block R hRl))
  have HB := Lib.hid hB
  have HBY := Lib.hid hby
  have HBW : Hid (Below w0.heap.size w0 W) := Lib.hid (hB.trans (hbW.mono hw0))
  clear h hB hby hbW hX hRES
  go_enter Tryd.func89, Tryd.ntmps89
  go_wp2_with fail
  rw [← hW]
  clear hW
  refine (number_calls w0 R 1 l W HRW.out HBW.out hBR (by omega) (by omega) hl HBY.out).mono ?_
  rintro e w1 ⟨hp, hs1⟩
  obtain ⟨hk1, hp⟩ := num_case hp
  rcases hp with ⟨p, l1, hp1, rfl, hR1⟩ | ⟨hp1, rfl⟩
  case inr =>
    have HP1 := Lib.hid hp1
    have HK1 := Lib.hid (HKW.out.trans hk1)
    clear hp1 hk1 hs1
    go_wp2_with fail
    exact ⟨rfl, HK1.out, Or.inr ⟨by rw [fun_eq, HP1.out]; rfl, rfl⟩⟩
  have hl1 : l1.length ≤ 1048576 := by have := num_len hp1; omega
  have HBY1 := Lib.hid (num_bys HBY.out hp1)
  have HG1 : Hid (RES = funK p l1) := Lib.hid (by rw [HRES.out, fun_eq, hp1]; rfl)
  have HK1 := Lib.hid (HKW.out.trans hk1)
  have HX1 := Lib.hid (hk1.box HX.out (by omega))
  have HB1 : Hid (Below w0.heap.size w0 w1) := Lib.hid (HBW.out.trans hk1.bel)
  have hxl : w.heap.size < w1.heap.size := blk_lt2 HX1.out
  obtain ⟨Wd, hWd⟩ : ∃ Wd, Wd = w1.alloc (.cells #[.int .i64 p, .slice none 0 0, .slice none 0 0] 68) := ⟨_, rfl⟩
  have hbd : Below w1.heap.size w1 Wd := by rw [hWd]; exact (Below.refl _ _).alloc (Nat.le_refl _) _
  have hD : Wd.heap[w1.heap.size]? = some (.cells #[.int .i64 p, .slice none 0 0, .slice none 0 0] 68 (0, 0)) := by rw [hWd]; exact blk_new2 _ _
  have HD := Lib.hid hD
  have HXd := Lib.hid ((hbd.block _ (blk_lt2 HX1.out)).trans HX1.out)
  have HRd := Lib.hid (hR1.old (hbd.block R (by omega)))
  have HKd : Hid (Rk w0 R w Wd) := Lib.hid (HK1.out.trans (Rk.below HB1.out.size hbd))
  have HBd : Hid (Below w0.heap.size w0 Wd) := Lib.hid (HB.out.trans HKd.out.bel)
  obtain ⟨D, hDe⟩ : ∃ D, D = w1.heap.size := ⟨_, rfl⟩
  rw [← hDe] at HD hbd hxl
  have hDl : D < Wd.heap.size := blk_lt2 HD.out
  clear hR1 hk1 hs1 hp1 hD hbd HK1 HX1 HB1
  go_wp2_with fail
  rw [← hWd, ← hDe]
  clear hWd hDe
  refine (number_calls w0 R 1 l1 Wd HRd.out HBd.out hBR (by omega) (by omega) hl1 HBY1.out).mono ?_
  rintro e w2 ⟨hp, hs2⟩
  obtain ⟨hk2, hp⟩ := num_case hp
  have HK2 := Lib.hid (HKd.out.trans hk2)
  rcases hp with ⟨k, l2, hp2, rfl, hR2⟩ | ⟨hp2, rfl⟩
  case inr =>
    have HP2 := Lib.hid hp2
    clear hp2 hk2 hs2
    go_wp2_with fail
    exact ⟨rfl, HK2.out, Or.inr ⟨by rw [← HRES.out, HG1.out]; unfold funK; rw [HP2.out]; rfl, rfl⟩⟩
  have hkb := num1 HBY1.out hp2
  obtain ⟨k, rfl⟩ : ∃ m : Nat, k = (m : Int) := ⟨k.toNat, by have := hkb.1; omega⟩
  have hk65 : k ≤ 65535 := by have := hkb.2.1; omega
  have hl2 : l2.length ≤ 1048576 := by have := num_len hp2; omega
  have HBY2 := Lib.hid (num_bys HBY1.out hp2)
  have HG2 : Hid (RES = (repP boxPs k l2).bind fun s => (fun s l => (numP 2 l).bind fun t => (repP insPs t.1.toNat t.2).bind fun u => some ((⟨p, s, u.1⟩ : S68), u.2)) ([] ++ s.1) s.2) := Lib.hid (by
    rw [HG1.out]
    unfold funK
    rw [hp2]
    simp)
  have HX2 := Lib.hid (hk2.box HXd.out (by omega))
  have HD2 := Lib.hid (hk2.box HD.out (by omega))
  have HR2 := Lib.hid hR2
  have hDl2 : D < w2.heap.size := blk_lt2 HD2.out
  clear hp2 hk2 hs2 hkb hR2 HG1
  go_wp2_with fail
  go_loopw [9] (fun v9 wr => ∃ j : Nat, j ≤ k ∧ v9 = .int .i64 j ∧ Hid (∃ l' bv fr, RdI w0 R l' wr ∧ l'.length ≤ 1048576 ∧ Bys l' ∧ Rk w0 R w wr ∧ wr.heap[w.heap.size]? = some (.cells #[.int .i64 0, .slice none 0 0, .slice none 0 0] 68 (0, 0)) ∧ wr.heap[D]? = some (.cells #[.int .i64 p, bv, .slice none 0 0] 68 (0, 0)) ∧ RowO ekBool w.heap.size wr.heap.size wr bv fr ∧ fr.length = j ∧ RES = (repP boxPs (k - j) l').bind fun s => (fun s l => (numP 2 l).bind fun t => (repP insPs t.1.toNat t.2).bind fun u => some ((⟨p, s, u.1⟩ : S68), u.2)) (fr ++ s.1) s.2)) (fun v9 _ => k - (RowKit.intOf v9).toNat)
  case atStart => exact ⟨0, Nat.zero_le _, rfl, Lib.hid ⟨l2, _, [], HR2.out, hl2, HBY2.out, HK2.out, HX2.out, HD2.out, RowO.nil _ _ _ _ HK2.out.size, rfl, HG2.out⟩⟩
  case round =>
    clear HR2 HX2 HD2 HG2 hDl2 hl2 HBY2 HK2
    obtain ⟨j, hj, rfl, HQ⟩ := hrel
    obtain ⟨l3, bv, fr, hR, hl3, hby3, hk3, hX3, hD3, hrow, hrl, hg3⟩ := HQ.out
    clear HQ
    obtain ⟨Ab, nb, rfl, _⟩ := hrow.form
    have HR3 := Lib.hid hR
    have HBY3 := Lib.hid hby3
    have HK3 := Lib.hid hk3
    have HX3 := Lib.hid hX3
    have HD3 := Lib.hid hD3
    have HROW := Lib.hid hrow
    have HRL := Lib.hid hrl
    have HG3 := Lib.hid hg3
    have hrl2 : fr.length ≤ 65535 := by omega
    have HB3 : Hid (Below w0.heap.size w0 wr) := Lib.hid (HB.out.trans hk3.bel)
    obtain ⟨q0, q1, q2, qf0, qf1, qf2, ql⟩ := boxF hD3
    have hwl : w.heap.size ≤ wr.heap.size := hk3.size
    clear hR hby3 hk3 hX3 hD3 hrow hrl hg3
    by_cases hlt : j < k
    · obtain ⟨d3, hd3⟩ : ∃ d, k - j = d + 1 := ⟨k - j - 1, by omega⟩
      have HGX : Hid (RES = (numP 1 l3).bind fun q => (repP boxPs d3 q.2).bind fun s => (fun s l => (numP 2 l).bind fun t => (repP insPs t.1.toNat t.2).bind fun u => some ((⟨p, s, u.1⟩ : S68), u.2)) ((fr ++ [decide (q.1 = 1)]) ++ s.1) s.2) := Lib.hid (by
        rw [HG3.out, hd3, rep_step (p := boxPs) (K := fun s l => (numP 2 l).bind fun t => (repP insPs t.1.toNat t.2).bind fun u => some ((⟨p, s, u.1⟩ : S68), u.2))]
        unfold boxPs
        rw [Option.bind_assoc]
        rfl)
      have HD3' : Hid (k - (j + 1) = d3) := Lib.hid (by omega)
      clear hd3 HG3
      go_wp2_with fail
      go_region_law
        (first
          | (go_simp; go_at_call 87; refine (number_calls w0 R 1 l3 _ (HR3.out.old (w' := wr.drew) rfl) (by exact HB3.out.drew) hBR (by omega) (by omega) hl3 HBY3.out).mono ?_; rintro e w4 ⟨hp, hs4⟩; obtain ⟨hk4, hp⟩ := num_case hp; have hkk := (Rk.below (R := R) HB3.out.size (Below.refl wr.heap.size wr).drew).trans hk4; rcases hp with ⟨v, l4, hp4, rfl, hR4⟩ | ⟨hp4, rfl⟩; (case inr => (go_wp2_with fail; exact ⟨rfl, HK3.out.trans hkk, Or.inr ⟨by rw [← HRES.out, HGX.out, hp4]; rfl, rfl⟩⟩));
             have HROW4 := Lib.hid (HROW.out.fx (Fx.rkI hkk HR3.out (by simp [ekBool]))); have HE4 : Hid (ekBool.E w4 wr.heap.size w4.heap.size (v == 1) [.bool (v == 1)]) := Lib.hid rfl; have hz4 : wr.heap.size ≤ w4.heap.size := hkk.size; have hlo4 : w.heap.size ≤ w4.heap.size := by omega;
             have HD4 := Lib.hid (hkk.box HD3.out (by omega)); have HX4 := Lib.hid (hkk.box HX3.out (by omega)); have HR4 := Lib.hid hR4; have HK4 := Lib.hid (HK3.out.trans hkk); have HP4 := Lib.hid hp4; clear q0 q1 q2 qf0 qf1 qf2 hp4 hR4 hk4 hkk hs4; obtain ⟨q0, q1, q2, qf0, qf1, qf2, ql4⟩ := boxF HD4.out)
          | (refine step_elem ekBool 65 Tryd.underlying65 info_bool rfl (by omega) (by simp [ekBool]) (by rfl) _ _ (by rfl) (by rfl) (by rfl) HROW4.out HE4.out hz4 hlo4 (by omega) ?_; intro gg cap w5 HO1 HG5;
             have HG6 : Hid (w4.grownBy w5 (Value.slice Ab fr.length nb).ownBlock) := Lib.hid HG5.out; have HD5 := Lib.hid (Fx.grown (ts := [68]) HG6.out HROW4.out.typed (by simp [ekBool]) _ _ _ (by simp) HD4.out); have HX5 := Lib.hid (Fx.grown (ts := [68]) HG6.out HROW4.out.typed (by simp [ekBool]) _ _ _ (by simp) HX4.out); clear q0 q1 q2 qf0 qf1 qf2 ql4; obtain ⟨q0, q1, q2, qf0, qf1, qf2, ql5⟩ := boxF HD5.out))
      all_goals
        have HN : Hid (∃ l' bv fr', RdI w0 R l' (w5.setCell ⟨D, 1, none⟩ (.slice (some ⟨gg, 0, none⟩) (fr.length + 1) cap)) ∧ l'.length ≤ 1048576 ∧ Bys l' ∧ Rk w0 R w (w5.setCell ⟨D, 1, none⟩ (.slice (some ⟨gg, 0, none⟩) (fr.length + 1) cap)) ∧ (w5.setCell ⟨D, 1, none⟩ (.slice (some ⟨gg, 0, none⟩) (fr.length + 1) cap)).heap[w.heap.size]? = some (.cells #[.int .i64 0, .slice none 0 0, .slice none 0 0] 68 (0, 0)) ∧ (w5.setCell ⟨D, 1, none⟩ (.slice (some ⟨gg, 0, none⟩) (fr.length + 1) cap)).heap[D]? = some (.cells #[.int .i64 p, bv, .slice none 0 0] 68 (0, 0)) ∧ RowO ekBool w.heap.size (w5.setCell ⟨D, 1, none⟩ (.slice (some ⟨gg, 0, none⟩) (fr.length + 1) cap)).heap.size (w5.setCell ⟨D, 1, none⟩ (.slice (some ⟨gg, 0, none⟩) (fr.length + 1) cap)) bv fr' ∧ fr'.length = j + 1 ∧ RES = (repP boxPs (k - (j + 1)) l').bind fun s => (fun s l => (numP 2 l).bind fun t => (repP insPs t.1.toNat t.2).bind fun u => some ((⟨p, s, u.1⟩ : S68), u.2)) (fr' ++ s.1) s.2) := Lib.hid (by
          refine ⟨l4, .slice (some ⟨gg, 0, none⟩) (fr.length + 1) cap, fr ++ [v == 1], (HR4.out.grown HG6.out HROW4.out.typed (by simp [ekBool])).old (Below.heap_setCell _ _ _ _ (by simp; omega)), by have := num_len HP4.out; omega, num_bys HBY3.out HP4.out, (HK4.out.grown HG6.out (fun q hq => (HROW4.out.lt q hq).1) hw0).set hw0 (by omega) _, set_far HX5.out (by omega) _, ?_, (HO1.out.fx (Fx.box HD5.out _ (by simp [ekBool]))).mono (Nat.le_refl _) (by rw [set_size]; exact Nat.le_refl _), by simp [HRL.out], ?_⟩
          · have := Go.Joins.block_setCell (i := 1) HD5.out (.slice (some ⟨gg, 0, none⟩) (fr.length + 1) cap)
            simpa using this
          · rw [HGX.out, HP4.out, HD3'.out]
            rfl)
        clear HO1 HG5 HG6 HD5 HX5 HROW4 HE4 HD4 HX4 HR4 HK4 HP4 q0 q1 q2 qf0 qf1 qf2 ql5 ql HROW HD3 HX3 HR3 HK3 HGX
        go_wp2_with fail
        go_roundw
        case rel => exact ⟨j + 1, by omega, by go_num, HN⟩
        case measure => simp [RowKit.intOf]; omega
    · have hjk : k - j = 0 := by omega
      have HG4 : Hid (RES = (numP 2 l3).bind fun t => (repP insPs t.1.toNat t.2).bind fun u => some ((⟨p, fr, u.1⟩ : S68), u.2)) := Lib.hid (by
        rw [HG3.out, hjk]
        simp [repP])
      have hge : ¬ (j : Int) < (k : Int) := by omega
      clear hjk HG3
      go_wp2_with fail
      refine (number_calls w0 R 2 l3 wr HR3.out HB3.out hBR (by omega) (by omega) hl3 HBY3.out).mono ?_
      rintro e w4 ⟨hp, hs4⟩
      obtain ⟨hk4, hp⟩ := num_case hp
      have HK4 := Lib.hid (HK3.out.trans hk4)
      rcases hp with ⟨m, l4, hp4, rfl, hR4⟩ | ⟨hp4, rfl⟩
      case inr =>
        have HP4 := Lib.hid hp4
        clear hp4 hk4 hs4
        go_wp2_with fail
        exact ⟨rfl, HK4.out, Or.inr ⟨by rw [← HRES.out, HG4.out, HP4.out]; rfl, rfl⟩⟩
      have hmb := num2 HBY3.out hp4
      obtain ⟨m, rfl⟩ : ∃ q : Nat, m = (q : Int) := ⟨m.toNat, by have := hmb.1; omega⟩
      have hm65 : m ≤ 65535 := by have := hmb.2.1; omega
      have HG5 : Hid (RES = (repP insPs m l4).bind fun u => some ((⟨p, fr, [] ++ u.1⟩ : S68), u.2)) := Lib.hid (by rw [HG4.out, hp4]; simp)
      have HR4 := Lib.hid hR4
      have HD4 := Lib.hid (hk4.box HD3.out (by omega))
      have HX4 := Lib.hid (hk4.box HX3.out (by omega))
      have hl4 : l4.length ≤ 1048576 := by have := num_len hp4; omega
      have HBY4 := Lib.hid (num_bys HBY3.out hp4)
      obtain ⟨S2, hS2⟩ : ∃ S2, S2 = w4.heap.size := ⟨_, rfl⟩
      have hS2w : w.heap.size ≤ S2 := by rw [hS2]; exact HK4.out.size
      have hDS : D < S2 := by rw [hS2]; exact blk_lt2 HD4.out
      have HROW4 : Hid (RowO ekBool w.heap.size S2 w4 (.slice Ab fr.length nb) fr) := Lib.hid ((HROW.out.fx (Fx.rkI hk4 HR3.out (by simp [ekBool]))).mono (Nat.le_refl _) (by rw [hS2]; exact hk4.size))
      have hS2l : S2 ≤ w4.heap.size := by omega
      clear hp4 hk4 hs4 hR4 hmb hS2 HG4 HR3 HD3 HX3 HROW HK3 HBY3 HB3 q0 q1 q2 qf0 qf1 qf2 ql
      go_wp2_with fail
      go_loopw [22] (fun v22 wr => ∃ q : Nat, q ≤ m ∧ v22 = .int .i64 q ∧ Hid (∃ l' iv co, RdI w0 R l' wr ∧ l'.length ≤ 1048576 ∧ Bys l' ∧ Rk w0 R w wr ∧ wr.heap[w.heap.size]? = some (.cells #[.int .i64 0, .slice none 0 0, .slice none 0 0] 68 (0, 0)) ∧ wr.heap[D]? = some (.cells #[.int .i64 p, .slice Ab fr.length nb, iv] 68 (0, 0)) ∧ RowO ekBool w.heap.size S2 wr (.slice Ab fr.length nb) fr ∧ S2 ≤ wr.heap.size ∧ RowO ekIns w.heap.size wr.heap.size wr iv co ∧ co.length = q ∧ RES = (repP insPs (m - q) l').bind fun u => some ((⟨p, fr, co ++ u.1⟩ : S68), u.2))) (fun v22 _ => m - (RowKit.intOf v22).toNat)
      case atStart => exact ⟨0, Nat.zero_le _, rfl, Lib.hid ⟨l4, _, [], HR4.out, hl4, HBY4.out, HK4.out, HX4.out, HD4.out, HROW4.out, hS2l, RowO.nil _ _ _ _ HK4.out.size, rfl, HG5.out⟩⟩
      case round =>
        clear HR4 HX4 HD4 HROW4 HG5 HK4 HBY4 hl4 hS2l hl3
        obtain ⟨q, hq, rfl, HQ⟩ := hrel
        obtain ⟨l5, iv, co0, hR, hl5, hby5, hk5, hX5, hD5, hrb, hS2l, hrow, hcl, hg5⟩ := HQ.out
        clear HQ
        obtain ⟨Ai, ni, rfl, _⟩ := hrow.form
        have HR5 := Lib.hid hR
        have HBY5 := Lib.hid hby5
        have HK5 := Lib.hid hk5
        have HX5 := Lib.hid hX5
        have HD5 := Lib.hid hD5
        have HRB := Lib.hid hrb
        have HROW := Lib.hid hrow
        have HCL := Lib.hid hcl
        have HG5 := Lib.hid hg5
        have hcl2 : co0.length ≤ 65535 := by omega
        have HB5 : Hid (Below w0.heap.size w0 wr) := Lib.hid (HB.out.trans hk5.bel)
        obtain ⟨q0, q1, q2, qf0, qf1, qf2, ql⟩ := boxF hD5
        have hwl : w.heap.size ≤ wr.heap.size := hk5.size
        clear hR hby5 hk5 hX5 hD5 hrb hrow hcl hg5
        by_cases hlt2 : q < m
        · obtain ⟨d4, hd4⟩ : ∃ d, m - q = d + 1 := ⟨m - q - 1, by omega⟩
          have HGX : Hid (RES = (numP 1 l5).bind fun a => (numP 2 a.2).bind fun r => (numP 1 r.2).bind fun s => (repP insPs d4 s.2).bind fun u => some ((⟨p, fr, (co0 ++ [(⟨a.1, r.1, s.1⟩ : S71)]) ++ u.1⟩ : S68), u.2)) := Lib.hid (by
            rw [HG5.out, hd4, rep_step (p := insPs) (K := fun a l => some ((⟨p, fr, a⟩ : S68), l))]
            unfold insPs
            simp only [Option.bind_assoc, Option.bind_some])
          have HD4' : Hid (m - (q + 1) = d4) := Lib.hid (by omega)
          clear hd4 HG5
          go_wp2_with fail
          go_region_law
            (first
              | (go_simp; go_at_call 87; refine (number_calls w0 R 1 lb wb HRb.out HBb.out hBR (by omega) (by omega) hlb HBYb.out).mono ?_; rintro e w4 ⟨hp, hs4⟩; obtain ⟨hk4, hp⟩ := num_case hp; have hkk := HKb.out.trans hk4; rcases hp with ⟨x2, lc, hpc, rfl, hRc⟩ | ⟨hpc, rfl⟩; (case inr => (go_wp2_with fail; exact ⟨rfl, HK5.out.trans hkk, Or.inr ⟨by rw [← HRES.out, HGX.out, HPa.out]; simp only [Option.bind_some]; rw [HPb.out]; simp only [Option.bind_some]; rw [hpc]; rfl, rfl⟩⟩));
                 have HROW4 := Lib.hid (HROW.out.fx (Fx.rkI hkk HR5.out (by simp [ekIns]))); have HRB4 := Lib.hid (HRB.out.fx (Fx.rkI hkk HR5.out (by simp [ekBool]))); have HE4 : Hid (ekIns.E w4 wr.heap.size w4.heap.size ⟨x0, x1, x2⟩ [.int .i64 x0, .int .i64 x1, .int .i64 x2]) := Lib.hid rfl; have hz4 : wr.heap.size ≤ w4.heap.size := hkk.size; have hlo4 : w.heap.size ≤ w4.heap.size := by omega;
                 have HD4 := Lib.hid (hkk.box HD5.out (by omega)); have HX4 := Lib.hid (hkk.box HX5.out (by omega)); have HR4 := Lib.hid hRc; have HK4 := Lib.hid (HK5.out.trans hkk); have HPc := Lib.hid hpc; clear q0 q1 q2 qf0 qf1 qf2 hpc hRc hk4 hkk hs4; obtain ⟨q0, q1, q2, qf0, qf1, qf2, ql4⟩ := boxF HD4.out)
              | (go_simp; go_at_call 87; refine (number_calls w0 R 2 la wa HRa.out HBa.out hBR (by omega) (by omega) hla HBYa.out).mono ?_; rintro e wb ⟨hp, hsb⟩; obtain ⟨hkb, hp⟩ := num_case hp; have hkkb := HKa.out.trans hkb; rcases hp with ⟨x1, lb, hpb, rfl, hRb⟩ | ⟨hpb, rfl⟩; (case inr => (go_wp2_with fail; exact ⟨rfl, HK5.out.trans hkkb, Or.inr ⟨by rw [← HRES.out, HGX.out, HPa.out]; simp only [Option.bind_some]; rw [hpb]; rfl, rfl⟩⟩));
                 have HKb := Lib.hid hkkb; have HRb := Lib.hid hRb; have HPb := Lib.hid hpb; have hlb : lb.length ≤ 1048576 := (by have := num_len hpb; omega); have HBYb := Lib.hid (num_bys HBYa.out hpb); have HBb : Hid (Below w0.heap.size w0 wb) := Lib.hid (HB5.out.trans hkkb.bel); have HDb := Lib.hid (hkkb.box HD5.out (by omega)); clear hpb hRb hkb hkkb hsb HRa q0 q1 q2 qf0 qf1 qf2; obtain ⟨q0, q1, q2, qf0, qf1, qf2, qlb⟩ := boxF HDb.out)
              | (go_simp; go_at_call 87; refine (number_calls w0 R 1 l5 _ (HR5.out.old (w' := wr.drew) rfl) (by exact HB5.out.drew) hBR (by omega) (by omega) hl5 HBY5.out).mono ?_; rintro e wa ⟨hp, hsa⟩; obtain ⟨hka, hp⟩ := num_case hp; have hkka := (Rk.below (R := R) HB5.out.size (Below.refl wr.heap.size wr).drew).trans hka; rcases hp with ⟨x0, la, hpa, rfl, hRa⟩ | ⟨hpa, rfl⟩; (case inr => (go_wp2_with fail; exact ⟨rfl, HK5.out.trans hkka, Or.inr ⟨by rw [← HRES.out, HGX.out, hpa]; rfl, rfl⟩⟩));
                 have HKa := Lib.hid hkka; have HRa := Lib.hid hRa; have HPa := Lib.hid hpa; have hla : la.length ≤ 1048576 := (by have := num_len hpa; omega); have HBYa := Lib.hid (num_bys HBY5.out hpa); have HBa : Hid (Below w0.heap.size w0 wa) := Lib.hid (HB5.out.trans hkka.bel); have HDa := Lib.hid (hkka.box HD5.out (by omega)); clear hpa hRa hka hkka hsa q0 q1 q2 qf0 qf1 qf2; obtain ⟨q0, q1, q2, qf0, qf1, qf2, qla⟩ := boxF HDa.out)
              | (refine step_elem ekIns 66 Tryd.underlying66 info_ins rfl (by omega) (by simp [ekIns]) (by rfl) _ _ (by rfl) (by rfl) (by rfl) HROW4.out HE4.out hz4 hlo4 (by omega) ?_; intro gg cap w5 HO1 HG5;
                 have HG6 : Hid (w4.grownBy w5 (Value.slice Ai co0.length ni).ownBlock) := Lib.hid HG5.out; have HD6 := Lib.hid (Fx.grown (ts := [68]) HG6.out HROW4.out.typed (by simp [ekIns]) _ _ _ (by simp) HD4.out); have HX6 := Lib.hid (Fx.grown (ts := [68]) HG6.out HROW4.out.typed (by simp [ekIns]) _ _ _ (by simp) HX4.out); clear q0 q1 q2 qf0 qf1 qf2 ql4; obtain ⟨q0, q1, q2, qf0, qf1, qf2, ql5⟩ := boxF HD6.out))
          all_goals
            have HN : Hid (∃ l' iv co, RdI w0 R l' (w5.setCell ⟨D, 2, none⟩ (.slice (some ⟨gg, 0, none⟩) (co0.length + 1) cap)) ∧ l'.length ≤ 1048576 ∧ Bys l' ∧ Rk w0 R w (w5.setCell ⟨D, 2, none⟩ (.slice (some ⟨gg, 0, none⟩) (co0.length + 1) cap)) ∧ (w5.setCell ⟨D, 2, none⟩ (.slice (some ⟨gg, 0, none⟩) (co0.length + 1) cap)).heap[w.heap.size]? = some (.cells #[.int .i64 0, .slice none 0 0, .slice none 0 0] 68 (0, 0)) ∧ (w5.setCell ⟨D, 2, none⟩ (.slice (some ⟨gg, 0, none⟩) (co0.length + 1) cap)).heap[D]? = some (.cells #[.int .i64 p, .slice Ab fr.length nb, iv] 68 (0, 0)) ∧ RowO ekBool w.heap.size S2 (w5.setCell ⟨D, 2, none⟩ (.slice (some ⟨gg, 0, none⟩) (co0.length + 1) cap)) (.slice Ab fr.length nb) fr ∧ S2 ≤ (w5.setCell ⟨D, 2, none⟩ (.slice (some ⟨gg, 0, none⟩) (co0.length + 1) cap)).heap.size ∧ RowO ekIns w.heap.size (w5.setCell ⟨D, 2, none⟩ (.slice (some ⟨gg, 0, none⟩) (co0.length + 1) cap)).heap.size (w5.setCell ⟨D, 2, none⟩ (.slice (some ⟨gg, 0, none⟩) (co0.length + 1) cap)) iv co ∧ co.length = q + 1 ∧ RES = (repP insPs (m - (q + 1)) l').bind fun u => some ((⟨p, fr, co ++ u.1⟩ : S68), u.2)) := Lib.hid (by
              refine ⟨lc, .slice (some ⟨gg, 0, none⟩) (co0.length + 1) cap, co0 ++ [⟨x0, x1, x2⟩], (HR4.out.grown HG6.out HROW4.out.typed (by simp [ekIns])).old (Below.heap_setCell _ _ _ _ (by simp; omega)), by have := num_len HPc.out; omega, num_bys HBYb.out HPc.out, (HK4.out.grown HG6.out (fun q hq => (HROW4.out.lt q hq).1) hw0).set hw0 (by omega) _, set_far HX6.out (by omega) _, ?_, (HRB4.out.fx (Fx.grown HG6.out HROW4.out.typed (by simp [ekIns, ekBool]))).fx (Fx.box HD6.out _ (by simp [ekBool])), by rw [set_size]; have := HG6.out.size; omega, (HO1.out.fx (Fx.box HD6.out _ (by simp [ekIns]))).mono (Nat.le_refl _) (by rw [set_size]; exact Nat.le_refl _), by simp [HCL.out], ?_⟩
              · have := Go.Joins.block_setCell (i := 2) HD6.out (.slice (some ⟨gg, 0, none⟩) (co0.length + 1) cap)
                simpa using this
              · rw [HGX.out, HPa.out]
                simp only [Option.bind_some]
                rw [HPb.out]
                simp only [Option.bind_some]
                rw [HPc.out, HD4'.out]
                rfl)
            clear HO1 HG5 HG6 HD6 HX6 HROW4 HRB4 HE4 HD4 HX4 HR4 HK4 HPa HPb HPc q0 q1 q2 qf0 qf1 qf2 ql5 ql HROW HRB HD5 HX5 HR5 HK5 HGX
            go_wp2_with fail
            go_roundw
            case rel => exact ⟨q + 1, by omega, by go_num, HN⟩
            case measure => simp [RowKit.intOf]; omega
        · have hjk2 : m - q = 0 := by omega
          have HG6 : Hid (RES = some ((⟨p, fr, co0⟩ : S68), l5)) := Lib.hid (by
            rw [HG5.out, hjk2]
            simp [repP])
          have hge2 : ¬ (q : Int) < (m : Int) := by omega
          obtain ⟨x0, x1, x2, xf0, xf1, xf2, xl⟩ := boxF HX5.out
          clear hjk2 HG5
          go_wp2_with fail
          refine bodyPost_ret (results_cell_row rfl _ _ w.heap.size 68 #[.int .i64 p, .slice Ab fr.length nb, .slice Ai co0.length ni] (0, 0) _ rfl (put3_box HX5.out) Tryd.underlying68 rfl (by kernel_rfl)) rfl ?_
          refine ⟨((HK5.out.set hw0 (Nat.le_refl _) _).set hw0 (Nat.le_refl _) _).set hw0 (Nat.le_refl _) _, Or.inl ⟨⟨p, fr, co0⟩, l5, _, HRES.out.symm.trans HG6.out, rfl, ⟨_, _, rfl, ?_, ?_⟩, HR5.out.old ?_⟩⟩
          · exact (HRB.out.fx (Fx.put3 HX5.out (by simp [ekBool]))).mono (Nat.le_refl _) (by rw [set_size, set_size, set_size]; exact hS2l)
          · exact (HROW.out.fx (Fx.put3 HX5.out (by simp [ekIns]))).mono (Nat.le_refl _) (by rw [set_size, set_size, set_size]; exact Nat.le_refl _)
          · have hne : R ≠ w.heap.size := by omega
            rw [Below.heap_setCell _ _ _ _ hne, Below.heap_setCell _ _ _ _ hne, Below.heap_setCell _ _ _ _ hne]
end Go.Proofs.YtogmphjhdkgdjaaDoor
