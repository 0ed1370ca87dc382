/- Reading an image, in plain Lean. -/
import Derived.Test.YtogmphjhdkgdjaaDoorDiB
import Derived.Lib.SmallJoins
import Derived.BigQuiet
import Derived.StillTailTactics
import Derived.Test.YtogmphjhdkgdjaaDoorDiC
import Derived.Laws.ResultCell
namespace Go.Proofs.YtogmphjhdkgdjaaDoor
open Go.RowKit Go.Proofs.YtogmphjhdkgdjaaDoor.QFnExactValidModule
open Go.Proofs.YtogmphjhdkgdjaaDoor.SpecMM (FitsM conP funP insP)
open Go.Proofs.YtogmphjhdkgdjaaDoor.SpecVM (toD Fits)
set_option linter.unusedVariables false
set_option linter.unusedSimpArgs false
abbrev Ps (α : Type) := List Int → Option (α × List Int)
/-- A number, the lowest byte first. -/
def leN : List Int → Int
  | [] => 0
  | x :: l => x + 256 * leN l
def w64 (x : Int) : Int := (x + 9223372036854775808) % 18446744073709551616 - 9223372036854775808
def numP (n : Nat) : Ps Int := fun l => if n ≤ l.length then some (w64 (leN (l.take n)), l.drop n) else none
def repP {α : Type} (p : Ps α) : Nat → Ps (List α)
  | 0, l => some ([], l)
  | n + 1, l => (p l).bind fun q => (repP p n q.2).bind fun r => some (q.1 :: r.1, r.2)
def txtP (n : Nat) : Ps (List Int) := fun l => if n ≤ l.length then some (l.take n, l.drop n) else none
def datP : Ps S57 := fun l => (numP 1 l).bind fun q =>
  if q.1 = 0 then (numP 8 q.2).bind fun r => some (⟨q.1, r.1, [], 0⟩, r.2)
  else if q.1 = 1 then (numP 1 q.2).bind fun r => some (⟨q.1, r.1, [], 0⟩, r.2)
  else if q.1 = 2 then (numP 1 q.2).bind fun r => (txtP r.1.toNat r.2).bind fun s => some (⟨q.1, 0, s.1, 0⟩, s.2)
  else (numP 2 q.2).bind fun r => some (⟨q.1, 0, [], r.1⟩, r.2)
def conPs : Ps (List S57) := fun l => (numP 2 l).bind fun q => repP datP q.1.toNat q.2
def boxPs : Ps Bool := fun l => (numP 1 l).bind fun q => some (decide (q.1 = 1), q.2)
def insPs : Ps S71 := fun l => (numP 1 l).bind fun q => (numP 2 q.2).bind fun r => (numP 1 r.2).bind fun s => some (⟨q.1, r.1, s.1⟩, s.2)
def funPs : Ps S68 := fun l => (numP 1 l).bind fun q => (numP 1 q.2).bind fun r => (repP boxPs r.1.toNat r.2).bind fun s => (numP 2 s.2).bind fun t => (repP insPs t.1.toNat t.2).bind fun u => some (⟨q.1, s.1, u.1⟩, u.2)
/-- A module's parts. -/
structure ModP where
  cs : List (List S57)
  g : Int
  fs : List S68
def modPs : List Int → Option ModP := fun l => (numP 2 l).bind fun q => (numP 2 q.2).bind fun r => (repP conPs r.1.toNat r.2).bind fun s => (numP 2 s.2).bind fun t => (repP funPs t.1.toNat t.2).bind fun u => some ⟨s.1, q.1, u.1⟩
def readM (b : List Int) : Option ModP := if 4 ≤ b.length then modPs (b.drop 4) else none
def encM (m : ModP) : List Int := encT (conP m.cs) m.g (m.fs.map funP)
/-- What DecodeImage answers. -/
def decT (b : List Int) : ModP × Int := match readM b with
  | some m => if encM m = b then (m, 0) else (⟨[], 0, []⟩, 5)
  | none => (⟨[], 0, []⟩, 5)
def Bys (l : List Int) : Prop := ∀ x ∈ l, 0 ≤ x ∧ x < 256
theorem Bys.take {l : List Int} (h : Bys l) (n : Nat) : Bys (l.take n) := fun x hx => h x (List.mem_of_mem_take hx)
theorem Bys.drop {l : List Int} (h : Bys l) (n : Nat) : Bys (l.drop n) := fun x hx => h x (List.mem_of_mem_drop hx)
theorem w64_in (x : Int) : I64 (w64 x) := by unfold w64; constructor <;> omega
theorem i64_1 {x : Int} (h0 : 0 ≤ x) (h1 : x < 256) : I64 x := ⟨by omega, by omega⟩
theorem i64_2 {x : Int} (h0 : 0 ≤ x) (h1 : x < 65536) : I64 x := ⟨by omega, by omega⟩
theorem i64_0 : I64 0 := ⟨by omega, by omega⟩
theorem num1 {l r : List Int} {v : Int} (hl : Bys l) (h : numP 1 l = some (v, r)) : 0 ≤ v ∧ v < 256 ∧ Bys r := by
  unfold numP at h
  split at h
  · rename_i hn
    cases h
    cases l with
    | nil => simp at hn
    | cons a l =>
      have := hl a (by simp)
      simp only [List.take_succ_cons, List.take_zero, leN, w64]
      exact ⟨by omega, by omega, hl.drop 1⟩
  · cases h
theorem num2 {l r : List Int} {v : Int} (hl : Bys l) (h : numP 2 l = some (v, r)) : 0 ≤ v ∧ v < 65536 ∧ Bys r := by
  unfold numP at h
  split at h
  · rename_i hn
    cases h
    match l, hn with
    | a :: b :: l, _ =>
      have := hl a (by simp)
      have := hl b (by simp)
      simp only [List.take_succ_cons, List.take_zero, leN, w64]
      exact ⟨by omega, by omega, hl.drop 2⟩
  · cases h
theorem num8 {l r : List Int} {v : Int} (hl : Bys l) (h : numP 8 l = some (v, r)) : I64 v ∧ Bys r := by
  unfold numP at h
  split at h
  · cases h
    exact ⟨w64_in _, hl.drop 8⟩
  · cases h
theorem bind_some {α β : Type} {x : Option α} {f : α → Option β} {b : β} (h : x.bind f = some b) : ∃ a, x = some a ∧ f a = some b := Option.bind_eq_some_iff.1 h
theorem rep_all {α : Type} {p : Ps α} {Q : α → Prop} (hp : ∀ l x r, Bys l → p l = some (x, r) → Q x ∧ Bys r) : ∀ (n : Nat) (l r : List Int) (xs : List α), Bys l → repP p n l = some (xs, r) → xs.length = n ∧ (∀ x ∈ xs, Q x) ∧ Bys r
  | 0, l, r, xs, hl, h => by
    simp only [repP] at h
    cases h
    exact ⟨rfl, (fun x hx => by cases hx), hl⟩
  | n + 1, l, r, xs, hl, h => by
    simp only [repP] at h
    obtain ⟨⟨x, l1⟩, h1, h⟩ := bind_some h
    obtain ⟨⟨ys, l2⟩, h2, h⟩ := bind_some h
    cases h
    obtain ⟨q1, q2⟩ := hp _ _ _ hl h1
    obtain ⟨r1, r2, r3⟩ := rep_all hp n _ _ _ q2 h2
    refine ⟨by simp [r1], fun y hy => ?_, r3⟩
    rcases List.mem_cons.1 hy with rfl | hy
    · exact q1
    · exact r2 y hy
/-- What is known of a datum that was read. -/
structure DatOk (x : S57) : Prop where
  i0 : I64 x.f0
  i1 : I64 x.f1
  i3 : I64 x.f3
  len : x.f2.length ≤ 255
  byt : Bys x.f2
theorem dat_ok {l r : List Int} {x : S57} (hl : Bys l) (h : datP l = some (x, r)) : DatOk x ∧ Bys r := by
  unfold datP at h
  obtain ⟨⟨k, l1⟩, h1, h⟩ := bind_some h
  obtain ⟨a1, a2, a3⟩ := num1 hl h1
  simp only at h
  split at h
  · obtain ⟨⟨n, l2⟩, h2, h⟩ := bind_some h
    obtain ⟨b1, b2⟩ := num8 a3 h2
    cases h
    exact ⟨⟨i64_1 a1 a2, b1, i64_0, by simp, fun x hx => by cases hx⟩, b2⟩
  · split at h
    · obtain ⟨⟨n, l2⟩, h2, h⟩ := bind_some h
      obtain ⟨b1, b2, b3⟩ := num1 a3 h2
      cases h
      exact ⟨⟨i64_1 a1 a2, i64_1 b1 b2, i64_0, by simp, fun x hx => by cases hx⟩, b3⟩
    · split at h
      · obtain ⟨⟨n, l2⟩, h2, h⟩ := bind_some h
        obtain ⟨b1, b2, b3⟩ := num1 a3 h2
        obtain ⟨⟨s, l3⟩, h3, h⟩ := bind_some h
        unfold txtP at h3
        split at h3
        · cases h3
          cases h
          refine ⟨⟨i64_1 a1 a2, i64_0, i64_0, ?_, b3.take _⟩, b3.drop _⟩
          rw [List.length_take]
          omega
        · cases h3
      · obtain ⟨⟨n, l2⟩, h2, h⟩ := bind_some h
        obtain ⟨b1, b2, b3⟩ := num2 a3 h2
        cases h
        exact ⟨⟨i64_1 a1 a2, i64_0, i64_2 b1 b2, by simp, fun x hx => by cases hx⟩, b3⟩
theorem con_ok {l r : List Int} {x : List S57} (hl : Bys l) (h : conPs l = some (x, r)) : (x.length ≤ 65535 ∧ ∀ y ∈ x, DatOk y) ∧ Bys r := by
  unfold conPs at h
  obtain ⟨⟨k, l1⟩, h1, h⟩ := bind_some h
  obtain ⟨a1, a2, a3⟩ := num2 hl h1
  obtain ⟨b1, b2, b3⟩ := rep_all (fun _ _ _ hl h => dat_ok hl h) _ _ _ _ a3 h
  exact ⟨⟨by simp only at b1; omega, b2⟩, b3⟩
def InsOk (x : S71) : Prop := I64 x.f0 ∧ I64 x.f1 ∧ I64 x.f2
theorem ins_ok {l r : List Int} {x : S71} (hl : Bys l) (h : insPs l = some (x, r)) : InsOk x ∧ Bys r := by
  unfold insPs at h
  obtain ⟨⟨k, l1⟩, h1, h⟩ := bind_some h
  obtain ⟨a1, a2, a3⟩ := num1 hl h1
  obtain ⟨⟨m, l2⟩, h2, h⟩ := bind_some h
  obtain ⟨b1, b2, b3⟩ := num2 a3 h2
  obtain ⟨⟨n, l3⟩, h3, h⟩ := bind_some h
  obtain ⟨c1, c2, c3⟩ := num1 b3 h3
  cases h
  exact ⟨⟨i64_1 a1 a2, i64_2 b1 b2, i64_1 c1 c2⟩, c3⟩
theorem box_ok {l r : List Int} {x : Bool} (hl : Bys l) (h : boxPs l = some (x, r)) : True ∧ Bys r := by
  unfold boxPs at h
  obtain ⟨⟨k, l1⟩, h1, h⟩ := bind_some h
  obtain ⟨a1, a2, a3⟩ := num1 hl h1
  cases h
  exact ⟨trivial, a3⟩
structure FunOk (x : S68) : Prop where
  i0 : I64 x.f0
  l1 : x.f1.length ≤ 255
  l2 : x.f2.length ≤ 65535
  ins : ∀ y ∈ x.f2, InsOk y
theorem fun_ok {l r : List Int} {x : S68} (hl : Bys l) (h : funPs l = some (x, r)) : FunOk x ∧ Bys r := by
  unfold funPs at h
  obtain ⟨⟨k, l1⟩, h1, h⟩ := bind_some h
  obtain ⟨a1, a2, a3⟩ := num1 hl h1
  obtain ⟨⟨m, l2⟩, h2, h⟩ := bind_some h
  obtain ⟨b1, b2, b3⟩ := num1 a3 h2
  obtain ⟨⟨fr, l3⟩, h3, h⟩ := bind_some h
  obtain ⟨c1, c2, c3⟩ := rep_all (fun _ _ _ hl h => box_ok hl h) _ _ _ _ b3 h3
  obtain ⟨⟨n, l4⟩, h4, h⟩ := bind_some h
  obtain ⟨d1, d2, d3⟩ := num2 c3 h4
  obtain ⟨⟨co, l5⟩, h5, h⟩ := bind_some h
  obtain ⟨e1, e2, e3⟩ := rep_all (fun _ _ _ hl h => ins_ok hl h) _ _ _ _ d3 h5
  cases h
  exact ⟨⟨i64_1 a1 a2, by simp only at c1 ⊢; omega, by simp only at e1 ⊢; omega, e2⟩, e3⟩
/-- What is known of a module that was read. -/
structure ModOk (m : ModP) : Prop where
  nc : m.cs.length ≤ 65535
  con : ∀ c ∈ m.cs, c.length ≤ 65535 ∧ ∀ x ∈ c, DatOk x
  g : I64 m.g
  nf : m.fs.length ≤ 65535
  fn : ∀ f ∈ m.fs, FunOk f
theorem mod_ok {b : List Int} {m : ModP} (hb : Bys b) (h : readM b = some m) : ModOk m := by
  unfold readM at h
  split at h
  · unfold modPs at h
    obtain ⟨⟨k, l1⟩, h1, h⟩ := bind_some h
    obtain ⟨a1, a2, a3⟩ := num2 (hb.drop 4) h1
    obtain ⟨⟨n, l2⟩, h2, h⟩ := bind_some h
    obtain ⟨b1, b2, b3⟩ := num2 a3 h2
    obtain ⟨⟨cs, l3⟩, h3, h⟩ := bind_some h
    obtain ⟨c1, c2, c3⟩ := rep_all (fun _ _ _ hl h => con_ok hl h) _ _ _ _ b3 h3
    obtain ⟨⟨o, l4⟩, h4, h⟩ := bind_some h
    obtain ⟨d1, d2, d3⟩ := num2 c3 h4
    obtain ⟨⟨fs, l5⟩, h5, h⟩ := bind_some h
    obtain ⟨e1, e2, e3⟩ := rep_all (fun _ _ _ hl h => fun_ok hl h) _ _ _ _ d3 h5
    cases h
    exact ⟨by simp only at c1 ⊢; omega, c2, i64_2 a1 a2, by simp only at e1 ⊢; omega, e2⟩
  · cases h
theorem ModOk.fits {m : ModP} (h : ModOk m) : FitsM m.cs m.fs :=
  ⟨by have := h.nc; omega, fun c hc => ⟨by have := (h.con c hc).1; omega, fun x hx => ⟨((h.con c hc).2 x hx).byt, by have := ((h.con c hc).2 x hx).len; omega⟩, fun x hx => ((h.con c hc).2 x hx).i3.2⟩, by have := h.nf; omega, fun f hf => ⟨by have := (h.fn f hf).l1; omega, by have := (h.fn f hf).l2; omega⟩⟩
/-- A step of a reader beside its end: what is left is what is to come. -/
theorem rep_step {α β : Type} {p : Ps α} {d : Nat} {l : List Int} {xs : List α} {K : List α → List Int → Option β} : (repP p (d + 1) l).bind (fun q => K (xs ++ q.1) q.2) = (p l).bind fun q => (repP p d q.2).bind fun r => K ((xs ++ [q.1]) ++ r.1) r.2 := by
  simp only [repP]
  cases p l with
  | none => rfl
  | some q =>
    simp only [Option.bind_some]
    cases repP p d q.2 with
    | none => rfl
    | some r => simp
end Go.Proofs.YtogmphjhdkgdjaaDoor
/- Rows of rows of the call's own: every element's blocks lie between two bounds of their own. -/
namespace Go.Proofs.YtogmphjhdkgdjaaDoor
open Go.RowKit Go.Proofs.YtogmphjhdkgdjaaDoorW.PrintWords Go.Proofs.YtogmphjhdkgdjaaDoor.QFnExactValidModule
set_option linter.unusedVariables false
set_option linter.unusedSimpArgs false
/-- Blocks of these types are as they were. -/
def Fx (ts : List Nat) (w w' : World) : Prop := ∀ (k : Nat) (cs : Array Value) (T : Nat), T ∈ ts → w.heap[k]? = some (.cells cs T (0, 0)) → w'.heap[k]? = some (.cells cs T (0, 0))
theorem Fx.refl (ts : List Nat) (w : World) : Fx ts w w := fun _ _ _ _ h => h
theorem Fx.trans {ts : List Nat} {a b c : World} (h : Fx ts a b) (k : Fx ts b c) : Fx ts a c := fun q cs T hT hq => k q cs T hT (h q cs T hT hq)
theorem Fx.sub {ts us : List Nat} {a b : World} (h : Fx ts a b) (hs : ∀ T ∈ us, T ∈ ts) : Fx us a b := fun q cs T hT hq => h q cs T (hs T hT) hq
theorem Fx.below {ts : List Nat} {w w' : World} (h : Below w.heap.size w w') : Fx ts w w' := fun k _ _ _ hk => (h.block k (blk_lt2 hk)).trans hk
theorem Fx.grown {ts : List Nat} {w w' : World} {v : Value} {T0 : Nat} (hg : w.grownBy w' v.ownBlock) (hv : ∀ k, v.ownBlock = some k → ∃ cs, w.heap[k]? = some (.cells cs T0 (0, 0))) (hT : T0 ∉ ts) : Fx ts w w' := fun k cs T hTs hk => by
  refine (hg.block k (blk_lt2 hk) (fun e => ?_)).trans hk
  obtain ⟨c, hc⟩ := hv k e.symm
  rw [hk] at hc
  cases hc
  exact hT hTs
theorem Fx.box {ts : List Nat} {w : World} {b j : Nat} {cs : Array Value} {T0 : Nat} (hb : w.heap[b]? = some (.cells cs T0 (0, 0))) (v : Value) (hT : T0 ∉ ts) : Fx ts w (w.setCell ⟨b, j, none⟩ v) := fun k c T hTs hk => by
  refine (Below.heap_setCell _ _ _ _ (fun e => ?_)).trans hk
  simp only at e
  rw [e, hb] at hk
  cases hk
  exact hT hTs
/-- A kind of element: its cells, and what its blocks are. -/
structure Ek (α : Type) where
  T : Nat
  sz : Nat
  ts : List Nat
  E : World → Nat → Nat → α → List Value → Prop
  pos : 0 < sz
  len : ∀ {w lo hi x c}, E w lo hi x c → c.length = sz
  one : ∀ {w lo hi x c}, E w lo hi x c → ∀ u ∈ c, u.oneCell' = true
  mono : ∀ {w lo hi lo' hi' x c}, E w lo hi x c → lo' ≤ lo → hi ≤ hi' → E w lo' hi' x c
  fx : ∀ {w w' lo hi x c}, E w lo hi x c → Fx ts w w' → E w' lo hi x c
  low : ∀ {w w' : World} {lo hi x c}, E w lo hi x c → (∀ q, q < hi → w'.heap[q]? = w.heap[q]?) → E w' lo hi x c
/-- A row of such elements. -/
def RowO {α : Type} (k : Ek α) (lo hi : Nat) (w : World) (v : Value) (xs : List α) : Prop :=
  ∃ (cs : List (List Value)) (f : Nat → Nat), w.ownsRow lo k.T k.sz v xs.length cs.flatten ∧ (∀ g, v.ownBlock = some g → g < hi) ∧ cs.length = xs.length ∧ lo ≤ f 0 ∧ (∀ i j, i ≤ j → f i ≤ f j) ∧ f xs.length ≤ hi ∧ ∀ (i : Nat) x c, xs[i]? = some x → cs[i]? = some c → k.E w (f i) (f (i + 1)) x c
section
variable {α : Type} {k : Ek α} {lo hi : Nat} {w w' : World} {v : Value} {xs : List α}
theorem RowO.nil (k : Ek α) (lo hi : Nat) (w : World) (h : lo ≤ hi) : RowO k lo hi w (.slice none 0 0) [] :=
  ⟨[], fun _ => lo, World.ownsRow_nil _ _ _ _, (fun g hg => by simp [Value.ownBlock] at hg), rfl, Nat.le_refl _, fun _ _ _ => Nat.le_refl _, h, fun i x c hx => by simp at hx⟩
theorem RowO.form (h : RowO k lo hi w v xs) : ∃ A c, v = .slice A xs.length c ∧ xs.length ≤ c := by
  obtain ⟨cs, f, ho, _⟩ := h
  rcases ho.2 with ⟨rfl, h0⟩ | ⟨g, cap, cur, rfl, _, _, hc, _⟩
  · exact ⟨none, 0, by rw [h0], by omega⟩
  · exact ⟨_, cap, rfl, hc⟩
theorem RowO.mono {lo' hi' : Nat} (h : RowO k lo hi w v xs) (hl : lo' ≤ lo) (hh : hi ≤ hi') : RowO k lo' hi' w v xs := by
  obtain ⟨cs, f, h1, h2, h3, h4, h5, h6, h7⟩ := h
  exact ⟨cs, f, Go.Joins.ownsRow_le h1 hl, fun g hg => by have := h2 g hg; omega, h3, by omega, h5, by omega, h7⟩
theorem RowO.move (h : RowO k lo hi w v xs) (h1 : ∀ g, v.ownBlock = some g → w'.heap[g]? = w.heap[g]?) (h2 : Fx k.ts w w') : RowO k lo hi w' v xs := by
  obtain ⟨cs, f, ho, q2, q3, q4, q5, q6, q7⟩ := h
  exact ⟨cs, f, own_move ho h1, q2, q3, q4, q5, q6, fun i x c hx hc => k.fx (q7 i x c hx hc) h2⟩
theorem RowO.typed (h : RowO k lo hi w v xs) : ∀ g, v.ownBlock = some g → ∃ cs, w.heap[g]? = some (.cells cs k.T (0, 0)) := by
  obtain ⟨cs, f, ho, _⟩ := h
  exact fun g hg => own_typed ho g hg
theorem RowO.fx (h : RowO k lo hi w v xs) (h2 : Fx (k.T :: k.ts) w w') : RowO k lo hi w' v xs :=
  h.move (fun g hg => by obtain ⟨c, hc⟩ := h.typed g hg; rw [hc]; exact h2 g c k.T (by simp) hc) (h2.sub (fun T hT => List.mem_cons_of_mem _ hT))
theorem RowO.low (h : RowO k lo hi w v xs) (hs : ∀ q, q < hi → w'.heap[q]? = w.heap[q]?) : RowO k lo hi w' v xs := by
  obtain ⟨cs, f, ho, q2, q3, q4, q5, q6, q7⟩ := h
  refine ⟨cs, f, own_move ho (fun g hg => hs g (q2 g hg)), q2, q3, q4, q5, q6, fun i x c hx hc => k.low (q7 i x c hx hc) (fun q hq => hs q ?_)⟩
  have := (List.getElem?_eq_some_iff.1 hx).1
  have := q5 (i + 1) xs.length (by omega)
  omega
theorem RowO.below (h : RowO k lo hi w v xs) (hb : Below w.heap.size w w') : RowO k lo hi w' v xs := h.fx (Fx.below hb)
theorem RowO.lt (h : RowO k lo hi w v xs) : ∀ g, v.ownBlock = some g → lo ≤ g ∧ g < hi := by
  obtain ⟨cs, f, ho, h2, _⟩ := h
  exact fun g hg => ⟨(ho.lt g hg).1, h2 g hg⟩
end
theorem flat_get {sz : Nat} : ∀ (cs : List (List Value)) (j i : Nat) (c : List Value), (∀ c ∈ cs, c.length = sz) → cs[j]? = some c → i < sz → cs.flatten[j * sz + i]? = c[i]?
  | [], j, i, c, _, h, _ => by simp at h
  | a :: cs, 0, i, c, hl, h, hi => by
    simp at h
    subst h
    rw [List.flatten_cons, List.getElem?_append_left (by rw [hl a (by simp)]; omega)]
    simp
  | a :: cs, j + 1, i, c, hl, h, hi => by
    have ha := hl a (by simp)
    rw [List.flatten_cons, List.getElem?_append_right (by rw [ha, Nat.succ_mul]; omega)]
    have e : (j + 1) * sz + i - a.length = j * sz + i := by rw [ha, Nat.succ_mul]; omega
    rw [e]
    exact flat_get cs j i c (fun c hc => hl c (by simp [hc])) (by simpa using h) hi
/-- A cell of a row. -/
theorem RowO.cells {α : Type} {k : Ek α} {lo hi : Nat} {w : World} {v : Value} {xs : List α} (h : RowO k lo hi w v xs) : (xs.length = 0) ∨ ∃ (g cap : Nat) (cur : Array Value) (cs : List (List Value)) (f : Nat → Nat), v = .slice (some ⟨g, 0, none⟩) xs.length cap ∧ lo ≤ g ∧ g < hi ∧ w.heap[g]? = some (.cells cur k.T (0, 0)) ∧ xs.length ≤ cap ∧ xs.length ≤ 9223372036854775807 ∧ xs.length * k.sz ≤ cur.size ∧ lo ≤ f 0 ∧ (∀ i j, i ≤ j → f i ≤ f j) ∧ f xs.length ≤ hi ∧ ∀ (i : Nat) x, xs[i]? = some x → ∃ c, k.E w (f i) (f (i + 1)) x c ∧ ∀ j, j < k.sz → cur[i * k.sz + j]? = c[j]? := by
  obtain ⟨cs, f, ho, h2, h3, h4, h5, h6, h7⟩ := h
  rcases ho.2 with ⟨rfl, h0⟩ | ⟨g, cap, cur, rfl, hb, hg, hc, hm, hs, ht⟩
  · exact Or.inl h0
  · refine Or.inr ⟨g, cap, cur, cs, f, rfl, hb, h2 g rfl, hg, hc, by unfold maxLen at hm; omega, by rw [hs]; exact Nat.mul_le_mul_right _ hc, h4, h5, h6, fun i x hx => ?_⟩
    have hi := (List.getElem?_eq_some_iff.1 hx).1
    obtain ⟨c, hci⟩ : ∃ c, cs[i]? = some c := ⟨cs[i]'(by omega), List.getElem?_eq_getElem (by omega)⟩
    have hl : ∀ c ∈ cs, c.length = k.sz := fun c hc => by
      obtain ⟨q, hq, e⟩ := List.mem_iff_getElem.1 hc
      subst e
      exact k.len (h7 q (xs[q]'(by omega)) _ (List.getElem?_eq_getElem (by omega)) (List.getElem?_eq_getElem hq))
    refine ⟨c, h7 i x c hx hci, fun j hj => ?_⟩
    have h8 := flat_get cs i j c hl hci hj
    rw [← h8, ← ht, List.getElem?_take, if_pos]
    · simp
    · have : (i + 1) * k.sz ≤ xs.length * k.sz := Nat.mul_le_mul_right _ hi
      rw [Nat.succ_mul] at this
      omega
/-- A row, as the callees read it. -/
theorem RowO.C {α : Type} {k : Ek α} {d : Kd α} (hs : d.sz = k.sz) {lo hi : Nat} {w : World} {A : Option Addr} {n c : Nat} {xs : List α} (hK : ∀ lo hi x c, k.E w lo hi x c → d.K w x c) (h : RowO k lo hi w (.slice A n c) xs) : n = xs.length ∧ xs.length ≤ c ∧ Kd.C d w A xs.length xs := by
  obtain ⟨A', c', e, hc⟩ := h.form
  cases e
  refine ⟨rfl, hc, ?_⟩
  rcases h.cells with h0 | ⟨g, cap, cur, cs, f, e, hb, hh, hg, hcap, hm, hsz, _, _, _, he⟩
  · exact ⟨rfl, by omega, fun hp => by omega⟩
  · cases e
    refine ⟨rfl, by omega, fun _ => ⟨_, rfl, fun j p hp => ?_⟩⟩
    obtain ⟨c, hE, hcc⟩ := he j p hp
    refine ⟨c, ?_, hK _ _ _ _ hE, fun i u hu => ?_⟩
    · rw [hs]; exact k.len hE
    · have hi : i < k.sz := by have := (List.getElem?_eq_some_iff.1 hu).1; rw [k.len hE] at this; exact this
      rw [Go.Proofs.YtogmphjhdkgdjaaDoorW.PrintWords.add_plain, hs]
      simp only [World.cell?, hg]
      rw [hcc i hi]
      exact hu
/-! ### the kinds -/
def ekInt : Ek Int := ⟨5, 1, [], fun _ _ _ p c => c = [.int .u8 p], by decide, fun h => by rw [h]; rfl, fun h u hu => by rw [h] at hu; simp at hu; subst hu; rfl, fun h _ _ => h, fun h _ => h, fun h _ => h⟩
def ekBool : Ek Bool := ⟨4, 1, [], fun _ _ _ p c => c = [.bool p], by decide, fun h => by rw [h]; rfl, fun h u hu => by rw [h] at hu; simp at hu; subst hu; rfl, fun h _ _ => h, fun h _ => h, fun h _ => h⟩
def ekIns : Ek S71 := ⟨71, 3, [], fun _ _ _ p c => c = [.int .i64 p.f0, .int .i64 p.f1, .int .i64 p.f2], by decide, fun h => by rw [h]; rfl, fun h u hu => by
  rw [h] at hu
  simp at hu
  rcases hu with rfl | rfl | rfl <;> rfl, fun h _ _ => h, fun h _ => h, fun h _ => h⟩
theorem RowO.one {α : Type} {k : Ek α} {lo hi : Nat} {w : World} {v : Value} {xs : List α} (h : RowO k lo hi w v xs) : v.oneCell' = true := by
  obtain ⟨A, c, rfl, _⟩ := h.form
  rfl
def ekDat : Ek S57 := ⟨57, 4, [5], fun w lo hi x c => ∃ tv, c = [.int .i64 x.f0, .int .i64 x.f1, tv, .int .i64 x.f3] ∧ RowO ekInt lo hi w tv x.f2, by decide, by
  rintro w lo hi x c ⟨tv, rfl, _⟩; rfl, by
  rintro w lo hi x c ⟨tv, rfl, h⟩ u hu
  simp at hu
  rcases hu with rfl | rfl | rfl | rfl
  · rfl
  · rfl
  · exact h.one
  · rfl, by
  rintro w lo hi lo' hi' x c ⟨tv, rfl, h⟩ h1 h2; exact ⟨tv, rfl, h.mono h1 h2⟩, by
  rintro w w' lo hi x c ⟨tv, rfl, h⟩ h2; exact ⟨tv, rfl, h.fx h2⟩, by
  rintro w w' lo hi x c ⟨tv, rfl, h⟩ h2; exact ⟨tv, rfl, h.low h2⟩⟩
def ekDats : Ek (List S57) := ⟨25, 1, [57, 5], fun w lo hi x c => ∃ tv, c = [tv] ∧ RowO ekDat lo hi w tv x, by decide, by
  rintro w lo hi x c ⟨tv, rfl, _⟩; rfl, by
  rintro w lo hi x c ⟨tv, rfl, h⟩ u hu
  simp at hu
  subst hu
  exact h.one, by
  rintro w lo hi lo' hi' x c ⟨tv, rfl, h⟩ h1 h2; exact ⟨tv, rfl, h.mono h1 h2⟩, by
  rintro w w' lo hi x c ⟨tv, rfl, h⟩ h2; exact ⟨tv, rfl, h.fx h2⟩, by
  rintro w w' lo hi x c ⟨tv, rfl, h⟩ h2; exact ⟨tv, rfl, h.low h2⟩⟩
def ekFun : Ek S68 := ⟨68, 3, [4, 71], fun w lo hi x c => ∃ bv iv, c = [.int .i64 x.f0, bv, iv] ∧ RowO ekBool lo hi w bv x.f1 ∧ RowO ekIns lo hi w iv x.f2, by decide, by
  rintro w lo hi x c ⟨bv, iv, rfl, _⟩; rfl, by
  rintro w lo hi x c ⟨bv, iv, rfl, h1, h2⟩ u hu
  simp at hu
  rcases hu with rfl | rfl | rfl
  · rfl
  · exact h1.one
  · exact h2.one, by
  rintro w lo hi lo' hi' x c ⟨bv, iv, rfl, h, k⟩ h1 h2; exact ⟨bv, iv, rfl, h.mono h1 h2, k.mono h1 h2⟩, by
  rintro w w' lo hi x c ⟨bv, iv, rfl, h, k⟩ h2; exact ⟨bv, iv, rfl, h.fx (h2.sub (by simp [ekBool])), k.fx (h2.sub (by simp [ekIns]))⟩, by
  rintro w w' lo hi x c ⟨bv, iv, rfl, h, k⟩ h2; exact ⟨bv, iv, rfl, h.low h2, k.low h2⟩⟩
theorem own_E {w : World} {A : Option Addr} {lo hi n c : Nat} {xs : List Int} (h : RowO ekInt lo hi w (.slice A n c) xs) : n = xs.length ∧ xs.length ≤ c ∧ Kd.C (Kd.int .u8) w A xs.length xs :=
  h.C rfl (fun _ _ _ _ h => h)
theorem bool_E {w : World} {A : Option Addr} {lo hi n c : Nat} {xs : List Bool} (h : RowO ekBool lo hi w (.slice A n c) xs) : n = xs.length ∧ xs.length ≤ c ∧ Kd.C Kd.bool w A xs.length xs :=
  h.C rfl (fun _ _ _ _ h => h)
theorem dat_K {lo hi : Nat} {w : World} {x : S57} {c : List Value} (h : ekDat.E w lo hi x c) : k57.K w x c := by
  obtain ⟨tv, rfl, h⟩ := h
  obtain ⟨A, cap, rfl, hc⟩ := h.form
  obtain ⟨_, h2, h3⟩ := own_E h
  exact k57_mk w x h2 h3
theorem dat_E {w : World} {A : Option Addr} {lo hi n c : Nat} {xs : List S57} (h : RowO ekDat lo hi w (.slice A n c) xs) : n = xs.length ∧ xs.length ≤ c ∧ Kd.C k57 w A xs.length xs :=
  h.C rfl (fun _ _ _ _ h => dat_K h)
theorem dats_E {w : World} {A : Option Addr} {lo hi n c : Nat} {xs : List (List S57)} (h : RowO ekDats lo hi w (.slice A n c) xs) : n = xs.length ∧ xs.length ≤ c ∧ Kd.C (Kd.slice 57 k57) w A xs.length xs :=
  h.C rfl (fun lo hi x c h => by
    obtain ⟨tv, rfl, h⟩ := h
    obtain ⟨A, cap, rfl, hc⟩ := h.form
    obtain ⟨_, h2, h3⟩ := dat_E h
    exact ⟨A, cap, rfl, h2, h3⟩)
theorem ins_K (w : World) (x : S71) : k71.K w x [.int .i64 x.f0, .int .i64 x.f1, .int .i64 x.f2] := ⟨[_], [_, _], rfl, rfl, ⟨[_], [_], rfl, rfl, rfl⟩⟩
theorem ins_E {w : World} {A : Option Addr} {lo hi n c : Nat} {xs : List S71} (h : RowO ekIns lo hi w (.slice A n c) xs) : n = xs.length ∧ xs.length ≤ c ∧ Kd.C k71 w A xs.length xs :=
  h.C rfl (fun _ _ x _ h => by rw [show _ = _ from h]; exact ins_K _ x)
theorem fun_E {w : World} {A : Option Addr} {lo hi n c : Nat} {xs : List S68} (h : RowO ekFun lo hi w (.slice A n c) xs) : n = xs.length ∧ xs.length ≤ c ∧ Kd.C k68 w A xs.length xs :=
  h.C rfl (fun lo hi x c h => by
    obtain ⟨bv, iv, rfl, h1, h2⟩ := h
    obtain ⟨A1, c1, rfl, _⟩ := h1.form
    obtain ⟨A2, c2, rfl, _⟩ := h2.form
    obtain ⟨_, l1, g1⟩ := bool_E h1
    obtain ⟨_, l2, g2⟩ := ins_E h2
    exact ⟨[_], [_, _], rfl, rfl, ⟨[_], [_], rfl, ⟨A1, c1, rfl, l1, g1⟩, ⟨A2, c2, rfl, l2, g2⟩⟩⟩)
end Go.Proofs.YtogmphjhdkgdjaaDoor
/- The specification's reader: a number. -/
namespace Go.Proofs.YtogmphjhdkgdjaaDoor
open Go.RowKit Go.Proofs.YtogmphjhdkgdjaaDoorW.PrintWords Go.Proofs.YtogmphjhdkgdjaaDoor.QFnExactValidModule
set_option linter.unusedVariables false
set_option linter.unusedSimpArgs false
section
variable {ops : Array Oper} {rest : List Oper} {o : Oper} {a : Act} {Q : Exit → Act → World → Prop}
theorem RowO.put {α : Type} {k : Ek α} {lo hi : Nat} {W w1 : World} {v v1 : Value} {xs : List α} {x : α} {c : List Value} {cs : List (List Value)} {f : Nat → Nat} (hTs : k.T ∉ k.ts) (h2 : k.E W hi W.heap.size x c) (hhi : hi ≤ W.heap.size)
    (ho : W.ownsRow lo k.T k.sz v xs.length cs.flatten) (h3 : cs.length = xs.length) (h4 : lo ≤ f 0) (h5 : ∀ i j, i ≤ j → f i ≤ f j) (h6 : f xs.length ≤ hi) (h7 : ∀ (i : Nat) x c, xs[i]? = some x → cs[i]? = some c → k.E W (f i) (f (i + 1)) x c)
    (g1 : w1.ownsRow lo k.T k.sz v1 (xs.length + 1) (cs.flatten ++ c)) (g3 : W.grownBy w1 v.ownBlock) : RowO k lo w1.heap.size w1 v1 (xs ++ [x]) := by
  have hfx : Fx k.ts W w1 := Fx.grown g3 (fun q hq => own_typed ho q hq) hTs
  refine ⟨cs ++ [c], fun i => if i < xs.length + 1 then f i else W.heap.size, by simpa using g1, fun g hg => (g1.lt g hg).2, by simp [h3], by simpa using h4, fun i j hij => ?_, ?_, fun i y d hy hd => ?_⟩
  · dsimp only
    split
    · split
      · exact h5 i j hij
      · have := h5 i xs.length (by omega)
        omega
    · rw [if_neg (by omega)]
      exact Nat.le_refl _
  · simp only [List.length_append, List.length_cons, List.length_nil]
    rw [if_neg (by omega)]
    exact g3.size
  · dsimp only
    rcases Nat.lt_or_ge i xs.length with hi | hi
    · rw [List.getElem?_append_left hi] at hy
      rw [List.getElem?_append_left (by omega)] at hd
      rw [if_pos (by omega), if_pos (by omega)]
      exact k.fx (h7 i y d hy hd) hfx
    · have hy2 := (List.getElem?_eq_some_iff.1 hy).1
      simp at hy2
      obtain rfl : i = xs.length := by omega
      simp at hy
      rw [← h3] at hd
      simp at hd
      subst hy hd
      rw [if_pos (by omega), if_neg (by omega)]
      exact k.fx (k.mono h2 h6 (Nat.le_refl _)) hfx
/-- One element appended. -/
theorem app_elem {α : Type} (k : Ek α) (t : TypeId) {z : Value} {bytes : Nat} (ht : Tryd.prog.underlying t = some (.slice k.T)) (hinfo : (Tryd.prog.info? k.T).map (fun i => (i.zero, i.size, i.bytes)) = some (some z, k.sz, bytes)) (hz : z.cells.size = k.sz) (hb0 : 0 < bytes) (hTs : k.T ∉ k.ts)
    {lo hi : Nat} {W : World} {v : Value} {xs : List α} {x : α} {c : List Value} (hgd : o.guard = none) (sl y : Operand) (ho : o.op = .call { callee := .builtin .append, args := #[sl, y], argTypes := #[t, t] }) (hs : a.eval sl = v) (hy : a.eval y = .slice (some ⟨W.heap.size, 0, none⟩) 1 1)
    (H : RowO k lo hi W v xs) (hE : k.E W hi W.heap.size x c) (hhi : hi ≤ W.heap.size) (hlo : lo ≤ W.heap.size) (hl : (xs.length + 1) * bytes ≤ 140737488355328)
    (h : ∀ (v1 : Value) (w1 : World), Hid (RowO k lo w1.heap.size w1 v1 (xs ++ [x])) → Hid (W.grownBy w1 v.ownBlock) → Hid (wpList Tryd.prog ops Q rest (a.put o.dst v1) w1)) : wpList Tryd.prog ops Q (o :: rest) a (W.alloc (.cells c.toArray k.T)) := by
  obtain ⟨cs, f, ho', h2, h3, h4, h5, h6, h7⟩ := H
  refine print_append_cells (w0 := W) lo hgd sl y t k.T z k.sz bytes ho ht hinfo hz k.pos hb0 v xs.length cs.flatten c hs hy (k.len hE) (k.one hE) ho' (Below.refl _ _) hlo hl ?_
  intro v1 w1 g1 g2 g3 g4
  exact (h v1 w1 (Lib.hid (RowO.put hTs hE hhi ho' h3 h4 h5 h6 h7 g1 g3)) (Lib.hid g3)).out
end
/-- The reader's box. -/
def rdB (A : Option Addr) (n c at_ : Nat) (bad : Bool) : Obj := .cells #[.slice A n c, .int .i64 (at_ : Int), .bool bad] 98 (0, 0)
/-- What a reader has done: it was bad, or it has read as p reads. -/
def Par {α : Type} (p : Ps α) (b : List Int) (at_ : Nat) (bad : Bool) (v : α) (at' : Nat) (bad' : Bool) : Prop :=
  (bad = true → bad' = true) ∧ (bad = false → (bad' = false ∧ p (b.drop at_) = some (v, b.drop at')) ∨ (bad' = true ∧ p (b.drop at_) = none))
/-- What is to come, carried over one step. -/
theorem Par.step {α β : Type} {p : Ps α} {b : List Int} {at_ at' : Nat} {bad bad' : Bool} {v : α} {R : Option β} {k : α → List Int → Option β} (h : Par p b at_ bad v at' bad') (h1 : bad = true → R = none) (h2 : bad = false → R = (p (b.drop at_)).bind fun q => k q.1 q.2) : (bad' = true → R = none) ∧ (bad' = false → R = k v (b.drop at')) := by
  obtain ⟨p1, p2⟩ := h
  cases bad with
  | true =>
    have := p1 rfl
    refine ⟨fun _ => h1 rfl, fun h => ?_⟩
    rw [this] at h
    cases h
  | false =>
    rcases p2 rfl with ⟨e, q⟩ | ⟨e, q⟩
    · refine ⟨fun h => ?_, fun _ => ?_⟩
      · rw [e] at h; cases h
      · rw [h2 rfl, q]; rfl
    · refine ⟨fun _ => ?_, fun h => ?_⟩
      · rw [h2 rfl, q]; rfl
      · rw [e] at h; cases h
theorem leN_bound : ∀ t : List Int, Bys t → 0 ≤ leN t ∧ leN t < 256 ^ t.length
  | [], _ => by simp [leN]
  | a :: t, h => by
    obtain ⟨h0, h1⟩ := leN_bound t (fun x hx => h x (by simp [hx]))
    obtain ⟨a0, a1⟩ := h a (by simp)
    simp only [leN, List.length_cons, Int.pow_succ]
    constructor <;> omega
theorem pow_le8 {m : Nat} (h : m ≤ 8) : (256 : Int) ^ m ≤ 18446744073709551616 := by
  rcases Nat.lt_or_ge m 1 with h0 | h0
  · obtain rfl : m = 0 := by omega
    decide
  · have : m = 1 ∨ m = 2 ∨ m = 3 ∨ m = 4 ∨ m = 5 ∨ m = 6 ∨ m = 7 ∨ m = 8 := by omega
    rcases this with rfl | rfl | rfl | rfl | rfl | rfl | rfl | rfl <;> decide
theorem pow_le7 {m : Nat} (h : m ≤ 7) : (256 : Int) ^ m ≤ 72057594037927936 := by
  have : m = 0 ∨ m = 1 ∨ m = 2 ∨ m = 3 ∨ m = 4 ∨ m = 5 ∨ m = 6 ∨ m = 7 := by omega
  rcases this with rfl | rfl | rfl | rfl | rfl | rfl | rfl | rfl <;> decide
theorem drewN_below {B : Nat} {w w' : World} (h : Below B w w') (n : Nat) : Below B w (w'.drewN n) := ⟨h.os, h.tape, h.output, h.size, h.block⟩
/-- But for the reader's box nothing that was there has changed. -/
structure Rk (w0 : World) (R : Nat) (w w' : World) : Prop where
  oth : ∀ q, q < w.heap.size → q ≠ R → w'.heap[q]? = w.heap[q]?
  size : w.heap.size ≤ w'.heap.size
  bel : Below w0.heap.size w w'
theorem Rk.refl (w0 : World) (R : Nat) (w : World) : Rk w0 R w w := ⟨fun _ _ _ => rfl, Nat.le_refl _, Below.refl _ _⟩
theorem Rk.trans {w0 : World} {R : Nat} {a b c : World} (h : Rk w0 R a b) (k : Rk w0 R b c) : Rk w0 R a c :=
  ⟨fun q hq hR => (k.oth q (Nat.lt_of_lt_of_le hq h.size) hR).trans (h.oth q hq hR), Nat.le_trans h.size k.size, h.bel.trans k.bel⟩
theorem Rk.below {w0 : World} {R : Nat} {w w' : World} (hw : w0.heap.size ≤ w.heap.size) (h : Below w.heap.size w w') : Rk w0 R w w' := ⟨fun q hq _ => h.block q hq, h.size, h.mono hw⟩
theorem Rk.set {w0 : World} {R : Nat} {w w' : World} (h : Rk w0 R w w') {b j : Nat} (hw : w0.heap.size ≤ w.heap.size) (hb : w.heap.size ≤ b) (v : Value) : Rk w0 R w (w'.setCell ⟨b, j, none⟩ v) :=
  ⟨fun q hq hR => (Below.heap_setCell _ _ _ _ (by simp; omega)).trans (h.oth q hq hR), by have := h.size; simp [World.setCell]; exact this, h.bel.setCell (p := ⟨b, j, none⟩) (by simp; omega) _⟩
theorem Rk.rd {w0 : World} {R : Nat} {w w' : World} (h : Rk w0 R w w') (hBR : w0.heap.size ≤ R) (m j : Nat) (v : Value) : Rk w0 R w ((w'.drewN m).setCell ⟨R, j, none⟩ v) :=
  ⟨fun q hq hR => (Below.heap_setCell _ _ _ _ hR).trans (h.oth q hq hR), by have := h.size; simp [World.setCell, World.drewN]; exact this, (drewN_below h.bel m).setCell (p := ⟨R, j, none⟩) hBR _⟩
theorem Rk.box {w0 : World} {R : Nat} {w w' : World} (h : Rk w0 R w w') {k : Nat} {o : Obj} (hk : w.heap[k]? = some o) (hR : k ≠ R) : w'.heap[k]? = some o := (h.oth k (blk_lt2 hk) hR).trans hk
/-- What a number's reading answers. -/
def NumPost (w0 : World) (R : Nat) (A : Option Addr) (c : Nat) (b : List Int) (at_ : Nat) (bad : Bool) (n : Nat) (w : World) (e : Ending) (w' : World) : Prop :=
  ∃ (v : Int) (at' : Nat) (bad' : Bool), e = .returned (.int .i64 v) ∧ w'.heap[R]? = some (rdB A b.length c at' bad') ∧ Rk w0 R w w' ∧ w'.heap.size = w.heap.size ∧ (at' ≤ b.length + 4 ∧ at_ ≤ at' ∧ (bad' = false → at' ≤ b.length)) ∧ Par (numP n) b at_ bad v at' bad' ∧ I64 v ∧ (n = 1 → 0 ≤ v ∧ v < 256) ∧ (n = 2 → 0 ≤ v ∧ v < 65536)
theorem wrap_w (y : Int) : wrap64 y = w64 y := by unfold wrap64 w64; omega
theorem num_good {w0 w : World} {R : Nat} {A : Option Addr} {c at_ : Nat} {n : Nat} {b t : List Int} {bad : Bool} (hR : w.heap[R]? = some (rdB A b.length c at_ bad)) (hB : Below w0.heap.size w0 w) (hBR : w0.heap.size ≤ R) (hfit : at_ + n ≤ b.length) (m : Nat) (y : Int) (hn8 : n ≤ 8) (ht : t = (b.drop at_).take n) (htl : t.length = n) (htb : Bys t) (hy : y = leN t) :
    NumPost w0 R A c b at_ bad n w (.returned (.int .i64 (wrap64 y))) ((w.drewN m).setCell ⟨R, 1, none⟩ (.int .i64 ((at_ : Int) + (n : Int)))) := by
  obtain ⟨b0, b1⟩ := leN_bound t htb
  rw [htl, ← hy] at b1
  rw [← hy] at b0
  refine ⟨wrap64 y, at_ + n, bad, rfl, ?_, ⟨fun q _ hq => Below.heap_setCell _ _ _ _ hq, by simp [World.setCell, World.drewN], (drewN_below (Below.refl _ _) _).setCell (p := ⟨R, 1, none⟩) hBR _⟩, by simp [World.setCell] <;> rfl, ⟨by omega, by omega, fun _ => by omega⟩, ⟨fun h => h, fun h => Or.inl ⟨h, ?_⟩⟩, by rw [wrap_w]; exact w64_in y, fun e => ?_, fun e => ?_⟩
  · have := Go.Joins.block_setCell (i := 1) (show (w.drewN m).heap[R]? = _ from hR) (.int .i64 ((at_ : Int) + (n : Int)))
    simpa [rdB] using this
  · unfold numP
    rw [if_pos (by rw [List.length_drop]; omega), ← ht, ← hy, wrap_w, List.drop_drop]
  · subst e
    simp at b1
    rw [wrap_w]
    unfold w64
    omega
  · subst e
    simp at b1
    rw [wrap_w]
    unfold w64
    omega
theorem num_bad {w0 w : World} {R : Nat} {A : Option Addr} {c at_ n : Nat} {b : List Int} {bad : Bool} (hR : w.heap[R]? = some (rdB A b.length c at_ bad)) (hB : Below w0.heap.size w0 w) (hBR : w0.heap.size ≤ R) (hfit : ¬ at_ + n ≤ b.length) (hn : 0 < n) (m : Nat) (hat : at_ ≤ b.length + 4) :
    NumPost w0 R A c b at_ bad n w (.returned (.int .i64 0)) ((w.drewN m).setCell ⟨R, 2, none⟩ (.bool true)) := by
  refine ⟨0, at_, true, rfl, ?_, ⟨fun q _ hq => Below.heap_setCell _ _ _ _ hq, by simp [World.setCell, World.drewN], (drewN_below (Below.refl _ _) _).setCell (p := ⟨R, 2, none⟩) hBR _⟩, by simp [World.setCell] <;> rfl, ⟨hat, Nat.le_refl _, fun h => by cases h⟩, ⟨fun _ => rfl, fun _ => Or.inr ⟨rfl, ?_⟩⟩, i64_0, fun _ => by omega, fun _ => by omega⟩
  · have := Go.Joins.block_setCell (i := 2) (show (w.drewN m).heap[R]? = _ from hR) (.bool true)
    simpa [rdB] using this
  · unfold numP
    rw [if_neg (by rw [List.length_drop]; omega)]
set_option maxHeartbeats 4000000 in
set_option maxRecDepth 100000 in
theorem num_calls (w0 : World) (R : Nat) (A : Option Addr) (c : Nat) (b : List Int) (at_ : Nat) (bad : Bool) (n : Nat) (w : World) (hR : w.heap[R]? = some (rdB A b.length c at_ bad)) (hC : Kd.C (Kd.int .u8) w0 A b.length b) (hB : Below w0.heap.size w0 w) (hBR : w0.heap.size ≤ R) (hn : 0 < n) (hn8 : n ≤ 8) (hat : at_ ≤ b.length + 4) (hlen : b.length ≤ 1048576) (hby : Bys b) :
    Calls Tryd.prog 57 #[.pointer (some ⟨R, 0, none⟩), .int .i64 n] w (NumPost w0 R A c b at_ bad n w) := by
  have c0 : w.cell? ⟨R, 0, none⟩ = some (.slice A b.length c) := by simp [World.cell?, hR, rdB]
  have c1 : w.cell? ⟨R, 1, none⟩ = some (.int .i64 (at_ : Int)) := by simp [World.cell?, hR, rdB]
  have c2 : w.cell? ⟨R, 2, none⟩ = some (.bool bad) := by simp [World.cell?, hR, rdB]
  have f1 : w.frozen? ⟨R, 1, none⟩ = false := by simp [World.frozen?, hR, rdB]
  have f2 : w.frozen? ⟨R, 2, none⟩ = false := by simp [World.frozen?, hR, rdB]
  have hRl : R < w.heap.size := blk_lt2 hR
  have HR := Lib.hid hR
  have HC := Lib.hid (Kd.C_below hC hB)
  have HB := Lib.hid hB
  have HBY := Lib.hid hby
  clear hR hC hB hby
  by_cases hfit : at_ + n ≤ b.length
  · have hg : ¬ ((b.length : Int) < (at_ : Int) + (n : Int)) := by omega
    have hgd : decide ((b.length : Int) < (at_ : Int) + (n : Int)) = false := decide_eq_false hg
    obtain ⟨t, ht⟩ : ∃ t, t = (b.drop at_).take n := ⟨_, rfl⟩
    have htl : t.length = n := by rw [ht, List.length_take, List.length_drop]; omega
    have hget : ∀ j, j < n → t[j]? = b[at_ + j]? := fun j hj => by rw [ht, List.getElem?_take, if_pos hj, List.getElem?_drop]
    have HT := Lib.hid ht
    have HTL := Lib.hid htl
    have HG := Lib.hid hget
    have HTB : Hid (Bys t) := Lib.hid (by rw [ht]; exact (HBY.out.drop _).take _)
    clear ht htl hget
    have H0 : Hid (∃ y, Value.int .u64 0 = .int .u64 y ∧ 0 ≤ y ∧ y = leN (t.drop n)) := Lib.hid ⟨0, rfl, by omega, by rw [List.drop_of_length_le (by rw [HTL.out]; exact Nat.le_refl _)]; rfl⟩
    go_enter Tryd.func57, Tryd.ntmps57
    go_wp2_with fail
    go_quiet (fail)
    go_wp2_with fail
    go_loopw [5, 6] (fun v5 v6 wr => ∃ (i : Int) (y : Int), -1 ≤ i ∧ i < n ∧ v6 = .int .i64 i ∧ v5 = .int .u64 y ∧ 0 ≤ y ∧ y < 18446744073709551616 ∧ (0 ≤ i → y < 72057594037927936) ∧ Hid (y = leN (t.drop (i + 1).toNat) ∧ ∃ m, wr = w.drewN m)) (fun _ v6 _ => (RowKit.intOf v6 + 1).toNat)
    case atStart => exact ⟨(n : Int) - 1, 0, by omega, by omega, by go_num, rfl, by omega, by omega, by omega, Lib.hid ⟨by
      rw [List.drop_of_length_le (by rw [HTL.out]; omega)]; first | done | rfl, ⟨_, rfl⟩⟩⟩
    case round =>
      obtain ⟨i, y, hi0, hi1, rfl, rfl, hy0, hy1, hy2, HQ⟩ := hrel
      by_cases hlt : 0 ≤ i
      · obtain ⟨j, rfl⟩ : ∃ j : Nat, i = (j : Int) := ⟨i.toNat, by omega⟩
        have hy3 := hy2 hlt
        obtain ⟨hy, m, rfl⟩ := HQ.out
        obtain ⟨ad, e1, e2⟩ := at_byte HC.out (at_ + j) (by omega)
        subst e1
        obtain ⟨u, hu⟩ : ∃ u, u = b.getD (at_ + j) 0 := ⟨_, rfl⟩
        have htj : t[j]? = some u := by
          rw [HG.out j (by omega), hu, List.getD_eq_getElem?_getD, List.getElem?_eq_getElem (by omega)]; rfl
        have hub := HTB.out u (List.mem_of_getElem? htj)
        rw [← hu] at e2
        have hdr : t.drop j = u :: t.drop (j + 1) := by
          have hj := (List.getElem?_eq_some_iff.1 htj)
          rw [List.drop_eq_getElem_cons hj.1, hj.2]
        have hnew : y * 256 + u = leN (t.drop j) := by
          rw [hdr, hy]
          simp only [leN]
          rw [show ((j : Int) + 1).toNat = j + 1 by omega]
          omega
        have hb := leN_bound (t.drop j) (HTB.out.drop j)
        have HN : Hid (y * 256 + u = leN (t.drop j)) := Lib.hid hnew
        have hb2 : 0 < j → y * 256 + u < 72057594037927936 := fun h => by
          rw [hnew]
          refine Int.lt_of_lt_of_le hb.2 (pow_le7 ?_)
          rw [List.length_drop, HTL.out]; omega
        clear hy hnew hdr htj hu hb HQ
        go_wp2_with fail
        go_quiet (fail)
        go_wp2_with fail
        go_roundw
        case rel => exact ⟨(j : Int) - 1, y * 256 + u, by omega, by omega, by go_num, by go_num, by omega, by omega, fun h => hb2 (by omega), Lib.hid ⟨by rw [HN.out]; congr 2; omega, ⟨_, rfl⟩⟩⟩
        case measure => simp [RowKit.intOf] <;> omega
      · obtain rfl : i = -1 := by omega
        obtain ⟨hy, m, rfl⟩ := HQ.out
        have HV : Hid (w64 (leN t) = w64 y) := Lib.hid (by rw [hy]; rfl)
        have HY : Hid (y = leN t) := Lib.hid hy
        clear hy HQ
        go_wp2_with fail
        have he : (at_ : Int) + (n : Int) = ((at_ + n : Nat) : Int) := by omega
        go_ret
        exact num_good HR.out HB.out hBR hfit _ y hn8 HT.out HTL.out HTB.out HY.out
  · have hg : (b.length : Int) < (at_ : Int) + (n : Int) := by omega
    have hgd : decide ((b.length : Int) < (at_ : Int) + (n : Int)) = true := decide_eq_true hg
    go_enter Tryd.func57, Tryd.ntmps57
    go_wp2_with fail
    go_quiet (fail)
    go_wp2_with fail
    go_ret
    exact num_bad HR.out HB.out hBR hfit hn _ hat
end Go.Proofs.YtogmphjhdkgdjaaDoor
/- The specification's reader: a datum. -/
namespace Go.Proofs.YtogmphjhdkgdjaaDoor
open Go.RowKit Go.Proofs.YtogmphjhdkgdjaaDoorW.PrintWords Go.Proofs.YtogmphjhdkgdjaaDoor.QFnExactValidModule
set_option linter.unusedVariables false
set_option linter.unusedSimpArgs false
theorem mk_C {w : World} {A : Option Addr} {xs : List Int} (hm : xs.length ≤ 9223372036854775807) (h : ∀ j, j < xs.length → ∃ ad, A = some ad ∧ w.cell? (ad.add j) = some (.int .u8 (xs.getD j 0))) : Kd.C (Kd.int .u8) w A xs.length xs := by
  refine ⟨rfl, by omega, fun hp => ?_⟩
  obtain ⟨ad, e, _⟩ := h 0 hp
  subst e
  refine ⟨ad, rfl, fun j p hj => ⟨[.int .u8 p], rfl, rfl, fun i u hu => ?_⟩⟩
  have hi : i = 0 := by have := (List.getElem?_eq_some_iff.1 hu).1; simp at this; omega
  subst hi
  simp at hu
  subst hu
  obtain ⟨ad', e1, e2⟩ := h j (List.getElem?_eq_some_iff.1 hj).1
  cases e1
  have e : j * (Kd.int .u8).sz + 0 = j := by show j * 1 + 0 = j; omega
  rw [e, e2, List.getD_eq_getElem?_getD, hj]
  rfl
theorem add_add' (a : Addr) (i j : Nat) : (a.add i).add j = a.add (i + j) := by
  unfold Addr.add
  split <;> split <;> simp_all <;> omega
/-- A piece of a row of bytes. -/
theorem sub_C {w : World} {A : Option Addr} {b : List Int} {c : Nat} (h : Kd.C (Kd.int .u8) w A b.length b) (hc : b.length ≤ c) (lo n : Nat) (hf : lo + n ≤ b.length) : Kd.C (Kd.int .u8) w (if c = lo then A else A.map (·.add (lo * 1))) ((b.drop lo).take n).length ((b.drop lo).take n) := by
  have hl : ((b.drop lo).take n).length = n := by rw [List.length_take, List.length_drop]; omega
  have hm := h.2.1
  refine mk_C (by omega) fun j hj => ?_
  obtain ⟨ad, e1, e2⟩ := at_byte h (lo + j) (by omega)
  subst e1
  rw [if_neg (by omega)]
  refine ⟨ad.add (lo * 1), rfl, ?_⟩
  rw [add_add', Nat.mul_one, e2]
  rw [List.getD_eq_getElem?_getD, List.getD_eq_getElem?_getD, List.getElem?_take, if_pos (by omega), List.getElem?_drop]
theorem cel_flat : ∀ xs : List Int, (xs.map fun p => [Value.int .u8 p]).flatten = cel xs
  | [] => rfl
  | a :: t => by
    have := cel_flat t
    simp only [cel] at this ⊢
    simp [this]
theorem RowO.of_bytes {lo hi : Nat} {w : World} {v : Value} {xs : List Int} (h : w.ownsRow lo 5 1 v xs.length (cel xs)) (hl : lo ≤ hi) (hh : ∀ g, v.ownBlock = some g → g < hi) : RowO ekInt lo hi w v xs := by
  refine ⟨xs.map fun p => [.int .u8 p], fun _ => lo, ?_, hh, by simp, Nat.le_refl _, fun _ _ _ => Nat.le_refl _, hl, fun i x c hx hc => ?_⟩
  · rw [cel_flat]
    exact h
  · rw [List.getElem?_map, hx] at hc
    simp at hc
    exact hc.symm
set_option maxHeartbeats 4000000 in
set_option maxRecDepth 100000 in
theorem copy_calls (ad : Addr) (c : Nat) (t : List Int) (w : World) (hC : Kd.C (Kd.int .u8) w (some ad) t.length t) (hl : t.length ≤ 1048576) :
    Calls Tryd.prog 74 #[.slice (some ad) t.length c] w fun e w' => ∃ v, e = .returned v ∧ RowO ekInt w.heap.size w'.heap.size w' v t ∧ Below w.heap.size w w' := by
  have HN : Hid (∀ (j : Nat) (u : Value), (cel t)[j]? = some u → w.cell? (ad.add j) = some u) := Lib.hid (fun j u hj => by
    obtain ⟨y, hy, rfl⟩ : ∃ y, t[j]? = some y ∧ Value.int .u8 y = u := by simpa [cel] using hj
    obtain ⟨ad', e1, e2⟩ := at_byte hC j (List.getElem?_eq_some_iff.1 hy).1
    cases e1
    rw [List.getD_eq_getElem?_getD, hy] at e2
    exact e2)
  obtain ⟨i0, hi, hz0, hz1, hz2⟩ := info_parts byteInfo
  clear hC
  go_enter Tryd.func74, Tryd.ntmps74
  go_wp2_with (at_builtin; refine wpList_append_own_at w rfl _ _ 42 rfl w.heap.size 5 i0 (.int .u8 0) 1 1 Tryd.underlying42 hi hz0 hz1 hz2 rfl (by omega) (.slice none 0 0) 0 [] rfl (World.ownsRow_nil _ _ _ _) ad t.length c (cel t) rfl (by simp [cel]) (fun j u hj => HN.out j u hj) (by simp [cel, Value.oneCell']) (by unfold maxLen; omega) (by omega) (Nat.le_refl _) ?_; intro v1 w1 h1 h2 _ _; have HO := Lib.hid h1; have HG := Lib.hid h2; clear h1 h2)
  have hr : RowO ekInt w.heap.size w1.heap.size w1 v1 t := RowO.of_bytes (by simpa using HO.out) HG.out.size (fun g hg => (HO.out.lt g hg).2)
  have HR := Lib.hid hr
  obtain ⟨A', c', rfl, _⟩ := hr.form
  have HB : Hid (Below w.heap.size w w1) := Lib.hid ((Below.refl _ w).grown HG.out (Nat.le_refl _) (fun k hk => by simp [Value.ownBlock] at hk))
  clear hr HO HG
  go_wp2_with fail
  go_ret
  exact ⟨_, rfl, HR.out, HB.out⟩
/-- What a datum's reading answers. -/
def DatPost (w0 : World) (R : Nat) (A : Option Addr) (c : Nat) (b : List Int) (at_ : Nat) (bad : Bool) (w : World) (e : Ending) (w' : World) : Prop :=
  ∃ (x : S57) (tv : Value) (at' : Nat) (bad' : Bool), e = .returned (.agg #[.int .i64 x.f0, .int .i64 x.f1, tv, .int .i64 x.f3]) ∧ RowO ekInt w.heap.size w'.heap.size w' tv x.f2 ∧ w'.heap[R]? = some (rdB A b.length c at' bad') ∧ Rk w0 R w w' ∧ (at' ≤ b.length + 4 ∧ at_ ≤ at' ∧ (bad' = false → at' ≤ b.length)) ∧ Par datP b at_ bad x at' bad'
/-- What follows a datum's kind. -/
def datK (k : Int) (l : List Int) : Option (S57 × List Int) :=
  if k = 0 then (numP 8 l).bind fun r => some (⟨k, r.1, [], 0⟩, r.2)
  else if k = 1 then (numP 1 l).bind fun r => some (⟨k, r.1, [], 0⟩, r.2)
  else if k = 2 then (numP 1 l).bind fun r => (txtP r.1.toNat r.2).bind fun s => some (⟨k, 0, s.1, 0⟩, s.2)
  else (numP 2 l).bind fun r => some (⟨k, 0, [], r.1⟩, r.2)
theorem dat_eq (l : List Int) : datP l = (numP 1 l).bind fun q => datK q.1 q.2 := rfl
def datK0 (k v : Int) (l : List Int) : Option (S57 × List Int) := some (⟨k, v, [], 0⟩, l)
def datK2 (k v : Int) (l : List Int) : Option (S57 × List Int) := (txtP v.toNat l).bind fun s => some (⟨k, 0, s.1, 0⟩, s.2)
def datK3 (k v : Int) (l : List Int) : Option (S57 × List Int) := some (⟨k, 0, [], v⟩, l)
theorem Par.num_bind {α : Type} {n : Nat} {b : List Int} {at_ at1 at2 : Nat} {bad bad1 bad2 : Bool} {v : Int} {x : α} {p : Ps α} {k : Int → List Int → Option (α × List Int)} (h : Par (numP n) b at_ bad v at1 bad1) (hp : ∀ l, p l = (numP n l).bind fun q => k q.1 q.2)
    (h2 : (bad1 = true → bad2 = true) ∧ (bad1 = false → (bad2 = false ∧ k v (b.drop at1) = some (x, b.drop at2)) ∨ (bad2 = true ∧ k v (b.drop at1) = none))) : Par p b at_ bad x at2 bad2 := by
  obtain ⟨p1, p2⟩ := h
  refine ⟨fun hb => h2.1 (p1 hb), fun hb => ?_⟩
  rw [hp]
  rcases p2 hb with ⟨e, q⟩ | ⟨e, q⟩
  · rw [q]
    exact h2.2 e
  · rw [q]
    exact Or.inr ⟨h2.1 e, rfl⟩
theorem set_far {w : World} {k b j : Nat} {o : Obj} (h : w.heap[k]? = some o) (hne : k ≠ b) (v : Value) : (w.setCell ⟨b, j, none⟩ v).heap[k]? = some o := (Below.heap_setCell _ _ _ _ hne).trans h
theorem put4_far {w : World} {k X : Nat} {o : Obj} {q0 q1 q2 q3 : Value} (h : w.heap[k]? = some o) (hne : k ≠ X) : ((((w.setCell ⟨X, 0, none⟩ q0).setCell ⟨X, 1, none⟩ q1).setCell ⟨X, 2, none⟩ q2).setCell ⟨X, 3, none⟩ q3).heap[k]? = some o :=
  set_far (set_far (set_far (set_far h hne _) hne _) hne _) hne _
theorem put4_box {w : World} {X : Nat} {T : TypeId} {c0 c1 c2 c3 q0 q1 q2 q3 : Value} (h : w.heap[X]? = some (.cells #[c0, c1, c2, c3] T (0, 0))) : ((((w.setCell ⟨X, 0, none⟩ q0).setCell ⟨X, 1, none⟩ q1).setCell ⟨X, 2, none⟩ q2).setCell ⟨X, 3, none⟩ q3).heap[X]? = some (.cells #[q0, q1, q2, q3] T (0, 0)) := by
  have h1 := Go.Joins.block_setCell (i := 0) h q0
  have h2 := Go.Joins.block_setCell (i := 1) h1 q1
  have h3 := Go.Joins.block_setCell (i := 2) h2 q2
  have h4 := Go.Joins.block_setCell (i := 3) h3 q3
  simpa using h4
theorem put4_size {w : World} {X : Nat} {q0 q1 q2 q3 : Value} : ((((w.setCell ⟨X, 0, none⟩ q0).setCell ⟨X, 1, none⟩ q1).setCell ⟨X, 2, none⟩ q2).setCell ⟨X, 3, none⟩ q3).heap.size = w.heap.size := by simp [World.setCell]
/-- The end of a datum's reading: the result's box is written. -/
theorem dat_fin {w0 w W : World} {R : Nat} {A : Option Addr} {c : Nat} {b : List Int} {at_ at2 : Nat} {bad bad2 : Bool} {x : S57} {tv : Value} {cX : Array Value} (hw : w0.heap.size ≤ w.heap.size) (hRl : R < w.heap.size) (hk : Rk w0 R w W) (hR : W.heap[R]? = some (rdB A b.length c at2 bad2)) (hX : W.heap[w.heap.size]? = some (.cells cX 57 (0, 0))) (hT : RowO ekInt w.heap.size W.heap.size W tv x.f2) (ha : at2 ≤ b.length + 4 ∧ at_ ≤ at2 ∧ (bad2 = false → at2 ≤ b.length)) (hp : Par datP b at_ bad x at2 bad2) :
    DatPost w0 R A c b at_ bad w (.returned (.agg #[.int .i64 x.f0, .int .i64 x.f1, tv, .int .i64 x.f3])) ((((W.setCell ⟨w.heap.size, 0, none⟩ (.int .i64 x.f0)).setCell ⟨w.heap.size, 1, none⟩ (.int .i64 x.f1)).setCell ⟨w.heap.size, 2, none⟩ tv).setCell ⟨w.heap.size, 3, none⟩ (.int .i64 x.f3)) := by
  refine ⟨x, tv, at2, bad2, rfl, ?_, put4_far hR (by omega), (((hk.set hw (Nat.le_refl _) _).set hw (Nat.le_refl _) _).set hw (Nat.le_refl _) _).set hw (Nat.le_refl _) _, ha, hp⟩
  refine (hT.fx fun q cs T hTs hq => put4_far hq ?_).mono (Nat.le_refl _) (by rw [put4_size]; exact Nat.le_refl _)
  rintro rfl
  rw [hX] at hq
  cases hq
  simp [ekInt] at hTs
theorem box4 {w : World} {k : Nat} {c0 c1 c2 c3 : Value} {T : TypeId} (h : w.heap[k]? = some (.cells #[c0, c1, c2, c3] T (0, 0))) : w.cell? ⟨k, 0, none⟩ = some c0 ∧ w.cell? ⟨k, 1, none⟩ = some c1 ∧ w.cell? ⟨k, 2, none⟩ = some c2 ∧ w.cell? ⟨k, 3, none⟩ = some c3 ∧ w.frozen? ⟨k, 0, none⟩ = false ∧ w.frozen? ⟨k, 1, none⟩ = false ∧ w.frozen? ⟨k, 2, none⟩ = false ∧ w.frozen? ⟨k, 3, none⟩ = false ∧ k < w.heap.size := by
  refine ⟨?_, ?_, ?_, ?_, ?_, ?_, ?_, ?_, blk_lt2 h⟩ <;> simp [World.cell?, World.frozen?, h]
theorem wrap_small (x : Int) (h0 : -9223372036854775808 ≤ x) (h1 : x ≤ 9223372036854775807) : IntKind.i64.wrap x = x := by
  simp [IntKind.wrap, IntKind.bits, IntKind.signed]
  split <;> omega
theorem txt_none {b : List Int} {at_ m : Nat} {v : Int} (hv : v = (m : Int)) (h : ¬ at_ + m ≤ b.length) (ha : at_ ≤ b.length) (k : Int) : datK2 k v (b.drop at_) = none := by
  unfold datK2 txtP
  rw [if_neg (by rw [List.length_drop]; omega)]
  rfl
theorem txt_some {b : List Int} {at_ m : Nat} {v : Int} (hv : v = (m : Int)) (h : at_ + m ≤ b.length) (k : Int) : datK2 k v (b.drop at_) = some (⟨k, 0, (b.drop at_).take m, 0⟩, b.drop (at_ + m)) := by
  unfold datK2 txtP
  rw [if_pos (by rw [List.length_drop]; omega), hv, Int.toNat_natCast, List.drop_drop]
  rfl
theorem box3 {w : World} {k n c at_ : Nat} {A : Option Addr} {bad : Bool} (h : w.heap[k]? = some (rdB A n c at_ bad)) : w.cell? ⟨k, 0, none⟩ = some (.slice A n c) ∧ w.cell? ⟨k, 1, none⟩ = some (.int .i64 (at_ : Int)) ∧ w.cell? ⟨k, 2, none⟩ = some (.bool bad) ∧ w.frozen? ⟨k, 0, none⟩ = false ∧ w.frozen? ⟨k, 1, none⟩ = false ∧ w.frozen? ⟨k, 2, none⟩ = false ∧ k < w.heap.size := by
  refine ⟨?_, ?_, ?_, ?_, ?_, ?_, blk_lt2 h⟩ <;> simp [World.cell?, World.frozen?, h, rdB]
set_option maxHeartbeats 8000000 in
set_option maxRecDepth 100000 in
theorem datR_calls (ad0 : Addr) (w0 : World) (R : Nat) (A : Option Addr) (c : Nat) (b : List Int) (at_ : Nat) (bad : Bool) (w : World) (hA : A = some ad0) (hR : w.heap[R]? = some (rdB A b.length c at_ bad)) (hC : Kd.C (Kd.int .u8) w0 A b.length b) (hB : Below w0.heap.size w0 w) (hBR : w0.heap.size ≤ R) (hat : at_ ≤ b.length + 4) (hlen : b.length ≤ 1048576) (hc : b.length ≤ c) (hby : Bys b) :
    Calls Tryd.prog 58 #[.pointer (some ⟨R, 0, none⟩)] w (DatPost w0 R A c b at_ bad w) := by
  have hRl : R < w.heap.size := blk_lt2 hR
  have hw0 : w0.heap.size ≤ w.heap.size := hB.size
  have HC := Lib.hid hC
  have HBY := Lib.hid hby
  have hu := Tryd.underlying57
  obtain ⟨W, hW⟩ : ∃ W, W = w.alloc (.cells #[.int .i64 0, .int .i64 0, .slice none 0 0, .int .i64 0] 57) := ⟨_, rfl⟩
  have hbW : Below w.heap.size w W := by rw [hW]; exact (Below.refl _ _).alloc (Nat.le_refl _) _
  have hX : W.heap[w.heap.size]? = some (.cells #[.int .i64 0, .int .i64 0, .slice none 0 0, .int .i64 0] 57 (0, 0)) := by rw [hW]; exact blk_new2 _ _
  have HX := Lib.hid hX
  have HKW := Lib.hid (Rk.below (R := R) hw0 hbW)
  have HRW := Lib.hid ((hbW.block R hRl).trans hR)
  have HB := Lib.hid hB
  have HBW : Hid (Below w0.heap.size w0 W) := Lib.hid (hB.trans (hbW.mono hw0))
  clear hR hC hB hby hbW hX
  go_enter Tryd.func58, Tryd.ntmps58
  go_wp2_with fail
  rw [← hW]
  clear hW
  refine (num_calls w0 R A c b at_ bad 1 W HRW.out HC.out HBW.out hBR (by omega) (by omega) hat hlen HBY.out).mono ?_
  rintro e w1 ⟨k, at1, bad1, rfl, hR1, hk1, hs1, ⟨hat1, hle1, _⟩, hp1, hi1, hb1, _⟩
  obtain ⟨hk0, hk2⟩ := hb1 rfl
  have HP1 := Lib.hid hp1
  have HK1 := Lib.hid (HKW.out.trans hk1)
  have HX1 := Lib.hid (hk1.box HX.out (by omega))
  have HB1 : Hid (Below w0.heap.size w0 w1) := Lib.hid (HBW.out.trans hk1.bel)
  have HI1 := Lib.hid hi1
  have hxl : w.heap.size < w1.heap.size := blk_lt2 HX1.out
  obtain ⟨Wd, hWd⟩ : ∃ Wd, Wd = w1.alloc (.cells #[.int .i64 k, .int .i64 0, .slice none 0 0, .int .i64 0] 57) := ⟨_, rfl⟩
  have hbd : Below w1.heap.size w1 Wd := by rw [hWd]; exact (Below.refl _ _).alloc (Nat.le_refl _) _
  have hD : Wd.heap[w1.heap.size]? = some (.cells #[.int .i64 k, .int .i64 0, .slice none 0 0, .int .i64 0] 57 (0, 0)) := by rw [hWd]; exact blk_new2 _ _
  have HD := Lib.hid hD
  have HXd := Lib.hid ((hbd.block _ (blk_lt2 HX1.out)).trans HX1.out)
  have HRd := Lib.hid ((hbd.block R (blk_lt2 hR1)).trans hR1)
  have HKd : Hid (Rk w0 R w Wd) := Lib.hid (HK1.out.trans (Rk.below HB1.out.size hbd))
  have HBd : Hid (Below w0.heap.size w0 Wd) := Lib.hid (HB.out.trans HKd.out.bel)
  obtain ⟨D, hDe⟩ : ∃ D, D = w1.heap.size := ⟨_, rfl⟩
  rw [← hDe] at HD hbd hxl
  clear hR1 hk1 hs1 hp1 hi1 hb1 hD hbd
  by_cases k0 : k = 0
  · subst k0
    go_wp2_with fail
    rw [← hWd, ← hDe]
    clear hWd hDe
    refine (num_calls w0 R A c b at1 bad1 8 Wd HRd.out HC.out HBd.out hBR (by omega) (by omega) hat1 hlen HBY.out).mono ?_
    rintro e w2 ⟨v, at2, bad2, rfl, hR2, hk3, hs2, ⟨hat2, hle2, hbl2⟩, hp2, hi2, _, _⟩
    obtain ⟨a0, a1, a2, a3, fa0, fa1, fa2, fa3, al⟩ := box4 (hk3.box HD.out (by omega))
    have HX2 := Lib.hid (hk3.box HXd.out (by omega))
    obtain ⟨x0, x1, x2, x3, fx0, fx1, fx2, fx3, xl⟩ := box4 HX2.out
    have HR2 := Lib.hid hR2
    have HK2 := Lib.hid (HKd.out.trans hk3)
    have HP2 := Lib.hid hp2
    have HBL := Lib.hid hbl2
    clear hR2 hk3 hs2 hp2 hbl2
    go_wp2_with fail
    have HXD := Lib.hid (set_far (j := 1) HX2.out (show w.heap.size ≠ D by omega) (.int .i64 v))
    refine bodyPost_ret (results_cell_row rfl _ _ w.heap.size 57 #[.int .i64 0, .int .i64 v, .slice none 0 0, .int .i64 0] (0, 0) _ rfl (put4_box HXD.out) Tryd.underlying57 rfl (by kernel_rfl)) rfl ?_
    exact dat_fin (x := ⟨0, v, [], 0⟩) hw0 hRl (HK2.out.set hw0 (by omega) _) (set_far HR2.out (by omega) _) HXD.out (RowO.nil _ _ _ _ (by have := HK2.out.size; simp [World.setCell]; exact this)) ⟨hat2, by omega, HBL.out⟩ (HP1.out.num_bind (k := datK) dat_eq (HP2.out.num_bind (p := datK 0) (k := datK0 0) (fun l => rfl) ⟨fun h => h, fun h => Or.inl ⟨h, rfl⟩⟩))
  by_cases k1 : k = 1
  · subst k1
    go_wp2_with fail
    rw [← hWd, ← hDe]
    clear hWd hDe
    refine (num_calls w0 R A c b at1 bad1 1 Wd HRd.out HC.out HBd.out hBR (by omega) (by omega) hat1 hlen HBY.out).mono ?_
    rintro e w2 ⟨v, at2, bad2, rfl, hR2, hk3, hs2, ⟨hat2, hle2, hbl2⟩, hp2, hi2, _, _⟩
    obtain ⟨a0, a1, a2, a3, fa0, fa1, fa2, fa3, al⟩ := box4 (hk3.box HD.out (by omega))
    have HX2 := Lib.hid (hk3.box HXd.out (by omega))
    obtain ⟨x0, x1, x2, x3, fx0, fx1, fx2, fx3, xl⟩ := box4 HX2.out
    have HR2 := Lib.hid hR2
    have HK2 := Lib.hid (HKd.out.trans hk3)
    have HP2 := Lib.hid hp2
    have HBL := Lib.hid hbl2
    clear hR2 hk3 hs2 hp2 hbl2
    go_wp2_with fail
    have HXD := Lib.hid (set_far (j := 1) HX2.out (show w.heap.size ≠ D by omega) (.int .i64 v))
    refine bodyPost_ret (results_cell_row rfl _ _ w.heap.size 57 #[.int .i64 1, .int .i64 v, .slice none 0 0, .int .i64 0] (0, 0) _ rfl (put4_box HXD.out) Tryd.underlying57 rfl (by kernel_rfl)) rfl ?_
    exact dat_fin (x := ⟨1, v, [], 0⟩) hw0 hRl (HK2.out.set hw0 (by omega) _) (set_far HR2.out (by omega) _) HXD.out (RowO.nil _ _ _ _ (by have := HK2.out.size; simp [World.setCell]; exact this)) ⟨hat2, by omega, HBL.out⟩ (HP1.out.num_bind (k := datK) dat_eq (HP2.out.num_bind (p := datK 1) (k := datK0 1) (fun l => rfl) ⟨fun h => h, fun h => Or.inl ⟨h, rfl⟩⟩))
  by_cases k2 : k = 2
  · subst k2
    go_wp2_with fail
    rw [← hWd, ← hDe]
    clear hWd hDe
    refine (num_calls w0 R A c b at1 bad1 1 Wd HRd.out HC.out HBd.out hBR (by omega) (by omega) hat1 hlen HBY.out).mono ?_
    rintro e w2 ⟨v, at2, bad2, rfl, hR2, hk3, hs2, ⟨hat2, hle2, hbl2⟩, hp2, hi2, hv, _⟩
    obtain ⟨m, hm⟩ : ∃ m : Nat, v = (m : Int) := ⟨v.toNat, by have := (hv rfl).1; omega⟩
    have hm255 : m ≤ 255 := by have := (hv rfl).2; omega
    have HMV := Lib.hid hm
    have HD2 := Lib.hid (hk3.box HD.out (by omega))
    obtain ⟨a0, a1, a2, a3, fa0, fa1, fa2, fa3, al⟩ := box4 HD2.out
    have HX2 := Lib.hid (hk3.box HXd.out (by omega))
    obtain ⟨x0, x1, x2, x3, fx0, fx1, fx2, fx3, xl⟩ := box4 HX2.out
    have HR2 := Lib.hid hR2
    have HK2 := Lib.hid (HKd.out.trans hk3)
    have HB2 : Hid (Below w0.heap.size w0 w2) := Lib.hid (HBd.out.trans hk3.bel)
    have HP2 : Hid (Par (numP 1) b at1 bad1 v at2 bad2) := Lib.hid hp2
    have HBL := Lib.hid hbl2
    have r0 : w2.cell? ⟨R, 0, none⟩ = some (.slice A b.length c) := by simp [World.cell?, hR2, rdB]
    have r1 : w2.cell? ⟨R, 1, none⟩ = some (.int .i64 (at2 : Int)) := by simp [World.cell?, hR2, rdB]
    have r2 : w2.cell? ⟨R, 2, none⟩ = some (.bool bad2) := by simp [World.cell?, hR2, rdB]
    have rf1 : w2.frozen? ⟨R, 1, none⟩ = false := by simp [World.frozen?, hR2, rdB]
    have rf2 : w2.frozen? ⟨R, 2, none⟩ = false := by simp [World.frozen?, hR2, rdB]
    have rl : R < w2.heap.size := blk_lt2 hR2
    clear hR2 hk3 hs2 hp2 hbl2 hi2 hv
    subst hm
    by_cases hfit : at2 + m ≤ b.length
    · have hg : ¬ ((b.length : Int) < (at2 : Int) + (m : Int)) := by omega
      have hgd : decide ((b.length : Int) < (at2 : Int) + (m : Int)) = false := decide_eq_false hg
      obtain ⟨i0, hi, hz0, hz1, hz2⟩ := info_parts byteInfo
      obtain ⟨t, ht⟩ : ∃ t, t = (b.drop at2).take m := ⟨_, rfl⟩
      have htl : t.length = m := by rw [ht, List.length_take, List.length_drop]; omega
      subst hA
      obtain ⟨ad2, hA2⟩ : ∃ ad2, (if c = at2 then some ad0 else some (ad0.add at2)) = some ad2 := by
        split
        · exact ⟨_, rfl⟩
        · exact ⟨_, rfl⟩
      have hA3 : (if c = at2 then some ad0 else (some ad0).map (·.add (at2 * 1))) = some ad2 := by rw [← hA2, Nat.mul_one]; rfl
      have HCC : Hid (∀ W', Below w0.heap.size w0 W' → Calls Tryd.prog 74 #[.slice (some ad2) m (c - at2)] W' fun e w' => ∃ v, e = .returned v ∧ RowO ekInt W'.heap.size w'.heap.size w' v t ∧ Below W'.heap.size W' w') := Lib.hid (fun W' hb => by
        have h1 := sub_C (Kd.C_below HC.out hb) hc at2 m hfit
        rw [hA3, ← ht] at h1
        have h2 := copy_calls ad2 (c - at2) t W' h1 (by omega)
        rw [htl] at h2
        exact h2)
      have hwr := wrap_small ((at2 : Int) + (m : Int)) (by omega) (by omega)
      have hb0 : 0 ≤ (at2 : Int) + (m : Int) := by omega
      have hb1 : (at2 : Int) + (m : Int) ≤ (c : Int) := by omega
      have hb2 : at2 ≤ ((at2 : Int) + (m : Int)).toNat := by omega
      have hb3 : ((at2 : Int) + (m : Int)).toNat - at2 = m := by omega
      have HTS : Hid (datK2 2 (m : Int) (b.drop at2) = some (⟨2, 0, t, 0⟩, b.drop (at2 + m))) := Lib.hid (by rw [ht]; exact txt_some rfl hfit 2)
      clear hA3 ht htl
      go_wp2_with fail
      go_quiet (fail)
      go_wp2_with fail
      go_region_law
        (go_simp; go_at_call 74; refine (HCC.out _ (by first | exact (drewN_below HB2.out _).drew | exact drewN_below HB2.out _)).mono ?_; rintro e w3 ⟨tv, rfl, ht3, hb3⟩; have HT3 := Lib.hid ht3; obtain ⟨A3, n3, rfl, _⟩ := ht3.form; clear ht3 a0 a1 a2 a3 fa0 fa1 fa2 fa3 x0 x1 x2 x3 fx0 fx1 fx2 fx3 r0 r1 r2 rf1 rf2;
         have HD3 := Lib.hid ((hb3.block D al).trans HD2.out); have HX3 := Lib.hid ((hb3.block w.heap.size xl).trans HX2.out); have HR3 := Lib.hid ((hb3.block R rl).trans HR2.out); have hB3 := hb3.size;
         obtain ⟨a0, a1, a2, a3, fa0, fa1, fa2, fa3, al3⟩ := box4 HD3.out; obtain ⟨x0, x1, x2, x3, fx0, fx1, fx2, fx3, xl3⟩ := box4 HX3.out; obtain ⟨r0, r1, r2, rf0, rf1, rf2, rl3⟩ := box3 HR3.out;
         have HBW : Hid (Below w2.heap.size w2 w3) := Lib.hid (by first | exact (drewN_below (Below.refl _ w2) _).drew.trans hb3 | exact (drewN_below (Below.refl _ w2) _).trans hb3); have HT4 : Hid (RowO ekInt w2.heap.size w3.heap.size w3 (.slice A3 t.length n3) t) := Lib.hid HT3.out; clear hb3 HT3)
      all_goals
        clear hwr hb0 hb1 hb2 hb3 hA2
        go_wp2_with fail
        have he : (at2 : Int) + (m : Int) = ((at2 + m : Nat) : Int) := by omega
        have HKF := Lib.hid (((HK2.out.trans (Rk.below (R := R) HB2.out.size HBW.out)).set hw0 (show w.heap.size ≤ D by omega) (j := 2) (.slice A3 t.length n3)).rd hBR 0 1 (.int .i64 ((at2 : Int) + (m : Int))))
        have HXF := Lib.hid (set_far (j := 1) (set_far (j := 2) HX3.out (show w.heap.size ≠ D by omega) (.slice A3 t.length n3)) (show w.heap.size ≠ R by omega) (.int .i64 ((at2 : Int) + (m : Int))))
        have HRF : Hid (((w3.setCell ⟨D, 2, none⟩ (.slice A3 t.length n3)).setCell ⟨R, 1, none⟩ (.int .i64 ((at2 : Int) + (m : Int)))).heap[R]? = some (rdB (some ad0) b.length c (at2 + m) bad2)) := Lib.hid (by
          have := Go.Joins.block_setCell (i := 1) (set_far (j := 2) HR3.out (show R ≠ D by omega) (.slice A3 t.length n3)) (.int .i64 ((at2 : Int) + (m : Int)))
          simpa [rdB] using this)
        have HTF : Hid (RowO ekInt w.heap.size ((w3.setCell ⟨D, 2, none⟩ (.slice A3 t.length n3)).setCell ⟨R, 1, none⟩ (.int .i64 ((at2 : Int) + (m : Int)))).heap.size ((w3.setCell ⟨D, 2, none⟩ (.slice A3 t.length n3)).setCell ⟨R, 1, none⟩ (.int .i64 ((at2 : Int) + (m : Int)))) (.slice A3 t.length n3) t) := Lib.hid
          (((HT4.out.fx (Fx.box HD3.out _ (by decide))).fx (Fx.box (b := R) (set_far HR3.out (show R ≠ D by omega) _) _ (by decide))).mono HK2.out.size (by simp [World.setCell]))
        refine bodyPost_ret (results_cell_row rfl _ _ w.heap.size 57 #[.int .i64 2, .int .i64 0, .slice A3 t.length n3, .int .i64 0] (0, 0) _ rfl (put4_box HXF.out) Tryd.underlying57 rfl (by kernel_rfl)) rfl ?_
        exact dat_fin (x := ⟨2, 0, t, 0⟩) hw0 hRl HKF.out HRF.out HXF.out HTF.out ⟨by omega, by omega, fun _ => hfit⟩ (HP1.out.num_bind (k := datK) dat_eq (HP2.out.num_bind (p := datK 2) (k := datK2 2) (fun l => rfl) ⟨fun h => h, fun h => Or.inl ⟨h, HTS.out⟩⟩))
    · have hg : (b.length : Int) < (at2 : Int) + (m : Int) := by omega
      have hgd : decide ((b.length : Int) < (at2 : Int) + (m : Int)) = true := decide_eq_true hg
      go_wp2_with fail
      go_quiet (fail)
      go_wp2_with fail
      have HRB : ∀ q, Hid (((w2.drewN q).setCell ⟨R, 2, none⟩ (.bool true)).heap[R]? = some (rdB A b.length c at2 true)) := fun q => Lib.hid (by
        have := Go.Joins.block_setCell (i := 2) (show (w2.drewN q).heap[R]? = _ from HR2.out) (.bool true)
        simpa [rdB] using this)
      have HXD : ∀ q, Hid (((w2.drewN q).setCell ⟨R, 2, none⟩ (.bool true)).heap[w.heap.size]? = _) := fun q => Lib.hid (set_far (j := 2) (show (w2.drewN q).heap[w.heap.size]? = _ from HX2.out) (show w.heap.size ≠ R by omega) (.bool true))
      refine bodyPost_ret (results_cell_row rfl _ _ w.heap.size 57 #[.int .i64 2, .int .i64 0, .slice none 0 0, .int .i64 0] (0, 0) _ rfl (put4_box (HXD _).out) Tryd.underlying57 rfl (by kernel_rfl)) rfl ?_
      exact dat_fin (x := ⟨2, 0, [], 0⟩) hw0 hRl (HK2.out.rd hBR _ _ _) (HRB _).out (HXD _).out (RowO.nil _ _ _ _ (by have := HK2.out.size; simp [World.setCell, World.drewN]; exact this)) ⟨hat2, by omega, fun h => by cases h⟩ (HP1.out.num_bind (k := datK) dat_eq (HP2.out.num_bind (p := datK 2) (k := datK2 2) (fun l => rfl) ⟨fun h => rfl, fun h => Or.inr ⟨rfl, txt_none rfl hfit (HBL.out h) 2⟩⟩))
  · have d0 : (k == 0) = false := by simpa using k0
    have d1 : (k == 1) = false := by simpa using k1
    have d2 : (k == 2) = false := by simpa using k2
    have HK3 : Hid (∀ l, datK k l = (numP 2 l).bind fun q => datK3 k q.1 q.2) := Lib.hid (fun l => by unfold datK; rw [if_neg k0, if_neg k1, if_neg k2]; rfl)
    go_wp2_with fail
    rw [← hWd, ← hDe]
    clear hWd hDe
    refine (num_calls w0 R A c b at1 bad1 2 Wd HRd.out HC.out HBd.out hBR (by omega) (by omega) hat1 hlen HBY.out).mono ?_
    rintro e w2 ⟨v, at2, bad2, rfl, hR2, hk3, hs2, ⟨hat2, hle2, hbl2⟩, hp2, hi2, _, _⟩
    obtain ⟨a0, a1, a2, a3, fa0, fa1, fa2, fa3, al⟩ := box4 (hk3.box HD.out (by omega))
    have HX2 := Lib.hid (hk3.box HXd.out (by omega))
    obtain ⟨x0, x1, x2, x3, fx0, fx1, fx2, fx3, xl⟩ := box4 HX2.out
    have HR2 := Lib.hid hR2
    have HK2 := Lib.hid (HKd.out.trans hk3)
    have HP2 := Lib.hid hp2
    have HBL := Lib.hid hbl2
    clear hR2 hk3 hs2 hp2 hbl2
    go_wp2_with fail
    have HXD := Lib.hid (set_far (j := 3) HX2.out (show w.heap.size ≠ D by omega) (.int .i64 v))
    refine bodyPost_ret (results_cell_row rfl _ _ w.heap.size 57 #[.int .i64 k, .int .i64 0, .slice none 0 0, .int .i64 v] (0, 0) _ rfl (put4_box HXD.out) Tryd.underlying57 rfl (by kernel_rfl)) rfl ?_
    exact dat_fin (x := ⟨k, 0, [], v⟩) hw0 hRl (HK2.out.set hw0 (by omega) _) (set_far HR2.out (by omega) _) HXD.out (RowO.nil _ _ _ _ (by have := HK2.out.size; simp [World.setCell]; exact this)) ⟨hat2, by omega, HBL.out⟩ (HP1.out.num_bind (k := datK) dat_eq (HP2.out.num_bind (p := datK k) (k := datK3 k) HK3.out ⟨fun h => h, fun h => Or.inl ⟨h, rfl⟩⟩))
end Go.Proofs.YtogmphjhdkgdjaaDoor
/- The specification's DecodeImage: the state of the call. -/
namespace Go.Proofs.YtogmphjhdkgdjaaDoor
open Go.RowKit Go.Proofs.YtogmphjhdkgdjaaDoorW.PrintWords Go.Proofs.YtogmphjhdkgdjaaDoor.QFnExactValidModule
set_option linter.unusedVariables false
set_option linter.unusedSimpArgs false
theorem Fx.rk {ts : List Nat} {w0 w w' : World} {R : Nat} {cs : Array Value} {T0 : Nat} (h : Rk w0 R w w') (hR : w.heap[R]? = some (.cells cs T0 (0, 0))) (hT : T0 ∉ ts) : Fx ts w w' := fun k c T hTs hk => by
  refine (h.oth k (blk_lt2 hk) (fun e => ?_)).trans hk
  subst e
  rw [hR] at hk
  cases hk
  exact hT hTs
/-- The state of the call: the reader in R, the module in M. -/
structure DSt (w0 : World) (R M : Nat) (A : Option Addr) (c : Nat) (b : List Int) (g : Int) (at_ : Nat) (bad : Bool) (cv fv : Value) (cs : List (List S57)) (fs : List S68) (hC hF : Nat) (w : World) : Prop where
  rd : w.heap[R]? = some (rdB A b.length c at_ bad)
  mb : w.heap[M]? = some (.cells #[cv, .int .i64 g, fv] 38 (0, 0))
  xb : w.heap[w0.heap.size]? = some (.cells #[.slice none 0 0, .int .i64 0, .slice none 0 0] 38 (0, 0))
  con : RowO ekDats w0.heap.size hC w cv cs
  fun_ : RowO ekFun w0.heap.size hF w fv fs
  bel : Below w0.heap.size w0 w
  lC : hC ≤ w.heap.size
  lF : hF ≤ w.heap.size
  la : at_ ≤ b.length + 4 ∧ 0 < at_ ∧ (bad = false → at_ ≤ b.length)
  ne : w0.heap.size < R ∧ R < M
section
variable {w0 : World} {R M : Nat} {A : Option Addr} {c : Nat} {b : List Int} {g : Int} {at_ : Nat} {bad : Bool} {cv fv : Value} {cs : List (List S57)} {fs : List S68} {hC hF : Nat} {w w' : World}
theorem DSt.rk (h : DSt w0 R M A c b g at_ bad cv fv cs fs hC hF w) {at' : Nat} {bad' : Bool} (hk : Rk w0 R w w') (hR : w'.heap[R]? = some (rdB A b.length c at' bad')) (la : at' ≤ b.length + 4 ∧ at_ ≤ at' ∧ (bad' = false → at' ≤ b.length)) : DSt w0 R M A c b g at' bad' cv fv cs fs hC hF w' :=
  ⟨hR, hk.box h.mb (by have := h.ne; omega), hk.box h.xb (by have := h.ne; omega), h.con.fx (Fx.rk hk h.rd (by decide)), h.fun_.fx (Fx.rk hk h.rd (by decide)), h.bel.trans hk.bel, Nat.le_trans h.lC hk.size, Nat.le_trans h.lF hk.size, ⟨la.1, by have := h.la.2.1; omega, la.2.2⟩, h.ne⟩
/-- Steps above a bound leave the state. -/
theorem DSt.high (h : DSt w0 R M A c b g at_ bad cv fv cs fs hC hF w) {S : Nat} (hs : ∀ q, q < S → w'.heap[q]? = w.heap[q]?) (hz : w.heap.size ≤ w'.heap.size) (hb : Below w0.heap.size w w') (h1 : hC ≤ S) (h2 : hF ≤ S) (h3 : M < S) : DSt w0 R M A c b g at_ bad cv fv cs fs hC hF w' :=
  ⟨(hs R (by have := h.ne; omega)).trans h.rd, (hs M h3).trans h.mb, (hs _ (by have := h.ne; omega)).trans h.xb, h.con.low (fun q hq => hs q (by omega)), h.fun_.low (fun q hq => hs q (by omega)), h.bel.trans hb, Nat.le_trans h.lC hz, Nat.le_trans h.lF hz, h.la, h.ne⟩
theorem DSt.alloc (h : DSt w0 R M A c b g at_ bad cv fv cs fs hC hF w) (x : Obj) : DSt w0 R M A c b g at_ bad cv fv cs fs hC hF (w.alloc x) := by
  have hb := (Below.refl w.heap.size w).alloc (Nat.le_refl _) x
  exact h.high (S := w.heap.size) (fun q hq => hb.block q hq) hb.size (hb.mono h.bel.size) h.lC h.lF (blk_lt2 h.mb)
theorem DSt.cells (h : DSt w0 R M A c b g at_ bad cv fv cs fs hC hF w) : w.cell? ⟨R, 2, none⟩ = some (.bool bad) ∧ R < w.heap.size ∧ w.cell? ⟨M, 0, none⟩ = some cv ∧ w.cell? ⟨M, 1, none⟩ = some (.int .i64 g) ∧ w.cell? ⟨M, 2, none⟩ = some fv ∧ w.frozen? ⟨M, 0, none⟩ = false ∧ w.frozen? ⟨M, 1, none⟩ = false ∧ w.frozen? ⟨M, 2, none⟩ = false ∧ M < w.heap.size := by
  have h1 := h.rd
  have h2 := h.mb
  refine ⟨?_, blk_lt2 h1, ?_, ?_, ?_, ?_, ?_, ?_, blk_lt2 h2⟩ <;> simp [World.cell?, World.frozen?, h1, h2, rdB]
theorem DSt.far (h : DSt w0 R M A c b g at_ bad cv fv cs fs hC hF w) {F j : Nat} (h1 : hC ≤ F) (h2 : hF ≤ F) (h3 : M < F) (v : Value) : DSt w0 R M A c b g at_ bad cv fv cs fs hC hF (w.setCell ⟨F, j, none⟩ v) :=
  h.high (S := F) (fun q hq => Below.heap_setCell _ _ _ _ (by simp; omega)) (by simp [World.setCell]) ((Below.refl _ _).setCell (p := ⟨F, j, none⟩) (by have := h.ne; simp; omega) _) h1 h2 h3
theorem boxF {w : World} {k : Nat} {c0 c1 c2 : Value} {T : TypeId} (h : w.heap[k]? = some (.cells #[c0, c1, c2] T (0, 0))) : w.cell? ⟨k, 0, none⟩ = some c0 ∧ w.cell? ⟨k, 1, none⟩ = some c1 ∧ w.cell? ⟨k, 2, none⟩ = some c2 ∧ w.frozen? ⟨k, 0, none⟩ = false ∧ w.frozen? ⟨k, 1, none⟩ = false ∧ w.frozen? ⟨k, 2, none⟩ = false ∧ k < w.heap.size := by
  refine ⟨?_, ?_, ?_, ?_, ?_, ?_, blk_lt2 h⟩ <;> simp [World.cell?, World.frozen?, h]
theorem set_size (w : World) (a : Addr) (v : Value) : (w.setCell a v).heap.size = w.heap.size := by simp [World.setCell]
/-- The module's row of constants, or of functions, set anew. -/
theorem DSt.setC (h : DSt w0 R M A c b g at_ bad cv fv cs fs hC hF w) {v1 : Value} {w1 : World} {cs' : List (List S57)} (hr : RowO ekDats w0.heap.size w1.heap.size w1 v1 cs') (hg : w.grownBy w1 cv.ownBlock) : DSt w0 R M A c b g at_ bad v1 fv cs' fs w1.heap.size hF (w1.setCell ⟨M, 0, none⟩ v1) := by
  have hT := h.con.typed
  have hne : ∀ (k : Nat) (cs : Array Value) (T : Nat), w.heap[k]? = some (.cells cs T (0, 0)) → T ≠ 25 → w1.heap[k]? = some (.cells cs T (0, 0)) := fun k cs T hk ht => Fx.grown (ts := [T]) hg hT (by simpa using fun e => ht e.symm) k cs T (by simp) hk
  have hM := hne _ _ _ h.mb (by decide)
  refine ⟨set_far (hne _ _ _ h.rd (by decide)) (by have := h.ne; omega) _, ?_, set_far (hne _ _ _ h.xb (by decide)) (by have := h.ne; omega) _, (hr.fx (Fx.box hM _ (by decide))).mono (Nat.le_refl _) (Nat.le_refl _), ?_, (h.bel.grown hg h.bel.size (fun k hk => (h.con.lt k hk).1)).setCell (p := ⟨M, 0, none⟩) (by have := h.ne; simp; omega) _, by simp [World.setCell], by have := hg.size; have := h.lF; simp [World.setCell]; omega, h.la, h.ne⟩
  · have := Go.Joins.block_setCell (i := 0) hM v1
    simpa using this
  · exact (h.fun_.fx (Fx.grown hg hT (by decide))).fx (Fx.box hM _ (by decide))
theorem DSt.setF (h : DSt w0 R M A c b g at_ bad cv fv cs fs hC hF w) {v1 : Value} {w1 : World} {fs' : List S68} (hr : RowO ekFun w0.heap.size w1.heap.size w1 v1 fs') (hg : w.grownBy w1 fv.ownBlock) : DSt w0 R M A c b g at_ bad cv v1 cs fs' hC w1.heap.size (w1.setCell ⟨M, 2, none⟩ v1) := by
  have hT := h.fun_.typed
  have hne : ∀ (k : Nat) (cs : Array Value) (T : Nat), w.heap[k]? = some (.cells cs T (0, 0)) → T ≠ 68 → w1.heap[k]? = some (.cells cs T (0, 0)) := fun k cs T hk ht => Fx.grown (ts := [T]) hg hT (by simpa using fun e => ht e.symm) k cs T (by simp) hk
  have hM := hne _ _ _ h.mb (by decide)
  refine ⟨set_far (hne _ _ _ h.rd (by decide)) (by have := h.ne; omega) _, ?_, set_far (hne _ _ _ h.xb (by decide)) (by have := h.ne; omega) _, ?_, (hr.fx (Fx.box hM _ (by decide))).mono (Nat.le_refl _) (Nat.le_refl _), (h.bel.grown hg h.bel.size (fun k hk => (h.fun_.lt k hk).1)).setCell (p := ⟨M, 2, none⟩) (by have := h.ne; simp; omega) _, by have := hg.size; have := h.lC; simp [World.setCell]; omega, by simp [World.setCell], h.la, h.ne⟩
  · have := Go.Joins.block_setCell (i := 2) hM v1
    simpa using this
  · exact (h.con.fx (Fx.grown hg hT (by decide))).fx (Fx.box hM _ (by decide))
end
theorem info_dat : (Tryd.prog.info? 57).map (fun i => (i.zero, i.size, i.bytes)) = some (some (.agg #[.int .i64 0, .int .i64 0, .slice none 0 0, .int .i64 0]), 4, 48) := by kernel_rfl
theorem info_dats : (Tryd.prog.info? 25).map (fun i => (i.zero, i.size, i.bytes)) = some (some (.slice none 0 0), 1, 24) := by kernel_rfl
theorem info_fun : (Tryd.prog.info? 68).map (fun i => (i.zero, i.size, i.bytes)) = some (some (.agg #[.int .i64 0, .slice none 0 0, .slice none 0 0]), 3, 56) := by kernel_rfl
theorem info_ins : (Tryd.prog.info? 71).map (fun i => (i.zero, i.size, i.bytes)) = some (some (.agg #[.int .i64 0, .int .i64 0, .int .i64 0]), 3, 24) := by kernel_rfl
theorem info_bool : (Tryd.prog.info? 4).map (fun i => (i.zero, i.size, i.bytes)) = some (some (.bool false), 1, 1) := by kernel_rfl
theorem results_cell_tup {P : Program} {fn : Func} {p u : Tmp} {ty : TypeId} (h : fn.results = #[.cell p ty, .tmp u]) (tmps : Array Value) (w : World) (g : Nat) (t : TypeId) (cs : Array Value) (fr : Nat × Nat) (d : TypeDesc)
    (hp : tmps.getD p undef = .pointer (some ⟨g, 0, none⟩)) (hg : w.heap[g]? = some (.cells cs t fr))
    (hu : P.underlying ty = some d) (hd : (match d with | .struct _ | .array _ _ => true | _ => false) = true) (hi : (P.info? ty).map (·.size) = some cs.size) :
    (results fn tmps).run P w = .ok (.tuple #[.agg cs, tmps.getD u undef]) w := by
  rw [results_cell_tmp h, hp]
  simp [asAddr, run_loadVar_row w g t ty cs fr d hg hu hd hi, Result.andThen]
theorem put3_box {w : World} {X : Nat} {T : TypeId} {c0 c1 c2 q0 q1 q2 : Value} (h : w.heap[X]? = some (.cells #[c0, c1, c2] T (0, 0))) : (((w.setCell ⟨X, 0, none⟩ q0).setCell ⟨X, 1, none⟩ q1).setCell ⟨X, 2, none⟩ q2).heap[X]? = some (.cells #[q0, q1, q2] T (0, 0)) := by
  have h1 := Go.Joins.block_setCell (i := 0) h q0
  have h2 := Go.Joins.block_setCell (i := 1) h1 q1
  have h3 := Go.Joins.block_setCell (i := 2) h2 q2
  simpa using h3
theorem Fx.put3 {ts : List Nat} {w : World} {X : Nat} {T0 : Nat} {c0 c1 c2 q0 q1 q2 : Value} (h : w.heap[X]? = some (.cells #[c0, c1, c2] T0 (0, 0))) (hT : T0 ∉ ts) : Fx ts w (((w.setCell ⟨X, 0, none⟩ q0).setCell ⟨X, 1, none⟩ q1).setCell ⟨X, 2, none⟩ q2) :=
  ((Fx.box h q0 hT).trans (Fx.box (Go.Joins.block_setCell (i := 0) h q0) q1 hT)).trans (Fx.box (Go.Joins.block_setCell (i := 1) (Go.Joins.block_setCell (i := 0) h q0) q1) q2 hT)
theorem str_ne {a b : ByteArray} (h : ¬ a = b) : (a.toList == b.toList) = false := by
  cases hq : (a.toList == b.toList) with
  | false => rfl
  | true =>
    rw [ByteArray.toList_eq, ByteArray.toList_eq] at hq
    refine absurd ?_ h
    cases a with | mk x => cases b with | mk y =>
    have h2 := eq_of_beq hq
    exact congrArg ByteArray.mk (Array.toList_inj.1 h2)
theorem str_inj {xs ys : List Int} (hx : Bys xs) (hy : Bys ys) (h : strOfNums xs = strOfNums ys) : xs = ys := by
  have h1 : (xs.map fun n => UInt8.ofNat n.toNat) = ys.map fun n => UInt8.ofNat n.toNat := by
    unfold strOfNums at h
    have := ByteArray.mk.inj h
    exact Array.toList_inj.2 this |> (by simpa using ·)
  have key : ∀ (l : List Int), Bys l → (l.map fun n => UInt8.ofNat n.toNat).map (fun u => (u.toNat : Int)) = l := fun l hl => by
    rw [List.map_map]
    refine (List.map_congr_left (g := id) fun a ha => ?_).trans (List.map_id l)
    have := hl a ha
    simp [UInt8.toNat_ofNat']
    omega
  rw [← key xs hx, ← key ys hy, h1]
theorem read_eq (b : List Int) : readM b = modPs (b.drop 4) := by
  unfold readM
  split
  · rfl
  · rw [List.drop_of_length_le (by omega)]
    rfl
end Go.Proofs.YtogmphjhdkgdjaaDoor
