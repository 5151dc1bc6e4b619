/- Contracts of package fifo. -/
import Derived.Test.YtbglbbmlohfemaaGreatDoorTf
import Derived.Test.YtbglbbmlohfemaaGreatDoorB1
section
set_option linter.unusedVariables false
set_option linter.unusedSimpArgs false
namespace Go.X
open Go.Proofs Go.RowKit
attribute [local irreducible] l_append l_copy l_make l_run q_slice q_eq q_index
variable {w w' : World} {B : Nat}
theorem Own.at {α : Type} {E : Enc α} {t : TypeId} {v : Value} {l : List α} (h : Own E t w B v l) {i : Nat} (hi : i < l.length) : ∃ g cap, v = .slice (some ⟨g, 0, none⟩) l.length cap ∧ B ≤ g ∧ (∃ cur, blk w g = some (.cells cur t (0, 0)) ∧ l.length * E.sz ≤ cur.size) ∧ ∀ j, j < E.sz → cellO (blk w g) (i * E.sz + j) = (E.cells l[i])[j]? := by
  obtain ⟨g, cap, cur, hv, hB, hk, h1, h2, h3, h4, h5⟩ := h.block (by omega)
  refine ⟨g, cap, hv, hB, ⟨cur, hk, Nat.le_trans (Nat.mul_le_mul_right _ h1) h3⟩, fun j hj => ?_⟩
  rw [hk, cellO_cells]
  exact h5 i hi j hj
/-- The cells of one past movement. -/
structure PaAt (w : World) (g i : Nat) (p : Pa) : Prop where
  c0 : cellO (blk w g) (i * 7) = some (.int .i64 p.seq)
  c1 : cellO (blk w g) (i * 7 + 1) = some (.int .i64 p.kind)
  c2 : cellO (blk w g) (i * 7 + 2) = some (.string p.lot)
  c3 : cellO (blk w g) (i * 7 + 3) = some (.int .i64 p.qty)
  c4 : cellO (blk w g) (i * 7 + 4) = some (.int .i64 p.value)
  c5 : cellO (blk w g) (i * 7 + 5) = some (.int .i64 p.used)
  c6 : cellO (blk w g) (i * 7 + 6) = some (.int .i64 p.usedV)
structure LyAt (w : World) (g i : Nat) (p : Ly) : Prop where
  c0 : cellO (blk w g) (i * 4) = some (.int .i64 p.seq)
  c1 : cellO (blk w g) (i * 4 + 1) = some (.string p.lot)
  c2 : cellO (blk w g) (i * 4 + 2) = some (.int .i64 p.qty)
  c3 : cellO (blk w g) (i * 4 + 3) = some (.int .i64 p.value)
theorem Own.paAt {v : Value} {l : List Pa} (h : Own PaE 105 w B v l) {i : Nat} (hi : i < l.length) : ∃ g cap, v = .slice (some ⟨g, 0, none⟩) l.length cap ∧ B ≤ g ∧ (∃ cur, blk w g = some (.cells cur 105 (0, 0)) ∧ l.length * 7 ≤ cur.size) ∧ PaAt w g i l[i] := by
  obtain ⟨g, cap, hv, hB, hk, hc⟩ := h.at hi
  exact ⟨g, cap, hv, hB, hk, hc 0 (by decide), hc 1 (by decide), hc 2 (by decide), hc 3 (by decide), hc 4 (by decide), hc 5 (by decide), hc 6 (by decide)⟩
theorem Own.lyAt {v : Value} {l : List Ly} (h : Own LyE 103 w B v l) {i : Nat} (hi : i < l.length) : ∃ g cap, v = .slice (some ⟨g, 0, none⟩) l.length cap ∧ B ≤ g ∧ (∃ cur, blk w g = some (.cells cur 103 (0, 0)) ∧ l.length * 4 ≤ cur.size) ∧ LyAt w g i l[i] := by
  obtain ⟨g, cap, hv, hB, hk, hc⟩ := h.at hi
  exact ⟨g, cap, hv, hB, hk, hc 0 (by decide), hc 1 (by decide), hc 2 (by decide), hc 3 (by decide)⟩
theorem Own.len {α : Type} {E : Enc α} {t : TypeId} {v : Value} {l : List α} (h : Own E t w B v l) : q_len v = some (.int .i64 l.length) := by
  obtain ⟨a, cap, rfl, _⟩ := h.slice
  rfl
/-- The first element with a property, from an index on. -/
def idxF {α : Type} (p : α → Bool) (l : List α) : Option Nat := l.findIdx? p
theorem idxF_some {α : Type} {p : α → Bool} {l : List α} {i : Nat} (hi : i < l.length) (hp : p l[i] = true) (hb : ∀ j (hj : j < l.length), j < i → p l[j] = false) : idxF p l = some i := by
  unfold idxF
  rw [List.findIdx?_eq_some_iff_getElem]
  exact ⟨hi, hp, fun j hj => by rw [hb j (by omega) hj]; exact Bool.false_ne_true⟩
theorem idxF_none {α : Type} {p : α → Bool} {l : List α} (hb : ∀ j (hj : j < l.length), p l[j] = false) : idxF p l = none := by
  unfold idxF
  rw [List.findIdx?_eq_none_iff]
  intro x hx
  obtain ⟨j, hj, rfl⟩ := List.getElem_of_mem hx
  exact hb j hj
theorem idxF_lt {α : Type} {p : α → Bool} {l : List α} {i : Nat} (h : idxF p l = some i) : ∃ hi : i < l.length, p l[i] = true := by
  unfold idxF at h
  rw [List.findIdx?_eq_some_iff_getElem] at h
  exact ⟨h.1, h.2.1⟩
/-- What fifo's step holds. -/
structure Fx where
  t : St
  m : Mv
  c : Co
def Fx.setL (s : Fx) (l : List Ly) : Fx := ⟨⟨s.t.qty, s.t.value, s.t.price, l, s.t.past⟩, s.m, s.c⟩
def Fx.setP (s : Fx) (l : List Pa) : Fx := ⟨⟨s.t.qty, s.t.value, s.t.price, s.t.layers, l⟩, s.m, s.c⟩
@[simp] theorem Fx.setL_q {s : Fx} {l : List Ly} : (s.setL l).t.qty = s.t.qty := rfl
@[simp] theorem Fx.setL_v {s : Fx} {l : List Ly} : (s.setL l).t.value = s.t.value := rfl
@[simp] theorem Fx.setL_r {s : Fx} {l : List Ly} : (s.setL l).t.price = s.t.price := rfl
@[simp] theorem Fx.setL_l {s : Fx} {l : List Ly} : (s.setL l).t.layers = l := rfl
@[simp] theorem Fx.setL_p {s : Fx} {l : List Ly} : (s.setL l).t.past = s.t.past := rfl
@[simp] theorem Fx.setL_m {s : Fx} {l : List Ly} : (s.setL l).m = s.m := rfl
@[simp] theorem Fx.setL_c {s : Fx} {l : List Ly} : (s.setL l).c = s.c := rfl
@[simp] theorem Fx.setP_q {s : Fx} {l : List Pa} : (s.setP l).t.qty = s.t.qty := rfl
@[simp] theorem Fx.setP_v {s : Fx} {l : List Pa} : (s.setP l).t.value = s.t.value := rfl
@[simp] theorem Fx.setP_r {s : Fx} {l : List Pa} : (s.setP l).t.price = s.t.price := rfl
@[simp] theorem Fx.setP_l {s : Fx} {l : List Pa} : (s.setP l).t.layers = s.t.layers := rfl
@[simp] theorem Fx.setP_p {s : Fx} {l : List Pa} : (s.setP l).t.past = l := rfl
@[simp] theorem Fx.setP_m {s : Fx} {l : List Pa} : (s.setP l).m = s.m := rfl
@[simp] theorem Fx.setP_c {s : Fx} {l : List Pa} : (s.setP l).c = s.c := rfl
@[simp] theorem Fx.setL_L {s : Fx} {l l' : List Ly} : (s.setL l).setL l' = s.setL l' := rfl
@[simp] theorem Fx.setP_P {s : Fx} {l l' : List Pa} : (s.setP l).setP l' = s.setP l' := rfl
def Fx.setC (s : Fx) (c : Co) : Fx := ⟨s.t, s.m, c⟩
@[simp] theorem Fx.setC_t {s : Fx} {c : Co} : (s.setC c).t = s.t := rfl
@[simp] theorem Fx.setC_m {s : Fx} {c : Co} : (s.setC c).m = s.m := rfl
@[simp] theorem Fx.setC_c {s : Fx} {c : Co} : (s.setC c).c = c := rfl
def fxCells (s : Fx) (lv pv : Value) : Array Value :=
  #[.int .i64 s.t.qty, .int .i64 s.t.value, .int .i64 s.t.price, lv, pv,
    .int .i64 s.m.seq, .int .i64 s.m.value, .string s.m.item, .int .i64 s.m.kind, .int .i64 s.m.qty, .int .i64 s.m.cost, .string s.m.lot, .int .i64 s.m.ref,
    .int .i64 s.c.seq, .int .i64 s.c.qty, .int .i64 s.c.value, .int .i64 s.c.var]
structure FX (w : World) (B x : Nat) (s : Fx) (lv pv : Value) : Prop where
  le : B ≤ x
  blk : blk w x = some (.cells (fxCells s lv pv) 113 (0, 0))
  ly : Own LyE 103 w B lv s.t.layers
  pa : Own PaE 105 w B pv s.t.past
def ptr (x : Nat) : Value := .pointer (some ⟨x, 0, none⟩)
def elP (sz : Nat) (v : Value) (i : Nat) : Value := match v with | .slice (some a) _ _ => .pointer (some (a.add (i * sz))) | _ => undef
def okP (k n : Int) (p : Pa) : Bool := decide (p.seq = n) && (decide (k = 0) || decide (p.kind = k))
def findP (k n : Int) (l : List Pa) : Option Nat := idxF (okP k n) l
def findR (pv : Value) (o : Option Nat) : Value := match o with | none => .pointer none | some i => elP 7 pv i
def PastI (l : List Pa) (k n : Int) (w : World) (v : Value) (W : World) : Prop := W = w ∧ ∃ i : Nat, v = .int .i64 i ∧ i ≤ l.length ∧ ∀ j (hj : j < l.length), j < i → okP k n l[j] = false
def lenM (n : Nat) (v : Value) (_ : World) : Nat := n - (intOf v).toNat
theorem fifo_past {x : Nat} {s : Fx} {lv pv : Value} {k n : Int} (h : FX w B x s lv pv) {K : Value → World → Prop} (hK : K (findR pv (findP k n s.t.past)) w) : Ret Tryz.prog 62 [ptr x, .int .i64 k, .int .i64 n] w K := by
  refine lift62 ?_
  unfold L62 ptr
  have hb := h.blk
  have hl := h.pa.len
  unfold fxCells at hb
  simp [hb, hl]
  refine looping_i (PastI s.t.past k n w) (lenM s.t.past.length) ⟨⟨rfl, 0, rfl, by omega, by omega⟩, ?_⟩
  rintro v W ⟨rfl, i, rfl, hi, hno⟩
  have hmax := h.pa.slice
  obtain ⟨_, _, _, hmx⟩ := hmax
  have hmx' : (maxLen : Int) ≤ 9223372036854775807 := by decide
  simp
  refine xif_dec (fun hlt => ?_) (fun hlt => ?_)
  · obtain ⟨g, cap, hv, hBg, _, hat⟩ := h.pa.paAt hlt
    have hlt' : (i : Int) < (s.t.past.length : Int) := by omega
    have e1 : IntKind.i64.wrap ((i : Int) + 1) = ((i + 1 : Nat) : Int) := by rw [wrap_i64 (by omega) (by omega)]; omega
    have hstep : okP k n s.t.past[i] = false → PastI s.t.past k n W (.int .i64 (IntKind.i64.wrap ((i : Int) + 1))) W ∧ lenM s.t.past.length (.int .i64 (IntKind.i64.wrap ((i : Int) + 1))) W < lenM s.t.past.length (.int .i64 (i : Int)) W := by
      intro hf
      rw [e1]
      refine ⟨⟨rfl, i + 1, rfl, by omega, fun j hj hji => ?_⟩, by simp only [lenM, intOf]; omega⟩
      rcases Nat.lt_or_ge j i with h1 | h1
      · exact hno j hj h1
      · have : j = i := by omega
        subst this
        exact hf
    have hfound : okP k n s.t.past[i] = true → K (.pointer (some ⟨g, i * 7, none⟩)) W := by
      intro ht
      have := idxF_some hlt ht hno
      unfold findP at hK
      rw [this] at hK
      simpa [findR, elP, hv] using hK
    simp [hb, hv, hlt', hat.c0]
    by_cases h1 : s.t.past[i].seq = n
    · by_cases h2 : k = 0
      · simp [h1, h2]
        exact hfound (by simp [okP, h1, h2])
      · by_cases h3 : s.t.past[i].kind = k
        · simp [h1, h2, h3, hat.c1]
          exact hfound (by simp [okP, h1, h3])
        · simp [h1, h2, h3, hat.c1]
          exact hstep (by simp [okP, h2, h3])
    · simp [h1]
      exact hstep (by simp [okP, h1])
  · have : findP k n s.t.past = none := idxF_none (fun j hj => hno j hj (by omega))
    rw [this] at hK
    exact hK
theorem Own.putL {α : Type} {E : Enc α} {t t' : TypeId} {v : Value} {l : List α} (h : Own E t w B v l) {b o : Nat} {vs : List Value} {c : Array Value} {f : Nat × Nat} (hb : X.blk w b = some (.cells c t' f)) (ht : t' ≠ t) : Own E t (X.putL w b o vs) B v l := by
  refine h.step fun k hk => ?_
  obtain ⟨cur, hc⟩ := h.type k hk
  rw [blk_putL, if_neg (ne_of_type hb hc ht)]
/-- What a method of fifo's step does to memory. -/
structure Did (T : List TypeId) (B : Nat) (w w' : World) : Prop where
  below : Below B w w'
  keeps : Keeps T w w'
namespace Did
variable {T : List TypeId} {a : World}
theorem refl (T : List TypeId) (B : Nat) (w : World) : Did T B w w := ⟨Below.refl _ _, Keeps.refl _ _⟩
theorem trans {b c : World} (h : Did T B a b) (h' : Did T B b c) : Did T B a c := ⟨h.below.trans h'.below, h.keeps.trans h'.keeps⟩
theorem drew (h : Did T B a w) : Did T B a w.drew := ⟨h.below.drew, h.keeps.drew⟩
theorem called (h : Did T B a w) (hb : Below w.heap.size w w') (hB : B ≤ w.heap.size) : Did T B a w' := ⟨h.below.trans (hb.mono hB), h.keeps.trans (Keeps.of_below hb)⟩
theorem alloc (h : Did T B a w) (hB : B ≤ w.heap.size) (o : Obj) : Did T B a (w.alloc o) := ⟨h.below.alloc hB o, h.keeps.alloc o⟩
theorem putL (h : Did T B a w) {g o : Nat} {vs : List Value} {cs : Array Value} {t : TypeId} {f : Nat × Nat} (hg : X.blk w g = some (.cells cs t f)) (ht : t ∈ T) (hB : B ≤ g) : Did T B a (X.putL w g o vs) :=
  ⟨below_putL h.below hB _ _, h.keeps.putL hg ht⟩
theorem grown (h : Did T B a w) {row : Option Nat} (hg : w.grownBy w' row) (hB : B ≤ w.heap.size) (hr : ∀ k, row = some k → B ≤ k ∧ ∃ cs t f, X.blk w k = some (.cells cs t f) ∧ t ∈ T) : Did T B a w' :=
  ⟨h.below.grown hg hB (fun k hk => (hr k hk).1), h.keeps.grown hg (fun k hk => (hr k hk).2)⟩
end Did
def FT : List TypeId := [113, 103, 105]
def partV (v q n : Int) : Int := if q = n then v else (mdV v q n).1
theorem mdV_I64 {a b c : Int} : I64 (mdV a b c).1 := by
  unfold mdV sgnV I64
  split
  · simp
  · split
    · split <;> simp <;> omega
    · split <;> simp <;> omega
theorem partV_I64 {v q n : Int} (h : I64 v) : I64 (partV v q n) := by
  unfold partV
  split
  · exact h
  · exact mdV_I64
theorem fifo_part {v q n : Int} {w : World} (hv : I64 v) (hq : I64 q) (hn : I64 n) : Calc 114 [.int .i64 v, .int .i64 q, .int .i64 n] w (.int .i64 (partV v q n)) := by
  intro K hK
  refine lift114 ?_
  unfold L114
  unfold partV at hK
  simp
  refine xif_dec (fun h => ?_) (fun h => ?_)
  · rw [if_pos h] at hK
    exact hK _ (Below.refl _ _)
  · rw [if_neg h] at hK
    refine md_ok hv hq hn _ (fun w1 hb1 => ?_)
    simp
    exact hK _ hb1
theorem FX.size {x : Nat} {s : Fx} {lv pv : Value} (h : FX w B x s lv pv) : B ≤ w.heap.size := Nat.le_trans h.le (Nat.le_of_lt (lt_of_blk h.blk))
theorem FX.drew {x : Nat} {s : Fx} {lv pv : Value} (h : FX w B x s lv pv) : FX w.drew B x s lv pv := ⟨h.le, h.blk, h.ly.drew, h.pa.drew⟩
theorem FX.called {x : Nat} {s : Fx} {lv pv : Value} (h : FX w B x s lv pv) (hb : Below w.heap.size w w') : FX w' B x s lv pv := ⟨h.le, (blk_below hb (lt_of_blk h.blk)).trans h.blk, h.ly.below hb, h.pa.below hb⟩
/-- A movement referred to: its index, or an error. -/
def refV (k : Int) (s : Fx) : Option Nat × Int :=
  match findP k s.m.ref s.t.past with
  | none => (none, 28)
  | some i => match s.t.past[i]? with
    | none => (none, 28)
    | some p => if IntKind.i64.wrap (p.qty - p.used) < s.m.qty then (none, 21) else (some i, 0)
theorem u114 : Tryz.prog.underlying 114 = some (.pointer 105) := by kernel_rfl
theorem nil114 (a : Option Addr) : q_eq Tryz.prog .eql 114 (.pointer a) (.pointer none) = some (.bool a.isNone) ∧ q_eq Tryz.prog .neq 114 (.pointer a) (.pointer none) = some (.bool a.isSome) := q_eq_ptr u114 a
theorem fifo_ref {x : Nat} {s : Fx} {lv pv : Value} {k : Int} (h : FX w B x s lv pv) {K : Value → World → Prop}
    (hK : ∀ w', FX w' B x s lv pv → Did FT B w w' → K (.tuple #[findR pv (refV k s).1, .int .i64 (refV k s).2]) w') : Ret Tryz.prog 113 [ptr x, .int .i64 k] w K := by
  refine lift113 ?_
  unfold L113
  have hb := h.blk
  unfold fxCells at hb
  simp [ptr, hb]
  refine fifo_past (x := x) h ?_
  cases hf : findP k s.m.ref s.t.past with
  | none =>
    have hr : refV k s = (none, 28) := by unfold refV; simp only [hf]
    have hk := hK _ h (Did.refl _ _ _)
    rw [hr] at hk
    simp [findR, (nil114 _).1]
    exact hk
  | some i =>
    obtain ⟨hi, hok⟩ := idxF_lt hf
    have hr : refV k s = if IntKind.i64.wrap (s.t.past[i].qty - s.t.past[i].used) < s.m.qty then (none, 21) else (some i, 0) := by unfold refV; simp only [hf, List.getElem?_eq_getElem hi]
    have hk := hK _ h.drew ((Did.refl _ _ _).drew)
    rw [hr] at hk
    obtain ⟨g, cap, hv, hBg, _, hat⟩ := h.pa.paAt hi
    simp [findR, elP, hv, (nil114 _).1, hb, hat.c3, hat.c5]
    refine xif_dec (fun h1 => ?_) (fun h1 => ?_)
    · rw [if_pos h1] at hk
      exact hk
    · rw [if_neg h1] at hk
      simpa [findR, elP, hv] using hk
theorem lyElem {v : Value} {l : List Ly} (h : Rd LyE w v l) {i : Nat} (hi : i < l.length) : ∃ ad, q_iaddr 4 v (.int .i64 (i : Int)) = some (.pointer (some ad)) ∧ q_loadn 4 (.pointer (some ad)) w = some (.agg #[.int .i64 l[i].seq, .string l[i].lot, .int .i64 l[i].qty, .int .i64 l[i].value]) := by
  obtain ⟨ad, h1, h2, _⟩ := h.elem hi .i64
  exact ⟨ad, h1, h2⟩
theorem paElem {v : Value} {l : List Pa} (h : Rd PaE w v l) {i : Nat} (hi : i < l.length) : ∃ ad, q_iaddr 7 v (.int .i64 (i : Int)) = some (.pointer (some ad)) ∧ q_loadn 7 (.pointer (some ad)) w = some (.agg #[.int .i64 l[i].seq, .int .i64 l[i].kind, .string l[i].lot, .int .i64 l[i].qty, .int .i64 l[i].value, .int .i64 l[i].used, .int .i64 l[i].usedV]) := by
  obtain ⟨ad, h1, h2, _⟩ := h.elem hi .i64
  exact ⟨ad, h1, h2⟩
/-- The index of the layer of a movement, or -1. -/
def layV (n : Int) (l : List Ly) : Int := match idxF (fun a => decide (a.seq = n)) l with | none => -1 | some i => i
def LayI (l : List Ly) (n : Int) (B : Nat) (w : World) (v : Value) (W : World) : Prop := Did FT w.heap.size w W ∧ ∃ i : Nat, v = .int .i64 i ∧ i ≤ l.length ∧ ∀ j (hj : j < l.length), j < i → decide (l[j].seq = n) = false
theorem fifo_layer {x : Nat} {s : Fx} {lv pv : Value} {n : Int} (h : FX w B x s lv pv) : Calc 115 [ptr x, .int .i64 n] w (.int .i64 (layV n s.t.layers)) := by
  intro K hK
  refine lift115 ?_
  unfold L115
  have hb := h.blk
  unfold fxCells at hb
  simp [ptr, hb, h.ly.len]
  refine looping_i (LayI s.t.layers n B w) (lenM s.t.layers.length) ⟨⟨Did.refl _ _ _, 0, rfl, by omega, by omega⟩, ?_⟩
  rintro v W ⟨hd, i, rfl, hi, hno⟩
  obtain ⟨_, _, _, hmx⟩ := h.ly.slice
  have hmx' : (maxLen : Int) ≤ 9223372036854775807 := by decide
  have hW : FX W B x s lv pv := h.called hd.below
  simp
  refine xif_dec (fun hlt => ?_) (fun hlt => ?_)
  · obtain ⟨g, cap, hv, hBg, ⟨cur, hcur, _⟩, hat⟩ := hW.ly.lyAt hlt
    have hlt' : (i : Int) < (s.t.layers.length : Int) := by omega
    have e1 : IntKind.i64.wrap ((i : Int) + 1) = ((i + 1 : Nat) : Int) := by rw [wrap_i64 (by omega) (by omega)]; omega
    obtain ⟨ad, hq, hload⟩ := lyElem (Rd.of_own hW.ly) hlt
    rw [hq, onSome_some, hload]
    simp [l_new]
    have hd2 := (hd.alloc hd.below.size (Obj.cells #[Value.int IntKind.i64 0, Value.string { data := #[] }, Value.int IntKind.i64 0, Value.int IntKind.i64 0] 103)).putL (g := W.heap.size) (o := 0) (vs := [.int .i64 s.t.layers[i].seq, .string s.t.layers[i].lot, .int .i64 s.t.layers[i].qty, .int .i64 s.t.layers[i].value]) (by rw [blk_alloc, if_pos rfl]) (by decide) hd.below.size
    refine xif_dec (fun h1 => ?_) (fun h1 => ?_)
    · have := idxF_some hlt (p := fun a => decide (a.seq = n)) (by simpa using h1) hno
      have e : layV n s.t.layers = i := by unfold layV; rw [this]
      rw [e] at hK
      exact hK _ hd2.below
    · rw [e1]
      refine ⟨⟨hd2, i + 1, rfl, by omega, fun j hj hji => ?_⟩, by simp only [lenM, intOf]; omega⟩
      rcases Nat.lt_or_ge j i with h2 | h2
      · exact hno j hj h2
      · have : j = i := by omega
        subst this
        exact decide_eq_false h1
  · have := idxF_none (p := fun a => decide (a.seq = n)) (l := s.t.layers) (fun j hj => hno j hj (by omega))
    have e : layV n s.t.layers = -1 := by unfold layV; rw [this]
    rw [e] at hK
    exact hK _ hd.below
theorem bytes_ly {n : Nat} (h : n ≤ 1000000) : n * 40 ≤ 140737488355328 := by omega
theorem small_max {n : Nat} (h : n ≤ 1000000) : n ≤ maxLen := by
  have : 1000000 ≤ maxLen := by decide
  omega
def Ly.v (a : Ly) : Value := .agg a.cs.toArray
theorem own_ne {α β : Type} {E : Enc α} {E' : Enc β} {t t' : TypeId} {v v' : Value} {l : List α} {l' : List β} (h : Own E t w B v l) (h' : Own E' t' w B v' l') (ht : t ≠ t') : v.ownBlock = none ∨ v.ownBlock ≠ v'.ownBlock := by
  cases e : v.ownBlock with
  | none => exact .inl rfl
  | some k =>
    refine .inr fun e' => ?_
    obtain ⟨c, hc⟩ := h.type k e
    obtain ⟨c', hc'⟩ := h'.type k e'.symm
    rw [hc] at hc'
    injection hc' with hc'
    injection hc' with _ hc' _
    exact ht hc'
theorem own_blk {α : Type} {E : Enc α} {t t' : TypeId} {v : Value} {l : List α} {x : Nat} {cs : Array Value} {f : Nat × Nat} (h : Own E t w B v l) (hx : X.blk w x = some (.cells cs t' f)) (ht : t' ≠ t) : some x ≠ v.ownBlock := by
  intro e
  obtain ⟨c, hc⟩ := h.type x e.symm
  rw [hx] at hc
  injection hc with hc
  injection hc with _ hc _
  exact ht hc
theorem own_row {α : Type} {E : Enc α} {t : TypeId} {v : Value} {l : List α} (h : Own E t w B v l) {T : List TypeId} (ht : t ∈ T) : ∀ k, v.ownBlock = some k → B ≤ k ∧ ∃ cs t f, X.blk w k = some (.cells cs t f) ∧ t ∈ T := by
  intro k hk
  obtain ⟨c, hc⟩ := h.type k hk
  exact ⟨(h.lt k hk).1, c, t, (0, 0), hc, ht⟩
/-- The layers' row has been changed: the step's block gets it. -/
theorem FX.setL {x : Nat} {s : Fx} {lv pv lv' : Value} {l' : List Ly} (h : FX w B x s lv pv) (hg : w.grownBy w' lv.ownBlock) (ho : Own LyE 103 w' B lv' l') :
    FX (X.putL w' x 3 [lv']) B x (s.setL (l')) lv' pv ∧ Did FT B w (X.putL w' x 3 [lv']) := by
  have hx : X.blk w' x = some (.cells (fxCells s lv pv) 113 (0, 0)) := (hg.block x (lt_of_blk h.blk) (own_blk h.ly h.blk (by decide))).trans h.blk
  have hd := (Did.refl FT B w).grown hg h.size (own_row h.ly (by decide))
  exact ⟨⟨h.le, by simp [hx, fxCells], ho.putL hx (by decide), (h.pa.grown hg (own_ne h.pa h.ly (by decide))).putL hx (by decide)⟩, hd.putL hx (by decide) h.le⟩
theorem FX.setP {x : Nat} {s : Fx} {lv pv pv' : Value} {l' : List Pa} (h : FX w B x s lv pv) (hg : w.grownBy w' pv.ownBlock) (ho : Own PaE 105 w' B pv' l') :
    FX (X.putL w' x 4 [pv']) B x (s.setP (l')) lv pv' ∧ Did FT B w (X.putL w' x 4 [pv']) := by
  have hx : X.blk w' x = some (.cells (fxCells s lv pv) 113 (0, 0)) := (hg.block x (lt_of_blk h.blk) (own_blk h.pa h.blk (by decide))).trans h.blk
  have hd := (Did.refl FT B w).grown hg h.size (own_row h.pa (by decide))
  exact ⟨⟨h.le, by simp [hx, fxCells], (h.ly.grown hg (own_ne h.ly h.pa (by decide))).putL hx (by decide), ho.putL hx (by decide)⟩, hd.putL hx (by decide) h.le⟩
theorem FX.alloc {x : Nat} {s : Fx} {lv pv : Value} (h : FX w B x s lv pv) (o : Obj) : FX (w.alloc o) B x s lv pv :=
  ⟨h.le, by rw [blk_alloc, if_neg (Nat.ne_of_lt (lt_of_blk h.blk))]; exact h.blk, h.ly.alloc _, h.pa.alloc _⟩
set_option maxRecDepth 20000 in
theorem app_ly {K : Value → World → Prop} {v x : Value} {l m : List Ly} (hs : Own LyE 103 w B v l) (hx : Rd LyE w x m) (hB : B ≤ w.heap.size) (hn : l.length + m.length ≤ 1000000)
    (hK : ∀ v' w', Own LyE 103 w' B v' (l ++ m) → w.grownBy w' v.ownBlock → K v' w') : l_append Tryz.prog #[25, 25] 25 v x w K :=
  append_ok (E := LyE) lySl hs hx hB (bytes_ly hn) (small_max hn) (fun v' w' h1 h2 _ => hK v' w' h1 h2)
theorem bytes_pa {n : Nat} (h : n ≤ 1000000) : n * 64 ≤ 140737488355328 := by omega
set_option maxRecDepth 20000 in
theorem app_pa {K : Value → World → Prop} {v x : Value} {l m : List Pa} (hs : Own PaE 105 w B v l) (hx : Rd PaE w x m) (hB : B ≤ w.heap.size) (hn : l.length + m.length ≤ 1000000)
    (hK : ∀ v' w', Own PaE 105 w' B v' (l ++ m) → w.grownBy w' v.ownBlock → K v' w') : l_append Tryz.prog #[26, 26] 26 v x w K :=
  append_ok (E := PaE) paSl hs hx hB (bytes_pa hn) (small_max hn) (fun v' w' h1 h2 _ => hK v' w' h1 h2)
set_option maxRecDepth 20000 in
theorem Own.i64 {α : Type} {E : Enc α} {t : TypeId} {v : Value} {l : List α} (ho : Own E t w B v l) : (l.length : Int) ≤ 9223372036854775807 := by
  have h := ho.slice
  obtain ⟨_, _, _, hmx⟩ := h
  have hmx' : (maxLen : Int) ≤ 9223372036854775807 := by decide
  omega
theorem fifo_put {x : Nat} {s : Fx} {lv pv : Value} {a : Ly} (h : FX w B x s lv pv) (hn : s.t.layers.length < 1000000) {K : Value → World → Prop}
    (hK : ∀ w' lv', FX w' B x (s.setL (s.t.layers ++ [a])) lv' pv → Did FT B w w' → K (.tuple #[]) w') : Ret Tryz.prog 111 [ptr x, a.v] w K := by
  refine lift111 ?_
  unfold L111
  have hsz := h.size
  simp only [l_new, Ly.v, cells_agg]
  have hd1 := (Did.refl FT B w).alloc hsz (Obj.cells a.cs.toArray 103)
  have h1 : FX (w.alloc (Obj.cells a.cs.toArray 103)) B x s lv pv := h.alloc _
  have hk1 : blk (w.alloc (Obj.cells a.cs.toArray 103)) w.heap.size = some (.cells a.cs.toArray 103 (0, 0)) := by simp
  generalize w.alloc (Obj.cells a.cs.toArray 103) = w1 at *
  have hb1 := h1.blk
  unfold fxCells at hb1
  simp [ptr, hb1, hk1, Ly.cs]
  unfold l_lit
  rw [show fillC #[.int .i64 0, .string ⟨#[]⟩, .int .i64 0, .int .i64 0] [(0, 4, .agg #[.int .i64 a.seq, .string a.lot, .int .i64 a.qty, .int .i64 a.value])] = some (LyE.cells a).toArray from rfl, onSome_some]
  have h2 := h1.drew.alloc (.cells (LyE.cells a).toArray 103)
  have hd2 := (hd1.drew).alloc h1.drew.size (.cells (LyE.cells a).toArray 103)
  have hr2 := Rd.new (E := LyE) (t := 103) (a := a) w1.drew (by decide)
  generalize (w1.drew.alloc (Obj.cells (LyE.cells a).toArray 103)) = w2 at *
  have hb2 := h2.blk
  unfold fxCells at hb2
  dsimp only
  rw [show (cellO (blk w2 x) 3 = some lv) = True by simp [hb2], ob_true]
  refine app_ly h2.ly hr2 h2.size (by simp; omega) (fun v' w3 ho hg => ?_)
  obtain ⟨h4, hd4⟩ := h2.setL hg ho
  have hx3 : blk w3 x = some (.cells (fxCells s lv pv) 113 (0, 0)) := (hg.block x (lt_of_blk h2.blk) (own_blk h2.ly h2.blk (by decide))).trans h2.blk
  have hone : v'.cells = #[v'] ∧ v'.oneCell' = true := by
    obtain ⟨_, _, hv', _⟩ := ho.slice
    rw [hv']
    exact ⟨rfl, rfl⟩
  rw [l_store_to (by simp [hx3, fxCells, hone.1, hone.2]), hone.1]
  exact hK _ _ h4 (hd2.trans hd4)
theorem own_cells {α : Type} {E : Enc α} {t : TypeId} {v : Value} {l : List α} (ho : Own E t w B v l) : v.cells = #[v] ∧ v.oneCell' = true := by
  obtain ⟨_, _, hv', _⟩ := ho.slice
  rw [hv']
  exact ⟨rfl, rfl⟩
theorem fifo_remove {x : Nat} {s : Fx} {lv pv : Value} {i : Nat} (h : FX w B x s lv pv) (hn : s.t.layers.length ≤ 1000000) (hi : i < s.t.layers.length) {K : Value → World → Prop}
    (hK : ∀ w' lv', FX w' B x (s.setL (s.t.layers.eraseIdx i)) lv' pv → Did FT B w w' → K (.tuple #[]) w') : Ret Tryz.prog 165 [ptr x, .int .i64 (i : Int)] w K := by
  refine lift165 ?_
  unfold L165
  have hb := h.blk
  unfold fxCells at hb
  simp [ptr, hb]
  have hmx := h.ly.i64
  have e1 : IntKind.i64.wrap ((i : Int) + 1) = ((i + 1 : Nat) : Int) := by rw [wrap_i64 (by omega) (by omega)]; omega
  have hd := h.drew
  obtain ⟨v1, hq1, ho1, hb1⟩ := own_front3 (E := LyE) (k := .i64) (k' := .i64) lySl hd.ly (Nat.le_of_lt hi)
  obtain ⟨v2, hq2, hr2⟩ := rd_rest (E := LyE) (k := .i64) lySl (Rd.of_own hd.ly) (show i + 1 ≤ s.t.layers.length by omega)
  rw [e1, hq1, onSome_some, hq2, onSome_some]
  have hl1 : (s.t.layers.take i).length = i := by simp; omega
  have hl2 : (s.t.layers.drop (i + 1)).length = s.t.layers.length - (i + 1) := by simp
  have hsum : (s.t.layers.take i).length + (s.t.layers.drop (i + 1)).length ≤ 1000000 := by rw [hl1, hl2]; omega
  refine app_ly ho1 hr2 hd.size hsum (fun v' w3 ho hg => ?_)
  rw [hb1] at hg
  rw [← List.eraseIdx_eq_take_drop_succ] at ho
  obtain ⟨h4, hd4⟩ := hd.setL hg ho
  have hx3 : blk w3 x = some (.cells (fxCells s lv pv) 113 (0, 0)) := (hg.block x (lt_of_blk hd.blk) (own_blk hd.ly hd.blk (by decide))).trans hd.blk
  have hone := own_cells ho
  rw [l_store_to (by simp [hx3, fxCells, hone.1, hone.2]), hone.1]
  exact hK _ _ h4 (((Did.refl FT B w).drew).trans hd4)
/-- A quantity taken from a layer: what is left, and the value. -/
def takeV (l : List Ly) (i : Nat) (q : Int) : List Ly × Int :=
  match l[i]? with
  | none => (l, 0)
  | some a =>
    let v := partV a.value q a.qty
    let b : Ly := { a with qty := IntKind.i64.wrap (a.qty - q), value := IntKind.i64.wrap (a.value - v) }
    (if b.qty = 0 then l.eraseIdx i else l.set i b, v)
/-- A cell of a layer is written. -/
theorem FX.cellL {x : Nat} {s : Fx} {lv pv : Value} (h : FX w B x s lv pv) {g cap i j : Nat} (hv : lv = .slice (some ⟨g, 0, none⟩) s.t.layers.length cap) (hi : i < s.t.layers.length) (hj : j < 4) {u : Value} {a : Ly} (ha : a.cs = (s.t.layers[i].cs).set j u) :
    FX (X.putL w g (i * 4 + j) [u]) B x (s.setL (s.t.layers.set i a)) lv pv ∧ Did FT B w (X.putL w g (i * 4 + j) [u]) := by
  have hb : lv.ownBlock = some g := by rw [hv]; rfl
  have hg := h.ly.type g hb
  refine hg.elim fun cur hcur => ?_
  have hne : ¬ g = x := fun e => by
    rw [e] at hcur
    exact own_blk h.ly h.blk (by decide) (by rw [hb, e])
  have ho : Own LyE 103 (X.putL w g (i * 4 + j) [u]) B lv (s.t.layers.set i a) := h.ly.store (i := i) (j := j) hv hi hj ha
  exact ⟨⟨h.le, by rw [blk_putL, if_neg hne]; exact h.blk, ho, h.pa.putL hcur (by decide)⟩, (Did.refl FT B w).putL hcur (by decide) (h.ly.lt g hb).1⟩
theorem FX.cellP {x : Nat} {s : Fx} {lv pv : Value} (h : FX w B x s lv pv) {g cap i j : Nat} (hv : pv = .slice (some ⟨g, 0, none⟩) s.t.past.length cap) (hi : i < s.t.past.length) (hj : j < 7) {u : Value} {a : Pa} (ha : a.cs = (s.t.past[i].cs).set j u) :
    FX (X.putL w g (i * 7 + j) [u]) B x (s.setP (s.t.past.set i a)) lv pv ∧ Did FT B w (X.putL w g (i * 7 + j) [u]) := by
  have hb : pv.ownBlock = some g := by rw [hv]; rfl
  have hg := h.pa.type g hb
  refine hg.elim fun cur hcur => ?_
  have hne : ¬ g = x := fun e => by
    rw [e] at hcur
    exact own_blk h.pa h.blk (by decide) (by rw [hb, e])
  have ho : Own PaE 105 (X.putL w g (i * 7 + j) [u]) B pv (s.t.past.set i a) := h.pa.store (i := i) (j := j) hv hi hj ha
  exact ⟨⟨h.le, by rw [blk_putL, if_neg hne]; exact h.blk, h.ly.putL hcur (by decide), ho⟩, (Did.refl FT B w).putL hcur (by decide) (h.pa.lt g hb).1⟩
theorem fifo_take {x : Nat} {s : Fx} {lv pv : Value} {i : Nat} {q : Int} (h : FX w B x s lv pv) (hn : s.t.layers.length ≤ 1000000) (hok : ∀ a ∈ s.t.layers, a.Ok) (hq : I64 q) (hi : i < s.t.layers.length) {K : Value → World → Prop}
    (hK : ∀ w' lv', FX w' B x (s.setL ((takeV s.t.layers i q).1)) lv' pv → Did FT B w w' → K (.int .i64 (takeV s.t.layers i q).2) w') : Ret Tryz.prog 112 [ptr x, .int .i64 (i : Int), .int .i64 q] w K := by
  refine lift112 ?_
  unfold L112
  have hb := h.blk
  unfold fxCells at hb
  obtain ⟨g, cap, hv, hBg, ⟨cur, hcur, _⟩, hat⟩ := h.ly.lyAt hi
  have hi' : (i : Int) < (s.t.layers.length : Int) := by omega
  have ha := hok _ (List.getElem_mem hi)
  simp [ptr, hb, hv, hi', hat.c3, hat.c2]
  refine fifo_part ha.value hq ha.qty _ (fun w1 hb1 => ?_)
  have h1 := h.drew.called hb1
  have hd1 := ((Did.refl FT B w).drew).called hb1 h.size
  obtain ⟨g1, cap1, hv1, hBg1, ⟨cur1, hcur1, hsz1⟩, hat1⟩ := h1.ly.lyAt hi
  rw [hv] at hv1
  injection hv1 with hv1 _ hcp
  injection hv1 with hv1
  injection hv1 with hv1
  subst hv1
  subst hcp
  have hsz2 : i * 4 + 4 ≤ cur1.size := by omega
  have ec : ∃ c2 c3 : Value, cur1[i * 4 + 2]? = some c2 ∧ cur1[i * 4 + 3]? = some c3 := ⟨_, _, Array.getElem?_eq_getElem (by omega), Array.getElem?_eq_getElem (by omega)⟩
  have hc2 : cur1[i * 4 + 2]? = some (.int .i64 s.t.layers[i].qty) := by have := hat1.c2; rwa [hcur1, cellO_cells] at this
  have hc3 : cur1[i * 4 + 3]? = some (.int .i64 s.t.layers[i].value) := by have := hat1.c3; rwa [hcur1, cellO_cells] at this
  have hS := h1.cellL (j := 2) (u := .int .i64 (IntKind.i64.wrap (s.t.layers[i].qty - q))) (a := { s.t.layers[i] with qty := IntKind.i64.wrap (s.t.layers[i].qty - q) }) hv hi (by decide) rfl
  have h2 := hS.1
  have hd2 := hd1.trans hS.2
  have hi2 : i < (s.t.layers.set i { s.t.layers[i] with qty := IntKind.i64.wrap (s.t.layers[i].qty - q) }).length := by rw [List.length_set]; exact hi
  have hS3 := h2.cellL (i := i) (j := 3) (u := .int .i64 (IntKind.i64.wrap (s.t.layers[i].value - partV s.t.layers[i].value q s.t.layers[i].qty)))
    (a := { s.t.layers[i] with qty := IntKind.i64.wrap (s.t.layers[i].qty - q), value := IntKind.i64.wrap (s.t.layers[i].value - partV s.t.layers[i].value q s.t.layers[i].qty) })
    (by simp only [Fx.setL_l, List.length_set]; exact hv) hi2 (by decide) (by simp [Ly.cs])
  have h3 := hS3.1
  have hd3 := hd2.trans hS3.2
  simp only [Fx.setL_l, Fx.setL_L, List.set_set] at h3
  have ht : takeV s.t.layers i q = (if IntKind.i64.wrap (s.t.layers[i].qty - q) = 0 then s.t.layers.eraseIdx i else s.t.layers.set i { s.t.layers[i] with qty := IntKind.i64.wrap (s.t.layers[i].qty - q), value := IntKind.i64.wrap (s.t.layers[i].value - partV s.t.layers[i].value q s.t.layers[i].qty) }, partV s.t.layers[i].value q s.t.layers[i].qty) := by
    unfold takeV
    simp only [List.getElem?_eq_getElem hi]
  rw [ht] at hK
  simp [hc2, hc3, hcur1, show i * 4 + 2 + 1 ≤ cur1.size by omega, show i * 4 + 3 + 1 ≤ cur1.size by omega]
  rw [show (cur1.setIfInBounds (i * 4 + 2) (Value.int IntKind.i64 (IntKind.i64.wrap (s.t.layers[i].qty - q))))[i * 4 + 2]? = some (.int .i64 (IntKind.i64.wrap (s.t.layers[i].qty - q))) by
    rw [Array.getElem?_setIfInBounds_self_of_lt (by omega)], onSome_some]
  simp only [q_eql, onSome_some]
  refine xif_dec (fun h0 => ?_) (fun h0 => ?_)
  · rw [if_pos h0] at hK
    refine fifo_remove (x := x) (i := i) h3 (by simpa using hn) (by simpa using hi) (fun w4 lv' h4 hd4 => ?_)
    refine hK w4 lv' ?_ (hd3.trans hd4)
    have e : (s.t.layers.set i { s.t.layers[i] with qty := IntKind.i64.wrap (s.t.layers[i].qty - q), value := IntKind.i64.wrap (s.t.layers[i].value - partV s.t.layers[i].value q s.t.layers[i].qty) }).eraseIdx i = s.t.layers.eraseIdx i := by
      rw [List.eraseIdx_eq_take_drop_succ, List.eraseIdx_eq_take_drop_succ, List.take_set_of_le (Nat.le_refl _), List.drop_set_of_lt (by omega)]
    simp only [Fx.setL_l, Fx.setL_L, e] at h4
    exact h4
  · rw [if_neg h0] at hK
    exact hK _ _ h3 hd3
end Go.X
end
section
set_option linter.unusedVariables false
set_option linter.unusedSimpArgs false
namespace Go.X
open Go.Proofs Go.RowKit
attribute [local irreducible] l_append l_copy l_make l_run q_slice q_eq q_index
variable {w w' : World} {B : Nat}
def farV (n : Int) : Bool := decide (n < -1000000000000000 ∨ 1000000000000000 < n)
theorem farV_near (n : Int) : (!decide (nearV n (-1000000000000000) 1000000000000000 = n)) = farV n := by
  unfold farV nearV
  by_cases h1 : n < -1000000000000000
  · have : ¬ (-1000000000000000 = n) := by omega
    simp [h1, this]
  · by_cases h2 : 1000000000000000 < n
    · have : ¬ (1000000000000000 = n) := by omega
      simp [h1, h2, this]
    · simp [h1, h2]
theorem fifo_far {n : Int} {w : World} : Calc 117 [.int .i64 n] w (.bool (farV n)) := by
  intro K hK
  refine lift117 ?_
  unfold L117
  refine near_ok _ (fun w1 hb1 => ?_)
  simp only [q_neq, onSome_some]
  rw [farV_near]
  exact hK _ hb1
def overV (s : Fx) : Bool := s.t.layers.any (fun a => farV a.value) || decide (1000000000 < s.t.qty) || farV s.t.value || farV s.c.var
def OverI (l : List Ly) (w : World) (v : Value) (W : World) : Prop := Did FT w.heap.size w W ∧ ∃ i : Nat, v = .int .i64 i ∧ i ≤ l.length ∧ ∀ j (hj : j < l.length), j < i → farV l[j].value = false
theorem fifo_over {x : Nat} {s : Fx} {lv pv : Value} (h : FX w B x s lv pv) : Calc 69 [ptr x] w (.bool (overV s)) := by
  intro K hK
  refine lift69 ?_
  unfold L69
  have hb := h.blk
  unfold fxCells at hb
  simp [ptr, hb, h.ly.len]
  refine looping_i (OverI s.t.layers w) (lenM s.t.layers.length) ⟨⟨Did.refl _ _ _, 0, rfl, by omega, by omega⟩, ?_⟩
  rintro v W ⟨hd, i, rfl, hi, hno⟩
  have hmx := h.ly.i64
  have hW : FX W B x s lv pv := h.called hd.below
  have hbW := hW.blk
  unfold fxCells at hbW
  simp
  refine xif_dec (fun hlt => ?_) (fun hlt => ?_)
  · have hlt' : (i : Int) < (s.t.layers.length : Int) := by omega
    have e1 : IntKind.i64.wrap ((i : Int) + 1) = ((i + 1 : Nat) : Int) := by rw [wrap_i64 (by omega) (by omega)]; omega
    obtain ⟨ad, hq, hload⟩ := lyElem (Rd.of_own hW.ly) hlt
    rw [hq, onSome_some, hload]
    simp [l_new]
    have hd2 := (hd.alloc hd.below.size (Obj.cells #[Value.int IntKind.i64 0, Value.string { data := #[] }, Value.int IntKind.i64 0, Value.int IntKind.i64 0] 103)).putL (g := W.heap.size) (o := 0) (vs := [.int .i64 s.t.layers[i].seq, .string s.t.layers[i].lot, .int .i64 s.t.layers[i].qty, .int .i64 s.t.layers[i].value]) (by rw [blk_alloc, if_pos rfl]) (by decide) hd.below.size
    refine fifo_far _ (fun w1 hb1 => ?_)
    have hd3 := hd2.called hb1 hd2.below.size
    refine xif_bool (fun h1 => ?_) (fun h1 => ?_)
    · have e : overV s = true := by
        have : s.t.layers.any (fun a => farV a.value) = true := List.any_eq_true.mpr ⟨_, List.getElem_mem hlt, h1⟩
        simp [overV, this]
      rw [e] at hK
      exact hK _ hd3.below
    · rw [e1]
      refine ⟨⟨hd3, i + 1, rfl, by omega, fun j hj hji => ?_⟩, by simp only [lenM, intOf]; omega⟩
      rcases Nat.lt_or_ge j i with h2 | h2
      · exact hno j hj h2
      · have : j = i := by omega
        subst this
        exact h1
  · have hany : s.t.layers.any (fun a => farV a.value) = false := by
      rw [List.any_eq_false]
      intro a ha
      obtain ⟨j, hj, rfl⟩ := List.getElem_of_mem ha
      rw [hno j hj (by omega)]
      exact Bool.false_ne_true
    have ho : overV s = (decide (1000000000 < s.t.qty) || farV s.t.value || farV s.c.var) := by simp [overV, hany]
    rw [ho] at hK
    simp [hbW]
    by_cases h1 : 1000000000 < s.t.qty
    · simp [h1] at hK ⊢
      exact hK _ hd.below
    · simp [h1, hbW] at hK ⊢
      refine fifo_far _ (fun w1 hb1 => ?_)
      have hd3 := hd.called hb1 hd.below.size
      have hW1 := hW.called hb1
      have hbW1 := hW1.blk
      unfold fxCells at hbW1
      cases h2 : farV s.t.value with
      | true =>
        simp [h2] at hK ⊢
        exact hK _ hd3.below
      | false =>
        simp [h2, hbW1] at hK ⊢
        refine fifo_far _ (fun w2 hb2 => ?_)
        exact hK _ (hd3.called hb2 hd3.below.size).below
/-- The cost's and the stock's cells of the step's block are written. -/
theorem FX.put {x : Nat} {s s' : Fx} {lv pv : Value} (h : FX w B x s lv pv) {o : Nat} {vs : List Value} (hc : spl (fxCells s lv pv) o vs = fxCells s' lv pv) (hl : s'.t.layers = s.t.layers) (hp : s'.t.past = s.t.past) :
    FX (X.putL w x o vs) B x s' lv pv ∧ Did FT B w (X.putL w x o vs) := by
  refine ⟨⟨h.le, by simp [h.blk, hc], ?_, ?_⟩, (Did.refl FT B w).putL h.blk (by decide) h.le⟩
  · rw [hl]; exact h.ly.putL h.blk (by decide)
  · rw [hp]; exact h.pa.putL h.blk (by decide)
theorem FX.putQ {x : Nat} {s : Fx} {lv pv : Value} (h : FX w B x s lv pv) (n : Int) : FX (X.putL w x 14 [.int .i64 n]) B x (s.setC ⟨s.c.seq, n, s.c.value, s.c.var⟩) lv pv ∧ Did FT B w (X.putL w x 14 [.int .i64 n]) := h.put rfl rfl rfl
theorem FX.putV {x : Nat} {s : Fx} {lv pv : Value} (h : FX w B x s lv pv) (n : Int) : FX (X.putL w x 15 [.int .i64 n]) B x (s.setC ⟨s.c.seq, s.c.qty, n, s.c.var⟩) lv pv ∧ Did FT B w (X.putL w x 15 [.int .i64 n]) := h.put rfl rfl rfl
theorem FX.putR {x : Nat} {s : Fx} {lv pv : Value} (h : FX w B x s lv pv) (n : Int) : FX (X.putL w x 16 [.int .i64 n]) B x (s.setC ⟨s.c.seq, s.c.qty, s.c.value, n⟩) lv pv ∧ Did FT B w (X.putL w x 16 [.int .i64 n]) := h.put rfl rfl rfl
def Pa.v (a : Pa) : Value := .agg a.cs.toArray
def receiveV (s : Fx) : Fx :=
  ((s.setL (s.t.layers ++ [{ seq := s.m.seq, lot := s.m.lot, qty := s.m.qty, value := s.m.cost }])).setP
    (s.t.past ++ [{ seq := s.m.seq, kind := s.m.kind, lot := s.m.lot, qty := s.m.qty, value := s.m.cost, used := 0, usedV := 0 }])).setC ⟨s.c.seq, s.m.qty, s.m.cost, s.c.var⟩
/-- A past movement is appended to the step's row: behind the literal. -/
theorem app_past {x : Nat} {s : Fx} {lv pv : Value} {a : Pa} (h : FX w B x s lv pv) (hn : s.t.past.length < 1000000) {K : Value → World → Prop}
    (hK : ∀ w' v', X.blk w' x = some (.cells (fxCells s lv pv) 113 (0, 0)) → v'.cells = #[v'] → v'.oneCell' = true →
      FX (X.putL w' x 4 [v']) B x (s.setP (s.t.past ++ [a])) lv v' → Did FT B w (X.putL w' x 4 [v']) → K v' w') :
    l_lit 105 1 #[.int .i64 0, .int .i64 0, .string ⟨#[]⟩, .int .i64 0, .int .i64 0, .int .i64 0, .int .i64 0] [(0, 7, .agg #[.int .i64 a.seq, .int .i64 a.kind, .string a.lot, .int .i64 a.qty, .int .i64 a.value, .int .i64 a.used, .int .i64 a.usedV])] w fun t W => ob (cellO (X.blk W x) 4 = some pv) (l_append Tryz.prog #[26, 26] 26 pv t W K) := by
  unfold l_lit
  rw [show fillC #[.int .i64 0, .int .i64 0, .string ⟨#[]⟩, .int .i64 0, .int .i64 0, .int .i64 0, .int .i64 0] [(0, 7, .agg #[.int .i64 a.seq, .int .i64 a.kind, .string a.lot, .int .i64 a.qty, .int .i64 a.value, .int .i64 a.used, .int .i64 a.usedV])] = some (PaE.cells a).toArray by simp [PaE, Pa.cs], onSome_some]
  have h2 := h.alloc (.cells (PaE.cells a).toArray 105)
  have hd2 := (Did.refl FT B w).alloc h.size (.cells (PaE.cells a).toArray 105)
  have hr2 := Rd.new (E := PaE) (t := 105) (a := a) w (by decide)
  generalize (w.alloc (Obj.cells (PaE.cells a).toArray 105)) = w2 at *
  have hb2 := h2.blk
  unfold fxCells at hb2
  dsimp only
  rw [show (cellO (X.blk w2 x) 4 = some pv) = True by simp [hb2], ob_true]
  refine app_pa h2.pa hr2 h2.size (by simp; omega) (fun v' w3 ho hg => ?_)
  have h4 := h2.setP hg ho
  have hx3 : X.blk w3 x = some (.cells (fxCells s lv pv) 113 (0, 0)) := (hg.block x (lt_of_blk h2.blk) (own_blk h2.pa h2.blk (by decide))).trans h2.blk
  have hone := own_cells ho
  exact hK _ _ hx3 hone.1 hone.2 h4.1 (hd2.trans h4.2)
theorem Did.putNew {T : List TypeId} {a : World} (h : Did T B a w) {g o : Nat} {vs : List Value} (hg : a.heap.size ≤ g) (hB : B ≤ g) : Did T B a (X.putL w g o vs) :=
  ⟨below_putL h.below hB _ _, Nat.le_trans h.keeps.1 (by simp), fun b c t f hb ht => by
    rw [blk_putL, if_neg (by have := lt_of_blk hb; omega)]
    exact h.keeps.2 _ _ _ _ hb ht⟩
theorem FX.other {x : Nat} {s : Fx} {lv pv : Value} (h : FX w B x s lv pv) {g o : Nat} {vs : List Value} {cs : Array Value} {t : TypeId} {f : Nat × Nat} (hg : X.blk w g = some (.cells cs t f)) (ht : t ∉ FT) : FX (X.putL w g o vs) B x s lv pv := by
  have h1 : t ≠ 113 := fun e => ht (by rw [e]; decide)
  have h2 : t ≠ 103 := fun e => ht (by rw [e]; decide)
  have h3 : t ≠ 105 := fun e => ht (by rw [e]; decide)
  exact ⟨h.le, by rw [blk_putL, if_neg (ne_of_type hg h.blk h1)]; exact h.blk, h.ly.putL hg h2, h.pa.putL hg h3⟩
/-- The copy of the movement that an operation makes. -/
theorem FX.copyM {x : Nat} {s : Fx} {lv pv : Value} (h : FX w B x s lv pv) (m : Mv) : ∃ w1, X.putL (w.alloc (Obj.cells #[.int .i64 0, .int .i64 0, .string ⟨#[]⟩, .int .i64 0, .int .i64 0, .int .i64 0, .string ⟨#[]⟩, .int .i64 0] 47)) w.heap.size 0 [.int .i64 m.seq, .int .i64 m.value, .string m.item, .int .i64 m.kind, .int .i64 m.qty, .int .i64 m.cost, .string m.lot, .int .i64 m.ref] = w1 ∧
    FX w1 B x s lv pv ∧ Did FT B w w1 ∧ X.blk w1 w.heap.size = some (.cells m.cs 47 (0, 0)) := by
  refine ⟨_, rfl, ?_, ?_, ?_⟩
  · exact (h.alloc _).other (cs := #[.int .i64 0, .int .i64 0, .string ⟨#[]⟩, .int .i64 0, .int .i64 0, .int .i64 0, .string ⟨#[]⟩, .int .i64 0]) (t := 47) (f := (0, 0)) (by rw [blk_alloc, if_pos rfl]) (by decide)
  · exact ((Did.refl FT B w).alloc h.size _).putNew (Nat.le_refl _) h.size
  · simp [Mv.cs]
theorem fifo_receive {x : Nat} {s : Fx} {lv pv : Value} (h : FX w B x s lv pv) (hn : s.t.layers.length < 1000000) (hp : s.t.past.length < 1000000) {K : Value → World → Prop}
    (hK : ∀ w' lv' pv', FX w' B x (receiveV s) lv' pv' → Did FT B w w' → K (.int .i64 0) w') : Ret Tryz.prog 64 [ptr x] w K := by
  refine lift64 ?_
  unfold L64
  have hb := h.blk
  unfold fxCells at hb
  simp [ptr, hb, l_new]
  obtain ⟨w1, e1, h1, hd1, hm1⟩ := h.copyM s.m
  rw [e1]
  clear e1
  unfold Mv.cs at hm1
  rw [build_of (cs := #[.int .i64 s.m.seq, .string s.m.lot, .int .i64 s.m.qty, .int .i64 s.m.cost]) (by simp), onSome_some]
  refine fifo_put (x := x) (a := { seq := s.m.seq, lot := s.m.lot, qty := s.m.qty, value := s.m.cost }) h1 hn (fun w2 lv2 h2 hd2 => ?_)
  have hm2 := hd2.keeps.blk hm1 (by decide)
  have hb2 := h2.blk
  unfold fxCells at hb2
  simp [hb2, hm2]
  rw [build_of (cs := #[.int .i64 s.m.seq, .int .i64 s.m.kind, .string s.m.lot, .int .i64 s.m.qty, .int .i64 s.m.cost, .int .i64 0, .int .i64 0]) (by simp), onSome_some]
  refine app_past (a := { seq := s.m.seq, kind := s.m.kind, lot := s.m.lot, qty := s.m.qty, value := s.m.cost, used := 0, usedV := 0 }) h2.drew hp (fun w3 pv3 hx3 hc3 ho3 h3 hd3 => ?_)
  have hd03 := ((hd1.trans hd2).drew).trans hd3
  have hm3 := (hd3.keeps).blk (a := w2.drew) hm2 (by decide)
  rw [l_store_to (by simp [hx3, fxCells, hc3, ho3]), hc3]
  rw [show ([pv3] : List Value) = #[pv3].toList from rfl] at h3 hd3 hm3 hd03
  generalize X.putL w3 x 4 #[pv3].toList = w4 at *
  have hb4 := h3.blk
  unfold fxCells at hb4
  simp [hm3, hb4]
  have h5 := h3.drew.putQ s.m.qty
  have h6 := h5.1.putV s.m.cost
  exact hK _ _ _ h6.1 ((hd03.drew.trans h5.2).trans h6.2)
/-- The layers and the value when a quantity has been taken from the oldest layers. -/
def issueL : List Ly → Int → Int → List Ly × Int
  | [], _, v => ([], v)
  | a :: r, left, v =>
    if left ≤ 0 then (a :: r, v) else
    if a.qty < left then issueL r (IntKind.i64.wrap (left - a.qty)) (IntKind.i64.wrap (v + partV a.value a.qty a.qty))
    else (if IntKind.i64.wrap (a.qty - left) = 0 then r else { a with qty := IntKind.i64.wrap (a.qty - left), value := IntKind.i64.wrap (a.value - partV a.value left a.qty) } :: r, IntKind.i64.wrap (v + partV a.value left a.qty))
def issueV (s : Fx) : Fx :=
  let r := issueL s.t.layers s.m.qty 0
  ((s.setL r.1).setP (s.t.past ++ [{ seq := s.m.seq, kind := s.m.kind, lot := s.m.lot, qty := s.m.qty, value := r.2, used := 0, usedV := 0 }])).setC ⟨s.c.seq, IntKind.i64.wrap (0 - s.m.qty), IntKind.i64.wrap (0 - r.2), s.c.var⟩
def IssI (w0 : World) (B x : Nat) (s : Fx) (pv : Value) (mb : Nat) (R : List Ly × Int) (lv4 v5 : Value) (W : World) : Prop :=
  Did FT B w0 W ∧ ∃ (l : List Ly) (left v : Int) (lv : Value), lv4 = .int .i64 left ∧ v5 = .int .i64 v ∧ FX W B x (s.setL l) lv pv ∧ X.blk W mb = some (.cells s.m.cs 47 (0, 0)) ∧ I64 left ∧ I64 v ∧ l.length ≤ s.t.layers.length ∧ (∀ a ∈ l, a.Ok) ∧ issueL l left v = R
def sliceLen (W : World) (x o : Nat) : Nat := match cellO (X.blk W x) o with | some (.slice _ n _) => n | _ => 0
def issM (x : Nat) (lv4 v5 : Value) (W : World) : Nat := sliceLen W x 3 + (if 0 < intOf lv4 then 1 else 0)
theorem FX.lenL {x : Nat} {s : Fx} {lv pv : Value} (h : FX w B x s lv pv) : sliceLen w x 3 = s.t.layers.length := by
  unfold sliceLen
  rw [h.blk]
  obtain ⟨_, _, hv, _⟩ := h.ly.slice
  simp [fxCells, hv]
theorem takeV_zero (a : Ly) (r : List Ly) (q : Int) : takeV (a :: r) 0 q = (if IntKind.i64.wrap (a.qty - q) = 0 then r else { a with qty := IntKind.i64.wrap (a.qty - q), value := IntKind.i64.wrap (a.value - partV a.value q a.qty) } :: r, partV a.value q a.qty) := by
  unfold takeV
  simp
theorem fifo_issue {x : Nat} {s : Fx} {lv pv : Value} (h : FX w B x s lv pv) (hn : s.t.layers.length ≤ 1000000) (hp : s.t.past.length < 1000000) (hok : ∀ a ∈ s.t.layers, a.Ok) (hm : s.m.Ok) {K : Value → World → Prop}
    (hK1 : s.t.qty < s.m.qty → ∀ w', Did FT B w w' → K (.int .i64 21) w')
    (hK2 : ¬ s.t.qty < s.m.qty → ∀ w' lv' pv', FX w' B x (issueV s) lv' pv' → Did FT B w w' → K (.int .i64 0) w') : Ret Tryz.prog 65 [ptr x] w K := by
  refine lift65 ?_
  unfold L65
  have hb := h.blk
  unfold fxCells at hb
  have hx1 : ¬ x = w.heap.size := Nat.ne_of_lt (lt_of_blk h.blk)
  have hx2 : ¬ w.heap.size = x := fun e => hx1 e.symm
  simp [ptr, hb, l_new, hx1, hx2]
  obtain ⟨w1, e1, h1, hd1, hm1⟩ := h.copyM s.m
  rw [e1]
  clear e1
  have hm1' := hm1
  unfold Mv.cs at hm1'
  have hb1 := h1.blk
  unfold fxCells at hb1
  refine xif_dec (fun hq => ?_) (fun hq => ?_)
  · exact hK1 hq _ hd1.drew
  · obtain ⟨R, hRR⟩ : ∃ R, issueL s.t.layers s.m.qty 0 = R := ⟨_, rfl⟩
    refine looping_i (IssI w B x s pv w.heap.size R) (issM x) ⟨⟨hd1.drew, s.t.layers, s.m.qty, 0, lv, rfl, rfl, h1.drew, hm1, hm.qty, by decide, Nat.le_refl _, hok, hRR⟩, ?_⟩
    rintro lv4 v5 W ⟨hd, l, left, v, lv', rfl, rfl, hX, hmb, hleft, hv, hlen, hlok, hR⟩
    have hbW := hX.blk
    unfold fxCells at hbW
    simp only [Fx.setL_q, Fx.setL_v, Fx.setL_r, Fx.setL_m, Fx.setL_c] at hbW
    have hlenv := hX.ly.len
    simp [hbW, hlenv, -q_pick_bool]
    have hcond : ∀ (G : Value → Prop), G (.bool (decide (0 < left ∧ 0 < l.length))) → (onSome (gateQ true (Value.bool (decide (0 < left))) (some (Value.pointer (some { block := x, off := 0 })))) fun t24 =>
    onSome (gateQ true (Value.bool (decide (0 < left))) (q_nil t24)) fun t25 =>
      onSome (gateQ true (Value.bool (decide (0 < left))) (q_faddr 0 t25)) fun t26 =>
        onSome (gateQ true (Value.bool (decide (0 < left))) (q_faddr 3 t26)) fun t27 =>
          onSome (gateQ true (Value.bool (decide (0 < left))) (q_load1 t27 W)) fun t28 =>
            onSome (gateQ true (Value.bool (decide (0 < left))) (q_len t28)) fun t29 =>
              onSome (gateQ true (Value.bool (decide (0 < left))) (q_bin BinOp.gtr t29 (Value.int IntKind.i64 0)))
                fun t30 => onSome (q_pick (Value.bool (decide (0 < left))) t30 (Value.bool false)) fun t31 => G t31) := by
      intro G hG
      by_cases h1 : 0 < left
      · simp [h1, hbW, hlenv] at hG ⊢
        exact hG
      · simp [h1] at hG ⊢
        exact hG
    refine hcond (fun v => _) ?_
    clear hcond
    refine xif_dec (fun hc => ?_) (fun hc => ?_)
    · obtain ⟨hc1, hc2⟩ := hc
      cases l with
      | nil => simp at hc2
      | cons a r =>
        obtain ⟨g, cap, hv', hBg, _, hat⟩ := hX.ly.lyAt (i := 0) (by simp)
        have hat2 := hat.c2
        simp only [Fx.setL_l, List.getElem_cons_zero, Nat.zero_mul, Nat.zero_add] at hat2
        have ha := hlok a (List.mem_cons_self ..)
        simp [hv', hat2]
        have hleft1 : ¬ left ≤ 0 := by omega
        have hI := hR
        unfold issueL at hI
        rw [if_neg hleft1] at hI
        have hrl : r.length + 1 ≤ s.t.layers.length := by simpa using hlen
        have hrok : ∀ b ∈ r, b.Ok := fun b hb => hlok b (List.mem_cons_of_mem _ hb)
        have hm0 : issM x (.int .i64 left) (.int .i64 v) W = r.length + 1 + 1 := by
          unfold issM
          rw [hX.lenL]
          simp [intOf, hc1]
        rw [hm0]
        by_cases hqa : a.qty < left
        · rw [if_pos hqa] at hI
          simp only [hqa, if_true]
          refine fifo_take (x := x) (i := 0) hX (by simp; omega) hlok ha.qty (by simp) (fun w4 lv4 h4 hd4 => ?_)
          rw [Fx.setL_l, takeV_zero] at h4 ⊢
          have hz : IntKind.i64.wrap (a.qty - a.qty) = 0 := by rw [Int.sub_self]; decide
          rw [if_pos hz] at h4
          simp
          refine ⟨⟨hd.trans hd4, r, _, _, lv4, rfl, rfl, h4, hd4.keeps.blk hmb (by decide), I64.wrap _, I64.wrap _, by omega, hrok, hI⟩, ?_⟩
          unfold issM
          rw [h4.lenL]
          simp
          split <;> omega
        · rw [if_neg hqa] at hI
          simp only [hqa, if_false]
          refine fifo_take (x := x) (i := 0) hX (by simp; omega) hlok hleft (by simp) (fun w4 lv4 h4 hd4 => ?_)
          rw [Fx.setL_l, takeV_zero] at h4 ⊢
          have hz : IntKind.i64.wrap (left - left) = 0 := by rw [Int.sub_self]; decide
          rw [hz]
          simp
          have hlen4 := h4.lenL
          refine ⟨⟨hd.trans hd4, _, 0, _, lv4, rfl, rfl, h4, hd4.keeps.blk hmb (by decide), by decide, I64.wrap _, ?_, ?_, ?_⟩, ?_⟩
          · split
            · exact Nat.le_of_succ_le hrl
            · exact hrl
          · intro b hb
            split at hb
            · exact hrok b hb
            · rcases List.mem_cons.mp hb with rfl | hb
              · exact ⟨ha.seq, I64.wrap _, I64.wrap _⟩
              · exact hrok b hb
          · rw [← hI]
            split <;> simp [issueL]
            cases r <;> simp [issueL]
          · unfold issM
            rw [h4.lenL]
            simp
            split <;> simp [intOf] <;> omega
    · have hfin : R = (l, v) := by
        rw [← hR]
        cases l with
        | nil => rfl
        | cons a r =>
          have : left ≤ 0 := by simp at hc; omega
          simp [issueL, this]
      have hIV : issueV s = ((s.setL l).setP (s.t.past ++ [{ seq := s.m.seq, kind := s.m.kind, lot := s.m.lot, qty := s.m.qty, value := v, used := 0, usedV := 0 }])).setC ⟨s.c.seq, IntKind.i64.wrap (0 - s.m.qty), IntKind.i64.wrap (0 - v), s.c.var⟩ := by
        unfold issueV
        rw [hRR, hfin]
      have hmb' := hmb
      unfold Mv.cs at hmb'
      simp [hmb']
      rw [build_of (cs := #[.int .i64 s.m.seq, .int .i64 s.m.kind, .string s.m.lot, .int .i64 s.m.qty, .int .i64 v, .int .i64 0, .int .i64 0]) (by simp), onSome_some]
      refine app_past (a := { seq := s.m.seq, kind := s.m.kind, lot := s.m.lot, qty := s.m.qty, value := v, used := 0, usedV := 0 }) hX.drew hp (fun w3 pv3 hx3 hc3 ho3 h3 hd3 => ?_)
      have hd03 := (hd.drew).trans hd3
      have hm3 := (hd3.keeps).blk (a := W.drew) hmb' (by decide)
      rw [l_store_to (by simp [hx3, fxCells, hc3, ho3]), hc3]
      rw [show ([pv3] : List Value) = #[pv3].toList from rfl] at h3 hd3 hm3 hd03
      generalize X.putL w3 x 4 #[pv3].toList = w4 at *
      have hb4 := h3.blk
      unfold fxCells at hb4
      simp [hm3, hb4]
      have h5 := h3.putQ (IntKind.i64.wrap (0 - s.m.qty))
      have h6 := h5.1.putV (IntKind.i64.wrap (0 - v))
      have hk := hK2 hq _ lv' pv3 (by rw [hIV]; exact h6.1) ((hd03.trans h5.2).trans h6.2)
      simpa using hk
end Go.X
end
section
set_option linter.unusedVariables false
set_option linter.unusedSimpArgs false
namespace Go.X
open Go.Proofs Go.RowKit
attribute [local irreducible] l_append l_copy l_make l_run q_slice q_eq q_index
variable {w w' : World} {B : Nat}
theorem refV_lt {k : Int} {s : Fx} {i : Nat} (h : (refV k s).1 = some i) : ∃ hi : i < s.t.past.length, (refV k s).2 = 0 ∧ ¬ IntKind.i64.wrap (s.t.past[i].qty - s.t.past[i].used) < s.m.qty := by
  unfold refV at h ⊢
  cases hf : findP k s.m.ref s.t.past with
  | none => simp only [hf] at h; cases h
  | some j =>
    obtain ⟨hj, _⟩ := idxF_lt hf
    simp only [hf, List.getElem?_eq_getElem hj] at h ⊢
    split at h
    · cases h
    · rename_i hn
      cases h
      rw [if_neg hn]
      exact ⟨hj, rfl, hn⟩
theorem refV_none {k : Int} {s : Fx} (h : (refV k s).1 = none) : (refV k s).2 ≠ 0 := by
  unfold refV at h ⊢
  cases hf : findP k s.m.ref s.t.past with
  | none => simp
  | some j =>
    obtain ⟨hj, _⟩ := idxF_lt hf
    simp only [hf, List.getElem?_eq_getElem hj] at h ⊢
    split at h
    · rename_i hn
      rw [if_pos hn]
      decide
    · cases h
def backV (s : Fx) : Fx × Int :=
  match (refV 2 s).1 with
  | none => (s, (refV 2 s).2)
  | some i => match s.t.past[i]? with
    | none => (s, 28)
    | some p =>
      let v := partV (IntKind.i64.wrap (p.value - p.usedV)) s.m.qty (IntKind.i64.wrap (p.qty - p.used))
      (((s.setP (s.t.past.set i ⟨p.seq, p.kind, p.lot, p.qty, p.value, IntKind.i64.wrap (p.used + s.m.qty), IntKind.i64.wrap (p.usedV + v)⟩)).setL (s.t.layers ++ [⟨s.m.seq, p.lot, s.m.qty, v⟩])).setC ⟨s.c.seq, s.m.qty, v, s.c.var⟩, 0)
theorem fifo_back {x : Nat} {s : Fx} {lv pv : Value} (h : FX w B x s lv pv) (hn : s.t.layers.length < 1000000) (hpk : ∀ a ∈ s.t.past, a.Ok) (hm : s.m.Ok) {K : Value → World → Prop}
    (hK : ∀ w' lv' pv', FX w' B x (backV s).1 lv' pv' → Did FT B w w' → K (.int .i64 (backV s).2) w') : Ret Tryz.prog 66 [ptr x] w K := by
  refine lift66 ?_
  unfold L66
  refine fifo_ref (x := x) h (fun w1 h1 hd1 => ?_)
  simp
  cases hr : (refV 2 s).1 with
  | none =>
    have h2 := refV_none hr
    have e : backV s = (s, (refV 2 s).2) := by unfold backV; simp only [hr]
    rw [e] at hK
    simp [h2]
    exact hK _ _ _ h1 hd1
  | some i =>
    obtain ⟨hi, h2, h3⟩ := refV_lt hr
    obtain ⟨g, cap, hv, hBg, ⟨cur, hcur, hsz⟩, hat⟩ := h1.pa.paAt hi
    have hb1 := h1.blk
    unfold fxCells at hb1
    simp [ptr, h2, findR, elP, hv, hb1, hat.c4, hat.c6, hat.c3, hat.c5]
    have hpo := hpk _ (List.getElem_mem hi)
    refine fifo_part (I64.wrap _) hm.qty (I64.wrap _) _ (fun w2 hb2 => ?_)
    have h4 := h1.drew.called hb2
    have hd4 := (hd1.drew).called hb2 h1.size
    have hcur4 := (blk_below hb2 (lt_of_blk (w := w1.drew) hcur)).trans hcur
    have c5 : cur[i * 7 + 5]? = some (.int .i64 s.t.past[i].used) := by have := hat.c5; rwa [hcur, cellO_cells] at this
    have c6 : cur[i * 7 + 6]? = some (.int .i64 s.t.past[i].usedV) := by have := hat.c6; rwa [hcur, cellO_cells] at this
    have c2 : cur[i * 7 + 2]? = some (.string s.t.past[i].lot) := by have := hat.c2; rwa [hcur, cellO_cells] at this
    have hb4 := h4.blk
    unfold fxCells at hb4
    have hgx : ¬ g = x := fun e => by
      rw [e] at hcur4
      rw [hcur4] at hb4
      injection hb4 with hb4
      injection hb4 with _ hb4 _
      cases hb4
    have hsz' : i * 7 + 7 ≤ cur.size := by omega
    simp [hcur4, hb4, hgx, c5, c6, c2, show i * 7 + 5 + 1 ≤ cur.size by omega, show i * 7 + 6 + 1 ≤ cur.size by omega]
    obtain ⟨v, hvv⟩ : ∃ v, v = partV (IntKind.i64.wrap (s.t.past[i].value - s.t.past[i].usedV)) s.m.qty (IntKind.i64.wrap (s.t.past[i].qty - s.t.past[i].used)) := ⟨_, rfl⟩
    have e : backV s = (((s.setP (s.t.past.set i ⟨s.t.past[i].seq, s.t.past[i].kind, s.t.past[i].lot, s.t.past[i].qty, s.t.past[i].value, IntKind.i64.wrap (s.t.past[i].used + s.m.qty), IntKind.i64.wrap (s.t.past[i].usedV + v)⟩)).setL (s.t.layers ++ [⟨s.m.seq, s.t.past[i].lot, s.m.qty, v⟩])).setC ⟨s.c.seq, s.m.qty, v, s.c.var⟩, 0) := by
      rw [hvv]
      unfold backV
      simp only [hr, List.getElem?_eq_getElem hi]
    rw [← hvv]
    rw [e] at hK
    clear e hvv
    have h5 := h4.drew.cellP (j := 5) (u := .int .i64 (IntKind.i64.wrap (s.t.past[i].used + s.m.qty))) (a := ⟨s.t.past[i].seq, s.t.past[i].kind, s.t.past[i].lot, s.t.past[i].qty, s.t.past[i].value, IntKind.i64.wrap (s.t.past[i].used + s.m.qty), s.t.past[i].usedV⟩) hv hi (by decide) rfl
    have h6 := h5.1.cellP (i := i) (j := 6) (u := .int .i64 (IntKind.i64.wrap (s.t.past[i].usedV + v))) (a := ⟨s.t.past[i].seq, s.t.past[i].kind, s.t.past[i].lot, s.t.past[i].qty, s.t.past[i].value, IntKind.i64.wrap (s.t.past[i].used + s.m.qty), IntKind.i64.wrap (s.t.past[i].usedV + v)⟩)
      (by simp only [Fx.setP_p, List.length_set]; exact hv) (by simp only [Fx.setP_p, List.length_set]; exact hi) (by decide) (by simp [Pa.cs])
    have h6' := h6.1
    simp only [Fx.setP_p, Fx.setP_P, List.set_set] at h6'
    have hd6 := ((hd4.drew.trans h5.2).trans h6.2).drew
    rw [build_of (cs := #[.int .i64 s.m.seq, .string s.t.past[i].lot, .int .i64 s.m.qty, .int .i64 v]) (by simp), onSome_some]
    refine fifo_put (x := x) (a := ⟨s.m.seq, s.t.past[i].lot, s.m.qty, v⟩) h6'.drew (by simpa using hn) (fun w5 lv5 h7 hd7 => ?_)
    have hb7 := h7.blk
    unfold fxCells at hb7
    simp [hb7]
    have h8 := h7.putQ s.m.qty
    have h9 := h8.1.putV v
    exact hK _ _ _ h9.1 (((hd6.trans hd7).trans h8.2).trans h9.2)
def sendV (s : Fx) : Fx × Int :=
  match (refV 1 s).1 with
  | none => (s, (refV 1 s).2)
  | some i => match s.t.past[i]? with
    | none => (s, 28)
    | some p =>
      match idxF (fun a : Ly => decide (a.seq = s.m.ref)) s.t.layers with
      | none => (s, 21)
      | some j => match s.t.layers[j]? with
        | none => (s, 21)
        | some a =>
          if a.qty < s.m.qty then (s, 21) else
          let r := takeV s.t.layers j s.m.qty
          (((s.setP (s.t.past.set i ⟨p.seq, p.kind, p.lot, p.qty, p.value, IntKind.i64.wrap (p.used + s.m.qty), p.usedV⟩)).setL r.1).setC ⟨s.c.seq, IntKind.i64.wrap (0 - s.m.qty), IntKind.i64.wrap (0 - r.2), IntKind.i64.wrap (r.2 - s.m.cost)⟩, 0)
theorem fifo_send {x : Nat} {s : Fx} {lv pv : Value} (h : FX w B x s lv pv) (hn : s.t.layers.length ≤ 1000000) (hok : ∀ a ∈ s.t.layers, a.Ok) (hm : s.m.Ok) {K : Value → World → Prop}
    (hK : ∀ w' lv' pv', FX w' B x (sendV s).1 lv' pv' → Did FT B w w' → K (.int .i64 (sendV s).2) w') : Ret Tryz.prog 67 [ptr x] w K := by
  refine lift67 ?_
  unfold L67
  refine fifo_ref (x := x) h (fun w1 h1 hd1 => ?_)
  simp
  cases hr : (refV 1 s).1 with
  | none =>
    have h2 := refV_none hr
    have e : sendV s = (s, (refV 1 s).2) := by unfold sendV; simp only [hr]
    rw [e] at hK
    simp [h2]
    exact hK _ _ _ h1 hd1
  | some i =>
    obtain ⟨hi, h2, h3⟩ := refV_lt hr
    have hb1 := h1.blk
    unfold fxCells at hb1
    simp [ptr, h2, hb1]
    refine fifo_layer (x := x) h1 _ (fun w2 hb2 => ?_)
    have h4 := h1.called hb2
    have hd4 := hd1.called hb2 h1.size
    have hb4 := h4.blk
    unfold fxCells at hb4
    unfold layV
    cases hl : idxF (fun a : Ly => decide (a.seq = s.m.ref)) s.t.layers with
    | none =>
      have e : sendV s = (s, 21) := by unfold sendV; simp only [hr, List.getElem?_eq_getElem hi, hl]
      rw [e] at hK
      simp
      exact hK _ _ _ h4.drew hd4.drew
    | some j =>
      obtain ⟨hj, hjs⟩ := idxF_lt hl
      have hj0 : ¬ (j : Int) < 0 := by omega
      have hj1 : (j : Int) < (s.t.layers.length : Int) := by omega
      obtain ⟨g, cap, hv, hBg, _, hat⟩ := h4.ly.lyAt hj
      simp [hj0, hb4, hv, hj1, hat.c2]
      have h4d := h4.drew.drew
      have hd4d := hd4.drew.drew
      obtain ⟨gp, cp, hpv, hBp, ⟨cur, hcur, hsz⟩, hpt⟩ := h4d.pa.paAt hi
      have hS : sendV s = if s.t.layers[j].qty < s.m.qty then (s, 21) else
          (((s.setP (s.t.past.set i ⟨s.t.past[i].seq, s.t.past[i].kind, s.t.past[i].lot, s.t.past[i].qty, s.t.past[i].value, IntKind.i64.wrap (s.t.past[i].used + s.m.qty), s.t.past[i].usedV⟩)).setL (takeV s.t.layers j s.m.qty).1).setC ⟨s.c.seq, IntKind.i64.wrap (0 - s.m.qty), IntKind.i64.wrap (0 - (takeV s.t.layers j s.m.qty).2), IntKind.i64.wrap ((takeV s.t.layers j s.m.qty).2 - s.m.cost)⟩, 0) := by
        unfold sendV
        simp only [hr, List.getElem?_eq_getElem hi, hl, List.getElem?_eq_getElem hj]
      refine xif_dec (fun hq => ?_) (fun hq => ?_)
      · rw [hS, if_pos hq] at hK
        exact hK _ _ _ h4.drew hd4.drew
      · rw [hS, if_neg hq] at hK
        have c5 : cur[i * 7 + 5]? = some (.int .i64 s.t.past[i].used) := by have := hpt.c5; rwa [hcur, cellO_cells] at this
        have hcur' : X.blk w2 gp = some (.cells cur 105 (0, 0)) := hcur
        have hgx : ¬ gp = x := fun e => by
          rw [e] at hcur'
          rw [hcur'] at hb4
          injection hb4 with hb4
          injection hb4 with _ hb4 _
          cases hb4
        have h5 := h4d.cellP (j := 5) (u := .int .i64 (IntKind.i64.wrap (s.t.past[i].used + s.m.qty))) (a := ⟨s.t.past[i].seq, s.t.past[i].kind, s.t.past[i].lot, s.t.past[i].qty, s.t.past[i].value, IntKind.i64.wrap (s.t.past[i].used + s.m.qty), s.t.past[i].usedV⟩) hpv hi (by decide) rfl
        have hd5 := hd4d.trans h5.2
        simp [findR, elP, hpv, hcur', c5, hgx, hb4, show i * 7 + 5 + 1 ≤ cur.size by omega]
        refine fifo_take (x := x) (i := j) h5.1 (by simpa using hn) (by simpa using hok) hm.qty (by simpa using hj) (fun w6 lv6 h6 hd6 => ?_)
        have hb6 := h6.blk
        unfold fxCells at hb6
        simp [hb6]
        have h7 := h6.drew.putQ (IntKind.i64.wrap (0 - s.m.qty))
        have h8 := h7.1.putV (IntKind.i64.wrap (0 - (takeV s.t.layers j s.m.qty).2))
        have h9 := h8.1.putR (IntKind.i64.wrap ((takeV s.t.layers j s.m.qty).2 - s.m.cost))
        have hk := hK _ _ _ h9.1 (((((hd5.trans hd6).drew).trans h7.2).trans h8.2).trans h9.2)
        simpa using hk
end Go.X
end
section
set_option linter.unusedVariables false
set_option linter.unusedSimpArgs false
namespace Go.X
open Go.Proofs Go.RowKit
attribute [local irreducible] l_append l_copy l_make l_run q_slice q_eq q_index
variable {w w' : World} {B : Nat}
/-- The share of landed costs that the rest of a layer bears, and an error. -/
def landShare (cost q n : Int) : Int × Int := if q = n then (cost, 0) else ((mdV cost q n).1, if (mdV cost q n).2 = 0 then 0 else 4)
def landV (s : Fx) : Fx × Int :=
  match (refV 1 s).1 with
  | none => (s, (refV 1 s).2)
  | some i => match s.t.past[i]? with
    | none => (s, 28)
    | some p =>
      match idxF (fun a : Ly => decide (a.seq = s.m.ref)) s.t.layers with
      | none => (s.setC ⟨s.c.seq, s.c.qty, s.c.value, IntKind.i64.wrap (s.m.cost - s.c.value)⟩, 0)
      | some j => match s.t.layers[j]? with
        | none => (s, 21)
        | some a =>
          let r := landShare s.m.cost a.qty p.qty
          if r.2 ≠ 0 then (s, 4) else
          ((s.setL (s.t.layers.set j ⟨a.seq, a.lot, a.qty, IntKind.i64.wrap (a.value + r.1)⟩)).setC ⟨s.c.seq, s.c.qty, r.1, IntKind.i64.wrap (s.m.cost - r.1)⟩, 0)
theorem fifo_land {x : Nat} {s : Fx} {lv pv : Value} (h : FX w B x s lv pv) (hok : ∀ a ∈ s.t.layers, a.Ok) (hpk : ∀ a ∈ s.t.past, a.Ok) (hm : s.m.Ok) {K : Value → World → Prop}
    (hK : ∀ w' lv' pv', FX w' B x (landV s).1 lv' pv' → Did FT B w w' → K (.int .i64 (landV s).2) w') : Ret Tryz.prog 68 [ptr x] w K := by
  refine lift68 ?_
  unfold L68
  refine fifo_ref (x := x) h (fun w1 h1 hd1 => ?_)
  simp
  cases hr : (refV 1 s).1 with
  | none =>
    have h2 := refV_none hr
    have e : landV s = (s, (refV 1 s).2) := by unfold landV; simp only [hr]
    rw [e] at hK
    simp [h2]
    exact hK _ _ _ h1 hd1
  | some i =>
    obtain ⟨hi, h2, h3⟩ := refV_lt hr
    have hb1 := h1.blk
    unfold fxCells at hb1
    simp [ptr, h2, hb1]
    cases hl : idxF (fun a : Ly => decide (a.seq = s.m.ref)) s.t.layers with
    | none =>
      have e : landV s = (s.setC ⟨s.c.seq, s.c.qty, s.c.value, IntKind.i64.wrap (s.m.cost - s.c.value)⟩, 0) := by unfold landV; simp only [hr, List.getElem?_eq_getElem hi, hl]
      rw [e] at hK
      refine joining_i (fun W => FX W B x s lv pv ∧ Did FT B w W) ⟨?_, ?_⟩
      · refine fifo_layer (x := x) h1 _ (fun w2 hb2 => ?_)
        unfold layV
        rw [hl]
        simp
        exact ⟨h1.called hb2, hd1.called hb2 h1.size⟩
      · rintro W ⟨hW, hdW⟩
        have hbW := hW.blk
        unfold fxCells at hbW
        simp [hbW]
        have h5 := hW.drew.putR (IntKind.i64.wrap (s.m.cost - s.c.value))
        exact hK _ _ _ h5.1 (hdW.drew.trans h5.2)
    | some j =>
      obtain ⟨hj, hjs⟩ := idxF_lt hl
      have hj0 : (0 : Int) ≤ (j : Int) := by omega
      have hj1 : (j : Int) < (s.t.layers.length : Int) := by omega
      have ha := hok _ (List.getElem_mem hj)
      have hp := hpk _ (List.getElem_mem hi)
      obtain ⟨r, hrr⟩ : ∃ r, landShare s.m.cost s.t.layers[j].qty s.t.past[i].qty = r := ⟨_, rfl⟩
      have e : landV s = if r.2 ≠ 0 then (s, 4) else ((s.setL (s.t.layers.set j ⟨s.t.layers[j].seq, s.t.layers[j].lot, s.t.layers[j].qty, IntKind.i64.wrap (s.t.layers[j].value + r.1)⟩)).setC ⟨s.c.seq, s.c.qty, r.1, IntKind.i64.wrap (s.m.cost - r.1)⟩, 0) := by
        unfold landV
        simp only [hr, List.getElem?_eq_getElem hi, hl, List.getElem?_eq_getElem hj, hrr]
      rw [e] at hK
      refine joining_i (fun W => r.2 = 0 ∧ FX W B x ((s.setL (s.t.layers.set j ⟨s.t.layers[j].seq, s.t.layers[j].lot, s.t.layers[j].qty, IntKind.i64.wrap (s.t.layers[j].value + r.1)⟩)).setC ⟨s.c.seq, s.c.qty, r.1, s.c.var⟩) lv pv ∧ Did FT B w W) ⟨?_, ?_⟩
      · refine fifo_layer (x := x) h1 _ (fun w2 hb2 => ?_)
        unfold layV
        rw [hl]
        have h4 := h1.called hb2
        have hd4 := hd1.called hb2 h1.size
        have hb4 := h4.blk
        unfold fxCells at hb4
        obtain ⟨g, cap, hv, hBg, ⟨cur, hcur, hsz⟩, hat⟩ := h4.ly.lyAt hj
        obtain ⟨gp, cp, hpv, hBp, _, hpt⟩ := h4.pa.paAt hi
        simp [hb4, hv, hj1, hat.c2, findR, elP, hpv, hpt.c3]
        rw [← hv, ← hpv]
        refine joining_i (fun v W => v = .int .i64 r.1 ∧ r.2 = 0 ∧ FX W B x s lv pv ∧ Did FT B w W) ⟨?_, ?_⟩
        · refine xif_ndec (fun hq => ?_) (fun hq => ?_)
          · have er : r = ((mdV s.m.cost s.t.layers[j].qty s.t.past[i].qty).1, if (mdV s.m.cost s.t.layers[j].qty s.t.past[i].qty).2 = 0 then 0 else 4) := by rw [← hrr]; unfold landShare; rw [if_neg hq]
            refine md_ok hm.cost ha.qty hp.qty _ (fun w3 hb3 => ?_)
            have h5 := h4.drew.called hb3
            have hd5 := hd4.drew.called hb3 h4.size
            simp
            refine xif_ndec (fun h0 => ?_) (fun h0 => ?_)
            · have hr2 : r.2 ≠ 0 := by rw [er]; simp only [if_neg h0]; decide
              rw [if_pos hr2] at hK
              exact hK _ _ _ h5 hd5
            · have hr2 : r.2 = 0 := by rw [er]; simp only [if_pos h0]
              exact ⟨by rw [er], hr2, h5, hd5⟩
          · have er : r = (s.m.cost, 0) := by rw [← hrr]; unfold landShare; rw [if_pos hq]
            exact ⟨by rw [er], by rw [er], h4, hd4⟩
        · rintro v6 W4 ⟨rfl, hr0, h5, hd5⟩
          have hb5 := h5.blk
          unfold fxCells at hb5
          obtain ⟨g5, cap5, hv5, hBg5, ⟨cur5, hcur5, hsz5⟩, hat5⟩ := h5.ly.lyAt hj
          have hgx : ¬ x = g5 := fun e => by
            rw [← e, hb5] at hcur5
            injection hcur5 with hcur5
            injection hcur5 with _ hcur5 _
            cases hcur5
          have c3 : cur5[j * 4 + 3]? = some (.int .i64 s.t.layers[j].value) := by have := hat5.c3; rwa [hcur5, cellO_cells] at this
          have h6 := h5.putV r.1
          have hd6 := (hd5.trans h6.2).drew
          have h7 := h6.1.drew.cellL (i := j) (j := 3) (u := .int .i64 (IntKind.i64.wrap (s.t.layers[j].value + r.1))) (a := ⟨s.t.layers[j].seq, s.t.layers[j].lot, s.t.layers[j].qty, IntKind.i64.wrap (s.t.layers[j].value + r.1)⟩) hv5 hj (by decide) rfl
          have hd7 := hd6.trans h7.2
          simp [hb5, hv5, hj1, hcur5, hgx, c3, show j * 4 + 3 + 1 ≤ cur5.size by omega]
          rw [← hv5]
          exact ⟨hr0, h7.1, hd7⟩
      · rintro W ⟨hr0, hW, hdW⟩
        have hbW := hW.blk
        unfold fxCells at hbW
        simp [hbW]
        rw [if_neg (fun hh => hh hr0)] at hK
        have h5 := hW.drew.putR (IntKind.i64.wrap (s.m.cost - r.1))
        exact hK _ _ _ h5.1 (hdW.drew.trans h5.2)
end Go.X
end
section
set_option linter.unusedVariables false
set_option linter.unusedSimpArgs false
namespace Go.X
open Go.Proofs Go.RowKit
variable {w w' : World} {B : Nat}
def StV (s : St) (lv pv : Value) : Value := .agg #[.int .i64 s.qty, .int .i64 s.value, .int .i64 s.price, lv, pv]
set_option maxRecDepth 20000 in
theorem mk_ly {K : Value → World → Prop} {n : Nat} (hB : B ≤ w.heap.size) (hn : n ≤ 1000000)
    (hK : ∀ w' v', Own LyE 103 w' B v' (List.replicate n ⟨0, ⟨#[]⟩, 0, 0⟩) → Below w.heap.size w w' → K v' w') : l_make Tryz.prog 25 (.int .i64 n) (.int .i64 n) w K :=
  make_ok (E := LyE) (a := ⟨0, ⟨#[]⟩, 0, 0⟩) lySl rfl hB (by omega) (small_max hn) (fun w' h1 h2 _ => hK w' _ h1 h2)
set_option maxRecDepth 20000 in
theorem mk_pa {K : Value → World → Prop} {n : Nat} (hB : B ≤ w.heap.size) (hn : n ≤ 1000000)
    (hK : ∀ w' v', Own PaE 105 w' B v' (List.replicate n ⟨0, 0, ⟨#[]⟩, 0, 0, 0, 0⟩) → Below w.heap.size w w' → K v' w') : l_make Tryz.prog 26 (.int .i64 n) (.int .i64 n) w K :=
  make_ok (E := PaE) (a := ⟨0, 0, ⟨#[]⟩, 0, 0, 0, 0⟩) paSl rfl hB (by omega) (small_max hn) (fun w' h1 h2 _ => hK w' _ h1 h2)
set_option maxRecDepth 20000 in
theorem cp_ly {K : Value → World → Prop} {d v : Value} {k l : List Ly} (hd : Own LyE 103 w B d k) (hs : Rd LyE w v l) (hl : k.length = l.length)
    (hK : ∀ u w', Own LyE 103 w' B d l → w.grownBy w' d.ownBlock → K u w') : l_copy Tryz.prog #[25, 25] 3 d v w K := copy_ok (E := LyE) lySl hd hs hl hK
set_option maxRecDepth 20000 in
theorem cp_pa {K : Value → World → Prop} {d v : Value} {k l : List Pa} (hd : Own PaE 105 w B d k) (hs : Rd PaE w v l) (hl : k.length = l.length)
    (hK : ∀ u w', Own PaE 105 w' B d l → w.grownBy w' d.ownBlock → K u w') : l_copy Tryz.prog #[26, 26] 3 d v w K := copy_ok (E := PaE) paSl hd hs hl hK
attribute [local irreducible] l_append l_copy l_make l_run q_slice q_eq q_index
theorem Rd.len {α : Type} {E : Enc α} {v : Value} {l : List α} (h : Rd E w v l) : q_len v = some (.int .i64 l.length) := by
  obtain ⟨a, cap, rfl, _⟩ := h
  rfl
/-- Behind the two makes: rows of the right lengths, and the stock's two blocks. -/
def ClI (w : World) (s : St) (lv pv : Value) (a b : Value) (W : World) : Prop :=
  Below w.heap.size w W ∧ (∃ l, l.length = s.layers.length ∧ Own LyE 103 W (w.heap.size + 2) a l) ∧ (∃ l, l.length = s.past.length ∧ Own PaE 105 W (w.heap.size + 2) b l) ∧
    X.blk W w.heap.size = some (.cells #[.int .i64 s.qty, .int .i64 s.value, .int .i64 s.price, lv, pv] 28 (0, 0)) ∧
    X.blk W (w.heap.size + 1) = some (.cells #[.int .i64 0, .int .i64 0, .int .i64 0, .slice none 0 0, .slice none 0 0] 28 (0, 0))
theorem fifo_cloned {s : St} {lv pv : Value} (hl : Rd LyE w lv s.layers) (hp : Rd PaE w pv s.past) (hnl : s.layers.length ≤ 1000000) (hnp : s.past.length ≤ 1000000) {K : Value → World → Prop}
    (hK : ∀ w' lv' pv', Own LyE 103 w' w.heap.size lv' s.layers → Own PaE 105 w' w.heap.size pv' s.past → Below w.heap.size w w' → K (StV s lv' pv') w') : Ret Tryz.prog 60 [StV s lv pv] w K := by
  refine lift60 ?_
  unfold L60 StV
  simp [l_new]
  obtain ⟨w2, hw2⟩ : ∃ w2, ((w.alloc (Obj.cells #[Value.int IntKind.i64 s.qty, Value.int IntKind.i64 s.value, Value.int IntKind.i64 s.price, lv, pv] 28)).alloc
                  (Obj.cells #[Value.int IntKind.i64 0, Value.int IntKind.i64 0, Value.int IntKind.i64 0, Value.slice none 0 0, Value.slice none 0 0] 28)).drew = w2 := ⟨_, rfl⟩
  have hb2 : Below w.heap.size w w2 := by rw [← hw2]; exact (((Below.refl _ _).alloc (Nat.le_refl _) _).alloc (by simp) _).drew
  have hk0 : X.blk w2 w.heap.size = some (.cells #[.int .i64 s.qty, .int .i64 s.value, .int .i64 s.price, lv, pv] 28 (0, 0)) := by rw [← hw2]; simp
  have hk1 : X.blk w2 (w.heap.size + 1) = some (.cells #[.int .i64 0, .int .i64 0, .int .i64 0, .slice none 0 0, .slice none 0 0] 28 (0, 0)) := by rw [← hw2]; simp
  have hs2 : w2.heap.size = w.heap.size + 2 := by rw [← hw2]; show ((w.alloc _).alloc _).heap.size = _; simp
  rw [hw2]
  clear hw2
  refine joining_i (ClI w s lv pv) ⟨?_, ?_⟩
  · rw [hl.len, hp.len, onSome_some, onSome_some]
    refine ⟨?_, ?_⟩
    · refine mk_ly (B := w.heap.size + 2) (by omega) hnl (fun w3 v3 ho3 hb3 => ?_)
      have hk03 := (blk_below hb3 (lt_of_blk hk0)).trans hk0
      have hk13 := (blk_below hb3 (lt_of_blk hk1)).trans hk1
      rw [show (cellO (X.blk w3 w.heap.size) 4 = some pv) = True by simp [hk03], ob_true]
      refine mk_pa (B := w.heap.size + 2) (by have := hb3.size; omega) hnp (fun w4 v4 ho4 hb4 => ?_)
      exact ⟨(hb2.then hb3).then hb4, ⟨_, by simp, ho3.below hb4⟩, ⟨_, by simp, ho4⟩, (blk_below hb4 (lt_of_blk hk03)).trans hk03, (blk_below hb4 (lt_of_blk hk13)).trans hk13⟩
    · refine mk_pa (B := w.heap.size + 2) (by omega) hnp (fun w3 v3 ho3 hb3 => ?_)
      have hk03 := (blk_below hb3 (lt_of_blk hk0)).trans hk0
      have hk13 := (blk_below hb3 (lt_of_blk hk1)).trans hk1
      rw [show (cellO (X.blk w3 w.heap.size) 3 = some lv) = True by simp [hk03], ob_true]
      refine mk_ly (B := w.heap.size + 2) (by have := hb3.size; omega) hnl (fun w4 v4 ho4 hb4 => ?_)
      exact ⟨(hb2.then hb3).then hb4, ⟨_, by simp, ho4⟩, ⟨_, by simp, ho3.below hb4⟩, (blk_below hb4 (lt_of_blk hk03)).trans hk03, (blk_below hb4 (lt_of_blk hk13)).trans hk13⟩
  · rintro a b W ⟨hb, ⟨l1, hl1, ho1⟩, ⟨l2, hl2, ho2⟩, hk0', hk1'⟩
    rw [show cellO (X.blk W w.heap.size) 3 = some lv by simp [hk0'], onSome_some]
    have hlW := hl.below hb
    have hpW := hp.below hb
    refine cp_ly ho1 hlW hl1 (fun u W8 ho8 hg8 => ?_)
    have hb8 : Below w.heap.size w W8 := hb.grown hg8 hb.size (fun k hk => by have := (ho1.lt k hk).1; omega)
    have n0 : some w.heap.size ≠ a.ownBlock := fun e => by have := (ho1.lt _ e.symm).1; omega
    have n1 : some (w.heap.size + 1) ≠ a.ownBlock := fun e => by have := (ho1.lt _ e.symm).1; omega
    have hk8 := (hg8.block _ (lt_of_blk hk0') n0).trans hk0'
    have hk8' := (hg8.block _ (lt_of_blk hk1') n1).trans hk1'
    have hk8b : X.blk W8 w.heap.size = _ := hk8
    have hk8c : X.blk W8 (w.heap.size + 1) = _ := hk8'
    rw [show cellO (X.blk W8 w.heap.size) 4 = some pv by rw [hk8b]; rfl, onSome_some]
    have ho28 := ho2.grown hg8 (own_ne ho2 ho1 (by decide))
    refine cp_pa ho28 (hp.below hb8) hl2 (fun u2 W9 ho9 hg9 => ?_)
    have hb9 : Below w.heap.size w W9 := hb8.grown hg9 hb8.size (fun k hk => by have := (ho28.lt k hk).1; omega)
    have m0 : some w.heap.size ≠ b.ownBlock := fun e => by have := (ho28.lt _ e.symm).1; omega
    have m1 : some (w.heap.size + 1) ≠ b.ownBlock := fun e => by have := (ho28.lt _ e.symm).1; omega
    have hk9 : X.blk W9 w.heap.size = _ := (hg9.block _ (lt_of_blk hk8b) m0).trans hk8b
    have hk9' : X.blk W9 (w.heap.size + 1) = _ := (hg9.block _ (lt_of_blk hk8c) m1).trans hk8c
    have ho89 := ho8.grown hg9 (own_ne ho8 ho28 (by decide))
    have ca := own_cells ho89
    have cb := own_cells ho9
    simp [hk9, hk9', ca.1, ca.2, cb.1, cb.2]
    have p1 := ho89.putL (o := 3) (vs := [a]) hk9 (by decide)
    have q1 := ho9.putL (o := 3) (vs := [a]) hk9 (by decide)
    have k1 : X.blk (X.putL W9 w.heap.size 3 [a]) w.heap.size = some (.cells #[.int .i64 s.qty, .int .i64 s.value, .int .i64 s.price, a, pv] 28 (0, 0)) := by simp [hk9]
    have k1' : X.blk (X.putL W9 w.heap.size 3 [a]) (w.heap.size + 1) = some (.cells #[.int .i64 0, .int .i64 0, .int .i64 0, .slice none 0 0, .slice none 0 0] 28 (0, 0)) := by simp [hk9']
    have p2 := p1.putL (o := 4) (vs := [b]) k1 (by decide)
    have q2 := q1.putL (o := 4) (vs := [b]) k1 (by decide)
    have k2' : X.blk (X.putL (X.putL W9 w.heap.size 3 [a]) w.heap.size 4 [b]) (w.heap.size + 1) = some (.cells #[.int .i64 0, .int .i64 0, .int .i64 0, .slice none 0 0, .slice none 0 0] 28 (0, 0)) := by simp [hk9']
    have p3 := p2.putL (o := 0) (vs := [.int .i64 s.qty, .int .i64 s.value, .int .i64 s.price, a, b]) k2' (by decide)
    have q3 := q2.putL (o := 0) (vs := [.int .i64 s.qty, .int .i64 s.value, .int .i64 s.price, a, b]) k2' (by decide)
    refine hK _ a b (p3.lower (by omega)) (q3.lower (by omega)) ?_
    exact below_putL (below_putL (below_putL hb9 (Nat.le_refl _) _ _) (Nat.le_refl _) _ _) (by omega) _ _
end Go.X
end
