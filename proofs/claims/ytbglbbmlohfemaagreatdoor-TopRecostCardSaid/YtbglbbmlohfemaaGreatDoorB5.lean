/- Contracts of package standard. -/
import Derived.Test.YtbglbbmlohfemaaGreatDoorTs
import Derived.Test.YtbglbbmlohfemaaGreatDoorB4
import Derived.Test.YtbglbbmlohfemaaGreatDoorB3
section
set_option linter.unusedVariables false
set_option linter.unusedSimpArgs false
namespace Go.X
open Go.Proofs Go.RowKit
attribute [local irreducible] l_append l_copy l_make l_run q_slice q_eq q_index q_build onSome l_lit
variable {w w' : World} {B x : Nat} {s : St} {lv pv : Value} {m : Mv} {c : Co}
theorem within_ok {n : Int} : Calc 79 [.int .i64 n] w (.bool (!farV n)) := by
  intro K hK
  refine lift79 ?_
  unfold L79
  have h := hK _ (Below.refl _ w)
  unfold farV at h
  by_cases h1 : -1000000000000000 ≤ n
  · have h1' : ¬ n < -1000000000000000 := by omega
    by_cases h2 : n ≤ 1000000000000000
    · have h2' : ¬ 1000000000000000 < n := by omega
      simp [h1, h1', h2, h2'] at h ⊢; exact h
    · have h2' : 1000000000000000 < n := by omega
      simp [h1, h1', h2, h2'] at h ⊢; exact h
  · have h1' : n < -1000000000000000 := by omega
    simp [h1, h1'] at h ⊢; exact h
theorem is125 : intStruct Tryz.prog 125 2 = true := by kernel_rfl
theorem eq125 (a b a' b' : Int) : q_eq Tryz.prog .eql 125 (.agg #[.int .i64 a, .int .i64 b]) (.agg #[.int .i64 a', .int .i64 b']) = some (.bool (decide (a = a' ∧ b = b'))) := by
  have h := (q_eq_ints is125 .i64 [a, b] [a', b'] rfl rfl).1
  have e : decide ([a, b] = [a', b']) = decide (a = a' ∧ b = b') := decide_eq_decide.mpr (by simp)
  rw [e] at h
  exact h
def FindI (q : Pa → Bool) (l : List Pa) (w0 : World) (b : Nat) (cs : Array Value) (v : Value) (W : World) : Prop :=
  Below w0.heap.size w0 W ∧ X.blk W b = some (.cells cs 125 (0, 0)) ∧ ∃ i : Nat, v = .int .i64 i ∧ i ≤ l.length ∧ ∀ j (hj : j < l.length), j < i → q l[j] = false
theorem std_find {v : Value} {l : List Pa} {k n : Int} (h : Rd PaE w v l) (h0 : k ≠ 0) : Calc 75 [v, .agg #[.int .i64 k, .int .i64 n]] w (.int .i64 (idxV (findP k n l))) := by
  intro K hK
  refine lift75 ?_
  unfold L75
  simp only [l_new, cells_agg]
  have hb1 := (Below.refl w.heap.size w).alloc (Nat.le_refl _) (.cells #[.int .i64 k, .int .i64 n] 125)
  have hk1 : X.blk (w.alloc (.cells #[.int .i64 k, .int .i64 n] 125)) w.heap.size = some (.cells #[.int .i64 k, .int .i64 n] 125 (0, 0)) := by simp
  generalize w.alloc (.cells #[.int .i64 k, .int .i64 n] 125) = w1 at *
  rw [h.len, onSome_some]
  refine looping_i (FindI (okP k n) l w w.heap.size #[.int .i64 k, .int .i64 n]) (lenM l.length) ⟨⟨hb1, hk1, 0, rfl, by omega, by omega⟩, ?_⟩
  rintro v1 W ⟨hb, hk, i, rfl, hi, hno⟩ _
  obtain ⟨_, _, _, hmx⟩ := h.slice
  have hmx' : (maxLen : Int) ≤ 9223372036854775807 := by decide
  simp only [q_lss, onSome_some]
  unfold findP at hK
  refine xif_dec (fun hlt => ?_) (fun hlt => ?_)
  · have hlt' : i < l.length := by omega
    have e1 : IntKind.i64.wrap ((i : Int) + 1) = ((i + 1 : Nat) : Int) := by rw [wrap_i64 (by omega) (by omega)]; omega
    obtain ⟨ad, hq, hload⟩ := paElem (h.below hb) hlt'
    have n1 : ¬ w.heap.size = W.heap.size := Nat.ne_of_lt (lt_of_blk hk)
    have n2 : ¬ W.heap.size = w.heap.size := fun e => n1 e.symm
    rw [hq, onSome_some, hload, onSome_some]
    simp [n1, n2, hk]
    rw [build_of (cs := #[.int .i64 l[i].kind, .int .i64 l[i].seq]) (by simp), onSome_some, eq125, onSome_some]
    have hb2 := below_putL (hb.alloc hb.size (Obj.cells #[Value.int IntKind.i64 0, Value.int IntKind.i64 0, Value.string { data := #[] }, Value.int IntKind.i64 0, Value.int IntKind.i64 0, Value.int IntKind.i64 0, Value.int IntKind.i64 0] 105)) hb.size [.int .i64 l[i].seq, .int .i64 l[i].kind, .string l[i].lot, .int .i64 l[i].qty, .int .i64 l[i].value, .int .i64 l[i].used, .int .i64 l[i].usedV] 0
    have hk2 : X.blk (X.putL (W.alloc (Obj.cells #[Value.int IntKind.i64 0, Value.int IntKind.i64 0, Value.string { data := #[] }, Value.int IntKind.i64 0, Value.int IntKind.i64 0, Value.int IntKind.i64 0, Value.int IntKind.i64 0] 105)) W.heap.size 0 [.int .i64 l[i].seq, .int .i64 l[i].kind, .string l[i].lot, .int .i64 l[i].qty, .int .i64 l[i].value, .int .i64 l[i].used, .int .i64 l[i].usedV]) w.heap.size = some (.cells #[.int .i64 k, .int .i64 n] 125 (0, 0)) := by
      simp [n1, n2, hk]
    have hq : okP k n l[i] = decide (l[i].kind = k ∧ l[i].seq = n) := by
      unfold okP
      by_cases h1 : l[i].seq = n <;> by_cases h2 : l[i].kind = k <;> simp [h1, h2, h0]
    refine xif_dec (fun h1 => ?_) (fun h1 => ?_)
    · have e := idxF_some hlt' (by rw [hq]; exact decide_eq_true h1) hno
      rw [e] at hK
      exact hK _ hb2
    · rw [e1]
      refine ⟨⟨hb2, hk2, i + 1, rfl, by omega, fun j hj hji => ?_⟩, by simp only [lenM, intOf]; omega⟩
      rcases Nat.lt_or_ge j i with h2 | h2
      · exact hno j hj h2
      · have : j = i := by omega
        subst this
        rw [hq]; exact decide_eq_false h1
  · have e := idxF_none (p := okP k n) (l := l) (fun j hj => hno j hj (by omega))
    rw [e] at hK
    exact hK _ hb
theorem std_clone {s : St} {lv pv : Value} (hl : Rd LyE w lv s.layers) (hp : Rd PaE w pv s.past) (hnl : s.layers.length ≤ 1000000) (hnp : s.past.length ≤ 1000000) {K : Value → World → Prop}
    (hK : ∀ w' lv' pv', Own LyE 103 w' w.heap.size lv' s.layers → Own PaE 105 w' w.heap.size pv' s.past → Below w.heap.size w w' → K (StV s lv' pv') w') : Ret Tryz.prog 76 [StV s lv pv] w K := by
  refine lift76 ?_
  unfold L76 StV
  simp [l_new]
  obtain ⟨w2, hw2⟩ : ∃ w2, ((w.alloc (Obj.cells #[Value.int IntKind.i64 s.qty, Value.int IntKind.i64 s.value, Value.int IntKind.i64 s.price, lv, pv] 28)).alloc
                  (Obj.cells #[Value.int IntKind.i64 0, Value.int IntKind.i64 0, Value.int IntKind.i64 0, Value.slice none 0 0, Value.slice none 0 0] 28)) = w2 := ⟨_, rfl⟩
  have hb2 : Below w.heap.size w w2 := by rw [← hw2]; exact (((Below.refl _ _).alloc (Nat.le_refl _) _).alloc (by simp) _)
  have hk0 : X.blk w2 w.heap.size = some (.cells #[.int .i64 s.qty, .int .i64 s.value, .int .i64 s.price, lv, pv] 28 (0, 0)) := by rw [← hw2]; simp
  have hk1 : X.blk w2 (w.heap.size + 1) = some (.cells #[.int .i64 0, .int .i64 0, .int .i64 0, .slice none 0 0, .slice none 0 0] 28 (0, 0)) := by rw [← hw2]; simp
  rw [hw2]
  clear hw2
  rw [hp.len, onSome_some]
  refine mk_pa (B := w.heap.size) hb2.size hnp (fun w3 v3 ho3 hb3 => ?_)
  have hb03 := hb2.then hb3
  have hk03 := (blk_below hb3 (lt_of_blk hk0)).trans hk0
  have hk13 := (blk_below hb3 (lt_of_blk hk1)).trans hk1
  rw [show cellO (X.blk w3 w.heap.size) 4 = some pv by rw [hk03]; rfl, onSome_some]
  refine cp_pa ho3 (hp.below hb03) (by simp) (fun u w4 ho4 hg4 => ?_)
  have hk04 : X.blk w4 w.heap.size = _ := (hg4.block _ (lt_of_blk hk03) (own_blk ho3 hk03 (by decide))).trans hk03
  have hk14 : X.blk w4 (w.heap.size + 1) = _ := (hg4.block _ (lt_of_blk hk13) (own_blk ho3 hk13 (by decide))).trans hk13
  have hb04 : Below w.heap.size w w4 := hb03.grown hg4 hb03.size (fun k hk => (ho3.lt k hk).1)
  rw [show cellO (X.blk w4 w.heap.size) 3 = some lv by rw [hk04]; rfl, onSome_some, hl.len, onSome_some]
  refine mk_ly (B := w.heap.size) hb04.size hnl (fun w5 v5 ho5 hb5 => ?_)
  have hb05 := hb04.then hb5
  have hk05 := (blk_below hb5 (lt_of_blk hk04)).trans hk04
  have hk15 := (blk_below hb5 (lt_of_blk hk14)).trans hk14
  rw [show cellO (X.blk w5 w.heap.size) 3 = some lv by rw [hk05]; rfl, onSome_some]
  refine cp_ly ho5 (hl.below hb05) (by simp) (fun u w6 ho6 hg6 => ?_)
  have hk06 : X.blk w6 w.heap.size = _ := (hg6.block _ (lt_of_blk hk05) (own_blk ho5 hk05 (by decide))).trans hk05
  have hk16 : X.blk w6 (w.heap.size + 1) = _ := (hg6.block _ (lt_of_blk hk15) (own_blk ho5 hk15 (by decide))).trans hk15
  have hb06 : Below w.heap.size w w6 := hb05.grown hg6 hb05.size (fun k hk => (ho5.lt k hk).1)
  have hp6 := (ho4.below hb5).grown hg6 (own_ne (ho4.below hb5) ho5 (by decide))
  have ca := own_cells hp6
  have cb := own_cells ho6
  simp [hk06, hk16, ca.1, ca.2, cb.1, cb.2]
  have p1 := ho6.putL (o := 4) (vs := [v3]) hk06 (by decide)
  have q1 := hp6.putL (o := 4) (vs := [v3]) hk06 (by decide)
  have k1 : X.blk (X.putL w6 w.heap.size 4 [v3]) w.heap.size = some (.cells #[.int .i64 s.qty, .int .i64 s.value, .int .i64 s.price, lv, v3] 28 (0, 0)) := by simp [hk06]
  have k1' : X.blk (X.putL w6 w.heap.size 4 [v3]) (w.heap.size + 1) = some (.cells #[.int .i64 0, .int .i64 0, .int .i64 0, .slice none 0 0, .slice none 0 0] 28 (0, 0)) := by simp [hk16]
  have p2 := p1.putL (o := 3) (vs := [v5]) k1 (by decide)
  have q2 := q1.putL (o := 3) (vs := [v5]) k1 (by decide)
  have k2' : X.blk (X.putL (X.putL w6 w.heap.size 4 [v3]) w.heap.size 3 [v5]) (w.heap.size + 1) = some (.cells #[.int .i64 0, .int .i64 0, .int .i64 0, .slice none 0 0, .slice none 0 0] 28 (0, 0)) := by simp [hk16]
  have p3 := p2.putL (o := 0) (vs := [.int .i64 s.qty, .int .i64 s.value, .int .i64 s.price, v5, v3]) k2' (by decide)
  have q3 := q2.putL (o := 0) (vs := [.int .i64 s.qty, .int .i64 s.value, .int .i64 s.price, v5, v3]) k2' (by decide)
  exact hK _ v5 v3 p3 q3 (below_putL (below_putL (below_putL hb06 (Nat.le_refl _) _ _) (Nat.le_refl _) _ _) (by omega) _ _)
/-- Behind the stock: the movement and the cost. -/
def stdR (m : Mv) (c : Co) : List Value := [.int .i64 m.seq, .int .i64 m.value, .string m.item, .int .i64 m.kind, .int .i64 m.qty, .int .i64 m.cost, .string m.lot, .int .i64 m.ref, .int .i64 c.seq, .int .i64 c.qty, .int .i64 c.value, .int .i64 c.var]
def priceR (n : Int) : Value := .tuple #[.int .i64 (fitV n).1, .int .i64 (if (fitV n).2 = true then 0 else 4)]
theorem std_price {p : Int} (h : SX 128 (stdR m c) w B x s lv pv) (hm : m.Ok) (hp : I64 p) : Calc 174 [ptr x, .int .i64 p] w (priceR (m.qty * p)) := by
  intro K hK
  refine lift174 ?_
  unfold L174
  have hb := h.blk
  unfold scells stdR at hb
  simp [ptr, hb]
  refine mul_ok' hm.qty hp _ (fun w1 hb1 => ?_)
  have h := hK _ hb1
  unfold priceR at h
  unfold fitR
  cases hf : (fitV (m.qty * p)).2 with
  | true => simp [hf] at h ⊢; exact h
  | false =>
    have h0 : (fitV (m.qty * p)).1 = 0 := by
      unfold fitV at hf ⊢
      split at hf
      · cases hf
      · rename_i hn; rw [if_neg hn]
    simp [hf, h0] at h ⊢; exact h
theorem std_share {p : Pa} {q : Int} (hp : p.Ok) (hq : I64 q) : Calc 177 [p.v, .int .i64 q] w (.int .i64 (partV (IntKind.i64.wrap (p.value - p.usedV)) q (IntKind.i64.wrap (p.qty - p.used)))) := by
  intro K hK
  refine lift177 ?_
  unfold L177
  simp [l_new, Pa.v, Pa.cs]
  have hb1 := ((Below.refl w.heap.size w).alloc (Nat.le_refl _) (Obj.cells #[.int .i64 p.seq, .int .i64 p.kind, .string p.lot, .int .i64 p.qty, .int .i64 p.value, .int .i64 p.used, .int .i64 p.usedV] 105)).drew
  unfold partV at hK
  refine xif_dec (fun h => ?_) (fun h => ?_)
  · rw [if_pos h] at hK
    exact hK _ hb1
  · rw [if_neg h] at hK
    refine md_ok (I64.wrap _) hq (I64.wrap _) _ (fun w1 hb2 => ?_)
    simp
    exact hK _ (hb1.then hb2)
theorem std_record {v : Int} (h : SX 128 (stdR m c) w B x s lv pv) (hn : s.past.length < 1000000) {K : Value → World → Prop}
    (hK : ∀ w' pv', SX 128 (stdR m c) w' B x (s.setP (s.past ++ [mkPa m v])) lv pv' → Did (ST 128) B w w' → K (.tuple #[]) w') : Ret Tryz.prog 175 [ptr x, .int .i64 v] w K := by
  refine lift175 ?_
  unfold L175
  have hb := h.blk
  unfold scells stdR at hb
  simp [ptr, hb]
  rw [build_of (cs := #[.int .i64 m.seq, .int .i64 m.kind, .string m.lot, .int .i64 m.qty, .int .i64 v, .int .i64 0, .int .i64 0]) (by simp), onSome_some]
  refine h.drew.past (a := mkPa m v) hn (fun w3 pv3 hx3 hc3 ho3 h3 hd3 _ => ?_)
  rw [l_store_to (by simp [hx3, scells, hc3, ho3]), hc3]
  exact hK _ _ h3 (((Did.refl _ _ _).drew).trans hd3)
theorem std_back {k : Int} (h : SX 128 (stdR m c) w B x s lv pv) (h0 : k ≠ 0) : Calc 176 [ptr x, .int .i64 k] w (refT k s m) := by
  intro K hK
  refine lift176 ?_
  unfold L176
  have hb := h.blk
  unfold scells stdR at hb
  simp [ptr, hb]
  rw [build_of (cs := #[.int .i64 k, .int .i64 m.ref]) (by simp), onSome_some]
  have hd0 := h.drew
  refine std_find (Rd.of_own hd0.pa) h0 _ (fun w3 hb3 => ?_)
  have hb03 : Below w.heap.size w w3 := (Below.refl w.heap.size w).drew.then hb3
  have h3 := hd0.called hb3
  unfold refT refS at hK
  cases hf : findP k m.ref s.past with
  | none =>
    simp only [hf] at hK
    simp [idxV]
    exact hK _ hb03
  | some i =>
    obtain ⟨hi, _⟩ := idxF_lt hf
    simp only [hf, List.getElem?_eq_getElem hi] at hK
    have hb4 := h3.blk
    unfold scells stdR at hb4
    have hi0 : ¬ (i : Int) < 0 := by omega
    simp [idxV, hi0, hb4]
    obtain ⟨ad, hq, hload⟩ := paElem (Rd.of_own h3.pa) hi
    have hn3 : ¬ x = w3.heap.size := Nat.ne_of_lt (lt_of_blk hb4)
    have hn3' : ¬ w3.heap.size = x := fun e => hn3 e.symm
    rw [hq, onSome_some, hload, onSome_some]
    simp [l_new, hb4, hn3, hn3']
    have hb5 := (below_putL (hb03.alloc hb03.size (Obj.cells #[Value.int IntKind.i64 0, Value.int IntKind.i64 0, Value.string { data := #[] }, Value.int IntKind.i64 0, Value.int IntKind.i64 0, Value.int IntKind.i64 0, Value.int IntKind.i64 0] 105)) hb03.size [Value.int IntKind.i64 s.past[i].seq, Value.int IntKind.i64 s.past[i].kind, Value.string s.past[i].lot, Value.int IntKind.i64 s.past[i].qty, Value.int IntKind.i64 s.past[i].value, Value.int IntKind.i64 s.past[i].used, Value.int IntKind.i64 s.past[i].usedV] 0).drew
    have hk := hK _ hb5
    refine xif_dec (fun hc => ?_) (fun hc => ?_)
    · rw [if_pos hc] at hk
      exact hk
    · rw [if_neg hc] at hk
      exact hk
end Go.X
end
section
set_option linter.unusedVariables false
set_option linter.unusedSimpArgs false
namespace Go.X
open Go.Proofs Go.RowKit
attribute [local irreducible] l_append l_copy l_make l_run q_slice q_eq q_index q_build onSome l_lit
variable {w w' : World} {B x : Nat} {s : St} {lv pv : Value} {m : Mv} {c : Co}
/-- What an operation of a state does. -/
def StdOk (f : FuncId) (F : St → Mv → St × Co × Int) : Prop :=
  ∀ (w : World) (B x : Nat) (s : St) (lv pv : Value) (m : Mv) (c : Co) (K : Value → World → Prop), SX 128 (stdR m c) w B x s lv pv → s.Ok 900000 → m.Ok →
    ((F s m).2.2 ≠ 0 → ∀ w', Did (ST 128) B w w' → K (.int .i64 (F s m).2.2) w') →
    ((F s m).2.2 = 0 → ∀ w' lv' pv', SX 128 (stdR m (F s m).2.1) w' B x (F s m).1 lv' pv' → Did (ST 128) B w w' → K (.int .i64 0) w') → Ret Tryz.prog f [ptr x] w K
theorem priceR_ok {n : Int} (h : (fitV n).2 = true) : priceR n = .tuple #[.int .i64 n, .int .i64 0] := by
  unfold priceR; rw [if_pos h, ((fitV_ok n).2 h).1]
theorem priceR_no {n : Int} (h : (fitV n).2 = false) : priceR n = .tuple #[.int .i64 (fitV n).1, .int .i64 4] := by
  unfold priceR; rw [if_neg (by rw [h]; exact Bool.false_ne_true)]
/-- The cost is written. -/
theorem SX.setC (h : SX 128 (stdR m c) w B x s lv pv) (d : Co) : SX 128 (stdR m d) (X.putL w x 13 [.int .i64 d.seq, .int .i64 d.qty, .int .i64 d.value, .int .i64 d.var]) B x s lv pv ∧ Did (ST 128) B w (X.putL w x 13 [.int .i64 d.seq, .int .i64 d.qty, .int .i64 d.value, .int .i64 d.var]) :=
  h.put (by simp [scells, stdR]) rfl rfl
theorem std_receipt : StdOk 124 stdReceipt := by
  intro w B x s lv pv m c K h hs hm hK1 hK2
  refine lift124 ?_
  unfold L124
  have hsz := h.size
  have np := hs.np
  have hb := h.blk
  unfold scells stdR at hb
  simp [ptr, hb]
  refine std_price (m := m) h hm hs.price _ (fun w1 hb1 => ?_)
  have h1 := h.called hb1
  have hd1 := (Did.refl (ST 128) B w).called hb1 h.size
  cases hf : (fitV (m.qty * s.price)).2 with
  | false =>
    have e : stdReceipt s m = (s, Co.zero, 4) := by unfold stdReceipt; rw [if_pos hf]
    rw [e] at hK1
    rw [priceR_no hf]
    simp
    exact hK1 (by simp) _ hd1
  | true =>
    have e : stdReceipt s m = (s.setP (s.past ++ [mkPa m m.cost]), ⟨0, m.qty, m.qty * s.price, IntKind.i64.wrap (m.cost - m.qty * s.price)⟩, 0) := by unfold stdReceipt; rw [if_neg (by rw [hf]; simp)]
    rw [e] at hK2
    have hb1 := h1.blk
    unfold scells stdR at hb1
    rw [priceR_ok hf]
    simp [hb1]
    refine std_record (m := m) h1 (by omega) (fun w2 pv2 h2 hd2 => ?_)
    have hb2 := h2.blk
    unfold scells stdR at hb2
    simp [hb2]
    rw [build_of (cs := #[.int .i64 0, .int .i64 m.qty, .int .i64 (m.qty * s.price), .int .i64 (IntKind.i64.wrap (m.cost - m.qty * s.price))]) (by simp), onSome_some]
    simp [hb2]
    have h3 := h2.drew.setC ⟨0, m.qty, m.qty * s.price, IntKind.i64.wrap (m.cost - m.qty * s.price)⟩
    exact hK2 rfl _ _ _ h3.1 ((hd1.trans hd2).drew.trans h3.2)
theorem std_issue : StdOk 125 stdIssue := by
  intro w B x s lv pv m c K h hs hm hK1 hK2
  refine lift125 ?_
  unfold L125
  have hsz := h.size
  have np := hs.np
  have hb := h.blk
  unfold scells stdR at hb
  simp [ptr, hb]
  refine xif_dec (fun hq => ?_) (fun hq => ?_)
  · have e : stdIssue s m = (s, Co.zero, 21) := by unfold stdIssue; rw [if_pos hq]
    rw [e] at hK1
    exact hK1 (by simp) _ (Did.refl _ _ _).drew
  refine std_price (m := m) h.drew hm hs.price _ (fun w1 hb1 => ?_)
  have h1 := h.drew.called hb1
  have hd1 := (Did.refl (ST 128) B w).drew.called hb1 h.size
  cases hf : (fitV (m.qty * s.price)).2 with
  | false =>
    have e : stdIssue s m = (s, Co.zero, 4) := by unfold stdIssue; rw [if_neg hq, if_pos hf]
    rw [e] at hK1
    rw [priceR_no hf]
    simp
    exact hK1 (by simp) _ hd1
  | true =>
    have e : stdIssue s m = (s.setP (s.past ++ [mkPa m (m.qty * s.price)]), ⟨0, IntKind.i64.wrap (0 - m.qty), IntKind.i64.wrap (0 - m.qty * s.price), 0⟩, 0) := by unfold stdIssue; rw [if_neg hq, if_neg (by rw [hf]; simp)]
    rw [e] at hK2
    rw [priceR_ok hf]
    simp
    refine std_record (m := m) h1 (by omega) (fun w2 pv2 h2 hd2 => ?_)
    have hb2 := h2.blk
    unfold scells stdR at hb2
    simp [hb2]
    rw [build_of (cs := #[.int .i64 0, .int .i64 (IntKind.i64.wrap (0 - m.qty)), .int .i64 (IntKind.i64.wrap (0 - m.qty * s.price)), .int .i64 0]) (by simp), onSome_some]
    simp [hb2]
    have h3 := h2.setC ⟨0, IntKind.i64.wrap (0 - m.qty), IntKind.i64.wrap (0 - m.qty * s.price), 0⟩
    have hk := hK2 rfl _ _ _ h3.1 ((hd1.trans hd2).trans h3.2)
    simpa using hk
theorem std_customer : StdOk 126 stdCustomer := by
  intro w B x s lv pv m c K h hs hm hK1 hK2
  refine lift126 ?_
  unfold L126
  have hsz := h.size
  simp only [ptr]
  refine std_back (m := m) h (by decide) _ (fun w1 hb1 => ?_)
  have h1 := h.called hb1
  have hd1 := (Did.refl (ST 128) B w).called hb1 h.size
  unfold refT
  simp
  cases hr : (refS 2 s m).1 with
  | none =>
    have hn := refS_none hr
    have e : stdCustomer s m = (s, Co.zero, (refS 2 s m).2) := by unfold stdCustomer; simp only [hr]
    rw [e] at hK1
    simp [hn]
    exact hK1 hn _ hd1
  | some i =>
    obtain ⟨hi, h0, hle⟩ := refS_lt hr
    have hb1' := h1.blk
    unfold scells stdR at hb1'
    simp [h0, idx0, hb1']
    refine std_price (m := m) h1 hm hs.price _ (fun w2 hb2 => ?_)
    have h2 := h1.called hb2
    have hd2 := hd1.called hb2 h1.size
    cases hf : (fitV (m.qty * s.price)).2 with
    | false =>
      have e : stdCustomer s m = (s, Co.zero, 4) := by unfold stdCustomer; simp only [hr, List.getElem?_eq_getElem hi]; rw [if_pos hf]
      rw [e] at hK1
      rw [priceR_no hf]
      simp
      exact hK1 (by simp) _ hd2
    | true =>
      obtain ⟨v, hv⟩ : ∃ v, v = partV (IntKind.i64.wrap (s.past[i].value - s.past[i].usedV)) m.qty (IntKind.i64.wrap (s.past[i].qty - s.past[i].used)) := ⟨_, rfl⟩
      have e : stdCustomer s m = (s.setP (s.past.set i ⟨s.past[i].seq, s.past[i].kind, s.past[i].lot, s.past[i].qty, s.past[i].value, IntKind.i64.wrap (s.past[i].used + m.qty), IntKind.i64.wrap (s.past[i].usedV + v)⟩), ⟨0, m.qty, m.qty * s.price, IntKind.i64.wrap (v - m.qty * s.price)⟩, 0) := by
        rw [hv]
        unfold stdCustomer
        simp only [hr, List.getElem?_eq_getElem hi]
        rw [if_neg (by rw [hf]; simp)]
      rw [e] at hK2
      have hb2' := h2.blk
      unfold scells stdR at hb2'
      rw [priceR_ok hf]
      simp [hb2']
      obtain ⟨ad, hq, hload⟩ := paElem (Rd.of_own h2.drew.pa) hi
      rw [hq, onSome_some, hload, onSome_some]
      have pk := hs.past _ (List.getElem_mem hi)
      refine std_share (p := s.past[i]) pk hm.qty _ (fun w3 hb3 => ?_)
      rw [← hv]
      clear hv e
      have h3 := h2.drew.called hb3
      have hd3 := hd2.drew.called hb3 h2.size
      have hb3' := h3.blk
      unfold scells stdR at hb3'
      obtain ⟨g, cap, hpv, hBg, ⟨cur, hcur, hszc⟩, hat⟩ := h3.pa.paAt hi
      have c5 : cur[i * 7 + 5]? = some (.int .i64 s.past[i].used) := by have := hat.c5; rwa [hcur, cellO_cells] at this
      have c6 : cur[i * 7 + 6]? = some (.int .i64 s.past[i].usedV) := by have := hat.c6; rwa [hcur, cellO_cells] at this
      have hi' : (i : Int) < (s.past.length : Int) := by omega
      have hsz' : i * 7 + 7 ≤ cur.size := by omega
      have n1 : ¬ g = x := ne_of_type hcur hb3' (by decide)
      have n2 : ¬ x = g := fun e => n1 e.symm
      simp [hb3', hpv, hi', hcur, n1, n2, c5, c6, show i * 7 + 5 + 1 ≤ cur.size by omega, show i * 7 + 6 + 1 ≤ cur.size by omega]
      have h5 := h3.drew.cellP (j := 5) (u := .int .i64 (IntKind.i64.wrap (s.past[i].used + m.qty))) (a := ⟨s.past[i].seq, s.past[i].kind, s.past[i].lot, s.past[i].qty, s.past[i].value, IntKind.i64.wrap (s.past[i].used + m.qty), s.past[i].usedV⟩) hpv hi (by decide) rfl
      have h6 := h5.1.cellP (i := i) (j := 6) (u := .int .i64 (IntKind.i64.wrap (s.past[i].usedV + v))) (a := ⟨s.past[i].seq, s.past[i].kind, s.past[i].lot, s.past[i].qty, s.past[i].value, IntKind.i64.wrap (s.past[i].used + m.qty), IntKind.i64.wrap (s.past[i].usedV + v)⟩)
        (by simp only [St.setP_p, List.length_set]; exact hpv) (by simp only [St.setP_p, List.length_set]; exact hi) (by decide) (by simp [Pa.cs])
      have h6' := h6.1
      simp only [St.setP_p, St.setP_P, List.set_set] at h6'
      have hd6 := (hd3.drew.trans h5.2).trans h6.2
      rw [build_of (cs := #[.int .i64 0, .int .i64 m.qty, .int .i64 (m.qty * s.price), .int .i64 (IntKind.i64.wrap (v - m.qty * s.price))]) (by simp), onSome_some]
      simp [hb3', n1]
      have h7 := h6'.setC ⟨0, m.qty, m.qty * s.price, IntKind.i64.wrap (v - m.qty * s.price)⟩
      exact hK2 rfl _ _ _ h7.1 (hd6.trans h7.2)
theorem std_supplier : StdOk 127 stdSupplier := by
  intro w B x s lv pv m c K h hs hm hK1 hK2
  refine lift127 ?_
  unfold L127
  have hsz := h.size
  simp only [ptr]
  refine std_back (m := m) h (by decide) _ (fun w1 hb1 => ?_)
  have h1 := h.called hb1
  have hd1 := (Did.refl (ST 128) B w).called hb1 h.size
  unfold refT
  simp
  cases hr : (refS 1 s m).1 with
  | none =>
    have hn := refS_none hr
    have e : stdSupplier s m = (s, Co.zero, (refS 1 s m).2) := by unfold stdSupplier; simp only [hr]
    rw [e] at hK1
    simp [hn]
    exact hK1 hn _ hd1
  | some i =>
    obtain ⟨hi, h0, hle⟩ := refS_lt hr
    have hb1' := h1.blk
    unfold scells stdR at hb1'
    simp [h0, idx0, hb1']
    refine xif_dec (fun hq => ?_) (fun hq => ?_)
    · have e : stdSupplier s m = (s, Co.zero, 21) := by unfold stdSupplier; simp only [hr, List.getElem?_eq_getElem hi]; rw [if_pos hq]
      rw [e] at hK1
      exact hK1 (by simp) _ hd1.drew
    refine std_price (m := m) h1.drew hm hs.price _ (fun w2 hb2 => ?_)
    have h2 := h1.drew.called hb2
    have hd2 := hd1.drew.called hb2 h1.size
    cases hf : (fitV (m.qty * s.price)).2 with
    | false =>
      have e : stdSupplier s m = (s, Co.zero, 4) := by unfold stdSupplier; simp only [hr, List.getElem?_eq_getElem hi]; rw [if_neg hq, if_pos hf]
      rw [e] at hK1
      rw [priceR_no hf]
      simp
      exact hK1 (by simp) _ hd2
    | true =>
      have e : stdSupplier s m = (s.setP (s.past.set i ⟨s.past[i].seq, s.past[i].kind, s.past[i].lot, s.past[i].qty, s.past[i].value, IntKind.i64.wrap (s.past[i].used + m.qty), s.past[i].usedV⟩), ⟨0, IntKind.i64.wrap (0 - m.qty), IntKind.i64.wrap (0 - m.qty * s.price), IntKind.i64.wrap (m.qty * s.price - m.cost)⟩, 0) := by
        unfold stdSupplier
        simp only [hr, List.getElem?_eq_getElem hi]
        rw [if_neg hq, if_neg (by rw [hf]; simp)]
      rw [e] at hK2
      rw [priceR_ok hf]
      have hb3' := h2.blk
      unfold scells stdR at hb3'
      obtain ⟨g, cap, hpv, hBg, ⟨cur, hcur, hszc⟩, hat⟩ := h2.pa.paAt hi
      have c5 : cur[i * 7 + 5]? = some (.int .i64 s.past[i].used) := by have := hat.c5; rwa [hcur, cellO_cells] at this
      have hi' : (i : Int) < (s.past.length : Int) := by omega
      have hsz' : i * 7 + 7 ≤ cur.size := by omega
      have n1 : ¬ g = x := ne_of_type hcur hb3' (by decide)
      have n2 : ¬ x = g := fun e => n1 e.symm
      simp [hb3', hpv, hi', hcur, n1, n2, c5, show i * 7 + 5 + 1 ≤ cur.size by omega]
      have h5 := h2.drew.cellP (j := 5) (u := .int .i64 (IntKind.i64.wrap (s.past[i].used + m.qty))) (a := ⟨s.past[i].seq, s.past[i].kind, s.past[i].lot, s.past[i].qty, s.past[i].value, IntKind.i64.wrap (s.past[i].used + m.qty), s.past[i].usedV⟩) hpv hi (by decide) rfl
      have hd5 := hd2.drew.trans h5.2
      rw [build_of (cs := #[.int .i64 0, .int .i64 (IntKind.i64.wrap (0 - m.qty)), .int .i64 (IntKind.i64.wrap (0 - m.qty * s.price)), .int .i64 (IntKind.i64.wrap (m.qty * s.price - m.cost))]) (by simp), onSome_some]
      simp [hb3', n1]
      have h7 := h5.1.drew.setC ⟨0, IntKind.i64.wrap (0 - m.qty), IntKind.i64.wrap (0 - m.qty * s.price), IntKind.i64.wrap (m.qty * s.price - m.cost)⟩
      have hk := hK2 rfl _ _ _ h7.1 (hd5.drew.trans h7.2)
      simpa using hk
theorem std_landed : StdOk 128 stdLanded := by
  intro w B x s lv pv m c K h hs hm hK1 hK2
  refine lift128 ?_
  unfold L128
  have hsz := h.size
  simp only [ptr]
  refine std_back (m := m) h (by decide) _ (fun w1 hb1 => ?_)
  have h1 := h.called hb1
  have hd1 := (Did.refl (ST 128) B w).called hb1 h.size
  unfold refT
  simp
  cases hr : (refS 1 s m).1 with
  | none =>
    have hn := refS_none hr
    have e : stdLanded s m = (s, Co.zero, (refS 1 s m).2) := by unfold stdLanded; simp only [hr]
    rw [e] at hK1
    simp [hn]
    exact hK1 hn _ hd1
  | some i =>
    obtain ⟨hi, h0, hle⟩ := refS_lt hr
    have hb1' := h1.blk
    unfold scells stdR at hb1'
    have e : stdLanded s m = (s, ⟨0, 0, 0, m.cost⟩, 0) := by unfold stdLanded; simp only [hr]
    rw [e] at hK2
    simp [h0, hb1']
    rw [build_of (cs := #[.int .i64 0, .int .i64 0, .int .i64 0, .int .i64 m.cost]) (by simp), onSome_some]
    simp [hb1']
    have h7 := h1.setC ⟨0, 0, 0, m.cost⟩
    exact hK2 rfl _ _ _ h7.1 (hd1.trans h7.2)
theorem std_reprice : StdOk 129 stdReprice := by
  intro w B x s lv pv m c K h hs hm hK1 hK2
  refine lift129 ?_
  unfold L129
  have hsz := h.size
  have hb := h.blk
  unfold scells stdR at hb
  simp [ptr, hb]
  refine sub_ok hm.cost hs.price _ (fun w1 hb1 => ?_)
  have h1 := h.drew.called hb1
  have hd1 := (Did.refl (ST 128) B w).drew.called hb1 h.size
  have hb1' := h1.blk
  unfold scells stdR at hb1'
  unfold fitR
  simp [hb1']
  refine mul_ok' hs.qty (fitV_ok _).1 _ (fun w2 hb2 => ?_)
  have h2 := h1.called hb2
  have hd2 := hd1.called hb2 h1.size
  unfold fitR
  obtain ⟨d, hd⟩ : ∃ d, d = fitV (m.cost - s.price) := ⟨_, rfl⟩
  rw [← hd]
  obtain ⟨v, hv⟩ : ∃ v, v = fitV (s.qty * d.1) := ⟨_, rfl⟩
  rw [← hv]
  have e : stdReprice s m = if d.2 = false ∨ v.2 = false ∨ farV v.1 = true then (s, Co.zero, 4) else (⟨s.qty, s.value, m.cost, s.layers, s.past⟩, ⟨0, 0, v.1, IntKind.i64.wrap (0 - v.1)⟩, 0) := by
    rw [hv, hd]; rfl
  rw [e] at hK1 hK2
  have hend : ∀ w3, Below w2.heap.size w2 w3 → ¬ (d.2 = false ∨ v.2 = false ∨ farV v.1 = true) →
      (onSome (cellO (X.blk w3 x) 10) fun t47 => l_store 1 (.pointer (some ⟨x, 2, none⟩)) t47 w3 fun _ W4 =>
        onSome (q_build #[.int .i64 0, .int .i64 0, .int .i64 0, .int .i64 0] [(2, 1, .int .i64 v.1), (3, 1, .int .i64 (IntKind.i64.wrap (0 - v.1)))]) fun t55 =>
        l_store 4 (.pointer (some ⟨x, 13, none⟩)) t55 W4 fun _ W5 => K (.int .i64 0) W5) := by
    intro w3 hb3 hn
    rw [if_neg hn] at hK2
    have h3 := h2.called hb3
    have hd3 := hd2.called hb3 h2.size
    have hb3' := h3.blk
    unfold scells stdR at hb3'
    simp [hb3']
    rw [build_of (cs := #[.int .i64 0, .int .i64 0, .int .i64 v.1, .int .i64 (IntKind.i64.wrap (0 - v.1))]) (by simp), onSome_some]
    simp [hb3']
    have h4 := h3.put (s' := ⟨s.qty, s.value, m.cost, s.layers, s.past⟩) (r' := stdR m c) (o := 2) (vs := [.int .i64 m.cost]) (by simp [scells]) rfl rfl
    have h5 := h4.1.setC ⟨0, 0, v.1, IntKind.i64.wrap (0 - v.1)⟩
    have hk := hK2 rfl _ _ _ h5.1 ((hd3.trans h4.2).trans h5.2)
    simpa using hk
  cases hd2' : d.2 with
  | false =>
    simp
    rw [if_pos (Or.inl hd2')] at hK1
    exact hK1 (by simp) _ hd2
  | true =>
    cases hv2 : v.2 with
    | false =>
      simp
      rw [if_pos (Or.inr (Or.inl hv2))] at hK1
      exact hK1 (by simp) _ hd2
    | true =>
      simp
      refine within_ok _ (fun w3 hb3 => ?_)
      cases hfar : farV v.1 with
      | true =>
        simp
        rw [if_pos (Or.inr (Or.inr hfar))] at hK1
        exact hK1 (by simp) _ (hd2.called hb3 h2.size)
      | false =>
        have he := hend w3 hb3 (by rw [hd2', hv2, hfar]; simp)
        simp at he ⊢
        exact he
end Go.X
end
section
set_option linter.unusedVariables false
set_option linter.unusedSimpArgs false
namespace Go.X
open Go.Proofs Go.RowKit
attribute [local irreducible] l_append l_copy l_make l_run q_slice q_eq q_index q_build onSome l_lit
variable {w w' : World} {B x : Nat} {s : St} {lv pv : Value} {m : Mv} {c : Co}
theorem std_move : StdOk 77 stdDo := by
  intro w B x s lv pv m c K h hs hm hK1 hK2
  refine lift77 ?_
  unfold L77
  have hb := h.blk
  unfold scells stdR at hb
  have fin : ∀ (k : FuncId) (F : St → Mv → St × Co × Int), StdOk k F → stdDo s m = F s m → Ret Tryz.prog k [.pointer (some ⟨x, 0, none⟩)] w fun t W => K t W := by
    intro k F hF e
    rw [e] at hK1 hK2
    exact hF w B x s lv pv m c _ h hs hm hK1 hK2
  by_cases k1 : m.kind = 1
  · have f := fin 124 _ std_receipt (by unfold stdDo; rw [if_pos k1])
    simp [ptr, hb, k1]
    exact f
  by_cases k2 : m.kind = 2
  · have f := fin 125 _ std_issue (by unfold stdDo; rw [if_neg k1, if_pos k2])
    simp [ptr, hb, k2]
    exact f
  by_cases k3 : m.kind = 3
  · have f := fin 126 _ std_customer (by unfold stdDo; rw [if_neg k1, if_neg k2, if_pos k3])
    simp [ptr, hb, k3]
    exact f
  by_cases k4 : m.kind = 4
  · have f := fin 127 _ std_supplier (by unfold stdDo; rw [if_neg k1, if_neg k2, if_neg k3, if_pos k4])
    simp [ptr, hb, k4]
    exact f
  by_cases k5 : m.kind = 5
  · have f := fin 128 _ std_landed (by unfold stdDo; rw [if_neg k1, if_neg k2, if_neg k3, if_neg k4, if_pos k5])
    simp [ptr, hb, k5]
    exact f
  · have f := fin 129 _ std_reprice (by unfold stdDo; rw [if_neg k1, if_neg k2, if_neg k3, if_neg k4, if_neg k5])
    simp [ptr, hb, k1, k2, k3, k4, k5]
    exact f
/-- A step that fails and returns what its results hold: zero. -/
theorem step_zero {t c : Nat} {R : St × Co × Int} {e : Int} {W : World} {K : Value → World → Prop} (he : R = (St.zero, Co.zero, e))
    (hK : ∀ w' lv' pv', Own LyE 103 w' w.heap.size lv' R.1.layers → Own PaE 105 w' w.heap.size pv' R.1.past → Below w.heap.size w w' → K (stepR R lv' pv') w')
    (hb : Below w.heap.size w W) (ht : w.heap.size ≤ t) (hc : w.heap.size ≤ c) (h2 : X.blk W t = some (.cells #[.int .i64 0, .int .i64 0, .int .i64 0, .slice none 0 0, .slice none 0 0] 28 (0, 0))) (h3 : X.blk W c = some (.cells #[.int .i64 0, .int .i64 0, .int .i64 0, .int .i64 0] 43 (0, 0))) :
    onSome (loadO 5 (X.blk W t) 0) fun t23 => onSome (loadO 4 (X.blk W c) 0) fun t24 =>
        l_store 5 (Value.pointer (some { block := t, off := 0 })) t23 W.drew fun x W8 =>
        ob (loadO 4 (X.blk W8 c) 0 = some t24) (
        l_store 4 (Value.pointer (some { block := c, off := 0 })) t24 W8 fun x W9 =>
        onSome (loadO 5 (X.blk W9 t) 0) fun t4_1 =>
        onSome (loadO 4 (X.blk W9 c) 0) fun c5_1 => K (Value.tuple #[t4_1, c5_1, .int .i64 e]) W9) := by
  have n1 : ¬ t = c := ne_of_type h2 h3 (by decide)
  have n2 : ¬ c = t := fun e => n1 e.symm
  simp [h2, h3, n1, n2]
  rw [he] at hK
  exact hK _ (.slice none 0 0) (.slice none 0 0) (Own.nil _ _ _ _) (Own.nil _ _ _ _) (below_putL (below_putL hb.drew ht _ _) hc _ _)
theorem std_step : StepOk 34 stdV := by
  intro w s m lv pv K ht hm hs hlv hpv hK
  refine lift34 ?_
  unfold L34 StV
  have nl := hs.nl
  have np := hs.np
  have a1 : ¬ w.heap.size = w.heap.size + 1 + 1 + 1 := by omega
  have a2 : ¬ w.heap.size = w.heap.size + 1 + 1 := by omega
  have a3 : ¬ w.heap.size + 1 = w.heap.size + 1 + 1 + 1 := by omega
  have a4 : ¬ w.heap.size + 1 = w.heap.size + 1 + 1 := by omega
  simp [l_new, a1, a2, a3, a4]
  obtain ⟨w4, hw4⟩ : ∃ w4, ((((w.alloc (Obj.cells #[Value.int IntKind.i64 s.qty, Value.int IntKind.i64 s.value, Value.int IntKind.i64 s.price, lv, pv] 28)).alloc
      (Obj.cells #[Value.int IntKind.i64 m.seq, Value.int IntKind.i64 m.value, Value.string m.item, Value.int IntKind.i64 m.kind, Value.int IntKind.i64 m.qty, Value.int IntKind.i64 m.cost, Value.string m.lot, Value.int IntKind.i64 m.ref] 47)).alloc
      (Obj.cells #[Value.int IntKind.i64 0, Value.int IntKind.i64 0, Value.int IntKind.i64 0, Value.slice none 0 0, Value.slice none 0 0] 28)).alloc
      (Obj.cells #[Value.int IntKind.i64 0, Value.int IntKind.i64 0, Value.int IntKind.i64 0, Value.int IntKind.i64 0] 43)) = w4 := ⟨_, rfl⟩
  have hb4 : Below w.heap.size w w4 := by
    rw [← hw4]
    exact (((((Below.refl _ _).alloc (Nat.le_refl _) _).alloc (by simp) _).alloc (by simp; omega) _).alloc (by simp; omega) _)
  have hks : X.blk w4 w.heap.size = some (.cells #[.int .i64 s.qty, .int .i64 s.value, .int .i64 s.price, lv, pv] 28 (0, 0)) := by
    rw [← hw4]; simp [a1, a2]
  have hkm : X.blk w4 (w.heap.size + 1) = some (.cells #[.int .i64 m.seq, .int .i64 m.value, .string m.item, .int .i64 m.kind, .int .i64 m.qty, .int .i64 m.cost, .string m.lot, .int .i64 m.ref] 47 (0, 0)) := by
    rw [← hw4]; simp [a3, a4]
  have hkt : X.blk w4 (w.heap.size + 1 + 1) = some (.cells #[.int .i64 0, .int .i64 0, .int .i64 0, .slice none 0 0, .slice none 0 0] 28 (0, 0)) := by
    rw [← hw4]; simp
  have hkc : X.blk w4 (w.heap.size + 1 + 1 + 1) = some (.cells #[.int .i64 0, .int .i64 0, .int .i64 0, .int .i64 0] 43 (0, 0)) := by
    rw [← hw4]; simp
  rw [hw4]
  clear hw4
  refine one_ok (m := m) (ht.below hb4) hm _ (fun w5 hb5 => ?_)
  have hb05 := hb4.then hb5
  have hks5 := (blk_below hb5 (lt_of_blk hks)).trans hks
  have hkm5 := (blk_below hb5 (lt_of_blk hkm)).trans hkm
  have hkt5 := (blk_below hb5 (lt_of_blk hkt)).trans hkt
  have hkc5 := (blk_below hb5 (lt_of_blk hkc)).trans hkc
  simp only [q_neq, onSome_some]
  refine xif_ndec (fun h1 => ?_) (fun h1 => ?_)
  · have hF : stdV s m = (St.zero, Co.zero, oneV m) := by unfold stdV; rw [if_pos h1]
    exact step_zero hF hK hb05 (by omega) (by omega) hkt5 hkc5
  simp [hks5, hkm5]
  rw [build_of (cs := #[.int .i64 1, .int .i64 m.seq]) (by simp), onSome_some]
  refine std_find (hpv.below hb05) (by decide) _ (fun w6 hb6 => ?_)
  have hb06 := hb05.then hb6
  have hks6 := (blk_below hb6 (lt_of_blk hks5)).trans hks5
  have hkm6 := (blk_below hb6 (lt_of_blk hkm5)).trans hkm5
  have hkt6 := (blk_below hb6 (lt_of_blk hkt5)).trans hkt5
  have hkc6 := (blk_below hb6 (lt_of_blk hkc5)).trans hkc5
  have hdup : (findP 1 m.seq s.past).isSome ∨ (findP 2 m.seq s.past).isSome → stdV s m = (St.zero, Co.zero, 8) := by
    intro hd; unfold stdV; rw [if_neg (by simpa using h1), if_pos hd]
  cases hf : findP 1 m.seq s.past with
  | some i =>
    have hF := hdup (Or.inl (by rw [hf]; rfl))
    simp only [idxV, q_geq, onSome_some]
    rw [decide_eq_true (by omega : (0 : Int) ≤ (i : Int))]
    simp
    exact step_zero hF hK hb06 (by omega) (by omega) hkt6 hkc6
  | none =>
    simp [idxV, hks6, hkm6]
    rw [build_of (cs := #[.int .i64 2, .int .i64 m.seq]) (by simp), onSome_some]
    refine std_find (hpv.below hb06) (by decide) _ (fun w7 hb7 => ?_)
    have hb07 := hb06.then hb7
    have hks7 := (blk_below hb7 (lt_of_blk hks6)).trans hks6
    have hkm7 := (blk_below hb7 (lt_of_blk hkm6)).trans hkm6
    have hkt7 := (blk_below hb7 (lt_of_blk hkt6)).trans hkt6
    have hkc7 := (blk_below hb7 (lt_of_blk hkc6)).trans hkc6
    cases hf2 : findP 2 m.seq s.past with
    | some i =>
      have hF := hdup (Or.inr (by rw [hf2]; rfl))
      simp only [idxV, q_geq, onSome_some, gateQ_false]
      simp
      exact step_zero hF hK hb07 (by omega) (by omega) hkt7 hkc7
    | none =>
      simp [idxV, hks7, hkm7]
      have hFV : stdV s m = (if (stdDo s m).2.2 ≠ 0 then (St.zero, Co.zero, (stdDo s m).2.2) else
          if (fitV (s.value + (stdDo s m).2.1.value)).2 = false ∨ 1000000000 < IntKind.i64.wrap (s.qty + (stdDo s m).2.1.qty) ∨ farV (fitV (s.value + (stdDo s m).2.1.value)).1 = true ∨ farV (stdDo s m).2.1.var = true then (St.zero, Co.zero, 4)
          else (⟨IntKind.i64.wrap (s.qty + (stdDo s m).2.1.qty), (fitV (s.value + (stdDo s m).2.1.value)).1, (stdDo s m).1.price, (stdDo s m).1.layers, (stdDo s m).1.past⟩, ⟨m.seq, (stdDo s m).2.1.qty, (stdDo s m).2.1.value, (stdDo s m).2.1.var⟩, 0)) := by
        unfold stdV
        rw [if_neg (by simpa using h1), if_neg (by rw [hf, hf2]; simp)]
      refine std_clone (s := s) (hlv.below hb07.drew) (hpv.below hb07.drew) (by omega) (by omega) (fun w8 lv8 pv8 hl8 hp8 hb8 => ?_)
      have hb08 := hb07.drew.then hb8
      have hks8 := (blk_below hb8 (lt_of_blk (w := w7.drew) hks7)).trans hks7
      have hkm8 := (blk_below hb8 (lt_of_blk (w := w7.drew) hkm7)).trans hkm7
      have hkt8 := (blk_below hb8 (lt_of_blk (w := w7.drew) hkt7)).trans hkt7
      have hkc8 := (blk_below hb8 (lt_of_blk (w := w7.drew) hkc7)).trans hkc7
      have ca := own_cells hl8
      have cb := own_cells hp8
      simp [hkm8]
      rw [build_of (cs := scells s lv8 pv8 (stdR m Co.zero)) (by simp [StV, scells, stdR, Co.zero]), onSome_some]
      simp only [l_new, cells_agg]
      have hX : SX 128 (stdR m Co.zero) (w8.alloc (.cells (scells s lv8 pv8 (stdR m Co.zero)) 128)) w.heap.size w8.heap.size s lv8 pv8 :=
        ⟨hb08.size, by simp, (hl8.lower hb07.drew.size).alloc _, (hp8.lower hb07.drew.size).alloc _, by decide, by decide⟩
      have hb09 := hb08.alloc hb08.size (.cells (scells s lv8 pv8 (stdR m Co.zero)) 128)
      have al : ∀ {b : Nat} {o : Obj}, X.blk w8 b = some o → X.blk (w8.alloc (.cells (scells s lv8 pv8 (stdR m Co.zero)) 128)) b = some o := by
        intro b o hbo
        rw [blk_alloc, if_neg (Nat.ne_of_lt (lt_of_blk hbo))]; exact hbo
      have hks9 := al hks8
      have hkm9 := al hkm8
      have hkt9 := al hkt8
      have hkc9 := al hkc8
      have hxlt : w.heap.size + 1 + 1 + 1 < w8.heap.size := lt_of_blk hkc8
      clear al
      generalize w8.alloc (.cells (scells s lv8 pv8 (stdR m Co.zero)) 128) = w9 at *
      generalize w8.heap.size = x at *
      obtain ⟨R, hR⟩ : ∃ R, R = stdDo s m := ⟨_, rfl⟩
      have hRk := stdDo_p hs hm
      rw [← hR] at hFV hRk
      refine std_move w9 w.heap.size x s lv8 pv8 m Co.zero _ hX hs hm (fun he w10 hd10 => ?_) (fun he w10 lv10 pv10 hX10 hd10 => ?_)
      · rw [← hR] at he ⊢
        rw [if_pos he] at hFV
        simp only [q_neq, onSome_some]
        refine xif_ndec (fun _ => ?_) (fun h => absurd h he)
        exact step_zero hFV hK (hb09.trans hd10.below) (by omega) (by omega) (hd10.keeps.blk hkt9 (by decide)) (hd10.keeps.blk hkc9 (by decide))
      · rw [← hR] at he hX10
        rw [if_neg (by simpa using he)] at hFV
        have hb010 := hb09.trans hd10.below
        have hks10 := hd10.keeps.blk hks9 (by decide)
        have hkm10 := hd10.keeps.blk hkm9 (by decide)
        have hkt10 := hd10.keeps.blk hkt9 (by decide)
        have hkc10 := hd10.keeps.blk hkc9 (by decide)
        have hb10 := hX10.blk
        unfold scells stdR at hb10
        have nx0 : ¬ x = w.heap.size := by omega
        have nx1 : ¬ x = w.heap.size + 1 := by omega
        have nx2 : ¬ x = w.heap.size + 1 + 1 := by omega
        have nx3 : ¬ x = w.heap.size + 1 + 1 + 1 := by omega
        simp [hkm10, hb10, nx0, hks10]
        have h11 := hX10.put (s' := R.1) (r' := stdR m ⟨m.seq, R.2.1.qty, R.2.1.value, R.2.1.var⟩) (o := 13) (vs := [.int .i64 m.seq]) (by simp [scells, stdR]) rfl rfl
        have hd11 := hd10.trans h11.2
        have hX11 := h11.1
        have hb011 := hb09.trans hd11.below
        have hks11 := hd11.keeps.blk hks9 (by decide)
        have hkt11 := hd11.keeps.blk hkt9 (by decide)
        have hkc11 := hd11.keeps.blk hkc9 (by decide)
        generalize X.putL w10 x 13 [.int .i64 m.seq] = w11 at *
        refine add_ok hs.value hRk.2.value _ (fun w12 hb12 => ?_)
        have hX12 := hX11.drew.called hb12
        have hd12 := hd11.drew.called hb12 hX11.size
        have hb012 := hb09.trans hd12.below
        have hks12 := hd12.keeps.blk hks9 (by decide)
        have hb12' := hX12.blk
        unfold scells stdR at hb12'
        unfold fitR
        simp [hks12, hb12', nx0]
        obtain ⟨v, hv⟩ : ∃ v, v = fitV (s.value + R.2.1.value) := ⟨_, rfl⟩
        rw [← hv] at hFV ⊢
        obtain ⟨q, hq⟩ : ∃ q, q = IntKind.i64.wrap (s.qty + R.2.1.qty) := ⟨_, rfl⟩
        rw [← hq] at hFV ⊢
        have h13 := hX12.drew.put (s' := ⟨q, R.1.value, R.1.price, R.1.layers, R.1.past⟩) (r' := stdR m ⟨m.seq, R.2.1.qty, R.2.1.value, R.2.1.var⟩) (o := 0) (vs := [.int .i64 q]) (by simp [scells, stdR]) rfl rfl
        have h14 := h13.1.put (s' := ⟨q, v.1, R.1.price, R.1.layers, R.1.past⟩) (r' := stdR m ⟨m.seq, R.2.1.qty, R.2.1.value, R.2.1.var⟩) (o := 1) (vs := [.int .i64 v.1]) (by simp [scells, stdR]) rfl rfl
        have hd14 := (hd12.drew.trans h13.2).trans h14.2
        have hX14 := h14.1
        generalize X.putL (X.putL w12.drew x 0 [.int .i64 q]) x 1 [.int .i64 v.1] = w14 at *
        have hb14' := hX14.blk
        unfold scells stdR at hb14'
        obtain ⟨bad, hbad⟩ : ∃ bad : Bool, bad = (!v.2 || decide (1000000000 < q) || farV v.1 || farV R.2.1.var) := ⟨_, rfl⟩
        have hFV2 : stdV s m = (if bad = true then (St.zero, Co.zero, 4) else (⟨q, v.1, R.1.price, R.1.layers, R.1.past⟩, ⟨m.seq, R.2.1.qty, R.2.1.value, R.2.1.var⟩, 0)) := by
          have hiff : (v.2 = false ∨ 1000000000 < q ∨ farV v.1 = true ∨ farV R.2.1.var = true) ↔ bad = true := by
            rw [hbad]
            cases v.2 <;> cases farV v.1 <;> cases farV R.2.1.var <;> simp
          rw [hFV]
          by_cases hc : bad = true
          · rw [if_pos hc, if_pos (hiff.mpr hc)]
          · rw [if_neg hc, if_neg (fun h => hc (hiff.mp h))]
        have hA : ∀ W, Below w14.heap.size w14 W → bad = true → stdV s m = (St.zero, Co.zero, 4) ∧ Below w.heap.size w W ∧
            X.blk W (w.heap.size + 1 + 1) = some (.cells #[.int .i64 0, .int .i64 0, .int .i64 0, .slice none 0 0, .slice none 0 0] 28 (0, 0)) ∧ X.blk W (w.heap.size + 1 + 1 + 1) = some (.cells #[.int .i64 0, .int .i64 0, .int .i64 0, .int .i64 0] 43 (0, 0)) := by
          intro W hbW hb
          rw [if_pos hb] at hFV2
          have hdW := hd14.called hbW hX14.size
          exact ⟨hFV2, hb09.trans hdW.below, hdW.keeps.blk hkt9 (by decide), hdW.keeps.blk hkc9 (by decide)⟩
        cases hv2 : v.2 with
        | false =>
          obtain ⟨f1, f2, f3, f4⟩ := hA _ (Below.refl _ _) (by rw [hbad, hv2]; rfl)
          simp
          exact step_zero f1 hK f2 (by omega) (by omega) f3 f4
        | true =>
          by_cases hq2 : 1000000000 < q
          · obtain ⟨f1, f2, f3, f4⟩ := hA _ (Below.refl _ _) (by rw [hbad]; simp [hq2])
            simp [hb14', hq2]
            exact step_zero f1 hK f2 (by omega) (by omega) f3 f4
          · simp [hb14', hq2]
            refine within_ok _ (fun w15 hb15 => ?_)
            cases hf1 : farV v.1 with
            | true =>
              obtain ⟨f1, f2, f3, f4⟩ := hA _ hb15 (by rw [hbad, hf1]; simp)
              simp
              exact step_zero f1 hK f2 (by omega) (by omega) f3 f4
            | false =>
              have hX15 := hX14.called hb15
              have hb15' := hX15.blk
              unfold scells stdR at hb15'
              simp [hb15']
              refine within_ok _ (fun w16 hb16 => ?_)
              have hb146 := hb15.then hb16
              cases hf2 : farV R.2.1.var with
              | true =>
                obtain ⟨f1, f2, f3, f4⟩ := hA _ hb146 (by rw [hbad, hf2]; simp)
                simp
                exact step_zero f1 hK f2 (by omega) (by omega) f3 f4
              | false =>
                rw [if_neg (by rw [hbad, hv2, hf1, hf2]; simp [hq2])] at hFV2
                rw [hFV2] at hK
                have hX16 := hX14.called hb146
                have hd16 := hd14.called hb146 hX14.size
                have hkt16 := hd16.keeps.blk hkt9 (by decide)
                have hkc16 := hd16.keeps.blk hkc9 (by decide)
                have hb016 := hb09.trans hd16.below
                have hb16' := hX16.blk
                unfold scells stdR at hb16'
                have c1 := own_cells hX16.ly
                have c2 := own_cells hX16.pa
                have nt : ¬ w.heap.size + 1 + 1 = x := by omega
                have nc : ¬ w.heap.size + 1 + 1 + 1 = x := by omega
                have n3 : ¬ w.heap.size + 1 + 1 + 1 = w.heap.size + 1 + 1 := by omega
                have n4 : ¬ w.heap.size + 1 + 1 = w.heap.size + 1 + 1 + 1 := by omega
                simp [hb16', hkt16, hkc16, c1.1, c1.2, c2.1, c2.2, nt, nc, n3, n4]
                have p1 := hX16.ly.drew.putL (w := w16.drew) (o := 0) (vs := [.int .i64 q, .int .i64 v.1, .int .i64 R.1.price, lv10, pv10]) hkt16 (by decide)
                have q1 := hX16.pa.drew.putL (w := w16.drew) (o := 0) (vs := [.int .i64 q, .int .i64 v.1, .int .i64 R.1.price, lv10, pv10]) hkt16 (by decide)
                have hkc17 : X.blk (X.putL w16.drew (w.heap.size + 1 + 1) 0 [.int .i64 q, .int .i64 v.1, .int .i64 R.1.price, lv10, pv10]) (w.heap.size + 1 + 1 + 1) = some (.cells #[.int .i64 0, .int .i64 0, .int .i64 0, .int .i64 0] 43 (0, 0)) := by
                  rw [blk_putL, if_neg n4]; exact hkc16
                have p2 := p1.putL (o := 0) (vs := [.int .i64 m.seq, .int .i64 R.2.1.qty, .int .i64 R.2.1.value, .int .i64 R.2.1.var]) hkc17 (by decide)
                have q2 := q1.putL (o := 0) (vs := [.int .i64 m.seq, .int .i64 R.2.1.qty, .int .i64 R.2.1.value, .int .i64 R.2.1.var]) hkc17 (by decide)
                exact hK _ lv10 pv10 p2 q2 (below_putL (below_putL hb016.drew (by omega) _ _) (by omega) _ _)
end Go.X
end
