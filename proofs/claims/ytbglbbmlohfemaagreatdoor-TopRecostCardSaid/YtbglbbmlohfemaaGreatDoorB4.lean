/- Contracts of package average. -/
import Derived.Test.YtbglbbmlohfemaaGreatDoorTa
import Derived.Test.YtbglbbmlohfemaaGreatDoorB3
import Derived.Test.YtbglbbmlohfemaaGreatDoorA2
section
set_option linter.unusedVariables false
set_option linter.unusedSimpArgs false
namespace Go.X
open Go.Proofs Go.RowKit
attribute [local irreducible] l_append l_copy l_make l_run q_slice q_eq q_index
variable {w w' : World} {B : Nat}
theorem avg_large {n : Int} : Calc 74 [.int .i64 n] w (.bool (farV n)) := by
  intro K hK
  refine lift74 ?_
  unfold L74
  have h := hK _ (Below.refl _ w)
  unfold farV at h
  by_cases h1 : 1000000000000000 < n
  · simp [h1] at h ⊢; exact h
  · by_cases h2 : n < -1000000000000000
    · simp [h1, h2] at h ⊢; exact h
    · simp [h1, h2] at h ⊢; exact h
theorem avg_part {v q n : Int} (hv : I64 v) (hq : I64 q) (hn : I64 n) : Calc 172 [.int .i64 v, .int .i64 q, .int .i64 n] w (.int .i64 (partV v q n)) := by
  intro K hK
  refine lift172 ?_
  unfold L172
  unfold partV at hK
  simp
  refine xif_dec (fun h => ?_) (fun h => ?_)
  · rw [if_pos h] at hK
    exact hK _ (Below.refl _ _)
  · rw [if_neg h] at hK
    refine md_ok hv hq hn _ (fun w1 hb1 => ?_)
    simp
    exact hK _ hb1
/-- An index, or -1. -/
def idxV (o : Option Nat) : Int := match o with | none => -1 | some i => i
def IdxI (q : Pa → Bool) (l : List Pa) (w : World) (v : Value) (W : World) : Prop := Below w.heap.size w W ∧ ∃ i : Nat, v = .int .i64 i ∧ i ≤ l.length ∧ ∀ j (hj : j < l.length), j < i → q l[j] = false
/-- A function value that answers a question about a past movement. -/
def Asks (f : Value) (q : Pa → Bool) (w : World) : Prop := ∀ (p : Pa) (w' : World) (K : Value → World → Prop), Below w.heap.size w w' → (∀ w'', Below w'.heap.size w' w'' → K (.bool (q p)) w'') → l_callv Tryz.prog f [p.v] w' K
theorem idx118 {v f : Value} {l : List Pa} {q : Pa → Bool} (h : Rd PaE w v l) (hf : Asks f q w) : Calc 118 [v, f] w (.int .i64 (idxV (idxF q l))) := by
  intro K hK
  refine lift118 ?_
  unfold L118
  rw [h.len, onSome_some]
  refine looping_i (IdxI q l w) (lenM l.length) ⟨⟨Below.refl _ _, 0, rfl, by omega, by omega⟩, ?_⟩
  rintro v1 W ⟨hb, i, rfl, hi, hno⟩ _
  obtain ⟨_, _, _, hmx⟩ := h.slice
  have hmx' : (maxLen : Int) ≤ 9223372036854775807 := by decide
  simp only [q_lss, onSome_some]
  refine xif_dec (fun hlt => ?_) (fun hlt => ?_)
  · have hlt' : i < l.length := by omega
    have e1 : IntKind.i64.wrap ((i : Int) + 1) = ((i + 1 : Nat) : Int) := by rw [wrap_i64 (by omega) (by omega)]; omega
    obtain ⟨ad, hq, hload⟩ := paElem (h.below hb) hlt'
    rw [hq, onSome_some, hload, onSome_some]
    refine hf l[i] W _ hb (fun w2 hb2 => ?_)
    refine xif_bool (fun h1 => ?_) (fun h1 => ?_)
    · have e := idxF_some hlt' h1 hno
      rw [e] at hK
      exact hK _ (hb.then hb2)
    · simp only [q_add, onSome_some, e1]
      refine ⟨⟨hb.then hb2, i + 1, rfl, by omega, fun j hj hji => ?_⟩, by simp only [lenM, intOf]; omega⟩
      rcases Nat.lt_or_ge j i with h2 | h2
      · exact hno j hj h2
      · have : j = i := by omega
        subst this
        exact h1
  · have e := idxF_none (p := q) (l := l) (fun j hj => hno j hj (by omega))
    rw [e] at hK
    exact hK _ hb
theorem avg_find {v f : Value} {l : List Pa} {q : Pa → Bool} (h : Rd PaE w v l) (hf : Asks f q w) : Calc 70 [v, f] w (.int .i64 (idxV (idxF q l))) := by
  intro K hK
  refine lift70 ?_
  unfold L70
  exact idx118 h hf _ hK
theorem bod71 : bodied Tryz.prog 71 = true := by kernel_rfl
theorem bod210 : bodied Tryz.prog 210 = true := by kernel_rfl
theorem asks71 {x : Nat} {m : Mv} (hx : X.blk w x = some (.cells m.cs 47 (0, 0))) : Asks (.func (.func 71) #[] #[ptr x]) (okP 0 m.seq) w := by
  intro p w' K hb hK
  refine ⟨bod71, lift71 ?_⟩
  have hx' := (blk_below hb (lt_of_blk hx)).trans hx
  have hn : ¬ x = w'.heap.size := Nat.ne_of_lt (lt_of_blk hx')
  unfold L71
  unfold Mv.cs at hx'
  simp [Pa.v, Pa.cs, l_new, ptr, hx', hn]
  have h := hK _ ((Below.refl _ w').alloc (Nat.le_refl _) (Obj.cells #[.int .i64 p.seq, .int .i64 p.kind, .string p.lot, .int .i64 p.qty, .int .i64 p.value, .int .i64 p.used, .int .i64 p.usedV] 105))
  simpa [okP] using h
theorem asks210 {x y : Nat} {m : Mv} {k : Int} (h0 : k ≠ 0) (hx : X.blk w x = some (.cells m.cs 47 (0, 0))) (hy : X.blk w y = some (.cells #[.int .i64 k] 3 (0, 0))) : Asks (.func (.func 210) #[] #[ptr x, ptr y]) (okP k m.ref) w := by
  intro p w' K hb hK
  refine ⟨bod210, lift210 ?_⟩
  have hx' := (blk_below hb (lt_of_blk hx)).trans hx
  have hy' := (blk_below hb (lt_of_blk hy)).trans hy
  have hn : ¬ x = w'.heap.size := Nat.ne_of_lt (lt_of_blk hx')
  have hm : ¬ y = w'.heap.size := Nat.ne_of_lt (lt_of_blk hy')
  unfold L210
  unfold Mv.cs at hx'
  have h := hK _ ((Below.refl _ w').alloc (Nat.le_refl _) (Obj.cells #[.int .i64 p.seq, .int .i64 p.kind, .string p.lot, .int .i64 p.qty, .int .i64 p.value, .int .i64 p.used, .int .i64 p.usedV] 105))
  by_cases h1 : p.seq = m.ref
  · simp [okP, h0, h1] at h
    simp [Pa.v, Pa.cs, l_new, ptr, hx', hy', hn, hm, h1]
    exact h
  · simp [okP, h1] at h
    simp [Pa.v, Pa.cs, l_new, ptr, hx', hy', hn, hm, h1]
    exact h
theorem u25 : Tryz.prog.underlying 25 = some (.slice 103) := by kernel_rfl
theorem clone_ly {v : Value} {l : List Ly} (h : Rd LyE w v l) (hn : l.length ≤ 1000000) {K : Value → World → Prop}
    (hK : ∀ w' v', Own LyE 103 w' w.heap.size v' l → Below w.heap.size w w' → K v' w') : Ret Tryz.prog 96 [v] w K := by
  refine lift96 ?_
  unfold L96
  obtain ⟨a, cap, hv, hm⟩ := h.slice
  have eq0 := (q_eq_slice (P := Tryz.prog) u25 a l.length cap).1
  rw [hv, eq0, onSome_some]
  cases a with
  | none =>
    have hl : l = [] := by
      cases l with
      | nil => rfl
      | cons y r =>
        obtain ⟨ad, hq, _⟩ := lyElem h (i := 0) (by simp)
        rw [hv] at hq
        cases hq
    subst hl
    simp only [Option.isNone_none, xif_true]
    exact hK _ _ (Own.nil _ _ _ _) (Below.refl _ _)
  | some ad =>
    simp only [Option.isNone_some, xif_false]
    unfold l_lit
    simp only [fillC_nil, onSome_some]
    have ho : Own LyE 103 (w.alloc (.cells #[] 103)) w.heap.size (.slice (some ⟨w.heap.size, 0, none⟩) 0 0) [] :=
      .inr ⟨w.heap.size, 0, #[], rfl, Nat.le_refl _, by simp, Nat.le_refl _, by decide, by simp, rfl⟩
    have hb := (Below.refl w.heap.size w).alloc (Nat.le_refl _) (.cells #[] 103)
    have hr := h.below hb
    rw [hv] at hr
    refine app_ly ho hr hb.size (by simpa using hn) (fun v' w2 ho2 hg2 => ?_)
    exact hK _ _ (by simpa using ho2) (hb.grown hg2 hb.size (fun k hk => by simp only [Value.ownBlock, Option.some.injEq] at hk; omega))
end Go.X
end
section
set_option linter.unusedVariables false
set_option linter.unusedSimpArgs false
namespace Go.X
open Go.Proofs Go.RowKit
attribute [local irreducible] l_append l_copy l_make l_run q_slice q_eq q_index
variable {w w' : World} {B x : Nat} {s : St} {lv pv : Value} {m : Mv}
theorem avg_copied {s : St} {lv pv : Value} (hl : Rd LyE w lv s.layers) (hp : Rd PaE w pv s.past) (hnl : s.layers.length ≤ 1000000) (hnp : s.past.length ≤ 1000000) {K : Value → World → Prop}
    (hK : ∀ w' lv' pv', Own LyE 103 w' w.heap.size lv' s.layers → Own PaE 105 w' w.heap.size pv' s.past → Below w.heap.size w w' → K (StV s lv' pv') w') : Ret Tryz.prog 72 [StV s lv pv] w K := by
  refine lift72 ?_
  unfold L72 StV
  simp [l_new]
  obtain ⟨w2, hw2⟩ : ∃ w2, ((w.alloc (Obj.cells #[Value.int IntKind.i64 s.qty, Value.int IntKind.i64 s.value, Value.int IntKind.i64 s.price, lv, pv] 28)).alloc
                  (Obj.cells #[Value.int IntKind.i64 0, Value.int IntKind.i64 0, Value.int IntKind.i64 0, Value.slice none 0 0, Value.slice none 0 0] 28)) = w2 := ⟨_, rfl⟩
  have hb2 : Below w.heap.size w w2 := by rw [← hw2]; exact (((Below.refl _ _).alloc (Nat.le_refl _) _).alloc (by simp) _)
  have hk0 : X.blk w2 w.heap.size = some (.cells #[.int .i64 s.qty, .int .i64 s.value, .int .i64 s.price, lv, pv] 28 (0, 0)) := by rw [← hw2]; simp
  have hk1 : X.blk w2 (w.heap.size + 1) = some (.cells #[.int .i64 0, .int .i64 0, .int .i64 0, .slice none 0 0, .slice none 0 0] 28 (0, 0)) := by rw [← hw2]; simp
  rw [hw2]
  clear hw2
  rw [hp.len, onSome_some]
  refine mk_pa (B := w.heap.size) hb2.size hnp (fun w3 v3 ho3 hb3 => ?_)
  have hb03 := hb2.then hb3
  have hk03 := (blk_below hb3 (lt_of_blk hk0)).trans hk0
  have hk13 := (blk_below hb3 (lt_of_blk hk1)).trans hk1
  rw [show cellO (X.blk w3 w.heap.size) 4 = some pv by rw [hk03]; rfl, onSome_some]
  refine cp_pa ho3 (hp.below hb03) (by simp) (fun u w4 ho4 hg4 => ?_)
  have hk04 := (hg4.block _ (lt_of_blk hk03) (own_blk ho3 hk03 (by decide))).trans hk03
  have hk14 := (hg4.block _ (lt_of_blk hk13) (own_blk ho3 hk13 (by decide))).trans hk13
  have hb04 : Below w.heap.size w w4 := hb03.grown hg4 hb03.size (fun k hk => (ho3.lt k hk).1)
  have hk04' : X.blk w4 w.heap.size = _ := hk04
  have hk14' : X.blk w4 (w.heap.size + 1) = _ := hk14
  have c4 := own_cells ho4
  simp [hk04', c4.1, c4.2]
  have ho5 := ho4.putL (o := 4) (vs := [v3]) hk04' (by decide)
  have hb05 := below_putL hb04 (Nat.le_refl _) [v3] 4
  have hk05 : X.blk (X.putL w4 w.heap.size 4 [v3]) w.heap.size = some (.cells #[.int .i64 s.qty, .int .i64 s.value, .int .i64 s.price, lv, v3] 28 (0, 0)) := by simp [hk04']
  have hk15 : X.blk (X.putL w4 w.heap.size 4 [v3]) (w.heap.size + 1) = some (.cells #[.int .i64 0, .int .i64 0, .int .i64 0, .slice none 0 0, .slice none 0 0] 28 (0, 0)) := by simp [hk14']
  generalize X.putL w4 w.heap.size 4 [v3] = w5 at *
  refine clone_ly (hl.below hb05) hnl (fun w6 v6 ho6 hb6 => ?_)
  have hk06 := (blk_below hb6 (lt_of_blk hk05)).trans hk05
  have hk16 := (blk_below hb6 (lt_of_blk hk15)).trans hk15
  have ho56 := ho5.below hb6
  have hb06 := hb05.then hb6
  have c6 := own_cells ho6
  simp [hk06, hk16, c6.1, c6.2, c4.1, c4.2]
  have p1 := (ho6.lower hb05.size).putL (o := 3) (vs := [v6]) hk06 (by decide)
  have q1 := ho56.putL (o := 3) (vs := [v6]) hk06 (by decide)
  have k1' : X.blk (X.putL w6 w.heap.size 3 [v6]) (w.heap.size + 1) = some (.cells #[.int .i64 0, .int .i64 0, .int .i64 0, .slice none 0 0, .slice none 0 0] 28 (0, 0)) := by simp [hk16]
  have p3 := p1.putL (o := 0) (vs := [.int .i64 s.qty, .int .i64 s.value, .int .i64 s.price, v6, v3]) k1' (by decide)
  have q3 := q1.putL (o := 0) (vs := [.int .i64 s.qty, .int .i64 s.value, .int .i64 s.price, v6, v3]) k1' (by decide)
  exact hK _ v6 v3 p3 q3 (below_putL (below_putL hb06 (Nat.le_refl _) _ _) (by omega) _ _)
def idx0 (o : Option Nat) : Int := match o with | none => 0 | some i => i
def refT (k : Int) (s : St) (m : Mv) : Value := .tuple #[.int .i64 (idx0 (refS k s m).1), .int .i64 (refS k s m).2]
theorem avg_ref {ty : TypeId} {r : List Value} {k : Int} (h : SX ty r w B x s lv pv) (h0 : k ≠ 0) : Calc 173 [ptr x, m.v, .int .i64 k] w (refT k s m) := by
  intro K hK
  refine lift173 ?_
  unfold L173
  have hb := h.blk
  unfold scells at hb
  have hx1 : ¬ x = w.heap.size := Nat.ne_of_lt (lt_of_blk hb)
  have hx2 : ¬ x = w.heap.size + 1 := by have := lt_of_blk hb; omega
  simp [ptr, l_new, hb, hx1, hx2]
  obtain ⟨w2, hw2⟩ : ∃ w2, (w.alloc (Obj.cells #[Value.int IntKind.i64 m.seq, Value.int IntKind.i64 m.value, Value.string m.item, Value.int IntKind.i64 m.kind, Value.int IntKind.i64 m.qty, Value.int IntKind.i64 m.cost, Value.string m.lot, Value.int IntKind.i64 m.ref] 47)).alloc (Obj.cells #[Value.int IntKind.i64 k] 3) = w2 := ⟨_, rfl⟩
  have hb2 : Below w.heap.size w w2 := by rw [← hw2]; exact (((Below.refl _ _).alloc (Nat.le_refl _) _).alloc (by simp) _)
  have hm2 : X.blk w2 w.heap.size = some (.cells m.cs 47 (0, 0)) := by rw [← hw2]; simp [Mv.cs]
  have hk2 : X.blk w2 (w.heap.size + 1) = some (.cells #[.int .i64 k] 3 (0, 0)) := by rw [← hw2]; simp
  rw [hw2]
  clear hw2
  have h2 := h.called hb2
  refine avg_find (Rd.of_own h2.pa) (asks210 h0 hm2 hk2) _ (fun w3 hb3 => ?_)
  have hb03 := hb2.then hb3
  have h3 := h2.called hb3
  have hm3 := (blk_below hb3 (lt_of_blk hm2)).trans hm2
  unfold refT refS findP at hK
  cases hf : idxF (okP k m.ref) s.past with
  | none =>
    simp only [hf] at hK
    simp [idxV]
    exact hK _ hb03
  | some i =>
    obtain ⟨hi, _⟩ := idxF_lt hf
    simp only [hf, List.getElem?_eq_getElem hi] at hK
    have hb4 := h3.blk
    unfold scells at hb4
    have hi0 : ¬ (i : Int) < 0 := by omega
    simp [idxV, hi0, hb4]
    obtain ⟨ad, hq, hload⟩ := paElem (Rd.of_own h3.pa) hi
    unfold Mv.cs at hm3
    have hn3 : ¬ w.heap.size = w3.heap.size := Nat.ne_of_lt (lt_of_blk hm3)
    have hn3' : ¬ w3.heap.size = w.heap.size := fun e => hn3 e.symm
    rw [hq, onSome_some, hload, onSome_some]
    simp [hm3, hn3, hn3']
    have hb5 := below_putL (hb03.alloc hb03.size (Obj.cells #[Value.int IntKind.i64 0, Value.int IntKind.i64 0, Value.string { data := #[] }, Value.int IntKind.i64 0, Value.int IntKind.i64 0, Value.int IntKind.i64 0, Value.int IntKind.i64 0] 105)) hb03.size [Value.int IntKind.i64 s.past[i].seq, Value.int IntKind.i64 s.past[i].kind, Value.string s.past[i].lot, Value.int IntKind.i64 s.past[i].qty, Value.int IntKind.i64 s.past[i].value, Value.int IntKind.i64 s.past[i].used, Value.int IntKind.i64 s.past[i].usedV] 0
    have hk := hK _ hb5
    refine xif_dec (fun hc => ?_) (fun hc => ?_)
    · rw [if_pos hc] at hk
      exact hk
    · rw [if_neg hc] at hk
      exact hk
end Go.X
end
section
set_option linter.unusedVariables false
set_option linter.unusedSimpArgs false
namespace Go.X
open Go.Proofs Go.RowKit
attribute [local irreducible] l_append l_copy l_make l_run q_slice q_eq q_index q_build onSome l_lit
variable {w w' : World} {B x : Nat} {s : St} {lv pv : Value} {m : Mv} {ty : TypeId} {r : List Value}
def Co.v (c : Co) : Value := .agg #[.int .i64 c.seq, .int .i64 c.qty, .int .i64 c.value, .int .i64 c.var]
/-- The blocks of a call's own: the movement, and a cost. -/
theorem SX.locals (h : SX ty r w B x s lv pv) (m : Mv) : ∃ w2, ((w.alloc (Obj.cells #[.int .i64 m.seq, .int .i64 m.value, .string m.item, .int .i64 m.kind, .int .i64 m.qty, .int .i64 m.cost, .string m.lot, .int .i64 m.ref] 47)).alloc (Obj.cells #[.int .i64 0, .int .i64 0, .int .i64 0, .int .i64 0] 43)) = w2 ∧
    SX ty r w2 B x s lv pv ∧ Did (ST ty) B w w2 ∧ X.blk w2 w.heap.size = some (.cells m.cs 47 (0, 0)) ∧ X.blk w2 (w.heap.size + 1) = some (.cells #[.int .i64 0, .int .i64 0, .int .i64 0, .int .i64 0] 43 (0, 0)) :=
  ⟨_, rfl, (h.alloc _).alloc _, ((Did.refl _ _ _).alloc h.size _).alloc (Nat.le_trans h.size (by simp)) _, by simp [Mv.cs], by simp⟩
/-- The end of an operation: the cost's block is written, and read. -/
theorem cost_end {c5 : Nat} {a b d e : Value} (c : Co) (h : SX ty r w B x s lv pv) (hc : X.blk w c5 = some (.cells #[a, b, d, e] 43 (0, 0))) (h43 : (43 : TypeId) ∉ ST ty) {K : Value → World → Prop} {w0 : World} (hB : B ≤ c5) (h0 : w0.heap.size ≤ c5) (hd : Did (ST ty) B w0 w)
    (hK : ∀ w', SX ty r w' B x s lv pv → Did (ST ty) B w0 w' → K c.v w') :
    l_store 4 (.pointer (some ⟨c5, 0, none⟩)) (.agg #[.int .i64 c.seq, .int .i64 c.qty, .int .i64 c.value, .int .i64 c.var]) w fun _ W => onSome (loadO 4 (X.blk W c5) 0) fun v => K v W := by
  have hK' := hK _ (h.other (o := 0) (vs := [.int .i64 c.seq, .int .i64 c.qty, .int .i64 c.value, .int .i64 c.var]) hc h43) (hd.putNew h0 hB)
  simp [hc]
  exact hK'
/-- What an operation does: the state, its memory, the answer. -/
def AvgOk (f : FuncId) (F : St → Mv → St × Co × Int) : Prop :=
  ∀ (w : World) (B x : Nat) (s : St) (lv pv : Value) (m : Mv) (K : Value → World → Prop), SX 28 [] w B x s lv pv → s.Ok 900000 → m.Ok →
    (∀ w' lv' pv', SX 28 [] w' B x (F s m).1 lv' pv' → Did (ST 28) B w w' → K (.tuple #[(F s m).2.1.v, .int .i64 (F s m).2.2]) w') → Ret Tryz.prog f [ptr x, m.v] w K
theorem t43 : (43 : TypeId) ∉ ST 28 := by decide
theorem t47 : (47 : TypeId) ∉ ST 28 := by decide
theorem avg_receive (h : SX 28 [] w B x s lv pv) (hs : s.Ok 900000) {K : Value → World → Prop}
    (hK : ∀ w' lv' pv', SX 28 [] w' B x (avgReceive s m).1 lv' pv' → Did (ST 28) B w w' → K (avgReceive s m).2.1.v w') : Ret Tryz.prog 119 [ptr x, m.v] w K := by
  refine lift119 ?_
  unfold L119
  have hsz := h.size
  have np := hs.np
  have hb := h.blk
  unfold scells at hb
  have hx1 : ¬ x = w.heap.size := Nat.ne_of_lt (lt_of_blk hb)
  have hx2 : ¬ x = w.heap.size + 1 := by have := lt_of_blk hb; omega
  simp [ptr, l_new, hb, hx1, hx2]
  refine (h.locals m).elim fun w2 hh => ?_
  have e2 := hh.1
  have h2 := hh.2.1
  have hd2 := hh.2.2.1
  have hm2 := hh.2.2.2.1
  have hc2 := hh.2.2.2.2
  clear hh
  rw [e2]
  clear e2
  rw [build_of (cs := #[.int .i64 m.seq, .int .i64 m.kind, .string m.lot, .int .i64 m.qty, .int .i64 m.cost, .int .i64 0, .int .i64 0]) (by simp), onSome_some]
  refine h2.drew.past (a := mkPa m m.cost) (by omega) (fun w3 pv3 hx3 hc3 ho3 h3 hd3 hd3' => ?_)
  rw [l_store_to (by simp [hx3, scells, hc3, ho3]), hc3]
  have hd03 := hd2.drew.trans hd3
  have hm3 := hd3.keeps.blk (a := w2.drew) hm2 (by decide)
  have hc3' := hd3.keeps.blk (a := w2.drew) hc2 (by decide)
  rw [show ([pv3] : List Value) = #[pv3].toList from rfl] at h3 hd03 hm3 hc3'
  generalize X.putL w3 x 4 #[pv3].toList = w4 at *
  unfold Mv.cs at hm3
  simp only [hm3]
  simp
  rw [build_of (cs := #[.int .i64 m.seq, .int .i64 m.qty, .int .i64 m.cost, .int .i64 0]) (by simp), onSome_some]
  exact cost_end ⟨m.seq, m.qty, m.cost, 0⟩ h3 hc3' t43 (by omega) (by omega) hd03 (fun w5 h5 hd5 => hK _ _ _ h5 hd5)
theorem avg_issue : AvgOk 120 avgIssue := by
  intro w B x s lv pv m K h hs hm hK
  refine lift120 ?_
  unfold L120
  have hsz := h.size
  have np := hs.np
  have hb := h.blk
  unfold scells at hb
  have hx1 : ¬ x = w.heap.size := Nat.ne_of_lt (lt_of_blk hb)
  have hx2 : ¬ x = w.heap.size + 1 := by have := lt_of_blk hb; omega
  simp [ptr, l_new, hb, hx1, hx2]
  refine (h.locals m).elim fun w2 hh => ?_
  have e2 := hh.1
  have h2 := hh.2.1
  have hd2 := hh.2.2.1
  have hm2 := hh.2.2.2.1
  have hc2 := hh.2.2.2.2
  clear hh
  simp only [e2]
  clear e2
  unfold avgIssue at hK
  refine xif_dec (fun hq => ?_) (fun hq => ?_)
  · rw [if_pos hq] at hK
    rw [build_of (cs := #[.int .i64 0, .int .i64 0, .int .i64 0, .int .i64 0]) (by simp), onSome_some]
    exact cost_end Co.zero h2.drew (w := w2.drew) hc2 t43 (by omega) (by omega) hd2.drew (K := fun v W => K (.tuple #[v, .int .i64 21]) W) (fun w5 h5 hd5 => hK _ _ _ h5 hd5)
  · rw [if_neg hq] at hK
    refine avg_part hs.value hm.qty hs.qty _ (fun w3 hb3 => ?_)
    have h3 := h2.drew.drew.called hb3
    have hd3 := hd2.drew.drew.called hb3 h2.size
    have hm3 := (blk_below hb3 (lt_of_blk (w := w2.drew.drew) hm2)).trans hm2
    have hc3 := (blk_below hb3 (lt_of_blk (w := w2.drew.drew) hc2)).trans hc2
    have hb4 := h3.blk
    unfold scells at hb4
    unfold Mv.cs at hm3
    simp [hb4, hm3]
    rw [build_of (cs := #[.int .i64 m.seq, .int .i64 m.kind, .string m.lot, .int .i64 m.qty, .int .i64 (partV s.value m.qty s.qty), .int .i64 0, .int .i64 0]) (by simp), onSome_some]
    refine h3.drew.past (a := mkPa m (partV s.value m.qty s.qty)) (by omega) (fun w4 pv4 hx4 hc4 ho4 h4 hd4 _ => ?_)
    rw [l_store_to (by simp [hx4, scells, hc4, ho4]), hc4]
    have hd04 := hd3.drew.trans hd4
    have hm4 := hd4.keeps.blk (a := w3.drew) hm3 (by decide)
    have hc4' := hd4.keeps.blk (a := w3.drew) hc3 (by decide)
    rw [show ([pv4] : List Value) = #[pv4].toList from rfl] at h4 hd04 hm4 hc4'
    generalize X.putL w4 x 4 #[pv4].toList = w5 at *
    simp only [hm4]
    simp
    rw [build_of (cs := #[.int .i64 m.seq, .int .i64 (IntKind.i64.wrap (0 - m.qty)), .int .i64 (IntKind.i64.wrap (0 - partV s.value m.qty s.qty)), .int .i64 0]) (by simp), onSome_some]
    exact cost_end ⟨m.seq, IntKind.i64.wrap (0 - m.qty), IntKind.i64.wrap (0 - partV s.value m.qty s.qty), 0⟩ h4 hc4' t43 (by omega) (by omega) hd04 (K := fun v W => K (.tuple #[v, .int .i64 0]) W) (fun w5 h5 hd5 => hK _ _ _ h5 hd5)
theorem avg_back : AvgOk 121 avgBack := by
  intro w B x s lv pv m K h hs hm hK
  refine lift121 ?_
  unfold L121
  have hsz := h.size
  have hb := h.blk
  unfold scells at hb
  have hx1 : ¬ x = w.heap.size := Nat.ne_of_lt (lt_of_blk hb)
  have hx2 : ¬ x = w.heap.size + 1 := by have := lt_of_blk hb; omega
  simp [ptr, l_new, hb, hx1, hx2]
  obtain ⟨w2, e2, h2, hd2, hm2, hc2⟩ := h.locals m
  simp only [e2]
  clear e2
  refine avg_ref (m := m) h2 (by decide) _ (fun w3 hb3 => ?_)
  have h3 := h2.called hb3
  have hd3 := hd2.called hb3 h2.size
  have hm3 := (blk_below hb3 (lt_of_blk hm2)).trans hm2
  have hc3 := (blk_below hb3 (lt_of_blk hc2)).trans hc2
  unfold refT
  simp
  cases hr : (refS 2 s m).1 with
  | none =>
    have hn := refS_none hr
    have e : avgBack s m = (s, Co.zero, (refS 2 s m).2) := by unfold avgBack; simp only [hr]
    rw [e] at hK
    simp [hn]
    rw [build_of (cs := #[.int .i64 0, .int .i64 0, .int .i64 0, .int .i64 0]) (by simp), onSome_some]
    exact cost_end Co.zero h3 hc3 t43 (by omega) (by omega) hd3 (K := fun v W => K (.tuple #[v, .int .i64 (refS 2 s m).2]) W) (fun w5 h5 hd5 => hK _ _ _ h5 hd5)
  | some i =>
    obtain ⟨hi, h0, hle⟩ := refS_lt hr
    obtain ⟨v, hv⟩ : ∃ v, v = partV (IntKind.i64.wrap (s.past[i].value - s.past[i].usedV)) m.qty (IntKind.i64.wrap (s.past[i].qty - s.past[i].used)) := ⟨_, rfl⟩
    have e : avgBack s m = (s.setP (s.past.set i ⟨s.past[i].seq, s.past[i].kind, s.past[i].lot, s.past[i].qty, s.past[i].value, IntKind.i64.wrap (s.past[i].used + m.qty), IntKind.i64.wrap (s.past[i].usedV + v)⟩), ⟨m.seq, m.qty, v, 0⟩, 0) := by
      rw [hv]
      unfold avgBack
      simp only [hr, List.getElem?_eq_getElem hi]
    rw [e] at hK
    have hb3 := h3.blk
    unfold scells at hb3
    obtain ⟨g, cap, hpv, hBg, ⟨cur, hcur, hszc⟩, hat⟩ := h3.pa.paAt hi
    have hi' : (i : Int) < (s.past.length : Int) := by omega
    unfold Mv.cs at hm3
    simp [h0, idx0, hb3, hpv, hi', hat.c3, hat.c4, hat.c5, hat.c6, hm3]
    have pk := hs.past _ (List.getElem_mem hi)
    refine avg_part (I64.wrap _) hm.qty (I64.wrap _) _ (fun w4 hb4 => ?_)
    rw [← hv]
    clear hv e
    have h4 := h3.drew.called hb4
    have hd4 := hd3.drew.called hb4 h3.size
    have hm4 := (blk_below hb4 (lt_of_blk (w := w3.drew) hm3)).trans hm3
    have hc4 := (blk_below hb4 (lt_of_blk (w := w3.drew) hc3)).trans hc3
    have hcur4 := (blk_below hb4 (lt_of_blk (w := w3.drew) hcur)).trans hcur
    have c5 : cur[i * 7 + 5]? = some (.int .i64 s.past[i].used) := by have := hat.c5; rwa [hcur, cellO_cells] at this
    have c6 : cur[i * 7 + 6]? = some (.int .i64 s.past[i].usedV) := by have := hat.c6; rwa [hcur, cellO_cells] at this
    have n1 : ¬ g = w.heap.size := ne_of_type hcur4 hm4 (by decide)
    have n2 : ¬ g = w.heap.size + 1 := ne_of_type hcur4 hc4 (by decide)
    have hsz' : i * 7 + 7 ≤ cur.size := by omega
    simp [hcur4, hm4, hc4, n1, n2, c5, c6, show i * 7 + 5 + 1 ≤ cur.size by omega, show i * 7 + 6 + 1 ≤ cur.size by omega]
    have h5 := h4.drew.cellP (j := 5) (u := .int .i64 (IntKind.i64.wrap (s.past[i].used + m.qty))) (a := ⟨s.past[i].seq, s.past[i].kind, s.past[i].lot, s.past[i].qty, s.past[i].value, IntKind.i64.wrap (s.past[i].used + m.qty), s.past[i].usedV⟩) hpv hi (by decide) rfl
    have h6 := h5.1.cellP (i := i) (j := 6) (u := .int .i64 (IntKind.i64.wrap (s.past[i].usedV + v))) (a := ⟨s.past[i].seq, s.past[i].kind, s.past[i].lot, s.past[i].qty, s.past[i].value, IntKind.i64.wrap (s.past[i].used + m.qty), IntKind.i64.wrap (s.past[i].usedV + v)⟩)
      (by simp only [St.setP_p, List.length_set]; exact hpv) (by simp only [St.setP_p, List.length_set]; exact hi) (by decide) (by simp [Pa.cs])
    have h6' := h6.1
    simp only [St.setP_p, St.setP_P, List.set_set] at h6'
    have hd6 := (hd4.drew.trans h5.2).trans h6.2
    rw [build_of (cs := #[.int .i64 m.seq, .int .i64 m.qty, .int .i64 v, .int .i64 0]) (by simp), onSome_some]
    have hc6 : X.blk (X.putL (X.putL w4.drew g (i * 7 + 5) [.int .i64 (IntKind.i64.wrap (s.past[i].used + m.qty))]) g (i * 7 + 6) [.int .i64 (IntKind.i64.wrap (s.past[i].usedV + v))]) (w.heap.size + 1) = some (.cells #[.int .i64 0, .int .i64 0, .int .i64 0, .int .i64 0] 43 (0, 0)) := by
      simp [n2, hc4]
    exact cost_end ⟨m.seq, m.qty, v, 0⟩ h6' hc6 t43 (by omega) (by omega) hd6 (K := fun v W => K (.tuple #[v, .int .i64 0]) W) (fun w5 h5 hd5 => hK _ _ _ h5 hd5)
theorem avg_send : AvgOk 122 avgSend := by
  intro w B x s lv pv m K h hs hm hK
  refine lift122 ?_
  unfold L122
  have hsz := h.size
  have hb := h.blk
  unfold scells at hb
  have hx1 : ¬ x = w.heap.size := Nat.ne_of_lt (lt_of_blk hb)
  have hx2 : ¬ x = w.heap.size + 1 := by have := lt_of_blk hb; omega
  simp [ptr, l_new, hb, hx1, hx2]
  obtain ⟨w2, e2, h2, hd2, hm2, hc2⟩ := h.locals m
  simp only [e2]
  clear e2
  refine avg_ref (m := m) h2 (by decide) _ (fun w3 hb3 => ?_)
  have h3 := h2.called hb3
  have hd3 := hd2.called hb3 h2.size
  have hm3 := (blk_below hb3 (lt_of_blk hm2)).trans hm2
  have hc3 := (blk_below hb3 (lt_of_blk hc2)).trans hc2
  unfold refT
  simp
  cases hr : (refS 1 s m).1 with
  | none =>
    have hn := refS_none hr
    have e : avgSend s m = (s, Co.zero, (refS 1 s m).2) := by unfold avgSend; simp only [hr]
    rw [e] at hK
    simp [hn]
    rw [build_of (cs := #[.int .i64 0, .int .i64 0, .int .i64 0, .int .i64 0]) (by simp), onSome_some]
    exact cost_end Co.zero h3 hc3 t43 (by omega) (by omega) hd3 (K := fun v W => K (.tuple #[v, .int .i64 (refS 1 s m).2]) W) (fun w5 h5 hd5 => hK _ _ _ h5 hd5)
  | some i =>
    obtain ⟨hi, h0, hle⟩ := refS_lt hr
    obtain ⟨v, hv⟩ : ∃ v, v = partV s.value m.qty s.qty := ⟨_, rfl⟩
    have e : avgSend s m = if s.qty < m.qty then (s, Co.zero, 21) else (s.setP (s.past.set i ⟨s.past[i].seq, s.past[i].kind, s.past[i].lot, s.past[i].qty, s.past[i].value, IntKind.i64.wrap (s.past[i].used + m.qty), s.past[i].usedV⟩), ⟨m.seq, IntKind.i64.wrap (0 - m.qty), IntKind.i64.wrap (0 - v), IntKind.i64.wrap (v - m.cost)⟩, 0) := by
      rw [hv]
      unfold avgSend
      simp only [hr, List.getElem?_eq_getElem hi]
    rw [e] at hK
    have hb3 := h3.blk
    unfold scells at hb3
    have hi' : (i : Int) < (s.past.length : Int) := by omega
    unfold Mv.cs at hm3
    simp [h0, idx0, hb3, hm3]
    refine xif_dec (fun hq => ?_) (fun hq => ?_)
    · rw [if_pos hq] at hK
      rw [build_of (cs := #[.int .i64 0, .int .i64 0, .int .i64 0, .int .i64 0]) (by simp), onSome_some]
      exact cost_end Co.zero h3.drew (w := w3.drew) hc3 t43 (by omega) (by omega) hd3.drew (K := fun v W => K (.tuple #[v, .int .i64 21]) W) (fun w5 h5 hd5 => hK _ _ _ h5 hd5)
    rw [if_neg hq] at hK
    refine avg_part hs.value hm.qty hs.qty _ (fun w4 hb4 => ?_)
    rw [← hv]
    clear hv e
    have h4 := h3.drew.drew.called hb4
    have hd4 := hd3.drew.drew.called hb4 h3.size
    have hm4 := (blk_below hb4 (lt_of_blk (w := w3.drew.drew) hm3)).trans hm3
    have hc4 := (blk_below hb4 (lt_of_blk (w := w3.drew.drew) hc3)).trans hc3
    have hb4' := h4.blk
    unfold scells at hb4'
    obtain ⟨g, cap, hpv, hBg, ⟨cur, hcur4, hszc⟩, hat⟩ := h4.pa.paAt hi
    have c5 : cur[i * 7 + 5]? = some (.int .i64 s.past[i].used) := by have := hat.c5; rwa [hcur4, cellO_cells] at this
    have n1 : ¬ g = w.heap.size := ne_of_type hcur4 hm4 (by decide)
    have n2 : ¬ g = w.heap.size + 1 := ne_of_type hcur4 hc4 (by decide)
    have hsz' : i * 7 + 7 ≤ cur.size := by omega
    simp [hb4', hpv, hi', hcur4, hm4, hc4, n1, n2, c5, show i * 7 + 5 + 1 ≤ cur.size by omega]
    have h5 := h4.drew.cellP (j := 5) (u := .int .i64 (IntKind.i64.wrap (s.past[i].used + m.qty))) (a := ⟨s.past[i].seq, s.past[i].kind, s.past[i].lot, s.past[i].qty, s.past[i].value, IntKind.i64.wrap (s.past[i].used + m.qty), s.past[i].usedV⟩) hpv hi (by decide) rfl
    have hd5 := hd4.drew.trans h5.2
    rw [build_of (cs := #[.int .i64 m.seq, .int .i64 (IntKind.i64.wrap (0 - m.qty)), .int .i64 (IntKind.i64.wrap (0 - v)), .int .i64 (IntKind.i64.wrap (v - m.cost))]) (by simp), onSome_some]
    have hc5 : X.blk (X.putL w4.drew g (i * 7 + 5) [.int .i64 (IntKind.i64.wrap (s.past[i].used + m.qty))]) (w.heap.size + 1) = some (.cells #[.int .i64 0, .int .i64 0, .int .i64 0, .int .i64 0] 43 (0, 0)) := by
      simp [n2, hc4]
    exact cost_end ⟨m.seq, IntKind.i64.wrap (0 - m.qty), IntKind.i64.wrap (0 - v), IntKind.i64.wrap (v - m.cost)⟩ h5.1 hc5 t43 (by omega) (by omega) hd5 (K := fun v W => K (.tuple #[v, .int .i64 0]) W) (fun w5 h5 hd5 => hK _ _ _ h5 hd5)
theorem avg_land : AvgOk 123 avgLand := by
  intro w B x s lv pv m K h hs hm hK
  refine lift123 ?_
  unfold L123
  have hsz := h.size
  have hb := h.blk
  unfold scells at hb
  have hx1 : ¬ x = w.heap.size := Nat.ne_of_lt (lt_of_blk hb)
  have hx2 : ¬ x = w.heap.size + 1 := by have := lt_of_blk hb; omega
  simp [ptr, l_new, hb, hx1, hx2]
  obtain ⟨w2, e2, h2, hd2, hm2, hc2⟩ := h.locals m
  simp only [e2]
  clear e2
  refine avg_ref (m := m) h2 (by decide) _ (fun w3 hb3 => ?_)
  have h3 := h2.called hb3
  have hd3 := hd2.called hb3 h2.size
  have hm3 := (blk_below hb3 (lt_of_blk hm2)).trans hm2
  have hc3 := (blk_below hb3 (lt_of_blk hc2)).trans hc2
  unfold refT
  simp
  cases hr : (refS 1 s m).1 with
  | none =>
    have hn := refS_none hr
    have e : avgLand s m = (s, Co.zero, (refS 1 s m).2) := by unfold avgLand; simp only [hr]
    rw [e] at hK
    simp [hn]
    rw [build_of (cs := #[.int .i64 0, .int .i64 0, .int .i64 0, .int .i64 0]) (by simp), onSome_some]
    exact cost_end Co.zero h3 hc3 t43 (by omega) (by omega) hd3 (K := fun v W => K (.tuple #[v, .int .i64 (refS 1 s m).2]) W) (fun w5 h5 hd5 => hK _ _ _ h5 hd5)
  | some i =>
    obtain ⟨hi, h0, hle⟩ := refS_lt hr
    obtain ⟨v, hv⟩ : ∃ v, v = partV m.cost (if s.qty < s.past[i].qty then s.qty else s.past[i].qty) s.past[i].qty := ⟨_, rfl⟩
    have e : avgLand s m = (s, ⟨m.seq, 0, v, IntKind.i64.wrap (m.cost - v)⟩, 0) := by
      rw [hv]
      unfold avgLand
      simp only [hr, List.getElem?_eq_getElem hi]
    rw [e] at hK
    have hb3 := h3.blk
    unfold scells at hb3
    obtain ⟨g, cap, hpv, hBg, _, hat⟩ := h3.pa.paAt hi
    have hi' : (i : Int) < (s.past.length : Int) := by omega
    unfold Mv.cs at hm3
    simp [h0, idx0, hb3, hpv, hi', hat.c3, hm3]
    have pk := hs.past _ (List.getElem_mem hi)
    refine avg_part hm.cost (by split; exact hs.qty; exact pk.qty) pk.qty _ (fun w4 hb4 => ?_)
    rw [← hv]
    clear hv e
    have h4 := h3.drew.called hb4
    have hd4 := hd3.drew.called hb4 h3.size
    have hm4 := (blk_below hb4 (lt_of_blk (w := w3.drew) hm3)).trans hm3
    have hc4 := (blk_below hb4 (lt_of_blk (w := w3.drew) hc3)).trans hc3
    simp [hm4]
    rw [build_of (cs := #[.int .i64 m.seq, .int .i64 0, .int .i64 v, .int .i64 (IntKind.i64.wrap (m.cost - v))]) (by simp), onSome_some]
    exact cost_end ⟨m.seq, 0, v, IntKind.i64.wrap (m.cost - v)⟩ h4 hc4 t43 (by omega) (by omega) hd4 (K := fun v W => K (.tuple #[v, .int .i64 0]) W) (fun w5 h5 hd5 => hK _ _ _ h5 hd5)
end Go.X
end
section
set_option linter.unusedVariables false
set_option linter.unusedSimpArgs false
namespace Go.X
open Go.Proofs Go.RowKit
attribute [local irreducible] l_append l_copy l_make l_run q_slice q_eq q_index q_build onSome l_lit
variable {w w' : World} {B x : Nat} {s : St} {lv pv : Value} {m : Mv} {ty : TypeId} {r : List Value}
theorem avg_perform : AvgOk 73 avgDo := by
  intro w B x s lv pv m K h hs hm hK
  refine lift73 ?_
  unfold L73
  have hsz := h.size
  simp [ptr, l_new]
  obtain ⟨w2, e2, h2, hd2, hm2, hc2⟩ := h.locals m
  simp only [e2]
  clear e2
  unfold Mv.cs at hm2
  have fin : ∀ (k : FuncId) (F : St → Mv → St × Co × Int), AvgOk k F → avgDo s m = F s m →
      Ret Tryz.prog k [.pointer (some ⟨x, 0, none⟩), .agg #[.int .i64 m.seq, .int .i64 m.value, .string m.item, .int .i64 m.kind, .int .i64 m.qty, .int .i64 m.cost, .string m.lot, .int .i64 m.ref]] w2 fun t W =>
        onSome (q_extract t 0) fun t18 => onSome (q_extract t 1) fun t19 => l_store 4 (.pointer (some ⟨w.heap.size + 1, 0, none⟩)) t18 W fun _ W6 =>
        onSome (loadO 4 (X.blk W6 (w.heap.size + 1)) 0) fun c => K (.tuple #[c, t19]) W6 := by
    intro k F hF e
    rw [e] at hK
    refine hF w2 B x s lv pv m _ h2 hs hm (fun w3 lv3 pv3 h3 hd3 => ?_)
    simp only [q_extract_tuple]
    simp
    exact cost_end (F s m).2.1 h3 (hd3.keeps.blk hc2 (by decide)) t43 (by omega) (by omega) (hd2.trans hd3) (K := fun v W => K (.tuple #[v, .int .i64 (F s m).2.2]) W) (fun w5 h5 hd5 => hK _ _ _ h5 hd5)
  by_cases k1 : m.kind = 1
  · have e : avgDo s m = avgReceive s m := by unfold avgDo; rw [if_pos k1]
    rw [e] at hK
    have f : Ret Tryz.prog 119 [.pointer (some ⟨x, 0, none⟩), .agg #[.int .i64 m.seq, .int .i64 m.value, .string m.item, .int .i64 m.kind, .int .i64 m.qty, .int .i64 m.cost, .string m.lot, .int .i64 m.ref]] w2 fun t W =>
        l_store 4 (.pointer (some ⟨w.heap.size + 1, 0, none⟩)) t W fun _ W6 => onSome (loadO 4 (X.blk W6 (w.heap.size + 1)) 0) fun c => K (.tuple #[c, .int .i64 0]) W6 := by
      refine avg_receive (m := m) h2 hs (fun w3 lv3 pv3 h3 hd3 => ?_)
      exact cost_end (avgReceive s m).2.1 h3 (hd3.keeps.blk hc2 (by decide)) t43 (by omega) (by omega) (hd2.trans hd3) (K := fun v W => K (.tuple #[v, .int .i64 0]) W) (fun w5 h5 hd5 => hK _ _ _ h5 hd5)
    simp [k1, hm2] at f ⊢
    exact f
  by_cases k2 : m.kind = 2
  · have e : avgDo s m = avgIssue s m := by unfold avgDo; rw [if_neg k1, if_pos k2]
    have f := fin 120 _ avg_issue e
    simp [k2, hm2] at f ⊢
    exact f
  by_cases k3 : m.kind = 3
  · have e : avgDo s m = avgBack s m := by unfold avgDo; rw [if_neg k1, if_neg k2, if_pos k3]
    have f := fin 121 _ avg_back e
    simp [k3, hm2] at f ⊢
    exact f
  by_cases k4 : m.kind = 4
  · have e : avgDo s m = avgSend s m := by unfold avgDo; rw [if_neg k1, if_neg k2, if_neg k3, if_pos k4]
    have f := fin 122 _ avg_send e
    simp [k4, hm2] at f ⊢
    exact f
  by_cases k5 : m.kind = 5
  · have e : avgDo s m = avgLand s m := by unfold avgDo; rw [if_neg k1, if_neg k2, if_neg k3, if_neg k4, if_pos k5]
    have f := fin 123 _ avg_land e
    simp [k5, hm2] at f ⊢
    exact f
  · have e : avgDo s m = (s, Co.zero, 10) := by unfold avgDo; rw [if_neg k1, if_neg k2, if_neg k3, if_neg k4, if_neg k5]
    rw [e] at hK
    simp [k1, k2, k3, k4, k5, hm2]
    rw [build_of (cs := #[.int .i64 0, .int .i64 0, .int .i64 0, .int .i64 0]) (by simp), onSome_some]
    exact cost_end Co.zero h2 hc2 t43 (by omega) (by omega) hd2 (K := fun v W => K (.tuple #[v, .int .i64 10]) W) (fun w5 h5 hd5 => hK _ _ _ h5 hd5)
/-- A step that fails: both results are zero. -/
theorem step_fail {t c : Nat} {R : St × Co × Int} {e : Int} {a1 a2 a3 a4 a5 b1 b2 b3 b4 : Value} {W : World} {K : Value → World → Prop} (he : R = (St.zero, Co.zero, e))
    (hK : ∀ w' lv' pv', Own LyE 103 w' w.heap.size lv' R.1.layers → Own PaE 105 w' w.heap.size pv' R.1.past → Below w.heap.size w w' → K (stepR R lv' pv') w')
    (hb : Below w.heap.size w W) (ht : w.heap.size ≤ t) (hc : w.heap.size ≤ c) (h2 : X.blk W t = some (.cells #[a1, a2, a3, a4, a5] 28 (0, 0))) (h3 : X.blk W c = some (.cells #[b1, b2, b3, b4] 43 (0, 0))) :
    onSome (q_build #[.int .i64 0, .int .i64 0, .int .i64 0, .slice none 0 0, .slice none 0 0] []) fun t23 =>
        onSome (q_build #[.int .i64 0, .int .i64 0, .int .i64 0, .int .i64 0] []) fun t24 =>
        l_store 5 (Value.pointer (some { block := t, off := 0 })) t23 W fun x W8 =>
        l_store 4 (Value.pointer (some { block := c, off := 0 })) t24 W8 fun x W9 =>
        onSome (loadO 5 (X.blk W9 t) 0) fun t4_1 =>
        onSome (loadO 4 (X.blk W9 c) 0) fun c5_1 => K (Value.tuple #[t4_1, c5_1, .int .i64 e]) W9 := by
  have n1 : ¬ t = c := ne_of_type h2 h3 (by decide)
  have n2 : ¬ c = t := fun e => n1 e.symm
  rw [build_of (cs := #[.int .i64 0, .int .i64 0, .int .i64 0, .slice none 0 0, .slice none 0 0]) (by simp), onSome_some, build_of (cs := #[.int .i64 0, .int .i64 0, .int .i64 0, .int .i64 0]) (by simp), onSome_some]
  simp [h2, h3, n1, n2]
  rw [he] at hK
  exact hK _ (.slice none 0 0) (.slice none 0 0) (Own.nil _ _ _ _) (Own.nil _ _ _ _) (below_putL (below_putL hb ht _ _) hc _ _)
theorem avg_step : StepOk 33 avgV := by
  intro w s m lv pv K ht hm hs hlv hpv hK
  refine lift33 ?_
  unfold L33 StV
  have nl := hs.nl
  have np := hs.np
  have a1 : ¬ w.heap.size = w.heap.size + 1 + 1 + 1 := by omega
  have a2 : ¬ w.heap.size = w.heap.size + 1 + 1 := by omega
  have a3 : ¬ w.heap.size + 1 = w.heap.size + 1 + 1 + 1 := by omega
  have a4 : ¬ w.heap.size + 1 = w.heap.size + 1 + 1 := by omega
  simp [l_new, a1, a2, a3, a4]
  obtain ⟨w4, hw4⟩ : ∃ w4, ((((w.alloc (Obj.cells #[Value.int IntKind.i64 s.qty, Value.int IntKind.i64 s.value, Value.int IntKind.i64 s.price, lv, pv] 28)).alloc
      (Obj.cells #[Value.int IntKind.i64 m.seq, Value.int IntKind.i64 m.value, Value.string m.item, Value.int IntKind.i64 m.kind, Value.int IntKind.i64 m.qty, Value.int IntKind.i64 m.cost, Value.string m.lot, Value.int IntKind.i64 m.ref] 47)).alloc
      (Obj.cells #[Value.int IntKind.i64 0, Value.int IntKind.i64 0, Value.int IntKind.i64 0, Value.slice none 0 0, Value.slice none 0 0] 28)).alloc
      (Obj.cells #[Value.int IntKind.i64 0, Value.int IntKind.i64 0, Value.int IntKind.i64 0, Value.int IntKind.i64 0] 43)) = w4 := ⟨_, rfl⟩
  have hb4 : Below w.heap.size w w4 := by
    rw [← hw4]
    exact (((((Below.refl _ _).alloc (Nat.le_refl _) _).alloc (by simp) _).alloc (by simp; omega) _).alloc (by simp; omega) _)
  have hks : X.blk w4 w.heap.size = some (.cells #[.int .i64 s.qty, .int .i64 s.value, .int .i64 s.price, lv, pv] 28 (0, 0)) := by
    rw [← hw4]; simp [a1, a2]
  have hkm : X.blk w4 (w.heap.size + 1) = some (.cells m.cs 47 (0, 0)) := by
    rw [← hw4]; simp [a3, a4, Mv.cs]
  have hkt : X.blk w4 (w.heap.size + 1 + 1) = some (.cells #[.int .i64 0, .int .i64 0, .int .i64 0, .slice none 0 0, .slice none 0 0] 28 (0, 0)) := by
    rw [← hw4]; simp
  have hkc : X.blk w4 (w.heap.size + 1 + 1 + 1) = some (.cells #[.int .i64 0, .int .i64 0, .int .i64 0, .int .i64 0] 43 (0, 0)) := by
    rw [← hw4]; simp
  rw [hw4]
  clear hw4
  refine one_ok (m := m) (ht.below hb4) hm _ (fun w5 hb5 => ?_)
  have hb05 := hb4.then hb5
  have hks5 := (blk_below hb5 (lt_of_blk hks)).trans hks
  have hkm5 := (blk_below hb5 (lt_of_blk hkm)).trans hkm
  have hkt5 := (blk_below hb5 (lt_of_blk hkt)).trans hkt
  have hkc5 := (blk_below hb5 (lt_of_blk hkc)).trans hkc
  simp only [q_neq, onSome_some]
  refine xif_ndec (fun h1 => ?_) (fun h1 => ?_)
  · have hF : avgV s m = (St.zero, Co.zero, oneV m) := by unfold avgV; rw [if_pos h1]
    exact step_fail hF hK hb05 (by omega) (by omega) hkt5 hkc5
  simp [hks5]
  refine avg_find (hpv.below hb05) (asks71 hkm5) _ (fun w6 hb6 => ?_)
  have hb06 := hb05.then hb6
  have hks6 := (blk_below hb6 (lt_of_blk hks5)).trans hks5
  have hkm6 := (blk_below hb6 (lt_of_blk hkm5)).trans hkm5
  have hkt6 := (blk_below hb6 (lt_of_blk hkt5)).trans hkt5
  have hkc6 := (blk_below hb6 (lt_of_blk hkc5)).trans hkc5
  cases hf : findP 0 m.seq s.past with
  | some i =>
    have hf' : idxF (okP 0 m.seq) s.past = some i := hf
    have hF : avgV s m = (St.zero, Co.zero, 8) := by unfold avgV; rw [if_neg (by simpa using h1), if_pos (by rw [hf]; rfl)]
    rw [hf']
    simp only [idxV, q_geq, onSome_some]
    rw [decide_eq_true (by omega : (0 : Int) ≤ (i : Int)), xif_true]
    exact step_fail hF hK hb06 (by omega) (by omega) hkt6 hkc6
  | none =>
    have hf' : idxF (okP 0 m.seq) s.past = none := hf
    rw [hf']
    simp [idxV, hks6]
    have hFV : avgV s m = (if (avgDo s m).2.2 ≠ 0 then (St.zero, Co.zero, (avgDo s m).2.2) else
        if decide (1000000000 < ((avgDo s m).1.add (avgDo s m).2.1).qty) || farV ((avgDo s m).1.add (avgDo s m).2.1).value || farV (avgDo s m).2.1.var then (St.zero, Co.zero, 4) else ((avgDo s m).1.add (avgDo s m).2.1, (avgDo s m).2.1, 0)) := by
      unfold avgV
      rw [if_neg (by simpa using h1), if_neg (by rw [hf]; simp)]
    refine avg_copied (s := s) (hlv.below hb06) (hpv.below hb06) (by omega) (by omega) (fun w7 lv7 pv7 hl7 hp7 hb7 => ?_)
    have hb07 := hb06.then hb7
    have hkm7 := (blk_below hb7 (lt_of_blk hkm6)).trans hkm6
    have hkt7 := (blk_below hb7 (lt_of_blk hkt6)).trans hkt6
    have hkc7 := (blk_below hb7 (lt_of_blk hkc6)).trans hkc6
    have ca := own_cells hl7
    have cb := own_cells hp7
    have n1 : ¬ w.heap.size + 1 = w.heap.size + 1 + 1 := by omega
    have n2 : ¬ w.heap.size + 1 + 1 = w.heap.size + 1 := by omega
    unfold Mv.cs at hkm7
    unfold StV
    simp [hkt7, hkm7, n1, n2, ca.1, ca.2, cb.1, cb.2]
    have hX : SX 28 [] (X.putL w7 (w.heap.size + 1 + 1) 0 [.int .i64 s.qty, .int .i64 s.value, .int .i64 s.price, lv7, pv7]) w.heap.size (w.heap.size + 1 + 1) s lv7 pv7 :=
      ⟨by omega, by simp [hkt7, scells], (hl7.lower hb06.size).putL hkt7 (by decide), (hp7.lower hb06.size).putL hkt7 (by decide), by decide, by decide⟩
    have hb08 := below_putL hb07 (b := w.heap.size + 1 + 1) (by omega) [.int .i64 s.qty, .int .i64 s.value, .int .i64 s.price, lv7, pv7] 0
    have hkc8 : X.blk (X.putL w7 (w.heap.size + 1 + 1) 0 [.int .i64 s.qty, .int .i64 s.value, .int .i64 s.price, lv7, pv7]) (w.heap.size + 1 + 1 + 1) = some (.cells #[.int .i64 0, .int .i64 0, .int .i64 0, .int .i64 0] 43 (0, 0)) := by
      rw [blk_putL, if_neg (by omega)]; exact hkc7
    generalize X.putL w7 (w.heap.size + 1 + 1) 0 [.int .i64 s.qty, .int .i64 s.value, .int .i64 s.price, lv7, pv7] = w8 at *
    generalize hx : w.heap.size + 1 + 1 = x at *
    refine avg_perform w8 w.heap.size x s lv7 pv7 m _ hX hs hm (fun w9 lv9 pv9 hX9 hd9 => ?_)
    obtain ⟨R, hR⟩ : ∃ R, R = avgDo s m := ⟨_, rfl⟩
    rw [← hR] at hX9 hFV ⊢
    have hkc9 := hd9.keeps.blk hkc8 (by decide)
    have n3 : ¬ x + 1 = x := by omega
    have n4 : ¬ x = x + 1 := by omega
    simp only [q_extract_tuple, Co.v]

    simp [hkc9]
    have hX10 := hX9.other (o := 0) (vs := [.int .i64 R.2.1.seq, .int .i64 R.2.1.qty, .int .i64 R.2.1.value, .int .i64 R.2.1.var]) hkc9 (by decide)
    have hb10 := below_putL (hb08.trans hd9.below) (b := x + 1) (by omega) [.int .i64 R.2.1.seq, .int .i64 R.2.1.qty, .int .i64 R.2.1.value, .int .i64 R.2.1.var] 0
    have hkc10 : X.blk (X.putL w9 (x + 1) 0 [.int .i64 R.2.1.seq, .int .i64 R.2.1.qty, .int .i64 R.2.1.value, .int .i64 R.2.1.var]) (x + 1) = some (.cells #[.int .i64 R.2.1.seq, .int .i64 R.2.1.qty, .int .i64 R.2.1.value, .int .i64 R.2.1.var] 43 (0, 0)) := by simp [hkc9]
    generalize X.putL w9 (x + 1) 0 [.int .i64 R.2.1.seq, .int .i64 R.2.1.qty, .int .i64 R.2.1.value, .int .i64 R.2.1.var] = w10 at *
    have hbk := hX10.blk
    unfold scells at hbk
    refine xif_ndec (fun he => ?_) (fun he => ?_)
    · rw [if_pos he] at hFV
      exact step_fail hFV hK hb10 (by omega) (by omega) hbk hkc10
    rw [if_neg (by simpa using he)] at hFV
    have hbk9 := hX9.blk
    unfold scells at hbk9
    simp [hbk, hkc10, n3, n4, hbk9]
    have h11 := hX10.put (s' := ⟨IntKind.i64.wrap (R.1.qty + R.2.1.qty), R.1.value, R.1.price, R.1.layers, R.1.past⟩) (r' := []) (o := 0) (vs := [.int .i64 (IntKind.i64.wrap (R.1.qty + R.2.1.qty))]) (by simp [scells]) rfl rfl
    have h12 := h11.1.put (s' := R.1.add R.2.1) (r' := []) (o := 1) (vs := [.int .i64 (IntKind.i64.wrap (R.1.value + R.2.1.value))]) (by simp [scells, St.add]) rfl rfl
    have hd12 := h11.2.trans h12.2
    have hX12 := h12.1
    have hkc12 := hd12.keeps.blk hkc10 (by decide)
    have hb12 := hb10.trans hd12.below
    generalize X.putL (X.putL w10 x 0 [.int .i64 (IntKind.i64.wrap (R.1.qty + R.2.1.qty))]) x 1 [.int .i64 (IntKind.i64.wrap (R.1.value + R.2.1.value))] = w12 at *

    have hbk12 := hX12.blk
    unfold scells at hbk12
    have hq12 : (R.1.add R.2.1).qty = IntKind.i64.wrap (R.1.qty + R.2.1.qty) := rfl
    rw [hq12] at hFV
    have hgate : ∀ (G : Value → World → Prop), (∀ W, Below w12.heap.size w12 W → G (.bool (decide (1000000000 < IntKind.i64.wrap (R.1.qty + R.2.1.qty)) || farV (R.1.add R.2.1).value || farV R.2.1.var)) W) →
        (onSome (gateQ false (.bool (decide (1000000000 < IntKind.i64.wrap (R.1.qty + R.2.1.qty)))) (some (.pointer (some ⟨x, 1, none⟩)))) fun t50 =>
         onSome (gateQ false (.bool (decide (1000000000 < IntKind.i64.wrap (R.1.qty + R.2.1.qty)))) (q_load1 t50 w12)) fun t51 =>
         gateL false (.bool (decide (1000000000 < IntKind.i64.wrap (R.1.qty + R.2.1.qty)))) (fun K => Ret Tryz.prog 74 [t51] w12 K) w12 fun t52 W19 =>
         onSome (gateQ false (bif decide (1000000000 < IntKind.i64.wrap (R.1.qty + R.2.1.qty)) then .bool true else t52) (some (.pointer (some ⟨x + 1, 3, none⟩)))) fun t55 =>
         onSome (gateQ false (bif decide (1000000000 < IntKind.i64.wrap (R.1.qty + R.2.1.qty)) then .bool true else t52) (q_load1 t55 W19)) fun t56 =>
         gateL false (bif decide (1000000000 < IntKind.i64.wrap (R.1.qty + R.2.1.qty)) then .bool true else t52) (fun K => Ret Tryz.prog 74 [t56] W19 K) W19 fun t57 W20 =>
         onSome (q_pick (bif decide (1000000000 < IntKind.i64.wrap (R.1.qty + R.2.1.qty)) then .bool true else t52) (.bool true) t57) fun t58 => G t58 W20) := by
      intro G hG
      by_cases hc : 1000000000 < IntKind.i64.wrap (R.1.qty + R.2.1.qty)
      · simp [hc] at hG ⊢
        exact hG _ (Below.refl _ _)
      · simp [hc, hbk12] at hG ⊢
        refine avg_large _ (fun w13 hb13 => ?_)
        have hkc13 := (blk_below hb13 (lt_of_blk hkc12)).trans hkc12
        cases hv : farV (R.1.add R.2.1).value with
        | true =>
          simp [hv] at hG ⊢
          exact hG _ hb13
        | false =>
          simp [hv, hkc13] at hG ⊢
          refine avg_large _ (fun w14 hb14 => ?_)
          exact hG _ (hb13.then hb14)
    refine hgate (fun t58 W20 => _) (fun w13 hb13 => ?_)
    clear hgate
    have hX13 := hX12.called hb13
    have hkc13 := (blk_below hb13 (lt_of_blk hkc12)).trans hkc12
    have hbk13 := hX13.blk
    unfold scells at hbk13
    have hb013 := hb12.then hb13
    refine xif_bool (fun ho => ?_) (fun ho => ?_)
    · rw [if_pos ho] at hFV
      exact step_fail hFV hK hb013 (by omega) (by omega) hbk13 hkc13
    · rw [if_neg (by rw [ho]; exact Bool.false_ne_true)] at hFV
      rw [hFV] at hK
      have c1 := own_cells hX13.ly
      have c2 := own_cells hX13.pa
      simp [hbk13, hkc13, n3, n4, c1.1, c1.2, c2.1, c2.2]
      have p1 := hX13.ly.drew.putL (w := w13.drew) (o := 0) (vs := [.int .i64 (R.1.add R.2.1).qty, .int .i64 (R.1.add R.2.1).value, .int .i64 (R.1.add R.2.1).price, lv9, pv9]) hbk13 (by decide)
      have q1 := hX13.pa.drew.putL (w := w13.drew) (o := 0) (vs := [.int .i64 (R.1.add R.2.1).qty, .int .i64 (R.1.add R.2.1).value, .int .i64 (R.1.add R.2.1).price, lv9, pv9]) hbk13 (by decide)
      have hkc14 : X.blk (X.putL w13.drew x 0 [.int .i64 (R.1.add R.2.1).qty, .int .i64 (R.1.add R.2.1).value, .int .i64 (R.1.add R.2.1).price, lv9, pv9]) (x + 1) = some (.cells #[.int .i64 R.2.1.seq, .int .i64 R.2.1.qty, .int .i64 R.2.1.value, .int .i64 R.2.1.var] 43 (0, 0)) := by
        rw [blk_putL, if_neg n4]; exact hkc13
      have p2 := p1.putL (o := 0) (vs := [.int .i64 R.2.1.seq, .int .i64 R.2.1.qty, .int .i64 R.2.1.value, .int .i64 R.2.1.var]) hkc14 (by decide)
      have q2 := q1.putL (o := 0) (vs := [.int .i64 R.2.1.seq, .int .i64 R.2.1.qty, .int .i64 R.2.1.value, .int .i64 R.2.1.var]) hkc14 (by decide)
      exact hK _ lv9 pv9 p2 q2 (below_putL (below_putL hb013.drew (by omega) _ _) (by omega) _ _)
end Go.X
end
