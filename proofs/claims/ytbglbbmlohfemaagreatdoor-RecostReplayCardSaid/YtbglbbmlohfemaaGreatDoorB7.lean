/- Contracts of package costing, and of the law package. -/
import Derived.Test.YtbglbbmlohfemaaGreatDoorTc
import Derived.Test.YtbglbbmlohfemaaGreatDoorB6
import Derived.Test.YtbglbbmlohfemaaGreatDoorA2
section
set_option linter.unusedVariables false
set_option linter.unusedSimpArgs false
namespace Go.X
open Go.Proofs Go.RowKit
attribute [local irreducible] l_append l_copy l_make l_run q_slice q_eq q_index q_build onSome l_lit
variable {w w' : World} {B x : Nat} {s : St} {lv pv : Value} {m : Mv} {c : Co}
def nilV : Value := .slice none 0 0
def startR (method price : Int) : Value := .tuple #[StV (startV method price).1 nilV nilV, .int .i64 (startV method price).2]
theorem start_ok' {method price : Int} : Calc 21 [.int .i64 method, .int .i64 price] w (startR method price) := by
  intro K hK
  refine lift21 ?_
  unfold L21
  simp [l_new]
  have hb := (Below.refl w.heap.size w).alloc (Nat.le_refl _) (Obj.cells #[Value.int IntKind.i64 0, Value.int IntKind.i64 0, Value.int IntKind.i64 0, Value.slice none 0 0, Value.slice none 0 0] 28)
  have hend : ∀ p e : Int, startR method price = .tuple #[.agg #[.int .i64 0, .int .i64 0, .int .i64 p, .slice none 0 0, .slice none 0 0], .int .i64 e] →
      (l_store 5 (.pointer (some ⟨w.heap.size, 0, none⟩)) (.agg #[.int .i64 0, .int .i64 0, .int .i64 p, .slice none 0 0, .slice none 0 0]) (w.alloc (Obj.cells #[Value.int IntKind.i64 0, Value.int IntKind.i64 0, Value.int IntKind.i64 0, Value.slice none 0 0, Value.slice none 0 0] 28)) fun _ W =>
        onSome (loadO 5 (X.blk W w.heap.size) 0) fun v => K (.tuple #[v, .int .i64 e]) W) := by
    intro p e he
    simp
    rw [← he]
    exact hK _ (below_putL hb (Nat.le_refl _) _ _)
  by_cases h1 : method < 1
  · simp [h1]
    rw [build_of (cs := #[.int .i64 0, .int .i64 0, .int .i64 0, .slice none 0 0, .slice none 0 0]) (by simp), onSome_some]
    exact hend 0 10 (by unfold startR startV; rw [if_pos (Or.inl h1)]; rfl)
  by_cases h2 : 4 < method
  · simp [h1, h2]
    rw [build_of (cs := #[.int .i64 0, .int .i64 0, .int .i64 0, .slice none 0 0, .slice none 0 0]) (by simp), onSome_some]
    exact hend 0 10 (by unfold startR startV; rw [if_pos (Or.inr h2)]; rfl)
  have h12 : ¬ (method < 1 ∨ 4 < method) := by omega
  by_cases h3 : price < 0
  · simp [h1, h2, h3]
    rw [build_of (cs := #[.int .i64 0, .int .i64 0, .int .i64 0, .slice none 0 0, .slice none 0 0]) (by simp), onSome_some]
    exact hend 0 3 (by unfold startR startV; rw [if_neg h12, if_pos (Or.inl h3)]; rfl)
  by_cases h4 : 1000000000000 < price
  · simp [h1, h2, h3, h4]
    rw [build_of (cs := #[.int .i64 0, .int .i64 0, .int .i64 0, .slice none 0 0, .slice none 0 0]) (by simp), onSome_some]
    exact hend 0 3 (by unfold startR startV; rw [if_neg h12, if_pos (Or.inr h4)]; rfl)
  have h34 : ¬ (price < 0 ∨ 1000000000000 < price) := by omega
  by_cases h5 : method = 3
  · simp [h3, h4, h5]
    rw [build_of (cs := #[.int .i64 0, .int .i64 0, .int .i64 price, .slice none 0 0, .slice none 0 0]) (by simp), onSome_some]
    exact hend price 0 (by unfold startR startV; rw [if_neg h12, if_neg h34, if_pos h5]; rfl)
  · simp [h1, h2, h3, h4, h5]
    rw [build_of (cs := #[.int .i64 0, .int .i64 0, .int .i64 0, .slice none 0 0, .slice none 0 0]) (by simp), onSome_some]
    exact hend 0 0 (by unfold startR startV; rw [if_neg h12, if_neg h34, if_neg h5]; rfl)
/-- The step by its method. -/
theorem step_any {method : Int} {K : Value → World → Prop} (ht : Tab w) (hm : m.Ok) (hs : s.Ok 900000) (hlv : Rd LyE w lv s.layers) (hpv : Rd PaE w pv s.past)
    (hK : ∀ w' lv' pv', Own LyE 103 w' w.heap.size lv' (stepV method s m).1.layers → Own PaE 105 w' w.heap.size pv' (stepV method s m).1.past → Below w.heap.size w w' → K (stepR (stepV method s m) lv' pv') w') :
    Ret Tryz.prog 27 [.int .i64 method, StV s lv pv, m.v] w K := by
  refine lift27 ?_
  unfold L27 StV
  have a1 : ¬ w.heap.size = w.heap.size + 1 + 1 + 1 := by omega
  have a2 : ¬ w.heap.size = w.heap.size + 1 + 1 := by omega
  have a3 : ¬ w.heap.size + 1 = w.heap.size + 1 + 1 + 1 := by omega
  have a4 : ¬ w.heap.size + 1 = w.heap.size + 1 + 1 := by omega
  simp [l_new, a1, a2, a3, a4]
  obtain ⟨w4, hw4⟩ : ∃ w4, ((((w.alloc (Obj.cells #[Value.int IntKind.i64 s.qty, Value.int IntKind.i64 s.value, Value.int IntKind.i64 s.price, lv, pv] 28)).alloc
      (Obj.cells #[Value.int IntKind.i64 m.seq, Value.int IntKind.i64 m.value, Value.string m.item, Value.int IntKind.i64 m.kind, Value.int IntKind.i64 m.qty, Value.int IntKind.i64 m.cost, Value.string m.lot, Value.int IntKind.i64 m.ref] 47)).alloc
      (Obj.cells #[Value.int IntKind.i64 0, Value.int IntKind.i64 0, Value.int IntKind.i64 0, Value.slice none 0 0, Value.slice none 0 0] 28)).alloc
      (Obj.cells #[Value.int IntKind.i64 0, Value.int IntKind.i64 0, Value.int IntKind.i64 0, Value.int IntKind.i64 0] 43)) = w4 := ⟨_, rfl⟩
  have hb4 : Below w.heap.size w w4 := by
    rw [← hw4]
    exact (((((Below.refl _ _).alloc (Nat.le_refl _) _).alloc (by simp) _).alloc (by simp; omega) _).alloc (by simp; omega) _)
  have hkt : X.blk w4 (w.heap.size + 1 + 1) = some (.cells #[.int .i64 0, .int .i64 0, .int .i64 0, .slice none 0 0, .slice none 0 0] 28 (0, 0)) := by
    rw [← hw4]; simp
  have hkc : X.blk w4 (w.heap.size + 1 + 1 + 1) = some (.cells #[.int .i64 0, .int .i64 0, .int .i64 0, .int .i64 0] 43 (0, 0)) := by
    rw [← hw4]; simp
  rw [hw4]
  clear hw4
  have fin : ∀ (f : FuncId) (F : St → Mv → St × Co × Int), StepOk f F → stepV method s m = F s m →
      Ret Tryz.prog f [.agg #[.int .i64 s.qty, .int .i64 s.value, .int .i64 s.price, lv, pv], .agg #[.int .i64 m.seq, .int .i64 m.value, .string m.item, .int .i64 m.kind, .int .i64 m.qty, .int .i64 m.cost, .string m.lot, .int .i64 m.ref]] w4 fun t W =>
        onSome (q_extract t 0) fun t15 => onSome (q_extract t 1) fun t16 => onSome (q_extract t 2) fun t17 =>
        l_store 5 (.pointer (some ⟨w.heap.size + 1 + 1, 0, none⟩)) t15 W fun _ W6 => l_store 4 (.pointer (some ⟨w.heap.size + 1 + 1 + 1, 0, none⟩)) t16 W6 fun _ W7 =>
        onSome (loadO 5 (X.blk W7 (w.heap.size + 1 + 1)) 0) fun a => onSome (loadO 4 (X.blk W7 (w.heap.size + 1 + 1 + 1)) 0) fun b => K (.tuple #[a, b, t17]) W7 := by
    intro f F hF e
    rw [e] at hK
    refine hF w4 s m lv pv _ (ht.below hb4) hm hs (hlv.below hb4) (hpv.below hb4) (fun w5 lv5 pv5 hl5 hp5 hb5 => ?_)
    have hb05 := hb4.then hb5
    have hkt5 := (blk_below hb5 (lt_of_blk hkt)).trans hkt
    have hkc5 := (blk_below hb5 (lt_of_blk hkc)).trans hkc
    have c1 := own_cells hl5
    have c2 := own_cells hp5
    have n1 : ¬ w.heap.size + 1 + 1 + 1 = w.heap.size + 1 + 1 := by omega
    have n2 : ¬ w.heap.size + 1 + 1 = w.heap.size + 1 + 1 + 1 := by omega
    unfold stepR StV
    simp only [q_extract_tuple]
    simp [hkt5, hkc5, c1.1, c1.2, c2.1, c2.2, n1, n2]
    have p1 := (hl5.lower hb4.size).putL (o := 0) (vs := [.int .i64 (F s m).1.qty, .int .i64 (F s m).1.value, .int .i64 (F s m).1.price, lv5, pv5]) hkt5 (by decide)
    have q1 := (hp5.lower hb4.size).putL (o := 0) (vs := [.int .i64 (F s m).1.qty, .int .i64 (F s m).1.value, .int .i64 (F s m).1.price, lv5, pv5]) hkt5 (by decide)
    have hkc6 : X.blk (X.putL w5 (w.heap.size + 1 + 1) 0 [.int .i64 (F s m).1.qty, .int .i64 (F s m).1.value, .int .i64 (F s m).1.price, lv5, pv5]) (w.heap.size + 1 + 1 + 1) = some (.cells #[.int .i64 0, .int .i64 0, .int .i64 0, .int .i64 0] 43 (0, 0)) := by
      rw [blk_putL, if_neg n2]; exact hkc5
    have p2 := p1.putL (o := 0) (vs := [.int .i64 (F s m).2.1.seq, .int .i64 (F s m).2.1.qty, .int .i64 (F s m).2.1.value, .int .i64 (F s m).2.1.var]) hkc6 (by decide)
    have q2 := q1.putL (o := 0) (vs := [.int .i64 (F s m).2.1.seq, .int .i64 (F s m).2.1.qty, .int .i64 (F s m).2.1.value, .int .i64 (F s m).2.1.var]) hkc6 (by decide)
    exact hK _ lv5 pv5 p2 q2 (below_putL (below_putL hb05 (by omega) _ _) (by omega) _ _)
  by_cases h1 : method = 1
  · have f := fin 32 _ fifo_step (by unfold stepV; rw [if_pos h1])
    simp [h1] at f ⊢
    exact f
  by_cases h2 : method = 2
  · have f := fin 33 _ avg_step (by unfold stepV; rw [if_neg h1, if_pos h2])
    simp [h2] at f ⊢
    exact f
  by_cases h3 : method = 3
  · have f := fin 34 _ std_step (by unfold stepV; rw [if_neg h1, if_neg h2, if_pos h3])
    simp [h3] at f ⊢
    exact f
  by_cases h4 : method = 4
  · have f := fin 35 _ lots_step (by unfold stepV; rw [if_neg h1, if_neg h2, if_neg h3, if_pos h4])
    simp [h4] at f ⊢
    exact f
  · have e : stepV method s m = (St.zero, Co.zero, 10) := by unfold stepV; rw [if_neg h1, if_neg h2, if_neg h3, if_neg h4]
    simp [h1, h2, h3, h4]
    exact step_fail e hK hb4 (by omega) (by omega) hkt hkc
end Go.X
end
section
set_option linter.unusedVariables false
set_option linter.unusedSimpArgs false
namespace Go.X
open Go.Proofs Go.RowKit
theorem bytes_co {n : Nat} (h : n ≤ 1000000) : n * 32 ≤ 140737488355328 := by omega
set_option maxRecDepth 20000 in
theorem app_co {w : World} {B : Nat} {K : Value → World → Prop} {v x : Value} {l m : List Co} (hs : Own CoE 43 w B v l) (hx : Rd CoE w x m) (hB : B ≤ w.heap.size) (hn : l.length + m.length ≤ 1000000)
    (hK : ∀ v' w', Own CoE 43 w' B v' (l ++ m) → w.grownBy w' v.ownBlock → K v' w') : l_append Tryz.prog #[34, 34] 34 v x w K :=
  append_ok (E := CoE) coSl hs hx hB (bytes_co hn) (small_max hn) (fun v' w' h1 h2 _ => hK v' w' h1 h2)
attribute [local irreducible] l_append l_copy l_make l_run q_slice q_eq q_index q_build onSome l_lit
variable {w w' : World} {B x : Nat} {s : St} {lv pv cv : Value} {m : Mv} {c : Co} {cs : List Co} {method : Int}
/-- The state of a run. -/
structure RX (w : World) (B x : Nat) (method : Int) (s : St) (cs : List Co) (lv pv cv : Value) : Prop where
  le : B ≤ x
  blk : X.blk w x = some (.cells #[.int .i64 method, .int .i64 s.qty, .int .i64 s.value, .int .i64 s.price, lv, pv, cv] 95 (0, 0))
  ly : Own LyE 103 w B lv s.layers
  pa : Own PaE 105 w B pv s.past
  co : Own CoE 43 w B cv cs
theorem RX.called (h : RX w B x method s cs lv pv cv) (hb : Below w.heap.size w w') : RX w' B x method s cs lv pv cv :=
  ⟨h.le, (blk_below hb (lt_of_blk h.blk)).trans h.blk, h.ly.below hb, h.pa.below hb, h.co.below hb⟩
theorem RX.size (h : RX w B x method s cs lv pv cv) : B ≤ w.heap.size := Nat.le_trans h.le (Nat.le_of_lt (lt_of_blk h.blk))
/-- Behind the step: its results in two new blocks. -/
def PerfJ (w : World) (R : St × Co × Int) (t c e : Value) (W : World) : Prop :=
  ∃ (a b : Nat) (lv pv : Value), t = ptr a ∧ c = ptr b ∧ e = .int .i64 R.2.2 ∧ X.blk W a = some (.cells #[.int .i64 R.1.qty, .int .i64 R.1.value, .int .i64 R.1.price, lv, pv] 28 (0, 0)) ∧
    X.blk W b = some (.cells #[.int .i64 R.2.1.seq, .int .i64 R.2.1.qty, .int .i64 R.2.1.value, .int .i64 R.2.1.var] 43 (0, 0)) ∧
    Own LyE 103 W w.heap.size lv R.1.layers ∧ Own PaE 105 W w.heap.size pv R.1.past ∧ Below w.heap.size w W ∧ w.heap.size ≤ a ∧ w.heap.size ≤ b
theorem perf_end {a b : Nat} {R : St × Co × Int} {W : World} (hne : ¬ a = b) (hl : Own LyE 103 W w.heap.size lv R.1.layers) (hp : Own PaE 105 W w.heap.size pv R.1.past) (hb : Below w.heap.size w W) (ha : w.heap.size ≤ a) (hbb : w.heap.size ≤ b)
    (h1 : X.blk W a = some (.cells #[.int .i64 0, .int .i64 0, .int .i64 0, .slice none 0 0, .slice none 0 0] 28 (0, 0))) (h2 : X.blk W b = some (.cells #[.int .i64 0, .int .i64 0, .int .i64 0, .int .i64 0] 43 (0, 0))) :
    PerfJ w R (.pointer (some ⟨a, 0, none⟩)) (.pointer (some ⟨b, 0, none⟩)) (.int .i64 R.2.2) (X.putL (X.putL W a 0 [.int .i64 R.1.qty, .int .i64 R.1.value, .int .i64 R.1.price, lv, pv]) b 0 [.int .i64 R.2.1.seq, .int .i64 R.2.1.qty, .int .i64 R.2.1.value, .int .i64 R.2.1.var]) := by
  have hne' : ¬ b = a := fun e => hne e.symm
  have p1 := hl.putL (o := 0) (vs := [.int .i64 R.1.qty, .int .i64 R.1.value, .int .i64 R.1.price, lv, pv]) h1 (by decide)
  have q1 := hp.putL (o := 0) (vs := [.int .i64 R.1.qty, .int .i64 R.1.value, .int .i64 R.1.price, lv, pv]) h1 (by decide)
  have h2' : X.blk (X.putL W a 0 [.int .i64 R.1.qty, .int .i64 R.1.value, .int .i64 R.1.price, lv, pv]) b = some (.cells #[.int .i64 0, .int .i64 0, .int .i64 0, .int .i64 0] 43 (0, 0)) := by
    rw [blk_putL, if_neg hne]; exact h2
  exact ⟨a, b, lv, pv, rfl, rfl, rfl, by simp [h1, hne'], by simp [h2, hne], p1.putL h2' (by decide), q1.putL h2' (by decide), below_putL (below_putL hb ha _ _) hbb _ _, ha, hbb⟩
theorem run_perform {K : Value → World → Prop} (h : RX w B x method s cs lv pv cv) (ht : Tab w) (hm : m.Ok) (hs : s.Ok 900000) (hn : cs.length < 1000000)
    (hK1 : (stepV method s m).2.2 ≠ 0 → ∀ w', Below B w w' → K (.int .i64 (stepV method s m).2.2) w')
    (hK2 : (stepV method s m).2.2 = 0 → ∀ w' lv' pv' cv', RX w' B x method (stepV method s m).1 (cs ++ [(stepV method s m).2.1]) lv' pv' cv' → Below B w w' → K (.int .i64 0) w') :
    Ret Tryz.prog 57 [ptr x, m.v] w K := by
  refine lift57 ?_
  unfold L57
  have hsz := h.size
  have hx0 : ¬ x = w.heap.size := Nat.ne_of_lt (lt_of_blk h.blk)
  simp only [ptr, l_new, Mv.v_cells]
  obtain ⟨w1, hw1⟩ : ∃ w1, (w.alloc (.cells #[.int .i64 m.seq, .int .i64 m.value, .string m.item, .int .i64 m.kind, .int .i64 m.qty, .int .i64 m.cost, .string m.lot, .int .i64 m.ref] 47)).drew = w1 := ⟨_, rfl⟩
  have hb1 : Below w.heap.size w w1 := by rw [← hw1]; exact ((Below.refl _ _).alloc (Nat.le_refl _) _).drew
  have hm1 : X.blk w1 w.heap.size = some (.cells #[.int .i64 m.seq, .int .i64 m.value, .string m.item, .int .i64 m.kind, .int .i64 m.qty, .int .i64 m.cost, .string m.lot, .int .i64 m.ref] 47 (0, 0)) := by rw [← hw1]; simp
  rw [hw1]
  clear hw1
  have h1 := h.called hb1
  have hx1 := h1.blk
  obtain ⟨R, hR⟩ : ∃ R, R = stepV method s m := ⟨_, rfl⟩
  rw [← hR] at hK1 hK2
  have call : ∀ (W : World) (K' : Value → World → Prop), Below w.heap.size w W → (∀ w' lv' pv', Own LyE 103 w' W.heap.size lv' R.1.layers → Own PaE 105 w' W.heap.size pv' R.1.past → Below W.heap.size W w' → lv'.cells = #[lv'] ∧ lv'.oneCell' = true → pv'.cells = #[pv'] ∧ pv'.oneCell' = true →
      K' (.tuple #[.agg #[.int .i64 R.1.qty, .int .i64 R.1.value, .int .i64 R.1.price, lv', pv'], .agg #[.int .i64 R.2.1.seq, .int .i64 R.2.1.qty, .int .i64 R.2.1.value, .int .i64 R.2.1.var], .int .i64 R.2.2]) w') →
      Ret Tryz.prog 27 [.int .i64 method, .agg #[.int .i64 s.qty, .int .i64 s.value, .int .i64 s.price, lv, pv], .agg #[.int .i64 m.seq, .int .i64 m.value, .string m.item, .int .i64 m.kind, .int .i64 m.qty, .int .i64 m.cost, .string m.lot, .int .i64 m.ref]] W K' := by
    intro W K' hbW hk
    have hW := h.called hbW
    exact step_any (s := s) (m := m) (ht.below hbW) hm hs (Rd.of_own hW.ly) (Rd.of_own hW.pa) (fun w' lv' pv' a b cb => by rw [← hR] at a b ⊢; exact hk w' lv' pv' a b cb (own_cells a) (own_cells b))
  have m0 : ¬ w.heap.size = w1.heap.size := Nat.ne_of_lt (lt_of_blk hm1)
  have m1 : ¬ w.heap.size = w1.heap.size + 1 := by have := lt_of_blk hm1; omega
  have x0 : ¬ x = w1.heap.size := Nat.ne_of_lt (lt_of_blk hx1)
  have x1 : ¬ x = w1.heap.size + 1 := by have := lt_of_blk hx1; omega
  have z5 : ∀ (W : World) (b : Nat), b = W.heap.size → X.blk (W.alloc (.cells #[.int .i64 0, .int .i64 0, .int .i64 0, .slice none 0 0, .slice none 0 0] 28)) b = some (.cells #[.int .i64 0, .int .i64 0, .int .i64 0, .slice none 0 0, .slice none 0 0] 28 (0, 0)) := by
    intro W b hb; rw [blk_alloc, if_pos hb]
  have z4 : ∀ (W : World) (b : Nat), b = W.heap.size → X.blk (W.alloc (.cells #[.int .i64 0, .int .i64 0, .int .i64 0, .int .i64 0] 43)) b = some (.cells #[.int .i64 0, .int .i64 0, .int .i64 0, .int .i64 0] 43 (0, 0)) := by
    intro W b hb; rw [blk_alloc, if_pos hb]
  have old : ∀ (W : World) (o : Obj) (b : Nat) (y : Obj), X.blk W b = some y → X.blk (W.alloc o) b = some y := by
    intro W o b y hy; rw [blk_alloc, if_neg (Nat.ne_of_lt (lt_of_blk hy))]; exact hy
  refine joining_i (PerfJ w R) ⟨?_, ?_⟩
  · simp [hx1, hm1, m0, m1, x0, x1]
    refine ⟨?_, ?_, ?_⟩
    · refine call w1 _ hb1 (fun w2 lv2 pv2 hl2 hp2 hb2 d1 d2 => ?_)
      have hb02 := hb1.then hb2
      have l2 := hl2.lower hb1.size
      have p2 := hp2.lower hb1.size
      have g2 := hb02.size
      simp [d1.1, d1.2, d2.1, d2.2]
      refine ⟨?_, ?_⟩
      · exact perf_end (by omega) ((l2.alloc _).alloc _) ((p2.alloc _).alloc _) ((hb02.alloc g2 _).alloc (by simp; omega) _) (by omega) (by omega) (old _ _ _ _ (z5 _ _ rfl)) (z4 _ _ (by simp))
      · exact perf_end (by omega) ((l2.alloc _).alloc _) ((p2.alloc _).alloc _) ((hb02.alloc g2 _).alloc (by simp; omega) _) (by omega) (by omega) (z5 _ _ (by simp)) (old _ _ _ _ (z4 _ _ rfl))
    · have hbA := hb1.alloc hb1.size (.cells #[.int .i64 0, .int .i64 0, .int .i64 0, .slice none 0 0, .slice none 0 0] 28)
      refine ⟨?_, ?_⟩
      · refine call _ _ hbA (fun w2 lv2 pv2 hl2 hp2 hb2 d1 d2 => ?_)
        have hb02 := hbA.then hb2
        have l2 := hl2.lower hbA.size
        have p2 := hp2.lower hbA.size
        have g2 := hb02.size
        have k5 := (blk_below hb2 (lt_of_blk (z5 w1 _ rfl))).trans (z5 w1 _ rfl)
        have n1 : ¬ w1.heap.size = w2.heap.size := Nat.ne_of_lt (lt_of_blk k5)
        simp [d1.1, d1.2, d2.1, d2.2, k5, n1]
        exact perf_end n1 (l2.alloc _) (p2.alloc _) (hb02.alloc g2 _) hb1.size g2 (old _ _ _ _ k5) (z4 _ _ rfl)
      · have hbB := hbA.alloc hbA.size (.cells #[.int .i64 0, .int .i64 0, .int .i64 0, .int .i64 0] 43)
        refine call _ _ hbB (fun w2 lv2 pv2 hl2 hp2 hb2 d1 d2 => ?_)
        have hb02 := hbB.then hb2
        have l2 := hl2.lower hbB.size
        have p2 := hp2.lower hbB.size
        have k5 := (blk_below hb2 (lt_of_blk (old _ (.cells #[.int .i64 0, .int .i64 0, .int .i64 0, .int .i64 0] 43) _ _ (z5 w1 _ rfl)))).trans (old _ _ _ _ (z5 w1 _ rfl))
        have k4 := (blk_below hb2 (lt_of_blk (z4 (w1.alloc (.cells #[.int .i64 0, .int .i64 0, .int .i64 0, .slice none 0 0, .slice none 0 0] 28)) (w1.heap.size + 1) (by simp)))).trans (z4 _ _ (by simp))
        have g1 := hb1.size
        simp [d1.1, d1.2, d2.1, d2.2, k5, k4]
        exact perf_end (by omega) l2 p2 hb02 g1 (by omega) k5 k4
    · have hbA := hb1.alloc hb1.size (.cells #[.int .i64 0, .int .i64 0, .int .i64 0, .int .i64 0] 43)
      refine ⟨?_, ?_⟩
      · refine call _ _ hbA (fun w2 lv2 pv2 hl2 hp2 hb2 d1 d2 => ?_)
        have hb02 := hbA.then hb2
        have l2 := hl2.lower hbA.size
        have p2 := hp2.lower hbA.size
        have g2 := hb02.size
        have k4 := (blk_below hb2 (lt_of_blk (z4 w1 _ rfl))).trans (z4 w1 _ rfl)
        have n1 : ¬ w1.heap.size = w2.heap.size := Nat.ne_of_lt (lt_of_blk k4)
        have n2 : ¬ w2.heap.size = w1.heap.size := fun e => n1 e.symm
        simp [d1.1, d1.2, d2.1, d2.2, k4, n1, n2]
        exact perf_end n2 (l2.alloc _) (p2.alloc _) (hb02.alloc g2 _) g2 hb1.size (z5 _ _ rfl) (old _ _ _ _ k4)
      · have hbB := hbA.alloc hbA.size (.cells #[.int .i64 0, .int .i64 0, .int .i64 0, .slice none 0 0, .slice none 0 0] 28)
        refine call _ _ hbB (fun w2 lv2 pv2 hl2 hp2 hb2 d1 d2 => ?_)
        have hb02 := hbB.then hb2
        have l2 := hl2.lower hbB.size
        have p2 := hp2.lower hbB.size
        have k4 := (blk_below hb2 (lt_of_blk (old _ (.cells #[.int .i64 0, .int .i64 0, .int .i64 0, .slice none 0 0, .slice none 0 0] 28) _ _ (z4 w1 _ rfl)))).trans (old _ _ _ _ (z4 w1 _ rfl))
        have k5 := (blk_below hb2 (lt_of_blk (z5 (w1.alloc (.cells #[.int .i64 0, .int .i64 0, .int .i64 0, .int .i64 0] 43)) (w1.heap.size + 1) (by simp)))).trans (z5 _ _ (by simp))
        have g1 := hb1.size
        simp [d1.1, d1.2, d2.1, d2.2, k5, k4]
        exact perf_end (by omega) l2 p2 hb02 (by omega) g1 k5 k4
  · rintro t cc e W ⟨a, b, lv2, pv2, rfl, rfl, rfl, ka, kb, hl, hp, hbW, ha, hb⟩ _
    have hW := h.called hbW
    have hBw := h.size
    have hbB : Below B w W := hbW.mono hBw
    simp only [q_neq, onSome_some]
    refine xif_ndec (fun he => ?_) (fun he => ?_)
    · exact hK1 he _ hbB
    · have d1 := own_cells hl
      have d2 := own_cells hp
      have hxW := hW.blk
      have hxlt : x < w.heap.size := lt_of_blk h.blk
      have nb : ¬ x = b := by omega
      have hco := hW.co
      simp [ptr, ka, kb, hxW, d1.1, d1.2, d2.1, d2.2, nb]
      have l3 := hl.putL (o := 1) (vs := [.int .i64 R.1.qty, .int .i64 R.1.value, .int .i64 R.1.price, lv2, pv2]) hxW (by decide)
      have p3 := hp.putL (o := 1) (vs := [.int .i64 R.1.qty, .int .i64 R.1.value, .int .i64 R.1.price, lv2, pv2]) hxW (by decide)
      have c3 := hco.putL (o := 1) (vs := [.int .i64 R.1.qty, .int .i64 R.1.value, .int .i64 R.1.price, lv2, pv2]) hxW (by decide)
      have k3 : X.blk (X.putL W x 1 [.int .i64 R.1.qty, .int .i64 R.1.value, .int .i64 R.1.price, lv2, pv2]) x = some (.cells #[.int .i64 method, .int .i64 R.1.qty, .int .i64 R.1.value, .int .i64 R.1.price, lv2, pv2, cv] 95 (0, 0)) := by simp [hxW]
      have hb3 := below_putL hbB h.le [.int .i64 R.1.qty, .int .i64 R.1.value, .int .i64 R.1.price, lv2, pv2] 1
      have hX3 : RX (X.putL W x 1 [.int .i64 R.1.qty, .int .i64 R.1.value, .int .i64 R.1.price, lv2, pv2]).drew B x method R.1 cs lv2 pv2 cv := ⟨h.le, by rw [blk_drew]; exact k3, (l3.lower hBw).drew, (p3.lower hBw).drew, c3.drew⟩
      have hb3' := hb3.drew
      generalize (X.putL W x 1 [.int .i64 R.1.qty, .int .i64 R.1.value, .int .i64 R.1.price, lv2, pv2]).drew = w3 at *
      unfold l_lit
      rw [show fillC #[.int .i64 0, .int .i64 0, .int .i64 0, .int .i64 0] [(0, 4, .agg #[.int .i64 R.2.1.seq, .int .i64 R.2.1.qty, .int .i64 R.2.1.value, .int .i64 R.2.1.var])] = some (CoE.cells R.2.1).toArray by simp [CoE, Co.cs], onSome_some]
      have hX4 : RX (w3.alloc (.cells (CoE.cells R.2.1).toArray 43)) B x method R.1 cs lv2 pv2 cv := ⟨h.le, old _ _ _ _ hX3.blk, hX3.ly.alloc _, hX3.pa.alloc _, hX3.co.alloc _⟩
      have hb4 := hb3'.alloc hX3.size (.cells (CoE.cells R.2.1).toArray 43)
      have hr4 := Rd.new (E := CoE) (t := 43) (a := R.2.1) w3 (by decide)
      generalize (w3.alloc (.cells (CoE.cells R.2.1).toArray 43)) = w4 at *
      dsimp only
      rw [show (cellO (X.blk w4 x) 6 = some cv) = True by simp [hX4.blk], ob_true]
      refine app_co hX4.co hr4 hX4.size (by simp; omega) (fun v5 w5 ho5 hg5 => ?_)
      have hx5 : X.blk w5 x = _ := (hg5.block x (lt_of_blk hX4.blk) (own_blk hX4.co hX4.blk (by decide))).trans hX4.blk
      have hone := own_cells ho5
      have l5 := hX4.ly.grown hg5 (own_ne hX4.ly hX4.co (by decide))
      have p5 := hX4.pa.grown hg5 (own_ne hX4.pa hX4.co (by decide))
      have hb5 := hb4.grown hg5 hX4.size (fun k hk => (hX4.co.lt k hk).1)
      simp [hx5, hone.1, hone.2]
      exact hK2 (by simpa using he) _ lv2 pv2 v5 ⟨h.le, by simp [hx5], l5.putL hx5 (by decide), p5.putL hx5 (by decide), ho5.putL hx5 (by decide)⟩ (below_putL hb5 h.le _ _)
end Go.X
end
section
set_option linter.unusedVariables false
set_option linter.unusedSimpArgs false
namespace Go.X
open Go.Proofs Go.RowKit
attribute [local irreducible] l_append l_copy l_make l_run q_slice q_eq q_index q_build onSome l_lit
variable {w w' : World} {B x : Nat} {s : St} {lv pv cv : Value} {m : Mv} {c : Co} {cs : List Co} {method : Int}
theorem mvElem {v : Value} {l : List Mv} (h : Rd MvE w v l) {i : Nat} (hi : i < l.length) : ∃ ad, q_iaddr 8 v (.int .i64 (i : Int)) = some (.pointer (some ad)) ∧ q_loadn 8 (.pointer (some ad)) w = some l[i].v ∧ ∀ j u, (l[i].cs.toList)[j]? = some u → w.cell? (ad.add j) = some u := by
  obtain ⟨ad, h1, h2, h3⟩ := h.elem hi .i64
  exact ⟨ad, h1, h2, h3⟩
theorem bod57 : bodied Tryz.prog 57 = true := by kernel_rfl
/-- What is left to do: from here on the run answers as from the start. -/
def EachI (w0 : World) (x : Nat) (method : Int) (ms : List Mv) (R : St × List Co × Int × Int) (v : Value) (W : World) : Prop :=
  Below w0.heap.size w0 W ∧ ∃ (i : Nat) (s : St) (cs : List Co) (lv pv cv : Value), v = .int .i64 i ∧ i ≤ ms.length ∧ RX W w0.heap.size x method s cs lv pv cv ∧ s.Ok i ∧ cs.length = i ∧ (∀ c ∈ cs, c.Ok) ∧ runFrom method i s cs (ms.drop i) = R
theorem run_each {v : Value} {ms : List Mv} {w0 : World} {K : Value → World → Prop} (hb0 : Below w0.heap.size w0 w) (h : RX w w0.heap.size x method s [] lv pv cv) (ht : Tab w0) (hs : s.Ok 0) (hv : Rd MvE w0 v ms) (hm : ∀ m ∈ ms, m.Ok) (hn : ms.length ≤ 1000)
    (hK : ∀ w' lv' pv' cv', Below w0.heap.size w0 w' → ((runFrom method 0 s [] ms).2.2.2 = 0 → RX w' w0.heap.size x method (runFrom method 0 s [] ms).1 (runFrom method 0 s [] ms).2.1 lv' pv' cv') →
      K (.tuple #[.int .i64 (runFrom method 0 s [] ms).2.2.1, .int .i64 (runFrom method 0 s [] ms).2.2.2]) w') :
    Ret Tryz.prog 56 [ptr x, .func (.func 57) #[] #[], v] w K := by
  refine lift56 ?_
  unfold L56
  rw [hv.len, onSome_some]
  obtain ⟨R, hR⟩ : ∃ R, R = runFrom method 0 s [] ms := ⟨_, rfl⟩
  rw [← hR] at hK
  refine looping_i (EachI w0 x method ms R) (lenM ms.length) ⟨⟨hb0, 0, s, [], lv, pv, cv, rfl, Nat.zero_le _, h, hs, rfl, by simp, by simp [hR]⟩, ?_⟩
  rintro _ W ⟨hbW, i, si, ci, lvi, pvi, cvi, rfl, hi, hX, hsi, hci, hco, hrun⟩ _
  simp only [q_lss, onSome_some]
  refine xif_dec (fun hlt => ?_) (fun hlt => ?_)
  · have hlt' : i < ms.length := by omega
    have e1 : IntKind.i64.wrap ((i : Int) + 1) = ((i + 1 : Nat) : Int) := by rw [wrap_i64 (by omega) (by omega)]; omega
    obtain ⟨ad, hq, hload, _⟩ := mvElem (hv.below hbW) hlt'
    rw [hq, onSome_some, hload, onSome_some]
    have hmi := hm _ (List.getElem_mem hlt')
    obtain ⟨mi, hmi'⟩ : ∃ mi, mi = ms[i] := ⟨_, rfl⟩
    rw [← hmi'] at hmi ⊢
    simp [l_new, Mv.v, Mv.cs]
    have hb2 := below_putL (hbW.alloc hbW.size (Obj.cells #[Value.int IntKind.i64 0, Value.int IntKind.i64 0, Value.string { data := #[] }, Value.int IntKind.i64 0, Value.int IntKind.i64 0, Value.int IntKind.i64 0, Value.string { data := #[] }, Value.int IntKind.i64 0] 47)) hbW.size mi.cs.toList 0
    have hbb : Below W.heap.size W (X.putL (W.alloc (Obj.cells #[Value.int IntKind.i64 0, Value.int IntKind.i64 0, Value.string { data := #[] }, Value.int IntKind.i64 0, Value.int IntKind.i64 0, Value.int IntKind.i64 0, Value.string { data := #[] }, Value.int IntKind.i64 0] 47)) W.heap.size 0 mi.cs.toList) :=
      below_putL ((Below.refl _ _).alloc (Nat.le_refl _) _) (Nat.le_refl _) _ _
    have hX2 := hX.called hbb
    have hdrop : ms.drop i = mi :: ms.drop (i + 1) := by rw [hmi']; exact List.drop_eq_getElem_cons hlt'
    rw [hdrop] at hrun
    unfold runFrom at hrun
    refine ⟨bod57, ?_⟩
    refine run_perform (x := x) (m := mi) hX2 (ht.below hb2) hmi (hsi.up (by omega)) (by omega) (fun he w3 hb3 => ?_) (fun he w3 lv3 pv3 cv3 hX3 hb3 => ?_)
    · rw [if_pos he] at hrun
      simp only [q_neq, onSome_some]
      refine xif_ndec (fun _ => ?_) (fun h => absurd h he)
      have hk := hK w3 lvi pvi cvi (hb2.trans hb3) (fun h0 => absurd (by rw [← hrun] at h0; exact h0) he)
      rw [← hrun] at hk
      exact hk
    · rw [if_neg (by simpa using he)] at hrun
      simp [e1]
      have hok := (step_p method).ok hsi hmi
      refine ⟨⟨hb2.trans hb3, i + 1, _, _, lv3, pv3, cv3, rfl, by omega, hX3, hok.1, by simp [hci], mem_add_ok hco hok.2, hrun⟩, by simp only [lenM, intOf]; omega⟩
  · have hil : i = ms.length := by omega
    rw [hil, List.drop_length] at hrun
    unfold runFrom at hrun
    have hk := hK W lvi pvi cvi hbW (fun _ => by rw [← hrun]; exact hX)
    rw [← hrun] at hk
    exact hk
/-- What a run answers. -/
def runR (R : St × List Co × Int × Int) (lv pv cv : Value) : Value := .tuple #[StV R.1 lv pv, cv, .int .i64 R.2.2.1, .int .i64 R.2.2.2]
theorem runFrom_zero {method : Int} {s : St} {ms : List Mv} (h : (runFrom method 0 s [] ms).2.2.2 ≠ 0) : (runFrom method 0 s [] ms).1 = St.zero ∧ (runFrom method 0 s [] ms).2.1 = [] := by
  cases hr : runOk method s ms with
  | some x =>
    rw [runFrom_ok ms 0 s [] x.1 x.2 hr] at h
    exact absurd rfl h
  | none =>
    obtain ⟨k, e, _, _, hk, _⟩ := runFrom_bad ms 0 s [] hr
    rw [hk]
    exact ⟨rfl, rfl⟩
theorem runFrom_at {method : Int} {s : St} {ms : List Mv} (h : (runFrom method 0 s [] ms).2.2.2 = 0) : (runFrom method 0 s [] ms).2.2.1 = -1 := by
  cases hr : runOk method s ms with
  | some x => rw [runFrom_ok ms 0 s [] x.1 x.2 hr]
  | none =>
    obtain ⟨k, e, he, _, hk, _⟩ := runFrom_bad ms 0 s [] hr
    rw [hk] at h
    exact absurd h he
theorem run_ok {v : Value} {ms : List Mv} {price : Int} {K : Value → World → Prop} (ht : Tab w) (hp : I64 price) (hv : Rd MvE w v ms) (hm : ∀ m ∈ ms, m.Ok) (hn : ms.length ≤ 1000)
    (hK : ∀ w' lv' pv' cv', Below w.heap.size w w' → Own LyE 103 w' w.heap.size lv' (runV method price ms).1.layers → Own PaE 105 w' w.heap.size pv' (runV method price ms).1.past → Own CoE 43 w' w.heap.size cv' (runV method price ms).2.1 →
      K (runR (runV method price ms) lv' pv' cv') w') :
    Ret Tryz.prog 23 [.int .i64 method, .int .i64 price, v] w K := by
  refine lift23 ?_
  unfold L23
  simp only [l_new]
  have hb1 := (Below.refl w.heap.size w).alloc (Nat.le_refl _) (Obj.cells #[Value.int IntKind.i64 0, Value.int IntKind.i64 0, Value.int IntKind.i64 0, Value.slice none 0 0, Value.slice none 0 0] 28)
  have hk1 : X.blk (w.alloc (Obj.cells #[Value.int IntKind.i64 0, Value.int IntKind.i64 0, Value.int IntKind.i64 0, Value.slice none 0 0, Value.slice none 0 0] 28)) w.heap.size = some (.cells #[.int .i64 0, .int .i64 0, .int .i64 0, .slice none 0 0, .slice none 0 0] 28 (0, 0)) := by simp
  generalize w.alloc (Obj.cells #[Value.int IntKind.i64 0, Value.int IntKind.i64 0, Value.int IntKind.i64 0, Value.slice none 0 0, Value.slice none 0 0] 28) = w1 at *
  refine start_ok' _ (fun w2 hb2 => ?_)
  have hb02 := hb1.then hb2
  have hk2 := (blk_below hb2 (lt_of_blk hk1)).trans hk1
  have hok := start_ok (method := method) 0 hp
  have hrv : runV method price ms = (if (startV method price).2 ≠ 0 then (St.zero, [], -1, (startV method price).2) else runFrom method 0 (startV method price).1 [] ms) := rfl
  have hly : (startV method price).1.layers = [] ∧ (startV method price).1.past = [] := by
    unfold startV; split; exact ⟨rfl, rfl⟩; split; exact ⟨rfl, rfl⟩; split <;> exact ⟨rfl, rfl⟩
  obtain ⟨S, hS⟩ : ∃ S, S = startV method price := ⟨_, rfl⟩
  unfold startR
  rw [← hS] at hrv hok hly ⊢
  simp [StV, hk2, nilV]
  have hb03 := below_putL hb02 (Nat.le_refl _) [.int .i64 S.1.qty, .int .i64 S.1.value, .int .i64 S.1.price, .slice none 0 0, .slice none 0 0] 0
  have hk3 : X.blk (X.putL w2 w.heap.size 0 [.int .i64 S.1.qty, .int .i64 S.1.value, .int .i64 S.1.price, .slice none 0 0, .slice none 0 0]) w.heap.size = some (.cells #[.int .i64 S.1.qty, .int .i64 S.1.value, .int .i64 S.1.price, .slice none 0 0, .slice none 0 0] 28 (0, 0)) := by simp [hk2]
  have hs23 : (X.putL w2 w.heap.size 0 [.int .i64 S.1.qty, .int .i64 S.1.value, .int .i64 S.1.price, .slice none 0 0, .slice none 0 0]).heap.size = w2.heap.size := size_putL
  generalize X.putL w2 w.heap.size 0 [.int .i64 S.1.qty, .int .i64 S.1.value, .int .i64 S.1.price, .slice none 0 0, .slice none 0 0] = w3 at *
  refine xif_ndec (fun he => ?_) (fun he => ?_)
  · rw [if_pos he] at hrv
    rw [build_of (cs := #[.int .i64 0, .int .i64 0, .int .i64 0, .slice none 0 0, .slice none 0 0]) (by simp), onSome_some]
    simp [hk3]
    rw [hrv] at hK
    exact hK _ (.slice none 0 0) (.slice none 0 0) (.slice none 0 0) (below_putL hb03 (Nat.le_refl _) _ _) (Own.nil _ _ _ _) (Own.nil _ _ _ _) (Own.nil _ _ _ _)
  · rw [if_neg (by simpa using he)] at hrv
    rw [build_of (cs := #[.int .i64 method, .int .i64 S.1.qty, .int .i64 S.1.value, .int .i64 S.1.price, .slice none 0 0, .slice none 0 0, .slice none 0 0]) (by simp), onSome_some]
    simp only [l_new, cells_agg]
    have hb34 := (Below.refl w3.heap.size w3).alloc (Nat.le_refl _) (.cells #[.int .i64 method, .int .i64 S.1.qty, .int .i64 S.1.value, .int .i64 S.1.price, .slice none 0 0, .slice none 0 0, .slice none 0 0] 95)
    have hX : RX (w3.alloc (.cells #[.int .i64 method, .int .i64 S.1.qty, .int .i64 S.1.value, .int .i64 S.1.price, .slice none 0 0, .slice none 0 0, .slice none 0 0] 95)) w3.heap.size w3.heap.size method S.1 [] (.slice none 0 0) (.slice none 0 0) (.slice none 0 0) :=
      ⟨Nat.le_refl _, by simp, by rw [hly.1]; exact Own.nil _ _ _ _, by rw [hly.2]; exact Own.nil _ _ _ _, Own.nil _ _ _ _⟩
    generalize w3.alloc (.cells #[.int .i64 method, .int .i64 S.1.qty, .int .i64 S.1.value, .int .i64 S.1.price, .slice none 0 0, .slice none 0 0, .slice none 0 0] 95) = w4 at *
    rw [← hs23]
    refine run_each (w0 := w3) (x := w3.heap.size) hb34 hX (ht.below hb03) hok (hv.below hb03) hm hn (fun w5 lv5 pv5 cv5 hb5 hX5 => ?_)
    rw [← hrv] at hX5 ⊢
    have hb05 := hb03.then hb5
    have hk5 := (blk_below hb5 (lt_of_blk hk3)).trans hk3
    simp only [q_extract_tuple]
    simp
    refine xif_ndec (fun he5 => ?_) (fun he5 => ?_)
    · rw [build_of (cs := #[.int .i64 0, .int .i64 0, .int .i64 0, .slice none 0 0, .slice none 0 0]) (by simp), onSome_some]
      simp [hk5]
      have hz := runFrom_zero (method := method) (s := S.1) (ms := ms) (by rw [← hrv]; exact he5)
      rw [← hrv] at hz
      have hk := hK (X.putL w5 w.heap.size 0 [.int .i64 0, .int .i64 0, .int .i64 0, .slice none 0 0, .slice none 0 0]) (.slice none 0 0) (.slice none 0 0) (.slice none 0 0) (below_putL hb05 (Nat.le_refl _) _ _) (by rw [hz.1]; exact Own.nil _ _ _ _) (by rw [hz.1]; exact Own.nil _ _ _ _) (by rw [hz.2]; exact Own.nil _ _ _ _)
      unfold runR StV at hk
      rw [hz.1] at hk
      exact hk
    · have hX6 := hX5 he5
      have hat := runFrom_at (method := method) (s := S.1) (ms := ms) (by rw [← hrv]; exact he5)
      rw [← hrv] at hat
      have hx6 := hX6.blk
      have d1 := own_cells hX6.ly
      have d2 := own_cells hX6.pa
      have hle := hb03.size
      have hne : ¬ w.heap.size = w3.heap.size := Nat.ne_of_lt (lt_of_blk hk3)
      simp [hk5, hx6, d1.1, d1.2, d2.1, d2.2, hne]
      have l7 := (hX6.ly.drew.putL (w := w5.drew) (o := 0) (vs := [.int .i64 (runV method price ms).1.qty, .int .i64 (runV method price ms).1.value, .int .i64 (runV method price ms).1.price, lv5, pv5]) hk5 (by decide)).lower hle
      have p7 := (hX6.pa.drew.putL (w := w5.drew) (o := 0) (vs := [.int .i64 (runV method price ms).1.qty, .int .i64 (runV method price ms).1.value, .int .i64 (runV method price ms).1.price, lv5, pv5]) hk5 (by decide)).lower hle
      have c7 := (hX6.co.drew.putL (w := w5.drew) (o := 0) (vs := [.int .i64 (runV method price ms).1.qty, .int .i64 (runV method price ms).1.value, .int .i64 (runV method price ms).1.price, lv5, pv5]) hk5 (by decide)).lower hle
      have hk := hK _ lv5 pv5 cv5 (below_putL hb05.drew (Nat.le_refl _) _ _) l7 p7 c7
      unfold runR StV at hk
      rw [hat, he5] at hk
      exact hk
end Go.X
end
section
set_option linter.unusedVariables false
set_option linter.unusedSimpArgs false
namespace Go.X
open Go.Proofs Go.RowKit
attribute [local irreducible] l_append l_copy l_make l_run q_slice q_eq q_index q_build onSome l_lit
variable {w w' : World} {B x : Nat} {s : St} {lv pv cv : Value} {m : Mv} {c : Co} {cs : List Co} {method : Int}
end Go.X
end
section
set_option linter.unusedVariables false
set_option linter.unusedSimpArgs false
namespace Go.X
open Go.Proofs Go.RowKit
attribute [local irreducible] l_append l_copy l_make l_run q_slice q_eq q_index q_build onSome l_lit
variable {w w' : World} {B x : Nat} {s : St} {lv pv cv : Value} {m : Mv} {c : Co} {cs : List Co} {method : Int}
/-- The cells of a cost in a row. -/
structure CoAt (w : World) (g i : Nat) (p : Co) : Prop where
  c0 : cellO (X.blk w g) (i * 4) = some (.int .i64 p.seq)
  c1 : cellO (X.blk w g) (i * 4 + 1) = some (.int .i64 p.qty)
  c2 : cellO (X.blk w g) (i * 4 + 2) = some (.int .i64 p.value)
  c3 : cellO (X.blk w g) (i * 4 + 3) = some (.int .i64 p.var)
theorem Own.coAt {v : Value} {l : List Co} (h : Own CoE 43 w B v l) {i : Nat} (hi : i < l.length) : ∃ g cap, v = .slice (some ⟨g, 0, none⟩) l.length cap ∧ B ≤ g ∧ (∃ cur, X.blk w g = some (.cells cur 43 (0, 0)) ∧ l.length * 4 ≤ cur.size) ∧ CoAt w g i l[i] := by
  obtain ⟨g, cap, hv, hB, hk, hc⟩ := h.at hi
  exact ⟨g, cap, hv, hB, hk, hc 0 (by decide), hc 1 (by decide), hc 2 (by decide), hc 3 (by decide)⟩
end Go.X
end
section
set_option linter.unusedVariables false
set_option linter.unusedSimpArgs false
namespace Go.X
open Go.Proofs Go.RowKit
attribute [local irreducible] l_append l_copy l_make l_run q_slice q_eq q_index q_build onSome l_lit
variable {w w' : World} {B x : Nat} {s : St} {lv pv cv : Value} {m : Mv} {c : Co} {cs : List Co} {method : Int}
def Ly.sc (a : Ly) : List Sc := [.n a.seq, .s a.lot, .n a.qty, .n a.value]
def Pa.sc (a : Pa) : List Sc := [.n a.seq, .n a.kind, .s a.lot, .n a.qty, .n a.value, .n a.used, .n a.usedV]
theorem Ly.sc_inj {a b : Ly} : a.sc = b.sc ↔ a = b := by
  cases a; cases b; simp [Ly.sc]
theorem Pa.sc_inj {a b : Pa} : a.sc = b.sc ↔ a = b := by
  cases a; cases b; simp [Pa.sc]
instance : DecidableEq Ly := fun a b => if h : a.sc = b.sc then .isTrue (Ly.sc_inj.mp h) else .isFalse (fun e => h (Ly.sc_inj.mpr e))
instance : DecidableEq Pa := fun a b => if h : a.sc = b.sc then .isTrue (Pa.sc_inj.mp h) else .isFalse (fun e => h (Pa.sc_inj.mpr e))
theorem sc103 : scStruct Tryz.prog 103 [false, true, false, false] = true := by kernel_rfl
theorem sc105 : scStruct Tryz.prog 105 [false, false, true, false, false, false, false] = true := by kernel_rfl
theorem is43 : intStruct Tryz.prog 43 4 = true := by kernel_rfl
theorem ne103 (a b : Ly) : q_eq Tryz.prog .neq 103 (.agg #[.int .i64 a.seq, .string a.lot, .int .i64 a.qty, .int .i64 a.value]) (.agg #[.int .i64 b.seq, .string b.lot, .int .i64 b.qty, .int .i64 b.value]) = some (.bool (!decide (a = b))) := by
  have h := (q_eq_scs sc103 a.sc b.sc rfl rfl).2
  have e : decide (a.sc = b.sc) = decide (a = b) := decide_eq_decide.mpr Ly.sc_inj
  rw [e] at h
  exact h
theorem ne105 (a b : Pa) : q_eq Tryz.prog .neq 105 (.agg #[.int .i64 a.seq, .int .i64 a.kind, .string a.lot, .int .i64 a.qty, .int .i64 a.value, .int .i64 a.used, .int .i64 a.usedV]) (.agg #[.int .i64 b.seq, .int .i64 b.kind, .string b.lot, .int .i64 b.qty, .int .i64 b.value, .int .i64 b.used, .int .i64 b.usedV]) = some (.bool (!decide (a = b))) := by
  have h := (q_eq_scs sc105 a.sc b.sc rfl rfl).2
  have e : decide (a.sc = b.sc) = decide (a = b) := decide_eq_decide.mpr Pa.sc_inj
  rw [e] at h
  exact h
theorem eq43 (a b : Co) : q_eq Tryz.prog .neq 43 (.agg #[.int .i64 a.seq, .int .i64 a.qty, .int .i64 a.value, .int .i64 a.var]) (.agg #[.int .i64 b.seq, .int .i64 b.qty, .int .i64 b.value, .int .i64 b.var]) = some (.bool (!decide (a = b))) := by
  have h := (q_eq_ints is43 .i64 [a.seq, a.qty, a.value, a.var] [b.seq, b.qty, b.value, b.var] rfl rfl).2
  have e : decide ([a.seq, a.qty, a.value, a.var] = [b.seq, b.qty, b.value, b.var]) = decide (a = b) := decide_eq_decide.mpr (by cases a; cases b; simp)
  rw [e] at h
  exact h
theorem list_eq_of {α : Type} {l k : List α} (hlen : l.length = k.length) (h : ∀ j (h1 : j < l.length) (h2 : j < k.length), l[j] = k[j]) : l = k := List.ext_getElem hlen h
def sameStV (a b : St) : Bool := decide (a.qty = b.qty) && decide (a.value = b.value) && decide (a.price = b.price) && decide (a.layers = b.layers) && decide (a.past = b.past)
theorem sameStV_self (a : St) : sameStV a a = true := by simp [sameStV]
def SmL (l k : List Ly) (w0 : World) (v : Value) (W : World) : Prop := Below w0.heap.size w0 W ∧ ∃ i : Nat, v = .int .i64 i ∧ i ≤ l.length ∧ ∀ j (h1 : j < l.length) (h2 : j < k.length), j < i → l[j] = k[j]
def SmP (l k : List Pa) (w0 : World) (v : Value) (W : World) : Prop := Below w0.heap.size w0 W ∧ ∃ i : Nat, v = .int .i64 i ∧ i ≤ l.length ∧ ∀ j (h1 : j < l.length) (h2 : j < k.length), j < i → l[j] = k[j]
theorem same_stock {a b : St} {la pa lb pb : Value} (hla : Rd LyE w la a.layers) (hpa : Rd PaE w pa a.past) (hlb : Rd LyE w lb b.layers) (hpb : Rd PaE w pb b.past) : Calc 25 [StV a la pa, StV b lb pb] w (.bool (sameStV a b)) := by
  intro K hK
  refine lift25 ?_
  unfold L25 StV
  have n0 : ¬ w.heap.size = w.heap.size + 1 := by omega
  simp [l_new, n0]
  obtain ⟨w2, hw2⟩ : ∃ w2, ((w.alloc (Obj.cells #[Value.int IntKind.i64 a.qty, Value.int IntKind.i64 a.value, Value.int IntKind.i64 a.price, la, pa] 28)).alloc
                  (Obj.cells #[Value.int IntKind.i64 b.qty, Value.int IntKind.i64 b.value, Value.int IntKind.i64 b.price, lb, pb] 28)) = w2 := ⟨_, rfl⟩
  have hb2 : Below w.heap.size w w2 := by rw [← hw2]; exact (((Below.refl _ _).alloc (Nat.le_refl _) _).alloc (by simp) _)
  have hk0 : X.blk w2 w.heap.size = some (.cells #[.int .i64 a.qty, .int .i64 a.value, .int .i64 a.price, la, pa] 28 (0, 0)) := by rw [← hw2]; simp
  have hk1 : X.blk w2 (w.heap.size + 1) = some (.cells #[.int .i64 b.qty, .int .i64 b.value, .int .i64 b.price, lb, pb] 28 (0, 0)) := by rw [← hw2]; simp
  simp only [hw2]
  clear hw2
  have hla2 := hla.below hb2
  have hpa2 := hpa.below hb2
  have hlb2 := hlb.below hb2
  have hpb2 := hpb.below hb2
  by_cases h1 : ¬ a.qty = b.qty
  · have e : sameStV a b = false := by unfold sameStV; rw [decide_eq_false h1]; rfl
    rw [e] at hK
    simp [h1]
    exact hK _ hb2
  have h1 := Classical.not_not.mp h1
  by_cases h2 : ¬ a.value = b.value
  · have e : sameStV a b = false := by unfold sameStV; rw [decide_eq_false h2]; simp
    rw [e] at hK
    simp [h1, h2, hk0, hk1]
    exact hK _ hb2
  have h2 := Classical.not_not.mp h2
  by_cases h3 : ¬ a.price = b.price
  · have e : sameStV a b = false := by unfold sameStV; rw [decide_eq_false h3]; simp
    rw [e] at hK
    simp [h1, h2, h3, hk0, hk1]
    exact hK _ hb2
  have h3 := Classical.not_not.mp h3
  by_cases h4 : ¬ a.layers.length = b.layers.length
  · have e : sameStV a b = false := by unfold sameStV; rw [decide_eq_false (p := a.layers = b.layers) (fun e => h4 (by rw [e]))]; simp
    rw [e] at hK
    have h4' : ¬ (a.layers.length : Int) = (b.layers.length : Int) := by omega
    simp [h1, h2, h3, hk0, hk1, hla2.len, hlb2.len, h4', h4]
    exact hK _ hb2
  have h4 := Classical.not_not.mp h4
  by_cases h5 : ¬ a.past.length = b.past.length
  · have e : sameStV a b = false := by unfold sameStV; rw [decide_eq_false (p := a.past = b.past) (fun e => h5 (by rw [e]))]; simp
    rw [e] at hK
    have h5' : ¬ (a.past.length : Int) = (b.past.length : Int) := by omega
    simp [h1, h2, h3, hk0, hk1, hla2.len, hlb2.len, hpa2.len, hpb2.len, h4, h5, h5']
    exact hK _ hb2
  have h5 := Classical.not_not.mp h5
  simp [h1, h2, h3, hk0, hk1, hla2.len, hlb2.len, hpa2.len, hpb2.len, h4, h5]
  refine looping_i (SmL a.layers b.layers w2) (lenM a.layers.length) ⟨⟨Below.refl _ _, 0, rfl, Nat.zero_le _, by omega⟩, ?_⟩
  rintro v W ⟨hbW, i, rfl, hi, hno⟩
  have hk0W := (blk_below hbW (lt_of_blk hk0)).trans hk0
  have hk1W := (blk_below hbW (lt_of_blk hk1)).trans hk1
  have hlaW := hla2.below hbW
  have hlbW := hlb2.below hbW
  obtain ⟨_, _, _, hm1⟩ := hla.slice
  obtain ⟨_, _, _, hm2⟩ := hpa.slice
  have hmx' : (maxLen : Int) ≤ 9223372036854775807 := by decide
  simp [hk0W, hlaW.len]
  refine xif_dec (fun hlt => ?_) (fun hlt => ?_)
  · have j1 : i < a.layers.length := by omega
    have j2 : i < b.layers.length := by omega
    have e1 : IntKind.i64.wrap ((i : Int) + 1) = ((i + 1 : Nat) : Int) := by rw [wrap_i64 (by omega) (by omega)]; omega
    obtain ⟨ad, hq, hload⟩ := lyElem (hlaW.below (Below.refl _ W).drew) j1
    obtain ⟨ad', hq', hload'⟩ := lyElem (hlbW.below (Below.refl _ W).drew) j2
    simp [hk0W, hk1W]
    rw [hq, onSome_some, hload, onSome_some, hq', onSome_some, hload', onSome_some, ne103, onSome_some]
    refine xif_ndec (fun h6 => ?_) (fun h6 => ?_)
    · have e : sameStV a b = false := by unfold sameStV; rw [decide_eq_false (p := a.layers = b.layers) (fun e => h6 (by simp only [e]))]; simp
      rw [e] at hK
      exact hK _ (hb2.then hbW).drew
    · simp only [q_add, onSome_some, e1]
      refine ⟨⟨hbW.drew, i + 1, rfl, by omega, fun j k1 k2 hji => ?_⟩, by simp only [lenM, intOf]; omega⟩
      rcases Nat.lt_or_ge j i with h7 | h7
      · exact hno j k1 k2 h7
      · have : j = i := by omega
        subst this
        exact h6
  · have hL : a.layers = b.layers := list_eq_of h4 (fun j k1 k2 => hno j k1 k2 (by omega))
    refine looping_i (SmP a.past b.past w2) (lenM a.past.length) ⟨⟨hbW, 0, rfl, Nat.zero_le _, by omega⟩, ?_⟩
    rintro v W ⟨hbW, i, rfl, hi, hno⟩
    have hk0W := (blk_below hbW (lt_of_blk hk0)).trans hk0
    have hk1W := (blk_below hbW (lt_of_blk hk1)).trans hk1
    have hpaW := hpa2.below hbW
    have hpbW := hpb2.below hbW
    simp [hk0W, hpaW.len]
    refine xif_dec (fun hlt => ?_) (fun hlt => ?_)
    · have j1 : i < a.past.length := by omega
      have j2 : i < b.past.length := by omega
      have e1 : IntKind.i64.wrap ((i : Int) + 1) = ((i + 1 : Nat) : Int) := by rw [wrap_i64 (by omega) (by omega)]; omega
      obtain ⟨ad, hq, hload⟩ := paElem (hpaW.below (Below.refl _ W).drew) j1
      obtain ⟨ad', hq', hload'⟩ := paElem (hpbW.below (Below.refl _ W).drew) j2
      simp [hk0W, hk1W]
      rw [hq, onSome_some, hload, onSome_some, hq', onSome_some, hload', onSome_some, ne105, onSome_some]
      refine xif_ndec (fun h6 => ?_) (fun h6 => ?_)
      · have e : sameStV a b = false := by unfold sameStV; rw [decide_eq_false (p := a.past = b.past) (fun e => h6 (by simp only [e]))]; simp
        rw [e] at hK
        exact hK _ (hb2.then hbW).drew
      · simp only [q_add, onSome_some, e1]
        refine ⟨⟨hbW.drew, i + 1, rfl, by omega, fun j k1 k2 hji => ?_⟩, by simp only [lenM, intOf]; omega⟩
        rcases Nat.lt_or_ge j i with h7 | h7
        · exact hno j k1 k2 h7
        · have : j = i := by omega
          subst this
          exact h6
    · have hP : a.past = b.past := list_eq_of h5 (fun j k1 k2 => hno j k1 k2 (by omega))
      have e : sameStV a b = true := by unfold sameStV; rw [decide_eq_true h1, decide_eq_true h2, decide_eq_true h3, decide_eq_true hL, decide_eq_true hP]; rfl
      rw [e] at hK
      exact hK _ (hb2.then hbW)
end Go.X
end
