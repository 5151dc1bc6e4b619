/- Contracts of package costing, and of the law package. -/
import Derived.Test.YtbglbbmlohfemaaGreatDoorTc
import Derived.Test.YtbglbbmlohfemaaGreatDoorB6
import Derived.Test.YtbglbbmlohfemaaGreatDoorA2
section
set_option linter.unusedVariables false
set_option linter.unusedSimpArgs false
namespace Go.X
open Go.Proofs Go.RowKit
attribute [local irreducible] l_append l_copy l_make l_run q_slice q_eq q_index q_build onSome l_lit
variable {w w' : World} {B x : Nat} {s : St} {lv pv : Value} {m : Mv} {c : Co}
def nilV : Value := .slice none 0 0
def startR (method price : Int) : Value := .tuple #[StV (startV method price).1 nilV nilV, .int .i64 (startV method price).2]
theorem start_ok' {method price : Int} : Calc 21 [.int .i64 method, .int .i64 price] w (startR method price) := by
  intro K hK
  refine lift21 ?_
  unfold L21
  simp [l_new]
  have hb := (Below.refl w.heap.size w).alloc (Nat.le_refl _) (Obj.cells #[Value.int IntKind.i64 0, Value.int IntKind.i64 0, Value.int IntKind.i64 0, Value.slice none 0 0, Value.slice none 0 0] 28)
  have hend : ∀ p e : Int, startR method price = .tuple #[.agg #[.int .i64 0, .int .i64 0, .int .i64 p, .slice none 0 0, .slice none 0 0], .int .i64 e] →
      (l_store 5 (.pointer (some ⟨w.heap.size, 0, none⟩)) (.agg #[.int .i64 0, .int .i64 0, .int .i64 p, .slice none 0 0, .slice none 0 0]) (w.alloc (Obj.cells #[Value.int IntKind.i64 0, Value.int IntKind.i64 0, Value.int IntKind.i64 0, Value.slice none 0 0, Value.slice none 0 0] 28)) fun _ W =>
        onSome (loadO 5 (X.blk W w.heap.size) 0) fun v => K (.tuple #[v, .int .i64 e]) W) := by
    intro p e he
    simp
    rw [← he]
    exact hK _ (below_putL hb (Nat.le_refl _) _ _)
  by_cases h1 : method < 1
  · simp [h1]
    rw [build_of (cs := #[.int .i64 0, .int .i64 0, .int .i64 0, .slice none 0 0, .slice none 0 0]) (by simp), onSome_some]
    exact hend 0 10 (by unfold startR startV; rw [if_pos (Or.inl h1)]; rfl)
  by_cases h2 : 4 < method
  · simp [h1, h2]
    rw [build_of (cs := #[.int .i64 0, .int .i64 0, .int .i64 0, .slice none 0 0, .slice none 0 0]) (by simp), onSome_some]
    exact hend 0 10 (by unfold startR startV; rw [if_pos (Or.inr h2)]; rfl)
  have h12 : ¬ (method < 1 ∨ 4 < method) := by omega
  by_cases h3 : price < 0
  · simp [h1, h2, h3]
    rw [build_of (cs := #[.int .i64 0, .int .i64 0, .int .i64 0, .slice none 0 0, .slice none 0 0]) (by simp), onSome_some]
    exact hend 0 3 (by unfold startR startV; rw [if_neg h12, if_pos (Or.inl h3)]; rfl)
  by_cases h4 : 1000000000000 < price
  · simp [h1, h2, h3, h4]
    rw [build_of (cs := #[.int .i64 0, .int .i64 0, .int .i64 0, .slice none 0 0, .slice none 0 0]) (by simp), onSome_some]
    exact hend 0 3 (by unfold startR startV; rw [if_neg h12, if_pos (Or.inr h4)]; rfl)
  have h34 : ¬ (price < 0 ∨ 1000000000000 < price) := by omega
  by_cases h5 : method = 3
  · simp [h3, h4, h5]
    rw [build_of (cs := #[.int .i64 0, .int .i64 0, .int .i64 price, .slice none 0 0, .slice none 0 0]) (by simp), onSome_some]
    exact hend price 0 (by unfold startR startV; rw [if_neg h12, if_neg h34, if_pos h5]; rfl)
  · simp [h1, h2, h3, h4, h5]
    rw [build_of (cs := #[.int .i64 0, .int .i64 0, .int .i64 0, .slice none 0 0, .slice none 0 0]) (by simp), onSome_some]
    exact hend 0 0 (by unfold startR startV; rw [if_neg h12, if_neg h34, if_neg h5]; rfl)
/-- The step by its method. -/
theorem step_any {method : Int} {K : Value → World → Prop} (ht : Tab w) (hm : m.Ok) (hs : s.Ok 900000) (hlv : Rd LyE w lv s.layers) (hpv : Rd PaE w pv s.past)
    (hK : ∀ w' lv' pv', Own LyE 103 w' w.heap.size lv' (stepV method s m).1.layers → Own PaE 105 w' w.heap.size pv' (stepV method s m).1.past → Below w.heap.size w w' → K (stepR (stepV method s m) lv' pv') w') :
    Ret Tryz.prog 27 [.int .i64 method, StV s lv pv, m.v] w K := by
  refine lift27 ?_
  unfold L27 StV
  have a1 : ¬ w.heap.size = w.heap.size + 1 + 1 + 1 := by omega
  have a2 : ¬ w.heap.size = w.heap.size + 1 + 1 := by omega
  have a3 : ¬ w.heap.size + 1 = w.heap.size + 1 + 1 + 1 := by omega
  have a4 : ¬ w.heap.size + 1 = w.heap.size + 1 + 1 := by omega
  simp [l_new, a1, a2, a3, a4]
  obtain ⟨w4, hw4⟩ : ∃ w4, ((((w.alloc (Obj.cells #[Value.int IntKind.i64 s.qty, Value.int IntKind.i64 s.value, Value.int IntKind.i64 s.price, lv, pv] 28)).alloc
      (Obj.cells #[Value.int IntKind.i64 m.seq, Value.int IntKind.i64 m.value, Value.string m.item, Value.int IntKind.i64 m.kind, Value.int IntKind.i64 m.qty, Value.int IntKind.i64 m.cost, Value.string m.lot, Value.int IntKind.i64 m.ref] 47)).alloc
      (Obj.cells #[Value.int IntKind.i64 0, Value.int IntKind.i64 0, Value.int IntKind.i64 0, Value.slice none 0 0, Value.slice none 0 0] 28)).alloc
      (Obj.cells #[Value.int IntKind.i64 0, Value.int IntKind.i64 0, Value.int IntKind.i64 0, Value.int IntKind.i64 0] 43)) = w4 := ⟨_, rfl⟩
  have hb4 : Below w.heap.size w w4 := by
    rw [← hw4]
    exact (((((Below.refl _ _).alloc (Nat.le_refl _) _).alloc (by simp) _).alloc (by simp; omega) _).alloc (by simp; omega) _)
  have hkt : X.blk w4 (w.heap.size + 1 + 1) = some (.cells #[.int .i64 0, .int .i64 0, .int .i64 0, .slice none 0 0, .slice none 0 0] 28 (0, 0)) := by
    rw [← hw4]; simp
  have hkc : X.blk w4 (w.heap.size + 1 + 1 + 1) = some (.cells #[.int .i64 0, .int .i64 0, .int .i64 0, .int .i64 0] 43 (0, 0)) := by
    rw [← hw4]; simp
  rw [hw4]
  clear hw4
  have fin : ∀ (f : FuncId) (F : St → Mv → St × Co × Int), StepOk f F → stepV method s m = F s m →
      Ret Tryz.prog f [.agg #[.int .i64 s.qty, .int .i64 s.value, .int .i64 s.price, lv, pv], .agg #[.int .i64 m.seq, .int .i64 m.value, .string m.item, .int .i64 m.kind, .int .i64 m.qty, .int .i64 m.cost, .string m.lot, .int .i64 m.ref]] w4 fun t W =>
        onSome (q_extract t 0) fun t15 => onSome (q_extract t 1) fun t16 => onSome (q_extract t 2) fun t17 =>
        l_store 5 (.pointer (some ⟨w.heap.size + 1 + 1, 0, none⟩)) t15 W fun _ W6 => l_store 4 (.pointer (some ⟨w.heap.size + 1 + 1 + 1, 0, none⟩)) t16 W6 fun _ W7 =>
        onSome (loadO 5 (X.blk W7 (w.heap.size + 1 + 1)) 0) fun a => onSome (loadO 4 (X.blk W7 (w.heap.size + 1 + 1 + 1)) 0) fun b => K (.tuple #[a, b, t17]) W7 := by
    intro f F hF e
    rw [e] at hK
    refine hF w4 s m lv pv _ (ht.below hb4) hm hs (hlv.below hb4) (hpv.below hb4) (fun w5 lv5 pv5 hl5 hp5 hb5 => ?_)
    have hb05 := hb4.then hb5
    have hkt5 := (blk_below hb5 (lt_of_blk hkt)).trans hkt
    have hkc5 := (blk_below hb5 (lt_of_blk hkc)).trans hkc
    have c1 := own_cells hl5
    have c2 := own_cells hp5
    have n1 : ¬ w.heap.size + 1 + 1 + 1 = w.heap.size + 1 + 1 := by omega
    have n2 : ¬ w.heap.size + 1 + 1 = w.heap.size + 1 + 1 + 1 := by omega
    unfold stepR StV
    simp only [q_extract_tuple]
    simp [hkt5, hkc5, c1.1, c1.2, c2.1, c2.2, n1, n2]
    have p1 := (hl5.lower hb4.size).putL (o := 0) (vs := [.int .i64 (F s m).1.qty, .int .i64 (F s m).1.value, .int .i64 (F s m).1.price, lv5, pv5]) hkt5 (by decide)
    have q1 := (hp5.lower hb4.size).putL (o := 0) (vs := [.int .i64 (F s m).1.qty, .int .i64 (F s m).1.value, .int .i64 (F s m).1.price, lv5, pv5]) hkt5 (by decide)
    have hkc6 : X.blk (X.putL w5 (w.heap.size + 1 + 1) 0 [.int .i64 (F s m).1.qty, .int .i64 (F s m).1.value, .int .i64 (F s m).1.price, lv5, pv5]) (w.heap.size + 1 + 1 + 1) = some (.cells #[.int .i64 0, .int .i64 0, .int .i64 0, .int .i64 0] 43 (0, 0)) := by
      rw [blk_putL, if_neg n2]; exact hkc5
    have p2 := p1.putL (o := 0) (vs := [.int .i64 (F s m).2.1.seq, .int .i64 (F s m).2.1.qty, .int .i64 (F s m).2.1.value, .int .i64 (F s m).2.1.var]) hkc6 (by decide)
    have q2 := q1.putL (o := 0) (vs := [.int .i64 (F s m).2.1.seq, .int .i64 (F s m).2.1.qty, .int .i64 (F s m).2.1.value, .int .i64 (F s m).2.1.var]) hkc6 (by decide)
    exact hK _ lv5 pv5 p2 q2 (below_putL (below_putL hb05 (by omega) _ _) (by omega) _ _)
  by_cases h1 : method = 1
  · have f := fin 32 _ fifo_step (by unfold stepV; rw [if_pos h1])
    simp [h1] at f ⊢
    exact f
  by_cases h2 : method = 2
  · have f := fin 33 _ avg_step (by unfold stepV; rw [if_neg h1, if_pos h2])
    simp [h2] at f ⊢
    exact f
  by_cases h3 : method = 3
  · have f := fin 34 _ std_step (by unfold stepV; rw [if_neg h1, if_neg h2, if_pos h3])
    simp [h3] at f ⊢
    exact f
  by_cases h4 : method = 4
  · have f := fin 35 _ lots_step (by unfold stepV; rw [if_neg h1, if_neg h2, if_neg h3, if_pos h4])
    simp [h4] at f ⊢
    exact f
  · have e : stepV method s m = (St.zero, Co.zero, 10) := by unfold stepV; rw [if_neg h1, if_neg h2, if_neg h3, if_neg h4]
    simp [h1, h2, h3, h4]
    exact step_fail e hK hb4 (by omega) (by omega) hkt hkc
end Go.X
end
section
set_option linter.unusedVariables false
set_option linter.unusedSimpArgs false
namespace Go.X
open Go.Proofs Go.RowKit
theorem bytes_co {n : Nat} (h : n ≤ 1000000) : n * 32 ≤ 140737488355328 := by omega
attribute [local irreducible] l_append l_copy l_make l_run q_slice q_eq q_index q_build onSome l_lit
variable {w w' : World} {B x : Nat} {s : St} {lv pv cv : Value} {m : Mv} {c : Co} {cs : List Co} {method : Int}
/-- The state of a run. -/
structure RX (w : World) (B x : Nat) (method : Int) (s : St) (cs : List Co) (lv pv cv : Value) : Prop where
  le : B ≤ x
  blk : X.blk w x = some (.cells #[.int .i64 method, .int .i64 s.qty, .int .i64 s.value, .int .i64 s.price, lv, pv, cv] 95 (0, 0))
  ly : Own LyE 103 w B lv s.layers
  pa : Own PaE 105 w B pv s.past
  co : Own CoE 43 w B cv cs
theorem RX.called (h : RX w B x method s cs lv pv cv) (hb : Below w.heap.size w w') : RX w' B x method s cs lv pv cv :=
  ⟨h.le, (blk_below hb (lt_of_blk h.blk)).trans h.blk, h.ly.below hb, h.pa.below hb, h.co.below hb⟩
theorem RX.size (h : RX w B x method s cs lv pv cv) : B ≤ w.heap.size := Nat.le_trans h.le (Nat.le_of_lt (lt_of_blk h.blk))
/-- Behind the step: its results in two new blocks. -/
def PerfJ (w : World) (R : St × Co × Int) (t c e : Value) (W : World) : Prop :=
  ∃ (a b : Nat) (lv pv : Value), t = ptr a ∧ c = ptr b ∧ e = .int .i64 R.2.2 ∧ X.blk W a = some (.cells #[.int .i64 R.1.qty, .int .i64 R.1.value, .int .i64 R.1.price, lv, pv] 28 (0, 0)) ∧
    X.blk W b = some (.cells #[.int .i64 R.2.1.seq, .int .i64 R.2.1.qty, .int .i64 R.2.1.value, .int .i64 R.2.1.var] 43 (0, 0)) ∧
    Own LyE 103 W w.heap.size lv R.1.layers ∧ Own PaE 105 W w.heap.size pv R.1.past ∧ Below w.heap.size w W ∧ w.heap.size ≤ a ∧ w.heap.size ≤ b
theorem perf_end {a b : Nat} {R : St × Co × Int} {W : World} (hne : ¬ a = b) (hl : Own LyE 103 W w.heap.size lv R.1.layers) (hp : Own PaE 105 W w.heap.size pv R.1.past) (hb : Below w.heap.size w W) (ha : w.heap.size ≤ a) (hbb : w.heap.size ≤ b)
    (h1 : X.blk W a = some (.cells #[.int .i64 0, .int .i64 0, .int .i64 0, .slice none 0 0, .slice none 0 0] 28 (0, 0))) (h2 : X.blk W b = some (.cells #[.int .i64 0, .int .i64 0, .int .i64 0, .int .i64 0] 43 (0, 0))) :
    PerfJ w R (.pointer (some ⟨a, 0, none⟩)) (.pointer (some ⟨b, 0, none⟩)) (.int .i64 R.2.2) (X.putL (X.putL W a 0 [.int .i64 R.1.qty, .int .i64 R.1.value, .int .i64 R.1.price, lv, pv]) b 0 [.int .i64 R.2.1.seq, .int .i64 R.2.1.qty, .int .i64 R.2.1.value, .int .i64 R.2.1.var]) := by
  have hne' : ¬ b = a := fun e => hne e.symm
  have p1 := hl.putL (o := 0) (vs := [.int .i64 R.1.qty, .int .i64 R.1.value, .int .i64 R.1.price, lv, pv]) h1 (by decide)
  have q1 := hp.putL (o := 0) (vs := [.int .i64 R.1.qty, .int .i64 R.1.value, .int .i64 R.1.price, lv, pv]) h1 (by decide)
  have h2' : X.blk (X.putL W a 0 [.int .i64 R.1.qty, .int .i64 R.1.value, .int .i64 R.1.price, lv, pv]) b = some (.cells #[.int .i64 0, .int .i64 0, .int .i64 0, .int .i64 0] 43 (0, 0)) := by
    rw [blk_putL, if_neg hne]; exact h2
  exact ⟨a, b, lv, pv, rfl, rfl, rfl, by simp [h1, hne'], by simp [h2, hne], p1.putL h2' (by decide), q1.putL h2' (by decide), below_putL (below_putL hb ha _ _) hbb _ _, ha, hbb⟩
end Go.X
end
section
set_option linter.unusedVariables false
set_option linter.unusedSimpArgs false
namespace Go.X
open Go.Proofs Go.RowKit
attribute [local irreducible] l_append l_copy l_make l_run q_slice q_eq q_index q_build onSome l_lit
variable {w w' : World} {B x : Nat} {s : St} {lv pv cv : Value} {m : Mv} {c : Co} {cs : List Co} {method : Int}
theorem mvElem {v : Value} {l : List Mv} (h : Rd MvE w v l) {i : Nat} (hi : i < l.length) : ∃ ad, q_iaddr 8 v (.int .i64 (i : Int)) = some (.pointer (some ad)) ∧ q_loadn 8 (.pointer (some ad)) w = some l[i].v ∧ ∀ j u, (l[i].cs.toList)[j]? = some u → w.cell? (ad.add j) = some u := by
  obtain ⟨ad, h1, h2, h3⟩ := h.elem hi .i64
  exact ⟨ad, h1, h2, h3⟩
end Go.X
end
section
set_option linter.unusedVariables false
set_option linter.unusedSimpArgs false
namespace Go.X
open Go.Proofs Go.RowKit
attribute [local irreducible] l_append l_copy l_make l_run q_slice q_eq q_index q_build onSome l_lit
variable {w w' : World} {B x : Nat} {s : St} {lv pv cv : Value} {m : Mv} {c : Co} {cs : List Co} {method : Int}
end Go.X
end
section
set_option linter.unusedVariables false
set_option linter.unusedSimpArgs false
namespace Go.X
open Go.Proofs Go.RowKit
attribute [local irreducible] l_append l_copy l_make l_run q_slice q_eq q_index q_build onSome l_lit
variable {w w' : World} {B x : Nat} {s : St} {lv pv cv : Value} {m : Mv} {c : Co} {cs : List Co} {method : Int}
/-- The cells of a cost in a row. -/
structure CoAt (w : World) (g i : Nat) (p : Co) : Prop where
  c0 : cellO (X.blk w g) (i * 4) = some (.int .i64 p.seq)
  c1 : cellO (X.blk w g) (i * 4 + 1) = some (.int .i64 p.qty)
  c2 : cellO (X.blk w g) (i * 4 + 2) = some (.int .i64 p.value)
  c3 : cellO (X.blk w g) (i * 4 + 3) = some (.int .i64 p.var)
theorem Own.coAt {v : Value} {l : List Co} (h : Own CoE 43 w B v l) {i : Nat} (hi : i < l.length) : ∃ g cap, v = .slice (some ⟨g, 0, none⟩) l.length cap ∧ B ≤ g ∧ (∃ cur, X.blk w g = some (.cells cur 43 (0, 0)) ∧ l.length * 4 ≤ cur.size) ∧ CoAt w g i l[i] := by
  obtain ⟨g, cap, hv, hB, hk, hc⟩ := h.at hi
  exact ⟨g, cap, hv, hB, hk, hc 0 (by decide), hc 1 (by decide), hc 2 (by decide), hc 3 (by decide)⟩
end Go.X
end
section
set_option linter.unusedVariables false
set_option linter.unusedSimpArgs false
namespace Go.X
open Go.Proofs Go.RowKit
attribute [local irreducible] l_append l_copy l_make l_run q_slice q_eq q_index q_build onSome l_lit
variable {w w' : World} {B x : Nat} {s : St} {lv pv cv : Value} {m : Mv} {c : Co} {cs : List Co} {method : Int}
def Ly.sc (a : Ly) : List Sc := [.n a.seq, .s a.lot, .n a.qty, .n a.value]
def Pa.sc (a : Pa) : List Sc := [.n a.seq, .n a.kind, .s a.lot, .n a.qty, .n a.value, .n a.used, .n a.usedV]
theorem Ly.sc_inj {a b : Ly} : a.sc = b.sc ↔ a = b := by
  cases a; cases b; simp [Ly.sc]
theorem Pa.sc_inj {a b : Pa} : a.sc = b.sc ↔ a = b := by
  cases a; cases b; simp [Pa.sc]
instance : DecidableEq Ly := fun a b => if h : a.sc = b.sc then .isTrue (Ly.sc_inj.mp h) else .isFalse (fun e => h (Ly.sc_inj.mpr e))
instance : DecidableEq Pa := fun a b => if h : a.sc = b.sc then .isTrue (Pa.sc_inj.mp h) else .isFalse (fun e => h (Pa.sc_inj.mpr e))
end Go.X
end
