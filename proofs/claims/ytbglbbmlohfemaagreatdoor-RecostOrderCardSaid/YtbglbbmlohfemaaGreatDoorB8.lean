/- Arguments as plain values; the contract of a row. -/
import Derived.Test.YtbglbbmlohfemaaGreatDoorB7
import Derived.Deep.Slices
import Derived.Deep.Fields
import Derived.ChangeSame
import Derived.OpenShut
import Derived.WideKeyArgs
import Derived.Carry
import Derived.Lib.LaidTab
import Derived.Deep.DeepHandedRow
section
set_option linter.unusedVariables false
set_option linter.unusedSimpArgs false
namespace Go.X
open Go.Proofs Go.RowKit Go.ChangeShapes Go.WideShapes
attribute [local irreducible] Value.okWide DataW.trod
section
open Go.Deep
variable {H : Type} {enc : TypeId × Value → H} {P : Program} {w : World} {base : Nat} {spare : Nat → Bool} {held : Bool}
theorem open_slice_fields {t e : TypeId} {fs : Array Field} {fuel : Nat} {cs : List Value} {x : DataW H × List MemPlace} (ht : P.underlying t = some (.slice e)) (he : P.underlying e = some (.struct fs))
    (hone : oneCellFields P fs = true) (hC : P.cellsOf e = fs.size) (h : DataW.trod enc P w base spare held fuel t cs = some x) :
    (cs = [.slice none 0 0] ∧ x = (.nil, [])) ∨
    ∃ (a : Addr) (len cap m : Nat) (D : Nat → DataW H) (Pl : Nat → List MemPlace), cs = [.slice (some a) len cap] ∧ base ≤ a.block ∧ len ≤ cap ∧ cap ≤ maxLen ∧ m = (if spare a.block then cap else len) ∧
      x = (.slice ((List.range len).map D) ((List.range (m - len)).map fun j => D (len + j)), MemPlace.row a (m * fs.size) ++ (List.range m).flatMap Pl) ∧
      ∀ i, i < m → ∃ (ys : List (DataW H × List MemPlace)) (n : Nat), D i = .agg (ys.map (·.1)) ∧ Pl i = ys.flatMap (·.2) ∧ ys.length = fs.size ∧
        ∀ (j : Nat) (f : Field), fs[j]? = some f → ∃ (v : Value) (y : DataW H × List MemPlace), w.cell? (a.add (i * fs.size + j)) = some v ∧ ys[j]? = some y ∧ DataW.trod enc P w base spare held n f.type [v] = some y := by
  rcases open_slice ht h with h0 | ⟨a, len, cap, m, n, D, Pl, hcs, hb, hl, hm, hmm, hx, hi⟩
  · exact .inl h0
  · refine .inr ⟨a, len, cap, m, D, Pl, hcs, hb, hl, hm, hmm, by rw [hC] at hx; exact hx, fun i him => ?_⟩
    obtain ⟨cs', hc, ht'⟩ := hi i him
    rw [hC] at hc
    obtain ⟨ys, n', hn', hy, hlen, hyl, hf⟩ := DataW.trod_struct he ht'
    obtain ⟨_, hcl, hat⟩ := World.cells?_some hc
    simp only [Prod.mk.injEq] at hy
    refine ⟨ys, n', hy.1, hy.2, hyl, fun j f hj => ?_⟩
    obtain ⟨ho, hk⟩ := hone_of hone j f hj
    have hjl : j < fs.size := (Array.getElem?_eq_some_iff.1 hj).1
    have hcell := hat j hjl
    have hv : cs'[j]? = some (cs'[j]'(by omega)) := List.getElem?_eq_getElem (by omega)
    have h1 := hf j f hj
    rw [ho, hk] at h1
    have hone' : (cs'.drop j).take 1 = [cs'[j]'(by omega)] := by
      rw [List.drop_eq_getElem_cons (by omega)]
      rfl
    rw [hone'] at h1
    have hys : ys[j]? = some (ys[j]'(by omega)) := List.getElem?_eq_getElem (by omega)
    refine ⟨_, _, ?_, hys, h1.trans hys⟩
    rw [← Go.Deep.add_add, hcell, hv]
end
variable {H : Type} {enc : TypeId × Value → H}
/-- The fields of a movement, by their types. -/
def mvFields (P : Program) : Bool :=
  match P.underlying 47 with
  | some (.struct fs) => (fs.toList.map (·.type) == [3, 3, 9, 3, 3, 3, 9, 3]) && Go.Deep.oneCellFields P fs && (P.cellsOf 47 == fs.size)
  | _ => false
theorem mvFields_ok : mvFields Tryz.prog = true := by kernel_rfl
theorem mvFields_spec : ∃ fs : Array Field, Tryz.prog.underlying 47 = some (.struct fs) ∧ fs.toList.map (·.type) = [3, 3, 9, 3, 3, 3, 9, 3] ∧ Go.Deep.oneCellFields Tryz.prog fs = true ∧ Tryz.prog.cellsOf 47 = fs.size := by
  have h := mvFields_ok
  unfold mvFields at h
  split at h
  · rename_i fs hu
    simp only [Bool.and_eq_true, beq_iff_eq] at h
    exact ⟨fs, hu, h.1.1, h.1.2, h.2⟩
  · cases h
theorem ty3 : Tryz.prog.underlying 3 = some (.int .i64) := by kernel_rfl
theorem ty9 : Tryz.prog.underlying 9 = some .string := by kernel_rfl
theorem ty22 : Tryz.prog.underlying 22 = some (.slice 47) := by kernel_rfl
theorem wf_I64 {n : Int} (h : (Lit.int .i64 n).wf = true) : I64 n := by
  simp only [Lit.wf, Bool.and_eq_true, decide_eq_true_eq] at h
  have h1 : IntKind.i64.min = -9223372036854775808 := by decide
  have h2 : IntKind.i64.max = 9223372036854775807 := by decide
  rw [h1, h2] at h
  unfold I64
  omega
theorem fsize {fs : Array Field} (h : fs.toList.map (·.type) = [3, 3, 9, 3, 3, 3, 9, 3]) : fs.size = 8 := by
  have := congrArg List.length h
  simpa using this
theorem ftype {fs : Array Field} (h : fs.toList.map (·.type) = [3, 3, 9, 3, 3, 3, 9, 3]) {j : Nat} {t : TypeId} (hj : ([3, 3, 9, 3, 3, 3, 9, 3] : List TypeId)[j]? = some t) : ∃ f, fs[j]? = some f ∧ f.type = t := by
  rw [← h, List.getElem?_map] at hj
  obtain ⟨f, hf, he⟩ := Option.map_eq_some_iff.mp hj
  exact ⟨f, by rw [← Array.getElem?_toList]; exact hf, he⟩
/-- A slice of movements that reads as data reads as a list. -/
theorem open_moves {w : World} {base : Nat} {spare : Nat → Bool} {held : Bool} {r : Reach} {b0 : Nat} {v : Value} {d : DataW H} {p : List MemPlace} (hv : Value.okWide Tryz.prog w r b0 22 v)
    (h : DataW.Trod enc Tryz.prog w base spare held 22 v d p) : ∃ ms, Rd MvE w v ms ∧ ∀ m ∈ ms, m.Ok := by
  have hsl : ∃ a len cap, v = .slice a len cap := okWide_slice (P := Tryz.prog) (t := 22) (e := 47) ty22 hv
  refine hsl.elim fun a h1 => h1.elim fun len h2 => h2.elim fun cap hvv => ?_
  subst hvv
  obtain ⟨fuel, hf⟩ := h
  obtain ⟨fs, hu, hty, hone, hC⟩ := mvFields_spec
  have h8 := fsize hty
  rcases open_slice_fields ty22 hu hone hC hf with ⟨hcs, _⟩ | ⟨a', len', cap', m, D, Pl, hcs, _, hl, hm, hmm, _, hel⟩
  · simp only [cells_slice, List.cons.injEq, and_true, Value.slice.injEq] at hcs
    obtain ⟨rfl, rfl, rfl⟩ := hcs
    exact ⟨[], ⟨none, 0, rfl, ⟨Nat.zero_le _, Nat.zero_le _⟩, fun i hi => absurd hi (by simp)⟩, by simp⟩
  · simp only [cells_slice, List.cons.injEq, and_true, Value.slice.injEq] at hcs
    obtain ⟨rfl, rfl, rfl⟩ := hcs
    have hlm : len ≤ m := by rw [hmm]; split <;> omega
    have one : ∀ i, i < len → ∃ mv : Mv, mv.Ok ∧ ∀ j u, (mv.cs.toList)[j]? = some u → w.cell? (a'.add (i * 8 + j)) = some u := by
      intro i hi
      obtain ⟨ys, n, _, _, _, hfj⟩ := hel i (by omega)
      have gi : ∀ j, ([3, 3, 9, 3, 3, 3, 9, 3] : List TypeId)[j]? = some 3 → ∃ z : Int, I64 z ∧ w.cell? (a'.add (i * 8 + j)) = some (.int .i64 z) := by
        intro j hj
        obtain ⟨f, hfj', hft⟩ := ftype hty hj
        obtain ⟨v, y, hcell, _, ht⟩ := hfj j f hfj'
        rw [hft] at ht
        obtain ⟨z, hz, _, hw⟩ := DataW.trod_int ty3 ht
        simp only [List.cons.injEq, and_true] at hz
        rw [h8, hz] at hcell
        exact ⟨z, wf_I64 hw, hcell⟩
      have gs : ∀ j, ([3, 3, 9, 3, 3, 3, 9, 3] : List TypeId)[j]? = some 9 → ∃ z : ByteArray, w.cell? (a'.add (i * 8 + j)) = some (.string z) := by
        intro j hj
        obtain ⟨f, hfj', hft⟩ := ftype hty hj
        obtain ⟨v, y, hcell, _, ht⟩ := hfj j f hfj'
        rw [hft] at ht
        obtain ⟨z, hz, _, _⟩ := DataW.trod_string ty9 ht
        simp only [List.cons.injEq, and_true] at hz
        rw [h8, hz] at hcell
        exact ⟨z, hcell⟩
      obtain ⟨z0, k0, e0⟩ := gi 0 rfl
      obtain ⟨z1, k1, e1⟩ := gi 1 rfl
      obtain ⟨z2, e2⟩ := gs 2 rfl
      obtain ⟨z3, k3, e3⟩ := gi 3 rfl
      obtain ⟨z4, k4, e4⟩ := gi 4 rfl
      obtain ⟨z5, k5, e5⟩ := gi 5 rfl
      obtain ⟨z6, e6⟩ := gs 6 rfl
      obtain ⟨z7, k7, e7⟩ := gi 7 rfl
      refine ⟨⟨z0, z1, z2, z3, z4, z5, z6, z7⟩, ⟨k0, k1, k3, k4, k5, k7⟩, fun j u hu => ?_⟩
      match j, hu with
      | 0, hu => simp only [Mv.cs, List.getElem?_cons_zero, Option.some.injEq] at hu; rw [← hu]; exact e0
      | 1, hu => simp [Mv.cs] at hu; rw [← hu]; exact e1
      | 2, hu => simp [Mv.cs] at hu; rw [← hu]; exact e2
      | 3, hu => simp [Mv.cs] at hu; rw [← hu]; exact e3
      | 4, hu => simp [Mv.cs] at hu; rw [← hu]; exact e4
      | 5, hu => simp [Mv.cs] at hu; rw [← hu]; exact e5
      | 6, hu => simp [Mv.cs] at hu; rw [← hu]; exact e6
      | 7, hu => simp [Mv.cs] at hu; rw [← hu]; exact e7
      | j + 8, hu => simp [Mv.cs] at hu
    have all : ∀ n, n ≤ len → ∃ ms : List Mv, ms.length = n ∧ (∀ m ∈ ms, m.Ok) ∧ ∀ (i : Nat) (hi : i < ms.length), ∀ j u, (ms[i].cs.toList)[j]? = some u → w.cell? (a'.add (i * 8 + j)) = some u := by
      intro n
      induction n with
      | zero => intro _; exact ⟨[], rfl, by simp, fun i hi => absurd hi (by simp)⟩
      | succ n ih =>
        intro hn
        obtain ⟨ms, hlen, hok, hget⟩ := ih (by omega)
        obtain ⟨mv, hmv, hmg⟩ := one n (by omega)
        refine ⟨ms ++ [mv], by simp [hlen], fun m hm => ?_, fun i hi => ?_⟩
        · rcases List.mem_append.mp hm with hm | hm
          · exact hok m hm
          · rw [List.mem_singleton.mp hm]; exact hmv
        · rcases Nat.lt_or_ge i ms.length with h1 | h1
          · rw [List.getElem_append_left h1]; exact hget i h1
          · have : i = ms.length := by simp at hi; omega
            subst this
            rw [List.getElem_append_right (Nat.le_refl _)]
            simp only [Nat.sub_self, List.getElem_cons_zero]
            rw [hlen]; exact hmg
    obtain ⟨ms, hlen, hok, hget⟩ := all len (Nat.le_refl _)
    exact ⟨ms, ⟨some a', cap, by rw [hlen], ⟨by omega, by omega⟩, fun i hi => ⟨a', rfl, fun j u hu => hget i hi j u hu⟩⟩, hok⟩
theorem lo : laidOutB Tryz.prog = true := by kernel_rfl
theorem rr22 : Tryz.prog.readableRec 22 = true := by kernel_rfl
theorem tsz : 22 < Tryz.prog.types.size := of_decide_eq_true (by kernel_rfl)
theorem gLen : Tryz.prog.globalNamed "accounting/days.lengths" = some 0 := by kernel_rfl
end Go.X
end
section
set_option linter.unusedVariables false
set_option linter.unusedSimpArgs false
namespace Go.X
open Go.Proofs Go.RowKit Go.ChangeShapes Go.WideShapes
attribute [local irreducible] Value.okWide DataW.trod
variable {H : Type} {enc : TypeId × Value → H}
theorem ret_calls {P : Program} {f : FuncId} {args : List Value} {w : World} {K : Value → World → Prop} (h : Ret P f args w K) {Q : Ending → World → Prop} (hQ : ∀ v w', K v w' → Q (.returned v) w') : Calls P f args.toArray w Q := by
  refine Calls.mono h (fun e w' he => ?_)
  cases e with
  | returned v => exact hQ v w' he
  | _ => exact absurd he (fun h => h)
/-- An argument reads as it did. -/
theorem stays {t : TypeId} (hr : Tryz.prog.readableRec t = true) (hrow : t < Tryz.prog.types.size) {W W' : World} {v : Value} {d : DataW H} {ps : List MemPlace}
    (h : DataW.Trod enc Tryz.prog W 0 (fun _ => true) true t v d ps) (hb : Below W.heap.size W W') (hlt : ∀ x ∈ ps, x.block < W.heap.size) {sp : Nat → Bool} (hs : ∀ x ∈ ps, sp x.block = true) :
    DataW.Trod enc Tryz.prog W' 0 sp true t v d ps :=
  WideElems.Trod_stays lo hr hrow h (fun x hx => hb.same (hlt x hx)) hs
theorem ty218 : Tryz.prog.underlying 218 = some (.array 12 3) := by kernel_rfl
theorem gType : (Tryz.prog.globals[0]?).map (·.type) = some 218 := by kernel_rfl
theorem cells3 : Tryz.prog.cellsOf 3 = 1 := by kernel_rfl
theorem cells218 : Tryz.prog.cellsOf 218 = 12 := by kernel_rfl
/-- The table that the row lists. -/
theorem tab_of {W : World} {rest : List (String × DataW Unit)} (h : laidMet Tryz.prog (("accounting/days.lengths", Lib.tabData .i64 [31, 28, 31, 30, 31, 30, 31, 31, 30, 31, 30, 31]) :: rest) W) : Tab W := by
  have ht := Lib.tabIs_of_head gLen gType ty218 ty3 cells3 cells218 h
  intro i hi
  rw [ht.cell gLen i (by simpa using hi)]
  match i, hi with
  | 0, _ => rfl
  | 1, _ => rfl
  | 2, _ => rfl
  | 3, _ => rfl
  | 4, _ => rfl
  | 5, _ => rfl
  | 6, _ => rfl
  | 7, _ => rfl
  | 8, _ => rfl
  | 9, _ => rfl
  | 10, _ => rfl
  | 11, _ => rfl
/-- A world in which the table lies as its initialiser lays it. -/
noncomputable def laidWorld (os : Os) : World :=
  { World.holding Tryz.prog os ⟨#[], #[], []⟩ with heap := (World.holding Tryz.prog os ⟨#[], #[], []⟩).heap.modify 0 fun
      | .cells _ t frozen => .cells #[.int .i64 31, .int .i64 28, .int .i64 31, .int .i64 30, .int .i64 31, .int .i64 30, .int .i64 31, .int .i64 31, .int .i64 30, .int .i64 31, .int .i64 30, .int .i64 31] t frozen
      | o => o }
theorem ownKnob_ok : ownKnob Tryz.prog.godebug = none := by kernel_rfl
end Go.X
end
