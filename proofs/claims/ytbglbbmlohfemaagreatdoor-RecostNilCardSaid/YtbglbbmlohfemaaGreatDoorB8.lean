/- Arguments as plain values; the contract of a row. -/
import Derived.Test.YtbglbbmlohfemaaGreatDoorB7
import Derived.Deep.Slices
import Derived.Deep.Fields
import Derived.ChangeSame
import Derived.OpenShut
import Derived.WideKeyArgs
import Derived.Carry
import Derived.Lib.LaidTab
import Derived.Deep.DeepHandedRow
section
set_option linter.unusedVariables false
set_option linter.unusedSimpArgs false
namespace Go.X
open Go.Proofs Go.RowKit Go.ChangeShapes Go.WideShapes
attribute [local irreducible] Value.okWide DataW.trod
section
open Go.Deep
variable {H : Type} {enc : TypeId × Value → H} {P : Program} {w : World} {base : Nat} {spare : Nat → Bool} {held : Bool}
end
variable {H : Type} {enc : TypeId × Value → H}
/-- The fields of a movement, by their types. -/
def mvFields (P : Program) : Bool :=
  match P.underlying 47 with
  | some (.struct fs) => (fs.toList.map (·.type) == [3, 3, 9, 3, 3, 3, 9, 3]) && Go.Deep.oneCellFields P fs && (P.cellsOf 47 == fs.size)
  | _ => false
theorem mvFields_ok : mvFields Tryz.prog = true := by kernel_rfl
theorem mvFields_spec : ∃ fs : Array Field, Tryz.prog.underlying 47 = some (.struct fs) ∧ fs.toList.map (·.type) = [3, 3, 9, 3, 3, 3, 9, 3] ∧ Go.Deep.oneCellFields Tryz.prog fs = true ∧ Tryz.prog.cellsOf 47 = fs.size := by
  have h := mvFields_ok
  unfold mvFields at h
  split at h
  · rename_i fs hu
    simp only [Bool.and_eq_true, beq_iff_eq] at h
    exact ⟨fs, hu, h.1.1, h.1.2, h.2⟩
  · cases h
theorem ty3 : Tryz.prog.underlying 3 = some (.int .i64) := by kernel_rfl
theorem ty9 : Tryz.prog.underlying 9 = some .string := by kernel_rfl
theorem wf_I64 {n : Int} (h : (Lit.int .i64 n).wf = true) : I64 n := by
  simp only [Lit.wf, Bool.and_eq_true, decide_eq_true_eq] at h
  have h1 : IntKind.i64.min = -9223372036854775808 := by decide
  have h2 : IntKind.i64.max = 9223372036854775807 := by decide
  rw [h1, h2] at h
  unfold I64
  omega
theorem fsize {fs : Array Field} (h : fs.toList.map (·.type) = [3, 3, 9, 3, 3, 3, 9, 3]) : fs.size = 8 := by
  have := congrArg List.length h
  simpa using this
theorem ftype {fs : Array Field} (h : fs.toList.map (·.type) = [3, 3, 9, 3, 3, 3, 9, 3]) {j : Nat} {t : TypeId} (hj : ([3, 3, 9, 3, 3, 3, 9, 3] : List TypeId)[j]? = some t) : ∃ f, fs[j]? = some f ∧ f.type = t := by
  rw [← h, List.getElem?_map] at hj
  obtain ⟨f, hf, he⟩ := Option.map_eq_some_iff.mp hj
  exact ⟨f, by rw [← Array.getElem?_toList]; exact hf, he⟩
theorem lo : laidOutB Tryz.prog = true := by kernel_rfl
theorem gLen : Tryz.prog.globalNamed "accounting/days.lengths" = some 0 := by kernel_rfl
end Go.X
end
section
set_option linter.unusedVariables false
set_option linter.unusedSimpArgs false
namespace Go.X
open Go.Proofs Go.RowKit Go.ChangeShapes Go.WideShapes
attribute [local irreducible] Value.okWide DataW.trod
variable {H : Type} {enc : TypeId × Value → H}
theorem ret_calls {P : Program} {f : FuncId} {args : List Value} {w : World} {K : Value → World → Prop} (h : Ret P f args w K) {Q : Ending → World → Prop} (hQ : ∀ v w', K v w' → Q (.returned v) w') : Calls P f args.toArray w Q := by
  refine Calls.mono h (fun e w' he => ?_)
  cases e with
  | returned v => exact hQ v w' he
  | _ => exact absurd he (fun h => h)
/-- An argument reads as it did. -/
theorem stays {t : TypeId} (hr : Tryz.prog.readableRec t = true) (hrow : t < Tryz.prog.types.size) {W W' : World} {v : Value} {d : DataW H} {ps : List MemPlace}
    (h : DataW.Trod enc Tryz.prog W 0 (fun _ => true) true t v d ps) (hb : Below W.heap.size W W') (hlt : ∀ x ∈ ps, x.block < W.heap.size) {sp : Nat → Bool} (hs : ∀ x ∈ ps, sp x.block = true) :
    DataW.Trod enc Tryz.prog W' 0 sp true t v d ps :=
  WideElems.Trod_stays lo hr hrow h (fun x hx => hb.same (hlt x hx)) hs
theorem ty218 : Tryz.prog.underlying 218 = some (.array 12 3) := by kernel_rfl
theorem gType : (Tryz.prog.globals[0]?).map (·.type) = some 218 := by kernel_rfl
theorem cells3 : Tryz.prog.cellsOf 3 = 1 := by kernel_rfl
theorem cells218 : Tryz.prog.cellsOf 218 = 12 := by kernel_rfl
/-- The table that the row lists. -/
theorem tab_of {W : World} {rest : List (String × DataW Unit)} (h : laidMet Tryz.prog (("accounting/days.lengths", Lib.tabData .i64 [31, 28, 31, 30, 31, 30, 31, 31, 30, 31, 30, 31]) :: rest) W) : Tab W := by
  have ht := Lib.tabIs_of_head gLen gType ty218 ty3 cells3 cells218 h
  intro i hi
  rw [ht.cell gLen i (by simpa using hi)]
  match i, hi with
  | 0, _ => rfl
  | 1, _ => rfl
  | 2, _ => rfl
  | 3, _ => rfl
  | 4, _ => rfl
  | 5, _ => rfl
  | 6, _ => rfl
  | 7, _ => rfl
  | 8, _ => rfl
  | 9, _ => rfl
  | 10, _ => rfl
  | 11, _ => rfl
/-- A world in which the table lies as its initialiser lays it. -/
noncomputable def laidWorld (os : Os) : World :=
  { World.holding Tryz.prog os ⟨#[], #[], []⟩ with heap := (World.holding Tryz.prog os ⟨#[], #[], []⟩).heap.modify 0 fun
      | .cells _ t frozen => .cells #[.int .i64 31, .int .i64 28, .int .i64 31, .int .i64 30, .int .i64 31, .int .i64 30, .int .i64 31, .int .i64 31, .int .i64 30, .int .i64 31, .int .i64 30, .int .i64 31] t frozen
      | o => o }
theorem ownKnob_ok : ownKnob Tryz.prog.godebug = none := by kernel_rfl
end Go.X
end
