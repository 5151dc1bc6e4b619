/- Law 39: a nil engine is empty. -/
import Derived.Test.YtbglbbmlohfemaaGreatDoorC5
set_option linter.unusedVariables false
set_option linter.unusedSimpArgs false
namespace Go.X
open Go.Proofs Go.RowKit
attribute [local irreducible] l_append l_copy l_make l_run l_runU q_slice q_eq q_index q_build onSome l_lit q_read
variable {w w' w'' : World} {m : Mv}
theorem ne43z : q_build #[.int .i64 0, .int .i64 0, .int .i64 0, .int .i64 0] [] = some (.agg #[.int .i64 0, .int .i64 0, .int .i64 0, .int .i64 0]) := build_of (by simp)
theorem ne28z : q_build #[.int .i64 0, .int .i64 0, .int .i64 0, .slice none 0 0, .slice none 0 0] [] = some (.agg #[.int .i64 0, .int .i64 0, .int .i64 0, .slice none 0 0, .slice none 0 0]) := build_of (by simp)
theorem nil_add : Calc 41 [.pointer none, m.v] w (.tuple #[.agg #[.int .i64 0, .int .i64 0, .int .i64 0, .int .i64 0], .slice none 0 0, .int .i64 1]) := by
  intro K hK
  refine lift41 ?_
  unfold L41
  rw [l_new_eq, Mv.v_cells]
  have hb1 := (Below.refl w.heap.size w).alloc (Nat.le_refl _) (.cells #[.int .i64 m.seq, .int .i64 m.value, .string m.item, .int .i64 m.kind, .int .i64 m.qty, .int .i64 m.cost, .string m.lot, .int .i64 m.ref] 47)
  generalize w.alloc (.cells #[.int .i64 m.seq, .int .i64 m.value, .string m.item, .int .i64 m.kind, .int .i64 m.qty, .int .i64 m.cost, .string m.lot, .int .i64 m.ref] 47) = W1 at *
  rw [l_new_eq, (nil50 _).1, onSome_some]
  simp only [Option.isNone_none, xif_true, ne43z, onSome_some]
  rw [l_store_to (by simp), cells_agg]
  have hb3 := below_putL (hb1.alloc hb1.size (.cells #[.int .i64 0, .int .i64 0, .int .i64 0, .int .i64 0] 43)) hb1.size [.int .i64 0, .int .i64 0, .int .i64 0, .int .i64 0] 0
  simp
  exact hK _ hb3
theorem nil_cost {seq : Int} : Calc 42 [.pointer none, .int .i64 seq] w (.tuple #[.agg #[.int .i64 0, .int .i64 0, .int .i64 0, .int .i64 0], .bool false]) := by
  intro K hK
  refine lift42 ?_
  unfold L42
  rw [l_new_eq, (nil50 _).1, onSome_some]
  have hb3 := below_putL ((Below.refl w.heap.size w).alloc (Nat.le_refl _) (.cells #[.int .i64 0, .int .i64 0, .int .i64 0, .int .i64 0] 43)) (Nat.le_refl _) [.int .i64 0, .int .i64 0, .int .i64 0, .int .i64 0] 0
  simp [ne43z]
  exact hK _ hb3
theorem nil_at {day : Int} : Calc 30 [.pointer none, .int .i64 day] w (.tuple #[.int .i64 0, .int .i64 0]) := by
  intro K hK
  refine lift30 ?_
  unfold L30
  rw [(nil50 _).1, onSome_some]
  simp only [Option.isNone_none, xif_true]
  exact hK _ (Below.refl _ _)
theorem nil_len : Calc 40 [.pointer none] w (.int .i64 0) := by
  intro K hK
  refine lift40 ?_
  unfold L40
  rw [(nil50 _).1, onSome_some]
  simp only [Option.isNone_none, xif_true]
  exact hK _ (Below.refl _ _)
theorem nil_moves : Calc 49 [.pointer none] w (.slice none 0 0) := by
  intro K hK
  refine lift49 ?_
  unfold L49
  rw [(nil50 _).1, onSome_some]
  simp only [Option.isNone_none, xif_true]
  exact hK _ (Below.refl _ _)
theorem nil_stock : Calc 50 [.pointer none] w (StV St.zero (.slice none 0 0) (.slice none 0 0)) := by
  intro K hK
  refine lift50 ?_
  unfold L50
  rw [l_new_eq, (nil50 _).1, onSome_some]
  have hb3 := below_putL ((Below.refl w.heap.size w).alloc (Nat.le_refl _) (.cells #[.int .i64 0, .int .i64 0, .int .i64 0, .slice none 0 0, .slice none 0 0] 28)) (Nat.le_refl _) [.int .i64 0, .int .i64 0, .int .i64 0, .slice none 0 0, .slice none 0 0] 0
  simp [ne28z]
  exact hK _ hb3
theorem recostNil_ok {day : Int} (ht : Tab w) (hm : m.Ok) : Calc 16 [m.v, .int .i64 day] w (.bool true) := by
  intro K hK
  refine lift16 ?_
  unfold L16
  rw [l_new_eq, Mv.v_cells]
  have hb1 := (Below.refl w.heap.size w).alloc (Nat.le_refl _) (.cells #[.int .i64 m.seq, .int .i64 m.value, .string m.item, .int .i64 m.kind, .int .i64 m.qty, .int .i64 m.cost, .string m.lot, .int .i64 m.ref] 47)
  have hk1 := new_blk w (.cells #[.int .i64 m.seq, .int .i64 m.value, .string m.item, .int .i64 m.kind, .int .i64 m.qty, .int .i64 m.cost, .string m.lot, .int .i64 m.ref] 47) _ rfl
  generalize w.alloc (.cells #[.int .i64 m.seq, .int .i64 m.value, .string m.item, .int .i64 m.kind, .int .i64 m.qty, .int .i64 m.cost, .string m.lot, .int .i64 m.ref] 47) = W1 at *
  have e8 : ∀ W, Below W1.heap.size W1 W → q_loadn 8 (.pointer (some ⟨w.heap.size, 0, none⟩)) W = some m.v := by
    intro W hW
    have := (blk_below hW (lt_of_blk hk1)).trans hk1
    simp [this, Mv.v, Mv.cs]
  rw [e8 _ (Below.refl _ _), onSome_some]
  unfold l_lit
  rw [show fillC #[.int .i64 0, .int .i64 0, .string ⟨#[]⟩, .int .i64 0, .int .i64 0, .int .i64 0, .string ⟨#[]⟩, .int .i64 0] [(0, 8, m.v)] = some (MvE.cells m).toArray from lit_mv m, onSome_some]
  dsimp only
  have hb12 := (Below.refl W1.heap.size W1).alloc (Nat.le_refl _) (.cells (MvE.cells m).toArray 47)
  have hr := Rd.new (E := MvE) (t := 47) (a := m) W1 (by decide)
  generalize W1.alloc (.cells (MvE.cells m).toArray 47) = W2 at *
  have hb02 := hb1.then hb12
  refine light_ok hr (fun b _ => ?_)
  cases b with
  | false =>
    simp only [q_not, Bool.not_false, onSome_some, xif_true]
    exact lives39_ok (ht.below hb02) _ (fun w4 hb4 => hK _ (hb02.then hb4))
  | true =>
    simp only [q_not, Bool.not_true, onSome_some, xif_false]
    rw [e8 _ hb12, onSome_some]
    refine nil_add _ (fun W5 hb5 => ?_)
    simp only [q_extract_tuple, List.getElem?_toArray, List.getElem?_cons_succ, List.getElem?_cons_zero, onSome_some]
    refine var_co (c := Co.zero) (fun W7 hb7 hk7 _ => ?_)
    have hb27 := hb5.then hb7
    have hk17 := (blk_below (hb12.then hb27) (lt_of_blk hk1)).trans hk1
    simp [hk17]
    refine nil_cost _ (fun W8 hb8 => ?_)
    simp only [q_extract_tuple, List.getElem?_toArray, List.getElem?_cons_succ, List.getElem?_cons_zero, onSome_some]
    refine var_co (c := Co.zero) (fun W10 hb10 hk10 _ => ?_)
    have hb710 := hb8.then hb10
    refine nil_at _ (fun W11 hb11 => ?_)
    have hk7' := (blk_below (hb710.then hb11) (lt_of_blk hk7)).trans hk7
    have hk10' := (blk_below hb11 (lt_of_blk hk10)).trans hk10
    have hb011 := hb02.then (hb27.then (hb710.then hb11))
    have ez := eqq43 Co.zero Co.zero
    simp only [decide_true, Co.zero] at ez
    simp only [Co.zero] at hk7' hk10'
    simp [hk7', hk10', ne43z, ez]
    refine nil_len _ (fun W12 hb12' => ?_)
    simp
    refine nil_moves _ (fun W13 hb13 => ?_)
    simp
    refine nil_stock _ (fun W14 hb14 => ?_)
    simp [ne28z]
    have hb014 := hb011.then (hb12'.then (hb13.then hb14))
    refine same_stock (a := St.zero) (b := St.zero) (Rd.of_own (Own.nil LyE 103 _ 0)) (Rd.of_own (Own.nil PaE 105 _ 0)) (Rd.of_own (Own.nil LyE 103 _ 0)) (Rd.of_own (Own.nil PaE 105 _ 0)) _ (fun W15 hb15 => ?_)
    rw [sameStV_self]
    simp
    have hb015 := hb014.then hb15
    refine lives39_ok (ht.below hb015) _ (fun W16 hb16 => ?_)
    exact hK _ (hb015.then hb16)
end Go.X
