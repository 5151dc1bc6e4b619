/- Law 39: small functions; the examples. -/
import Derived.Test.YtbglbbmlohfemaaGreatDoorC3
import Derived.Test.YtbglbbmlohfemaaGreatDoorB7
import Derived.Test.YtbglbbmlohfemaaGreatDoorC4
section
set_option linter.unusedVariables false
set_option linter.unusedSimpArgs false
namespace Go.X
open Go.Proofs Go.RowKit
def Mv.sc (a : Mv) : List Sc := [.n a.seq, .n a.value, .s a.item, .n a.kind, .n a.qty, .n a.cost, .s a.lot, .n a.ref]
theorem Mv.sc_inj {a b : Mv} : a.sc = b.sc ↔ a = b := by
  cases a; cases b; simp [Mv.sc]
instance : DecidableEq Mv := fun a b => if h : a.sc = b.sc then .isTrue (Mv.sc_inj.mp h) else .isFalse (fun e => h (Mv.sc_inj.mpr e))
attribute [local irreducible] l_append l_copy l_make l_run l_runU q_slice q_eq q_index q_build onSome l_lit q_read
variable {w w' w'' : World} {B x : Nat} {r : Option Nat} {method : Int} {s0 : St} {L : List Mv} {m : Mv}
/-! ### light, move, fill -/
theorem HasE.lts (h : HasE w B x r method s0 L) : x < w.heap.size ∧ B ≤ x ∧ ∀ k, r = some k → B ≤ k ∧ k < w.heap.size := by
  obtain ⟨mv, cv, ov, kv, lv, pv, ks, hrow, h⟩ := h
  exact ⟨lt_of_blk h.blk, h.le, fun k hk => h.co.lt k (by rw [hrow]; exact hk)⟩
theorem HasE.notS (h : HasE w B x r method s0 L) {j : Nat} (hj : w.heap.size ≤ j) : ¬ EngS x r j := by
  obtain ⟨h1, _, h2⟩ := h.lts
  rintro (e | e)
  · omega
  · have := (h2 j e).2; omega
theorem HasE.belowS (h : HasE w B x r method s0 L) (hF : Fr (EngS x r) w w') : Below B w w' := by
  obtain ⟨h1, h2, h3⟩ := h.lts
  exact hF.below h.size (fun k hk => by
    rcases hk with rfl | hk
    · exact h2
    · exact (h3 k hk).1)
end Go.X
end
section
set_option linter.unusedVariables false
set_option linter.unusedSimpArgs false
namespace Go.X
open Go.Proofs Go.RowKit
attribute [local irreducible] l_append l_copy l_make l_run l_runU q_slice q_eq q_index q_build onSome l_lit q_read
variable {w w' w'' : World} {B x : Nat} {r : Option Nat}
variable {method : Int} {s0 : St} {L : List Mv} {m : Mv}
/-- Add, its cost in a variable. -/
theorem eng_addc (ht : Tab w) (h : HasE w B x r method s0 L) (hG : GoodL method s0 L) (hm : m.Ok) {Q : Value → Value → Value → World → Prop}
    (hK1 : errV method s0 (L ++ [m]) ≠ 0 → ∀ w' j, Below w.heap.size w w' → X.blk w' j = some (.cells #[.int .i64 0, .int .i64 0, .int .i64 0, .int .i64 0] 43 (0, 0)) → w.heap.size ≤ j → Q (.pointer (some ⟨j, 0, none⟩)) (.slice none 0 0) (.int .i64 (errV method s0 (L ++ [m]))) w')
    (hK2 : errV method s0 (L ++ [m]) = 0 → ∀ w' j r' av c, c = ((cosV method s0 (L ++ [m]))[L.length]?).getD Co.zero → HasE w' B x r' method s0 (L ++ [m]) → (r' = r ∨ ∃ k, r' = some k ∧ w.heap.size ≤ k) → Fr (EngS x r) w w' → Own AdE 72 w' w.heap.size av (adjV (cosV method s0 L) (cosV method s0 (L ++ [m]))) →
      X.blk w' j = some (.cells #[.int .i64 c.seq, .int .i64 c.qty, .int .i64 c.value, .int .i64 c.var] 43 (0, 0)) → w.heap.size ≤ j → ¬ EngS x r' j → (∀ k, av.ownBlock = some k → ¬ EngS x r' k) → Q (.pointer (some ⟨j, 0, none⟩)) av (.int .i64 0) w') :
    Ret Tryz.prog 41 [.pointer (some ⟨x, 0, none⟩), m.v] w fun t33 W3 => onSome (q_extract t33 0) fun t34 => onSome (q_extract t33 1) fun t35 => onSome (q_extract t33 2) fun t36 =>
      l_new 43 #[.int .i64 0, .int .i64 0, .int .i64 0, .int .i64 0] W3 fun a3 W4 => l_store 4 a3 t34 W4 fun _ W5 => Q a3 t35 t36 W5 := by
  refine eng_add ht h hG hm (fun he w1 hb1 => ?_) (fun he w1 r' av hE1 hr1 hF1 hA1 => ?_)
  · simp only [q_extract_tuple, List.getElem?_toArray, List.getElem?_cons_succ, List.getElem?_cons_zero, onSome_some]
    refine var_co (c := Co.zero) (fun w2 hb2 hk2 _ => ?_)
    exact hK1 he _ _ (hb1.then hb2) hk2 hb1.size
  · simp only [q_extract_tuple, List.getElem?_toArray, List.getElem?_cons_succ, List.getElem?_cons_zero, onSome_some]
    refine var_co (c := ((cosV method s0 (L ++ [m]))[L.length]?).getD Co.zero) (fun w2 hb2 hk2 _ => ?_)
    refine hK2 he _ _ r' av _ rfl (hE1.below hb2) hr1 (hF1.then_below hb2) (hA1.below hb2) hk2 hF1.size (hE1.notS (Nat.le_refl _)) (fun k hk => ?_)
    rintro (e | e)
    · obtain ⟨c, hc⟩ := hA1.type k hk
      obtain ⟨_, _, _, _, _, _, _, _, hx⟩ := hE1
      rw [e, hx.blk] at hc; injection hc with hc; injection hc with _ hc; cases hc
    · obtain ⟨c, hc⟩ := hA1.type k hk
      obtain ⟨_, _, _, _, _, _, _, hrow, hx⟩ := hE1
      obtain ⟨c', hc'⟩ := hx.co.type k (by rw [hrow]; exact e)
      rw [hc] at hc'; injection hc' with hc'; injection hc' with _ hc'; cases hc'
end Go.X
end
