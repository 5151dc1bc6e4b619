/- Law 39: the contract of the law function of RecostFails. -/
import Derived.Test.YtbglbbmlohfemaaGreatDoorC5
import Derived.Test.YtbglbbmlohfemaaGreatDoorCWn
set_option linter.unusedVariables false
set_option linter.unusedSimpArgs false
namespace Go.X
open Go.Proofs Go.RowKit
attribute [local irreducible] l_append l_copy l_make l_run l_runU q_slice q_eq q_index q_build onSome l_lit q_read
variable {w w' w'' : World} {B x : Nat} {r : Option Nat} {method : Int} {s0 : St} {L : List Mv} {m : Mv}
theorem HasE.fr {S : Nat → Prop} (h : HasE w B x r method s0 L) (hF : Fr S w w') (hS : ∀ j, B ≤ j → ¬ S j) : HasE w' B x r method s0 L := by
  obtain ⟨mv, cv, ov, kv, lv, pv, ks, hrow, h⟩ := h
  have ow : ∀ {α : Type} {E : Enc α} {t : TypeId} {v : Value} {l : List α}, Own E t w B v l → Own E t w' B v l := fun ho => hF.own ho (fun k hk => hS k (ho.lt k hk).1)
  refine ⟨mv, cv, ov, kv, lv, pv, ks, hrow, h.le, hF.blk h.blk (hS x h.le), ow h.mv, ow h.co, ow h.ov, ow h.kv, ⟨h.ks.1, fun i k s hk hs => ?_⟩, ow h.ly, ow h.pa⟩
  have := h.ks.2 i k s hk hs
  exact ⟨this.qty, this.value, this.price, ow this.ly, ow this.pa⟩
/-- Two engines, the second one newer: what the first one's call changes is not the second one's. -/
theorem HasE.other {B2 x2 : Nat} {r2 : Option Nat} {L2 : List Mv} {m2 : Int} {t0 : St} (h : HasE w B x r method s0 L) (h2 : HasE w'' B2 x2 r2 m2 t0 L2) (hw : w.heap.size ≤ B2) (hF : Fr (EngS x r) w'' w') : HasE w' B2 x2 r2 m2 t0 L2 := by
  obtain ⟨h1, _, h3⟩ := h.lts
  refine h2.fr hF (fun j hj hS => ?_)
  rcases hS with e | e
  · omega
  · have := (h3 j e).2; omega
end Go.X
