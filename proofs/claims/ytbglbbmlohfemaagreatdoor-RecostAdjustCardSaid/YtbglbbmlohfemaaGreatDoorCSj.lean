/- RecostAdjust returns true for every way and list of movements: costs and adjustments add up to the current costs. -/
import Derived.Test.YtbglbbmlohfemaaGreatDoorCards
import Derived.Test.YtbglbbmlohfemaaGreatDoorTie
import Derived.Test.YtbglbbmlohfemaaGreatDoorCRc
import Derived.Test.YtbglbbmlohfemaaGreatDoorB0
import Derived.Test.YtbglbbmlohfemaaGreatDoorCWj
import Derived.WalkKit
import Derived.ProofKit
namespace Go.Proofs.YtbglbbmlohfemaaGreatDoor
open Go.ChangeShapes Go.WideShapes Go.RowKit Go.X
theorem recostAdjust_met (os : Os) : laidMet Tryz.prog Rows.recostAdjustRow.laid ((laidWorld os).forCall (fun _ _ => 0) ⟨#[], #[.agg #[.int .i64 0, .int .i64 0], .slice none 0 0], []⟩).memory :=
  laidMet_of_run' 8 (by kernel_rfl) (by kernel_rfl)
theorem recostAdjust_reads (os : Os) {H : Type} (enc : TypeId × Value → H) : ∃ places, DataW.whole enc Tryz.prog ((laidWorld os).forCall (fun _ _ => 0) ⟨#[], #[.agg #[.int .i64 0, .int .i64 0], .slice none 0 0], []⟩).memory Tryz.f12.params.toList Rows.recostAdjustSpec.vars false #[Value.agg #[.int .i64 0, .int .i64 0], .slice none 0 0].toList 8 = some ([.agg [.lit (.int .i64 0), .lit (.int .i64 0)], .nil], [], places) :=
  ⟨[], by kernel_rfl⟩
set_option maxRecDepth 100000 in
theorem recostAdjust_lifted (os : Os) (started : os.Started) (H : Type) (enc : TypeId × Value → H) (F : Stop.Interp) :
    ReturnsInHanded {} Tryz.checked os 12 .any ((OpenSpec.ofChange Rows.recostAdjustSpec).preRow enc Tryz.prog Tryz.f12 Rows.recostAdjustRow.domain false Rows.recostAdjustRow.laid) (((OpenSpec.ofChange Rows.recostAdjustSpec).at F).post enc Tryz.prog Tryz.f12 false true false false) := by
  obtain ⟨places, hx⟩ := recostAdjust_reads os enc
  refine returnsInHanded_of_row (C := Tryz.checked) (s := OpenSpec.ofChange Rows.recostAdjustSpec) ownKnob_ok started (by kernel_rfl) Tryz.func12
    (witness_row_at (enc := enc) (C := Tryz.checked) false (laidWorld os) #[.agg #[.int .i64 0, .int .i64 0], .slice none 0 0] rfl (by kernel_rfl) (by kernel_rfl) (by kernel_rfl)
      (OpenSpec.preRow_of_cond 8 hx (by kernel_rfl) (fun k hk => by cases hk) (by kernel_rfl) (recostAdjust_met os))) ?_
  intro W base args ds gs before hval hW _ _ _ hL _ _
  exact contractW2 (s := Rows.recostAdjustSpec) rfl rfl rfl (fun _ _ => rfl) (fun W p q v l K ht hp hq hv hm hK => recostAdjust_ok ht hq hv hm _ hK) W base args ds gs before hval hW (tab_of hL)
theorem recostAdjust_k1 : (Rows.recostAdjustRow.inPlace == Tryz.pinned.checked.prog.inPlace 12) = true := by kernel_rfl
theorem recostAdjust_k2 : (Rows.recostAdjustRow.unfollowed == Tryz.pinned.checked.prog.unfollowed 12) = true := by kernel_rfl
theorem recostAdjust_k3 : (Rows.recostAdjustRow.recurses == Tryz.pinned.checked.prog.recurses 12) = true := by kernel_rfl
theorem recostAdjust_k4 : (Rows.recostAdjustRow.named == Tryz.pinned.checked.prog.varsNamed 12) = true := by kernel_rfl
theorem recostAdjust_facts : joinedFacts Tryz.pinned.checked.prog 12 Tryz.f12 (OpenSpec.ofChange Rows.recostAdjustSpec).bare Rows.recostAdjustRow = true := by
  unfold joinedFacts
  have e1 : (Rows.recostAdjustRow.lifted == Tryz.pinned.checked.prog.liftsFinal) = true := prog_lifts
  have e2 : (Tryz.pinned.checked.prog.make == some Rows.recostAdjustRow.make) = true := prog_make
  have e3 : (Rows.recostAdjustRow.plainKeys == Tryz.pinned.checked.prog.plainKeys) = true := prog_rest.1
  rw [recostAdjust_k1, recostAdjust_k2, recostAdjust_k3, recostAdjust_k4, e1, e2, e3, prog_enter, prog_rest.2.1, prog_rest.2.2.1, prog_rest.2.2.2]
  show (_ : Bool) = true
  kernel_rfl
theorem recostAdjust_said : Rows.RecostAdjustSaid :=
  OpenClaim.holds_of_cond 12 Tryz.f12 rfl rfl rfl rfl rfl rfl rfl ⟨rfl, rfl, rfl, rfl, rfl⟩ rfl rfl rfl rfl rfl (by kernel_rfl) Tryz.func12 recostAdjust_facts
    (of_decide_eq_true (by kernel_rfl)) (by unfold Func.isWrapper; first | (rw [if_pos (by decide +kernel)]; kernel_rfl) | (rw [if_neg (by decide +kernel)]; exact ⟨rfl, rfl⟩))
    (fun os started H enc _ F => by rw [OpenClaim.pre_eq_preRow]; exact recostAdjust_lifted os started H enc F)
/-- No parameter wants a stand-in; the program's own looks are off: what the card asks. -/
theorem recostAdjust_plain (f : FuncId) (fn : Func) (hf : Tryz.pinned.checked.prog.funcNamed "accounting/accountinglaw39.RecostAdjust" = some f) (hfn : Tryz.pinned.checked.prog.funcs[f]? = some fn) :
    false = Tryz.pinned.checked.prog.looks [] ∧ ∀ (j : Nat) t, fn.params[j]? = some t → Tryz.pinned.checked.prog.wantsStandIn t = false := by
  obtain rfl : f = 12 := Option.some.inj ((show Tryz.prog.funcNamed "accounting/accountinglaw39.RecostAdjust" = some 12 by kernel_rfl).symm.trans hf) |>.symm
  obtain rfl : fn = Tryz.f12 := (Option.some.inj (Tryz.func12.symm.trans hfn)).symm
  refine ⟨prog_looks, fun j t ht => ?_⟩
  rw [Tryz.params12] at ht
  have hm := Array.mem_of_getElem? ht
  simp only [List.mem_toArray, List.mem_cons, List.not_mem_nil, or_false] at hm
  rcases hm with rfl | rfl
  · exact (show Tryz.prog.wantsStandIn 64 = false by kernel_rfl)
  · exact (show Tryz.prog.wantsStandIn 22 = false by kernel_rfl)
theorem recostAdjust_goes : false = Rows.recostAdjustRow.goesBy Tryz.pinned.checked.prog := by kernel_rfl
theorem recostAdjust_card : Rows.RecostAdjustCardSaid :=
  Claim7.holds_tied_plain_at .later [] _ _ _ _ recostAdjust_said (fun _ h => by cases h) (by kernel_rfl) (fun _ h => by cases h) recostAdjust_row_tie rfl ⟨rfl, rfl⟩ prog_main rfl recostAdjust_plain recostAdjust_goes
end Go.Proofs.YtbglbbmlohfemaaGreatDoor
