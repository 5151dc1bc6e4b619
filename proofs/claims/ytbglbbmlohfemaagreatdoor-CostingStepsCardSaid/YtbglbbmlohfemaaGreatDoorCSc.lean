/- CostingSteps returns true for every method, price and list of movements: Run has the costs and the state that Start and one Step after the other have, up to the first error. -/
import Derived.Test.YtbglbbmlohfemaaGreatDoorCards
import Derived.Test.YtbglbbmlohfemaaGreatDoorTie
import Derived.Test.YtbglbbmlohfemaaGreatDoorCRc
import Derived.Test.YtbglbbmlohfemaaGreatDoorCQc
import Derived.WalkKit
import Derived.ProofKit
namespace Go.Proofs.YtbglbbmlohfemaaGreatDoor
open Go.ChangeShapes Go.WideShapes Go.RowKit Go.X
theorem steps_met (os : Os) : laidMet Tryz.prog Rows.costingStepsRow.laid ((laidWorld os).forCall (fun _ _ => 0) ⟨#[], #[.int .i64 0, .int .i64 0, .slice none 0 0], []⟩).memory :=
  laidMet_of_run' 8 (by kernel_rfl) (by kernel_rfl)
theorem steps_reads (os : Os) {H : Type} (enc : TypeId × Value → H) : ∃ places, DataW.whole enc Tryz.prog ((laidWorld os).forCall (fun _ _ => 0) ⟨#[], #[.int .i64 0, .int .i64 0, .slice none 0 0], []⟩).memory Tryz.f4.params.toList Rows.costingStepsSpec.vars false #[Value.int .i64 0, .int .i64 0, .slice none 0 0].toList 8 = some ([.lit (.int .i64 0), .lit (.int .i64 0), .nil], [], places) :=
  ⟨[], by kernel_rfl⟩
set_option maxRecDepth 100000 in
theorem steps_lifted (os : Os) (started : os.Started) (H : Type) (enc : TypeId × Value → H) (F : Stop.Interp) :
    ReturnsInHanded {} Tryz.checked os 4 .any ((OpenSpec.ofChange Rows.costingStepsSpec).preRow enc Tryz.prog Tryz.f4 Rows.costingStepsRow.domain false Rows.costingStepsRow.laid) (((OpenSpec.ofChange Rows.costingStepsSpec).at F).post enc Tryz.prog Tryz.f4 false true false false) := by
  obtain ⟨places, hx⟩ := steps_reads os enc
  refine returnsInHanded_of_row (C := Tryz.checked) (s := OpenSpec.ofChange Rows.costingStepsSpec) ownKnob_ok started (by kernel_rfl) Tryz.func4
    (witness_row_at (enc := enc) (C := Tryz.checked) false (laidWorld os) #[.int .i64 0, .int .i64 0, .slice none 0 0] rfl (by kernel_rfl) (by kernel_rfl) (by kernel_rfl)
      (OpenSpec.preRow_of_cond 8 hx (by kernel_rfl) (fun k hk => by cases hk) (by kernel_rfl) (steps_met os))) ?_
  intro W base args ds gs before hval hW _ _ _ hL _ _
  exact contract3 (s := Rows.costingStepsSpec) rfl rfl rfl (fun _ _ _ => rfl) (fun W a b v ms K ht ha hb hv hm hK => steps_ok ht hb hv hm _ hK) W base args ds gs before hval hW (tab_of hL)
theorem steps_k1 : (Rows.costingStepsRow.inPlace == Tryz.pinned.checked.prog.inPlace 4) = true := by kernel_rfl
theorem steps_k2 : (Rows.costingStepsRow.unfollowed == Tryz.pinned.checked.prog.unfollowed 4) = true := by kernel_rfl
theorem steps_k3 : (Rows.costingStepsRow.recurses == Tryz.pinned.checked.prog.recurses 4) = true := by kernel_rfl
theorem steps_k4 : (Rows.costingStepsRow.named == Tryz.pinned.checked.prog.varsNamed 4) = true := by kernel_rfl
theorem steps_facts : joinedFacts Tryz.pinned.checked.prog 4 Tryz.f4 (OpenSpec.ofChange Rows.costingStepsSpec).bare Rows.costingStepsRow = true := by
  unfold joinedFacts
  have e1 : (Rows.costingStepsRow.lifted == Tryz.pinned.checked.prog.liftsFinal) = true := prog_lifts
  have e2 : (Tryz.pinned.checked.prog.make == some Rows.costingStepsRow.make) = true := prog_make
  have e3 : (Rows.costingStepsRow.plainKeys == Tryz.pinned.checked.prog.plainKeys) = true := prog_rest.1
  rw [steps_k1, steps_k2, steps_k3, steps_k4, e1, e2, e3, prog_enter, prog_rest.2.1, prog_rest.2.2.1, prog_rest.2.2.2]
  show (_ : Bool) = true
  kernel_rfl
theorem costingSteps_said : Rows.CostingStepsSaid :=
  OpenClaim.holds_of_cond 4 Tryz.f4 rfl rfl rfl rfl rfl rfl rfl ⟨rfl, rfl, rfl, rfl, rfl⟩ rfl rfl rfl rfl rfl (by kernel_rfl) Tryz.func4 steps_facts
    (of_decide_eq_true (by kernel_rfl)) (by unfold Func.isWrapper; first | (rw [if_pos (by decide +kernel)]; kernel_rfl) | (rw [if_neg (by decide +kernel)]; exact ⟨rfl, rfl⟩))
    (fun os started H enc _ F => by rw [OpenClaim.pre_eq_preRow]; exact steps_lifted os started H enc F)
/-- No parameter wants a stand-in; the program's own looks are off: what the card asks. -/
theorem steps_plain (f : FuncId) (fn : Func) (hf : Tryz.pinned.checked.prog.funcNamed "accounting/accountinglaw38.CostingSteps" = some f) (hfn : Tryz.pinned.checked.prog.funcs[f]? = some fn) :
    false = Tryz.pinned.checked.prog.looks [] ∧ ∀ (j : Nat) t, fn.params[j]? = some t → Tryz.pinned.checked.prog.wantsStandIn t = false := by
  obtain rfl : f = 4 := Option.some.inj ((show Tryz.prog.funcNamed "accounting/accountinglaw38.CostingSteps" = some 4 by kernel_rfl).symm.trans hf) |>.symm
  obtain rfl : fn = Tryz.f4 := (Option.some.inj (Tryz.func4.symm.trans hfn)).symm
  refine ⟨prog_looks, fun j t ht => ?_⟩
  rw [Tryz.params4] at ht
  have hm := Array.mem_of_getElem? ht
  simp only [List.mem_toArray, List.mem_cons, List.not_mem_nil, or_false] at hm
  rcases hm with rfl | rfl | rfl
  · exact (show Tryz.prog.wantsStandIn 3 = false by kernel_rfl)
  · exact (show Tryz.prog.wantsStandIn 3 = false by kernel_rfl)
  · exact (show Tryz.prog.wantsStandIn 22 = false by kernel_rfl)
theorem steps_goes : false = Rows.costingStepsRow.goesBy Tryz.pinned.checked.prog := by kernel_rfl
theorem costingSteps_card : Rows.CostingStepsCardSaid :=
  Claim7.holds_tied_plain_at .later [] _ _ _ _ costingSteps_said (fun _ h => by cases h) (by kernel_rfl) (fun _ h => by cases h) costingSteps_row_tie rfl ⟨rfl, rfl⟩ prog_main rfl steps_plain steps_goes
end Go.Proofs.YtbglbbmlohfemaaGreatDoor
