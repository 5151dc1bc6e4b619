/- CostingEach returns true for every method, price and list of movements: value with variance is the cost of a receipt and of landed costs, the negated credit of a return to the supplier, 0 for a new price; an issue has no variance. -/
import Derived.Test.YtbglbbmlohfemaaGreatDoorCards
import Derived.Test.YtbglbbmlohfemaaGreatDoorTie
import Derived.Test.YtbglbbmlohfemaaGreatDoorCRc
import Derived.Test.YtbglbbmlohfemaaGreatDoorCWe
import Derived.WalkKit
import Derived.ProofKit
namespace Go.Proofs.YtbglbbmlohfemaaGreatDoor
open Go.ChangeShapes Go.WideShapes Go.RowKit Go.X
theorem each_met (os : Os) : laidMet Tryz.prog Rows.costingEachRow.laid ((laidWorld os).forCall (fun _ _ => 0) ⟨#[], #[.int .i64 0, .int .i64 0, .slice none 0 0], []⟩).memory :=
  laidMet_of_run' 8 (by kernel_rfl) (by kernel_rfl)
theorem each_reads (os : Os) {H : Type} (enc : TypeId × Value → H) : ∃ places, DataW.whole enc Tryz.prog ((laidWorld os).forCall (fun _ _ => 0) ⟨#[], #[.int .i64 0, .int .i64 0, .slice none 0 0], []⟩).memory Tryz.f6.params.toList Rows.costingEachSpec.vars false #[Value.int .i64 0, .int .i64 0, .slice none 0 0].toList 8 = some ([.lit (.int .i64 0), .lit (.int .i64 0), .nil], [], places) :=
  ⟨[], by kernel_rfl⟩
set_option maxRecDepth 100000 in
theorem each_lifted (os : Os) (started : os.Started) (H : Type) (enc : TypeId × Value → H) (F : Stop.Interp) :
    ReturnsInHanded {} Tryz.checked os 6 .any ((OpenSpec.ofChange Rows.costingEachSpec).preRow enc Tryz.prog Tryz.f6 Rows.costingEachRow.domain false Rows.costingEachRow.laid) (((OpenSpec.ofChange Rows.costingEachSpec).at F).post enc Tryz.prog Tryz.f6 false true false false) := by
  obtain ⟨places, hx⟩ := each_reads os enc
  refine returnsInHanded_of_row (C := Tryz.checked) (s := OpenSpec.ofChange Rows.costingEachSpec) ownKnob_ok started (by kernel_rfl) Tryz.func6
    (witness_row_at (enc := enc) (C := Tryz.checked) false (laidWorld os) #[.int .i64 0, .int .i64 0, .slice none 0 0] rfl (by kernel_rfl) (by kernel_rfl) (by kernel_rfl)
      (OpenSpec.preRow_of_cond 8 hx (by kernel_rfl) (fun k hk => by cases hk) (by kernel_rfl) (each_met os))) ?_
  intro W base args ds gs before hval hW _ _ _ hL _ _
  exact contract3 (s := Rows.costingEachSpec) rfl rfl rfl (fun _ _ _ => rfl) (fun W a b v ms K ht ha hb hv hm hK => each_ok ht hb hv hm _ hK) W base args ds gs before hval hW (tab_of hL)
theorem each_k1 : (Rows.costingEachRow.inPlace == Tryz.pinned.checked.prog.inPlace 6) = true := by kernel_rfl
theorem each_k2 : (Rows.costingEachRow.unfollowed == Tryz.pinned.checked.prog.unfollowed 6) = true := by kernel_rfl
theorem each_k3 : (Rows.costingEachRow.recurses == Tryz.pinned.checked.prog.recurses 6) = true := by kernel_rfl
theorem each_k4 : (Rows.costingEachRow.named == Tryz.pinned.checked.prog.varsNamed 6) = true := by kernel_rfl
theorem each_facts : joinedFacts Tryz.pinned.checked.prog 6 Tryz.f6 (OpenSpec.ofChange Rows.costingEachSpec).bare Rows.costingEachRow = true := by
  unfold joinedFacts
  have e1 : (Rows.costingEachRow.lifted == Tryz.pinned.checked.prog.liftsFinal) = true := prog_lifts
  have e2 : (Tryz.pinned.checked.prog.make == some Rows.costingEachRow.make) = true := prog_make
  have e3 : (Rows.costingEachRow.plainKeys == Tryz.pinned.checked.prog.plainKeys) = true := prog_rest.1
  rw [each_k1, each_k2, each_k3, each_k4, e1, e2, e3, prog_enter, prog_rest.2.1, prog_rest.2.2.1, prog_rest.2.2.2]
  show (_ : Bool) = true
  kernel_rfl
theorem costingEach_said : Rows.CostingEachSaid :=
  OpenClaim.holds_of_cond 6 Tryz.f6 rfl rfl rfl rfl rfl rfl rfl ⟨rfl, rfl, rfl, rfl, rfl⟩ rfl rfl rfl rfl rfl (by kernel_rfl) Tryz.func6 each_facts
    (of_decide_eq_true (by kernel_rfl)) (by unfold Func.isWrapper; first | (rw [if_pos (by decide +kernel)]; kernel_rfl) | (rw [if_neg (by decide +kernel)]; exact ⟨rfl, rfl⟩))
    (fun os started H enc _ F => by rw [OpenClaim.pre_eq_preRow]; exact each_lifted os started H enc F)
/-- No parameter wants a stand-in; the program's own looks are off: what the card asks. -/
theorem each_plain (f : FuncId) (fn : Func) (hf : Tryz.pinned.checked.prog.funcNamed "accounting/accountinglaw38.CostingEach" = some f) (hfn : Tryz.pinned.checked.prog.funcs[f]? = some fn) :
    false = Tryz.pinned.checked.prog.looks [] ∧ ∀ (j : Nat) t, fn.params[j]? = some t → Tryz.pinned.checked.prog.wantsStandIn t = false := by
  obtain rfl : f = 6 := Option.some.inj ((show Tryz.prog.funcNamed "accounting/accountinglaw38.CostingEach" = some 6 by kernel_rfl).symm.trans hf) |>.symm
  obtain rfl : fn = Tryz.f6 := (Option.some.inj (Tryz.func6.symm.trans hfn)).symm
  refine ⟨prog_looks, fun j t ht => ?_⟩
  rw [Tryz.params6] at ht
  have hm := Array.mem_of_getElem? ht
  simp only [List.mem_toArray, List.mem_cons, List.not_mem_nil, or_false] at hm
  rcases hm with rfl | rfl | rfl
  · exact (show Tryz.prog.wantsStandIn 3 = false by kernel_rfl)
  · exact (show Tryz.prog.wantsStandIn 3 = false by kernel_rfl)
  · exact (show Tryz.prog.wantsStandIn 22 = false by kernel_rfl)
theorem each_goes : false = Rows.costingEachRow.goesBy Tryz.pinned.checked.prog := by kernel_rfl
theorem costingEach_card : Rows.CostingEachCardSaid :=
  Claim7.holds_tied_plain_at .later [] _ _ _ _ costingEach_said (fun _ h => by cases h) (by kernel_rfl) (fun _ h => by cases h) costingEach_row_tie rfl ⟨rfl, rfl⟩ prog_main rfl each_plain each_goes
end Go.Proofs.YtbglbbmlohfemaaGreatDoor
