/- CostingPrefix returns true for every method, price and list of movements: the costs of the first movements do not depend on the later ones. -/
import Derived.Test.YtbglbbmlohfemaaGreatDoorCards
import Derived.Test.YtbglbbmlohfemaaGreatDoorTie
import Derived.Test.YtbglbbmlohfemaaGreatDoorCRc
import Derived.Test.YtbglbbmlohfemaaGreatDoorCQb
import Derived.WalkKit
import Derived.ProofKit
namespace Go.Proofs.YtbglbbmlohfemaaGreatDoor
open Go.ChangeShapes Go.WideShapes Go.RowKit Go.X
theorem prefix_met (os : Os) : laidMet Tryz.prog Rows.costingPrefixRow.laid ((laidWorld os).forCall (fun _ _ => 0) ⟨#[], #[.int .i64 0, .int .i64 0, .slice none 0 0], []⟩).memory :=
  laidMet_of_run' 8 (by kernel_rfl) (by kernel_rfl)
theorem prefix_reads (os : Os) {H : Type} (enc : TypeId × Value → H) : ∃ places, DataW.whole enc Tryz.prog ((laidWorld os).forCall (fun _ _ => 0) ⟨#[], #[.int .i64 0, .int .i64 0, .slice none 0 0], []⟩).memory Tryz.f8.params.toList Rows.costingPrefixSpec.vars false #[Value.int .i64 0, .int .i64 0, .slice none 0 0].toList 8 = some ([.lit (.int .i64 0), .lit (.int .i64 0), .nil], [], places) :=
  ⟨[], by kernel_rfl⟩
set_option maxRecDepth 100000 in
theorem prefix_lifted (os : Os) (started : os.Started) (H : Type) (enc : TypeId × Value → H) (F : Stop.Interp) :
    ReturnsInHanded {} Tryz.checked os 8 .any ((OpenSpec.ofChange Rows.costingPrefixSpec).preRow enc Tryz.prog Tryz.f8 Rows.costingPrefixRow.domain false Rows.costingPrefixRow.laid) (((OpenSpec.ofChange Rows.costingPrefixSpec).at F).post enc Tryz.prog Tryz.f8 false true false false) := by
  obtain ⟨places, hx⟩ := prefix_reads os enc
  refine returnsInHanded_of_row (C := Tryz.checked) (s := OpenSpec.ofChange Rows.costingPrefixSpec) ownKnob_ok started (by kernel_rfl) Tryz.func8
    (witness_row_at (enc := enc) (C := Tryz.checked) false (laidWorld os) #[.int .i64 0, .int .i64 0, .slice none 0 0] rfl (by kernel_rfl) (by kernel_rfl) (by kernel_rfl)
      (OpenSpec.preRow_of_cond 8 hx (by kernel_rfl) (fun k hk => by cases hk) (by kernel_rfl) (prefix_met os))) ?_
  intro W base args ds gs before hval hW _ _ _ hL _ _
  exact contract3 (s := Rows.costingPrefixSpec) rfl rfl rfl (fun _ _ _ => rfl) (fun W a b v ms K ht ha hb hv hm hK => prefix_ok ht hb hv hm _ hK) W base args ds gs before hval hW (tab_of hL)
theorem prefix_k1 : (Rows.costingPrefixRow.inPlace == Tryz.pinned.checked.prog.inPlace 8) = true := by kernel_rfl
theorem prefix_k2 : (Rows.costingPrefixRow.unfollowed == Tryz.pinned.checked.prog.unfollowed 8) = true := by kernel_rfl
theorem prefix_k3 : (Rows.costingPrefixRow.recurses == Tryz.pinned.checked.prog.recurses 8) = true := by kernel_rfl
theorem prefix_k4 : (Rows.costingPrefixRow.named == Tryz.pinned.checked.prog.varsNamed 8) = true := by kernel_rfl
theorem prefix_facts : joinedFacts Tryz.pinned.checked.prog 8 Tryz.f8 (OpenSpec.ofChange Rows.costingPrefixSpec).bare Rows.costingPrefixRow = true := by
  unfold joinedFacts
  have e1 : (Rows.costingPrefixRow.lifted == Tryz.pinned.checked.prog.liftsFinal) = true := prog_lifts
  have e2 : (Tryz.pinned.checked.prog.make == some Rows.costingPrefixRow.make) = true := prog_make
  have e3 : (Rows.costingPrefixRow.plainKeys == Tryz.pinned.checked.prog.plainKeys) = true := prog_rest.1
  rw [prefix_k1, prefix_k2, prefix_k3, prefix_k4, e1, e2, e3, prog_enter, prog_rest.2.1, prog_rest.2.2.1, prog_rest.2.2.2]
  show (_ : Bool) = true
  kernel_rfl
theorem costingPrefix_said : Rows.CostingPrefixSaid :=
  OpenClaim.holds_of_cond 8 Tryz.f8 rfl rfl rfl rfl rfl rfl rfl ⟨rfl, rfl, rfl, rfl, rfl⟩ rfl rfl rfl rfl rfl (by kernel_rfl) Tryz.func8 prefix_facts
    (of_decide_eq_true (by kernel_rfl)) (by unfold Func.isWrapper; first | (rw [if_pos (by decide +kernel)]; kernel_rfl) | (rw [if_neg (by decide +kernel)]; exact ⟨rfl, rfl⟩))
    (fun os started H enc _ F => by rw [OpenClaim.pre_eq_preRow]; exact prefix_lifted os started H enc F)
/-- No parameter wants a stand-in; the program's own looks are off: what the card asks. -/
theorem prefix_plain (f : FuncId) (fn : Func) (hf : Tryz.pinned.checked.prog.funcNamed "accounting/accountinglaw38.CostingPrefix" = some f) (hfn : Tryz.pinned.checked.prog.funcs[f]? = some fn) :
    false = Tryz.pinned.checked.prog.looks [] ∧ ∀ (j : Nat) t, fn.params[j]? = some t → Tryz.pinned.checked.prog.wantsStandIn t = false := by
  obtain rfl : f = 8 := Option.some.inj ((show Tryz.prog.funcNamed "accounting/accountinglaw38.CostingPrefix" = some 8 by kernel_rfl).symm.trans hf) |>.symm
  obtain rfl : fn = Tryz.f8 := (Option.some.inj (Tryz.func8.symm.trans hfn)).symm
  refine ⟨prog_looks, fun j t ht => ?_⟩
  rw [Tryz.params8] at ht
  have hm := Array.mem_of_getElem? ht
  simp only [List.mem_toArray, List.mem_cons, List.not_mem_nil, or_false] at hm
  rcases hm with rfl | rfl | rfl
  · exact (show Tryz.prog.wantsStandIn 3 = false by kernel_rfl)
  · exact (show Tryz.prog.wantsStandIn 3 = false by kernel_rfl)
  · exact (show Tryz.prog.wantsStandIn 22 = false by kernel_rfl)
theorem prefix_goes : false = Rows.costingPrefixRow.goesBy Tryz.pinned.checked.prog := by kernel_rfl
theorem costingPrefix_card : Rows.CostingPrefixCardSaid :=
  Claim7.holds_tied_plain_at .later [] _ _ _ _ costingPrefix_said (fun _ h => by cases h) (by kernel_rfl) (fun _ h => by cases h) costingPrefix_row_tie rfl ⟨rfl, rfl⟩ prog_main rfl prefix_plain prefix_goes
end Go.Proofs.YtbglbbmlohfemaaGreatDoor
