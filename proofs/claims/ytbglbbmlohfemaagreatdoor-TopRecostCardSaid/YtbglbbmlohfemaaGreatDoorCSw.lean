/- TopRecost returns true for every method, price and list of trades: the order of entering does not matter. -/
import Derived.Test.YtbglbbmlohfemaaGreatDoorCards
import Derived.Test.YtbglbbmlohfemaaGreatDoorTie
import Derived.Test.YtbglbbmlohfemaaGreatDoorCRc
import Derived.Test.YtbglbbmlohfemaaGreatDoorB0
import Derived.Test.YtbglbbmlohfemaaGreatDoorCWw
import Derived.WalkKit
import Derived.ProofKit
namespace Go.Proofs.YtbglbbmlohfemaaGreatDoor
open Go.ChangeShapes Go.WideShapes Go.RowKit Go.X
theorem topRecost_met (os : Os) : laidMet Tryz.prog Rows.topRecostRow.laid ((laidWorld os).forCall (fun _ _ => 0) ⟨#[], #[.int .i64 0, .int .i64 0, .slice none 0 0], []⟩).memory :=
  laidMet_of_run' 8 (by kernel_rfl) (by kernel_rfl)
theorem topRecost_reads (os : Os) {H : Type} (enc : TypeId × Value → H) : ∃ places, DataW.whole enc Tryz.prog ((laidWorld os).forCall (fun _ _ => 0) ⟨#[], #[.int .i64 0, .int .i64 0, .slice none 0 0], []⟩).memory Tryz.f9.params.toList Rows.topRecostSpec.vars false #[Value.int .i64 0, .int .i64 0, .slice none 0 0].toList 8 = some ([.lit (.int .i64 0), .lit (.int .i64 0), .nil], [], places) :=
  ⟨[], by kernel_rfl⟩
set_option maxRecDepth 100000 in
theorem topRecost_lifted (os : Os) (started : os.Started) (H : Type) (enc : TypeId × Value → H) (F : Stop.Interp) :
    ReturnsInHanded {} Tryz.checked os 9 .any ((OpenSpec.ofChange Rows.topRecostSpec).preRow enc Tryz.prog Tryz.f9 Rows.topRecostRow.domain false Rows.topRecostRow.laid) (((OpenSpec.ofChange Rows.topRecostSpec).at F).post enc Tryz.prog Tryz.f9 false true false false) := by
  obtain ⟨places, hx⟩ := topRecost_reads os enc
  refine returnsInHanded_of_row (C := Tryz.checked) (s := OpenSpec.ofChange Rows.topRecostSpec) ownKnob_ok started (by kernel_rfl) Tryz.func9
    (witness_row_at (enc := enc) (C := Tryz.checked) false (laidWorld os) #[.int .i64 0, .int .i64 0, .slice none 0 0] rfl (by kernel_rfl) (by kernel_rfl) (by kernel_rfl)
      (OpenSpec.preRow_of_cond 8 hx (by kernel_rfl) (fun k hk => by cases hk) (by kernel_rfl) (topRecost_met os))) ?_
  intro W base args ds gs before hval hW _ _ _ hL _ _
  exact contractT (s := Rows.topRecostSpec) rfl rfl rfl (fun _ _ _ => rfl) (fun W a p v l K ht ha hp hv hm hK => topRecost_ok ht ha hp hv hm _ hK) W base args ds gs before hval hW (tab_of hL)
theorem topRecost_k1 : (Rows.topRecostRow.inPlace == Tryz.pinned.checked.prog.inPlace 9) = true := by kernel_rfl
theorem topRecost_k2 : (Rows.topRecostRow.unfollowed == Tryz.pinned.checked.prog.unfollowed 9) = true := by kernel_rfl
theorem topRecost_k3 : (Rows.topRecostRow.recurses == Tryz.pinned.checked.prog.recurses 9) = true := by kernel_rfl
theorem topRecost_k4 : (Rows.topRecostRow.named == Tryz.pinned.checked.prog.varsNamed 9) = true := by kernel_rfl
theorem topRecost_facts : joinedFacts Tryz.pinned.checked.prog 9 Tryz.f9 (OpenSpec.ofChange Rows.topRecostSpec).bare Rows.topRecostRow = true := by
  unfold joinedFacts
  have e1 : (Rows.topRecostRow.lifted == Tryz.pinned.checked.prog.liftsFinal) = true := prog_lifts
  have e2 : (Tryz.pinned.checked.prog.make == some Rows.topRecostRow.make) = true := prog_make
  have e3 : (Rows.topRecostRow.plainKeys == Tryz.pinned.checked.prog.plainKeys) = true := prog_rest.1
  rw [topRecost_k1, topRecost_k2, topRecost_k3, topRecost_k4, e1, e2, e3, prog_enter, prog_rest.2.1, prog_rest.2.2.1, prog_rest.2.2.2]
  show (_ : Bool) = true
  kernel_rfl
theorem topRecost_said : Rows.TopRecostSaid :=
  OpenClaim.holds_of_cond 9 Tryz.f9 rfl rfl rfl rfl rfl rfl rfl ⟨rfl, rfl, rfl, rfl, rfl⟩ rfl rfl rfl rfl rfl (by kernel_rfl) Tryz.func9 topRecost_facts
    (of_decide_eq_true (by kernel_rfl)) (by unfold Func.isWrapper; first | (rw [if_pos (by decide +kernel)]; kernel_rfl) | (rw [if_neg (by decide +kernel)]; exact ⟨rfl, rfl⟩))
    (fun os started H enc _ F => by rw [OpenClaim.pre_eq_preRow]; exact topRecost_lifted os started H enc F)
/-- No parameter wants a stand-in; the program's own looks are off: what the card asks. -/
theorem topRecost_plain (f : FuncId) (fn : Func) (hf : Tryz.pinned.checked.prog.funcNamed "accounting/accountingtop.TopRecost" = some f) (hfn : Tryz.pinned.checked.prog.funcs[f]? = some fn) :
    false = Tryz.pinned.checked.prog.looks [] ∧ ∀ (j : Nat) t, fn.params[j]? = some t → Tryz.pinned.checked.prog.wantsStandIn t = false := by
  obtain rfl : f = 9 := Option.some.inj ((show Tryz.prog.funcNamed "accounting/accountingtop.TopRecost" = some 9 by kernel_rfl).symm.trans hf) |>.symm
  obtain rfl : fn = Tryz.f9 := (Option.some.inj (Tryz.func9.symm.trans hfn)).symm
  refine ⟨prog_looks, fun j t ht => ?_⟩
  rw [Tryz.params9] at ht
  have hm := Array.mem_of_getElem? ht
  simp only [List.mem_toArray, List.mem_cons, List.not_mem_nil, or_false] at hm
  rcases hm with rfl | rfl | rfl
  · exact (show Tryz.prog.wantsStandIn 3 = false by kernel_rfl)
  · exact (show Tryz.prog.wantsStandIn 3 = false by kernel_rfl)
  · exact (show Tryz.prog.wantsStandIn 48 = false by kernel_rfl)
theorem topRecost_goes : false = Rows.topRecostRow.goesBy Tryz.pinned.checked.prog := by kernel_rfl
theorem topRecost_card : Rows.TopRecostCardSaid :=
  Claim7.holds_tied_plain_at .later [] _ _ _ _ topRecost_said (fun _ h => by cases h) (by kernel_rfl) (fun _ h => by cases h) topRecost_row_tie rfl ⟨rfl, rfl⟩ prog_main rfl topRecost_plain topRecost_goes
end Go.Proofs.YtbglbbmlohfemaaGreatDoor
