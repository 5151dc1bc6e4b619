/- RecostReplay returns true for every way and list of movements: the costs are those of a replay in value order. -/
import Derived.Test.YtbglbbmlohfemaaGreatDoorCards
import Derived.Test.YtbglbbmlohfemaaGreatDoorTie
import Derived.Test.YtbglbbmlohfemaaGreatDoorCRc
import Derived.Test.YtbglbbmlohfemaaGreatDoorB0
import Derived.Test.YtbglbbmlohfemaaGreatDoorCWp
import Derived.WalkKit
import Derived.ProofKit
namespace Go.Proofs.YtbglbbmlohfemaaGreatDoor
open Go.ChangeShapes Go.WideShapes Go.RowKit Go.X
theorem recostReplay_met (os : Os) : laidMet Tryz.prog Rows.recostReplayRow.laid ((laidWorld os).forCall (fun _ _ => 0) ⟨#[], #[.agg #[.int .i64 0, .int .i64 0], .slice none 0 0], []⟩).memory :=
  laidMet_of_run' 8 (by kernel_rfl) (by kernel_rfl)
theorem recostReplay_reads (os : Os) {H : Type} (enc : TypeId × Value → H) : ∃ places, DataW.whole enc Tryz.prog ((laidWorld os).forCall (fun _ _ => 0) ⟨#[], #[.agg #[.int .i64 0, .int .i64 0], .slice none 0 0], []⟩).memory Tryz.f18.params.toList Rows.recostReplaySpec.vars false #[Value.agg #[.int .i64 0, .int .i64 0], .slice none 0 0].toList 8 = some ([.agg [.lit (.int .i64 0), .lit (.int .i64 0)], .nil], [], places) :=
  ⟨[], by kernel_rfl⟩
set_option maxRecDepth 100000 in
theorem recostReplay_lifted (os : Os) (started : os.Started) (H : Type) (enc : TypeId × Value → H) (F : Stop.Interp) :
    ReturnsInHanded {} Tryz.checked os 18 .any ((OpenSpec.ofChange Rows.recostReplaySpec).preRow enc Tryz.prog Tryz.f18 Rows.recostReplayRow.domain false Rows.recostReplayRow.laid) (((OpenSpec.ofChange Rows.recostReplaySpec).at F).post enc Tryz.prog Tryz.f18 false true false false) := by
  obtain ⟨places, hx⟩ := recostReplay_reads os enc
  refine returnsInHanded_of_row (C := Tryz.checked) (s := OpenSpec.ofChange Rows.recostReplaySpec) ownKnob_ok started (by kernel_rfl) Tryz.func18
    (witness_row_at (enc := enc) (C := Tryz.checked) false (laidWorld os) #[.agg #[.int .i64 0, .int .i64 0], .slice none 0 0] rfl (by kernel_rfl) (by kernel_rfl) (by kernel_rfl)
      (OpenSpec.preRow_of_cond 8 hx (by kernel_rfl) (fun k hk => by cases hk) (by kernel_rfl) (recostReplay_met os))) ?_
  intro W base args ds gs before hval hW _ _ _ hL _ _
  exact contractW2 (s := Rows.recostReplaySpec) rfl rfl rfl (fun _ _ => rfl) (fun W p q v l K ht hp hq hv hm hK => recostReplay_ok ht hq hv hm _ hK) W base args ds gs before hval hW (tab_of hL)
theorem recostReplay_k1 : (Rows.recostReplayRow.inPlace == Tryz.pinned.checked.prog.inPlace 18) = true := by kernel_rfl
theorem recostReplay_k2 : (Rows.recostReplayRow.unfollowed == Tryz.pinned.checked.prog.unfollowed 18) = true := by kernel_rfl
theorem recostReplay_k3 : (Rows.recostReplayRow.recurses == Tryz.pinned.checked.prog.recurses 18) = true := by kernel_rfl
theorem recostReplay_k4 : (Rows.recostReplayRow.named == Tryz.pinned.checked.prog.varsNamed 18) = true := by kernel_rfl
theorem recostReplay_facts : joinedFacts Tryz.pinned.checked.prog 18 Tryz.f18 (OpenSpec.ofChange Rows.recostReplaySpec).bare Rows.recostReplayRow = true := by
  unfold joinedFacts
  have e1 : (Rows.recostReplayRow.lifted == Tryz.pinned.checked.prog.liftsFinal) = true := prog_lifts
  have e2 : (Tryz.pinned.checked.prog.make == some Rows.recostReplayRow.make) = true := prog_make
  have e3 : (Rows.recostReplayRow.plainKeys == Tryz.pinned.checked.prog.plainKeys) = true := prog_rest.1
  rw [recostReplay_k1, recostReplay_k2, recostReplay_k3, recostReplay_k4, e1, e2, e3, prog_enter, prog_rest.2.1, prog_rest.2.2.1, prog_rest.2.2.2]
  show (_ : Bool) = true
  kernel_rfl
theorem recostReplay_said : Rows.RecostReplaySaid :=
  OpenClaim.holds_of_cond 18 Tryz.f18 rfl rfl rfl rfl rfl rfl rfl ⟨rfl, rfl, rfl, rfl, rfl⟩ rfl rfl rfl rfl rfl (by kernel_rfl) Tryz.func18 recostReplay_facts
    (of_decide_eq_true (by kernel_rfl)) (by unfold Func.isWrapper; first | (rw [if_pos (by decide +kernel)]; kernel_rfl) | (rw [if_neg (by decide +kernel)]; exact ⟨rfl, rfl⟩))
    (fun os started H enc _ F => by rw [OpenClaim.pre_eq_preRow]; exact recostReplay_lifted os started H enc F)
/-- No parameter wants a stand-in; the program's own looks are off: what the card asks. -/
theorem recostReplay_plain (f : FuncId) (fn : Func) (hf : Tryz.pinned.checked.prog.funcNamed "accounting/accountinglaw39.RecostReplay" = some f) (hfn : Tryz.pinned.checked.prog.funcs[f]? = some fn) :
    false = Tryz.pinned.checked.prog.looks [] ∧ ∀ (j : Nat) t, fn.params[j]? = some t → Tryz.pinned.checked.prog.wantsStandIn t = false := by
  obtain rfl : f = 18 := Option.some.inj ((show Tryz.prog.funcNamed "accounting/accountinglaw39.RecostReplay" = some 18 by kernel_rfl).symm.trans hf) |>.symm
  obtain rfl : fn = Tryz.f18 := (Option.some.inj (Tryz.func18.symm.trans hfn)).symm
  refine ⟨prog_looks, fun j t ht => ?_⟩
  rw [Tryz.params18] at ht
  have hm := Array.mem_of_getElem? ht
  simp only [List.mem_toArray, List.mem_cons, List.not_mem_nil, or_false] at hm
  rcases hm with rfl | rfl
  · exact (show Tryz.prog.wantsStandIn 64 = false by kernel_rfl)
  · exact (show Tryz.prog.wantsStandIn 22 = false by kernel_rfl)
theorem recostReplay_goes : false = Rows.recostReplayRow.goesBy Tryz.pinned.checked.prog := by kernel_rfl
theorem recostReplay_card : Rows.RecostReplayCardSaid :=
  Claim7.holds_tied_plain_at .later [] _ _ _ _ recostReplay_said (fun _ h => by cases h) (by kernel_rfl) (fun _ h => by cases h) recostReplay_row_tie rfl ⟨rfl, rfl⟩ prog_main rfl recostReplay_plain recostReplay_goes
end Go.Proofs.YtbglbbmlohfemaaGreatDoor
