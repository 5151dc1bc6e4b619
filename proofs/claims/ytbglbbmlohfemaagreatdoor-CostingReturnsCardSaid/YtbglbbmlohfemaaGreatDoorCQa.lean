/- The statement of conserved sums. -/
import Derived.Test.YtbglbbmlohfemaaGreatDoorTw
import Derived.Test.YtbglbbmlohfemaaGreatDoorB7
set_option linter.unusedVariables false
set_option linter.unusedSimpArgs false
namespace Go.X
open Go.Proofs Go.RowKit
attribute [local irreducible] l_append l_copy l_make l_run q_slice q_eq q_index q_build onSome l_lit
variable {w w' : World} {B x : Nat} {s : St} {lv pv cv : Value} {m : Mv} {c : Co} {cs : List Co} {method : Int}
/-- A run by its costs, or by its error. -/
theorem run_cases (method price : Int) (ms : List Mv) : (∃ t d, (startV method price).2 = 0 ∧ runOk method (startV method price).1 ms = some (t, d) ∧ runV method price ms = (t, d, -1, 0)) ∨
    (∃ (at_ e : Int), e ≠ 0 ∧ runV method price ms = (St.zero, [], at_, e)) := by
  unfold runV
  by_cases h : (startV method price).2 ≠ 0
  · rw [if_pos h]; exact .inr ⟨_, _, h, rfl⟩
  · rw [if_neg h]
    cases hr : runOk method (startV method price).1 ms with
    | some x => exact .inl ⟨x.1, x.2, by simpa using h, rfl, by rw [runFrom_ok ms 0 _ [] x.1 x.2 hr]; rfl⟩
    | none =>
      obtain ⟨k, e, he, _, hk, _⟩ := runFrom_bad ms 0 _ [] hr
      exact .inr ⟨_, e, he, hk⟩
theorem wsum_take {f : Co → Int} {l : List Co} {i : Nat} (hi : i < l.length) : wsum f 0 (l.take (i + 1)) = IntKind.i64.wrap (wsum f 0 (l.take i) + f l[i]) := by
  unfold wsum
  rw [List.take_succ_eq_append_getElem hi, List.foldl_append]
  rfl
theorem start_zero {method price : Int} : (startV method price).1.qty = 0 ∧ (startV method price).1.value = 0 := by
  unfold startV; split; exact ⟨rfl, rfl⟩; split; exact ⟨rfl, rfl⟩; split <;> exact ⟨rfl, rfl⟩
def ConI (l : List Co) (w0 : World) (q v t : Value) (W : World) : Prop :=
  Below w0.heap.size w0 W ∧ ∃ i : Nat, t = .int .i64 i ∧ i ≤ l.length ∧ q = .int .i64 (wsum Co.qty 0 (l.take i)) ∧ v = .int .i64 (wsum Co.value 0 (l.take i))
def conM (n : Nat) (_ _ v : Value) (_ : World) : Nat := n - (intOf v).toNat
theorem conserves_ok {v : Value} {ms : List Mv} {price : Int} (ht : Tab w) (hp : I64 price) (hv : Rd MvE w v ms) (hm : ∀ m ∈ ms, m.Ok) : Calc 5 [.int .i64 method, .int .i64 price, v] w (.bool true) := by
  intro K hK
  refine lift5 ?_
  unfold L5
  refine large_ok hv _ (fun w1 hb1 => ?_)
  refine xif_bool (fun hl => ?_) (fun hl => ?_)
  · exact lives_ok (ht.below hb1) _ (fun w2 hb2 => hK _ (hb1.then hb2))
  have hlen := large_len hl
  refine run_new (ht.below hb1) hp (hv.below hb1) hm (by omega) (fun w2 a lv2 pv2 cv2 hb2 ha hk hl2 hp2 hc => ?_)
  have hb02 := hb1.then hb2
  have ht2 := ht.below hb02
  rcases run_cases method price ms with ⟨t, d, hst, hrun, hR⟩ | ⟨at_, e, he, hR⟩
  · rw [hR] at hk hc ⊢
    obtain ⟨s1, s2, s3⟩ := runOk_sums ms _ _ _ hrun
    rw [start_zero.1] at s1
    rw [start_zero.2] at s2
    simp
    refine looping_i (ConI d w2) (conM d.length) ⟨⟨Below.refl _ _, 0, rfl, Nat.zero_le _, rfl, rfl⟩, ?_⟩
    rintro _ _ _ W ⟨hbW, i, rfl, hi, rfl, rfl⟩
    have hcW := hc.below hbW
    have hkW := (blk_below hbW (lt_of_blk hk)).trans hk
    have hb0W := hb02.then hbW
    rw [hcW.len, onSome_some]
    simp only [q_lss, onSome_some]
    refine xif_dec (fun hlt => ?_) (fun hlt => ?_)
    · have hlt' : i < d.length := by omega
      have hmx := hc.i64
      have e1 : IntKind.i64.wrap ((i : Int) + 1) = ((i + 1 : Nat) : Int) := by rw [wrap_i64 (by omega) (by omega)]; omega
      obtain ⟨g, cap, hcv, _, _, hat⟩ := hcW.coAt hlt'
      simp [hcv, hlt, hat.c1, hat.c2, e1]
      exact ⟨⟨hbW.drew, i + 1, rfl, by omega, by rw [wsum_take hlt'], by rw [wsum_take hlt']⟩, by simp only [conM, intOf]; omega⟩
    · have hil : i = d.length := by omega
      rw [hil, List.take_length, ← s1, ← s2]
      simp [hkW]
      exact lives_ok (ht2.below hbW) _ (fun w3 hb3 => hK _ (hb0W.then hb3))
  · rw [hR] at hk hc ⊢
    have hlen0 := hc.len
    simp [he, hlen0]
    exact lives_ok ht2 _ (fun w3 hb3 => hK _ (hb02.then hb3))
end Go.X
