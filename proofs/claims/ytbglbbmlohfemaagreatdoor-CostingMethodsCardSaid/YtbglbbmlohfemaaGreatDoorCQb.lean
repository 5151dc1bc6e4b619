/- The statement of prefixes. -/
import Derived.Test.YtbglbbmlohfemaaGreatDoorTw
import Derived.Test.YtbglbbmlohfemaaGreatDoorB7
import Derived.Test.YtbglbbmlohfemaaGreatDoorCQa
set_option linter.unusedVariables false
set_option linter.unusedSimpArgs false
namespace Go.X
open Go.Proofs Go.RowKit
attribute [local irreducible] l_append l_copy l_make l_run q_slice q_eq q_index q_build onSome l_lit
variable {w w' : World} {B x : Nat} {s : St} {lv pv cv : Value} {m : Mv} {c : Co} {cs : List Co} {method : Int}
/-- The first error is where it is. -/
theorem runFrom_fail {method : Int} : ∀ (l : List Mv) (k i : Nat) (s t : St) (cs d : List Co) (hk : k < l.length), runOk method s (l.take k) = some (t, d) → (stepV method t l[k]).2.2 ≠ 0 → runFrom method i s cs l = (St.zero, [], ((i + k : Nat) : Int), (stepV method t l[k]).2.2) := by
  intro l
  induction l with
  | nil => intro k i s t cs d hk; simp at hk
  | cons m r ih =>
    intro k i s t cs d hk h he
    cases k with
    | zero =>
      simp [runOk] at h
      obtain ⟨rfl, rfl⟩ := h
      unfold runFrom
      rw [if_pos (by simpa using he)]
      rfl
    | succ k =>
      simp only [List.take_succ_cons, runOk] at h
      split at h
      · cases h
      · rename_i h0
        obtain ⟨x, hx, hxe⟩ := Option.map_eq_some_iff.mp h
        obtain ⟨h1, h2⟩ := Prod.mk.inj hxe
        unfold runFrom
        rw [if_neg h0]
        have hk' : k < r.length := by simpa using hk
        have := ih k (i + 1) (stepV method s m).1 t (cs ++ [(stepV method s m).2.1]) x.2 hk' (by rw [hx, ← h1]) (by simpa using he)
        rw [this]
        simp only [List.getElem_cons_succ]
        rw [show i + 1 + k = i + (k + 1) by omega]
theorem runOk_take {method : Int} : ∀ (l : List Mv) (k : Nat) (s t : St) (d : List Co), runOk method s l = some (t, d) → ∃ t', runOk method s (l.take k) = some (t', d.take k) := by
  intro l
  induction l with
  | nil => intro k s t d h; simp [runOk] at h; obtain ⟨rfl, rfl⟩ := h; exact ⟨s, by simp [runOk]⟩
  | cons m r ih =>
    intro k s t d h
    cases k with
    | zero => exact ⟨s, by simp [runOk]⟩
    | succ k =>
      unfold runOk at h
      split at h
      · cases h
      · rename_i h0
        obtain ⟨x, hx, he⟩ := Option.map_eq_some_iff.mp h
        obtain ⟨h1, h2⟩ := Prod.mk.inj he
        obtain ⟨t', ht'⟩ := ih k _ _ _ hx
        refine ⟨t', ?_⟩
        simp only [List.take_succ_cons, runOk, if_neg h0]
        rw [ht', ← h2]
        simp
/-- What the statement of prefixes compares. -/
theorem prefix_plain (method price : Int) (ms : List Mv) (hst : (startV method price).2 = 0) (hn : 0 < ms.length) :
    ((runV method price ms).2.2.2 ≠ 0 ∧ (runV method price ms).2.2.1 < ((ms.length - 1 : Nat) : Int) ∧ (runV method price (ms.take (ms.length - 1))).2.2 = (runV method price ms).2.2) ∨
    (¬ ((runV method price ms).2.2.2 ≠ 0 ∧ (runV method price ms).2.2.1 < ((ms.length - 1 : Nat) : Int)) ∧ (runV method price (ms.take (ms.length - 1))).2.2.2 = 0 ∧ (runV method price (ms.take (ms.length - 1))).2.1.length = ms.length - 1 ∧
      ((runV method price ms).2.2.2 ≠ 0 ∨ ((runV method price ms).2.1.length = ms.length ∧ (runV method price ms).2.1.take (ms.length - 1) = (runV method price (ms.take (ms.length - 1))).2.1))) := by
  have e1 : ∀ l, runV method price l = runFrom method 0 (startV method price).1 [] l := by
    intro l; unfold runV; rw [if_neg (by rw [hst]; simp)]
  rw [e1, e1]
  have hlt : (ms.take (ms.length - 1)).length = ms.length - 1 := by simp
  cases hr : runOk method (startV method price).1 ms with
  | some x =>
    obtain ⟨t, d⟩ := x
    obtain ⟨t', ht'⟩ := runOk_take ms (ms.length - 1) _ _ _ hr
    have hd := (runOk_sums ms _ _ _ hr).2.2
    have r1 := runFrom_ok ms 0 _ [] t d hr
    have r2 := runFrom_ok (ms.take (ms.length - 1)) 0 _ [] t' _ ht'
    rw [r1, r2]
    right
    refine ⟨by simp, rfl, ?_, Or.inr ⟨?_, ?_⟩⟩
    · simp [hd]
    · simp [hd]
    · simp
  | none =>
    obtain ⟨k, e, he, hk, hrun, t, d, ht, hk', hs⟩ := runFrom_bad ms 0 _ [] hr
    rw [hrun]
    by_cases hkn : k < ms.length - 1
    · left
      refine ⟨he, by simp; omega, ?_⟩
      have hk2 : k < (ms.take (ms.length - 1)).length := by rw [hlt]; exact hkn
      have hg : (ms.take (ms.length - 1))[k] = ms[k] := List.getElem_take
      have htt : runOk method (startV method price).1 ((ms.take (ms.length - 1)).take k) = some (t, d) := by
        rw [List.take_take, Nat.min_eq_left (by omega)]; exact ht
      have := runFrom_fail (ms.take (ms.length - 1)) k 0 _ t [] d hk2 htt (by rw [hg, hs]; exact he)
      rw [this, hg, hs]
    · right
      have hkk : k = ms.length - 1 := by omega
      subst hkk
      have r2 := runFrom_ok (ms.take (ms.length - 1)) 0 _ [] t d ht
      have hd := (runOk_sums _ _ _ _ ht).2.2
      rw [r2]
      refine ⟨?_, rfl, ?_, Or.inl he⟩
      · simp
      · simp [hd]
theorem run_bad_start {method price : Int} {ms : List Mv} (h : (startV method price).2 ≠ 0) : runV method price ms = (St.zero, [], -1, (startV method price).2) := by
  unfold runV; rw [if_pos h]
theorem run_at {method price : Int} {ms : List Mv} (hst : (startV method price).2 = 0) (h : (runV method price ms).2.2.2 ≠ 0) : 0 ≤ (runV method price ms).2.2.1 := by
  unfold runV at h ⊢
  rw [if_neg (by rw [hst]; simp)] at h ⊢
  cases hr : runOk method (startV method price).1 ms with
  | some x => rw [runFrom_ok ms 0 _ [] x.1 x.2 hr] at h; exact absurd rfl h
  | none =>
    obtain ⟨k, e, _, _, hk, _⟩ := runFrom_bad ms 0 _ [] hr
    rw [hk]; simp
theorem prefix_ok {v : Value} {ms : List Mv} {price : Int} (ht : Tab w) (hp : I64 price) (hv : Rd MvE w v ms) (hm : ∀ m ∈ ms, m.Ok) : Calc 8 [.int .i64 method, .int .i64 price, v] w (.bool true) := by
  intro K hK
  refine lift8 ?_
  unfold L8
  refine large_ok hv _ (fun w1 hb1 => ?_)
  refine xif_bool (fun hl => ?_) (fun hl => ?_)
  · exact lives_ok (ht.below hb1) _ (fun w2 hb2 => hK _ (hb1.then hb2))
  have hlen := large_len hl
  refine run_new (ht.below hb1) hp (hv.below hb1) hm (by omega) (fun w2 a lv2 pv2 cv2 hb2 ha hk hl2 hp2 hc => ?_)
  have hb02 := hb1.then hb2
  have ht2 := ht.below hb02
  have hv2 := hv.below hb02
  have hlive : ∀ W, Below w.heap.size w W → Ret Tryz.prog 20 [] W fun t W' => K t W' := fun W hbW => lives_ok (ht.below hbW) _ (fun w3 hb3 => hK _ (hbW.then hb3))
  rw [hv2.len, onSome_some]
  by_cases hnil : ms.length = 0
  · simp [hnil]
    exact hlive w2 hb02
  by_cases hst : (startV method price).2 ≠ 0
  · have hR := run_bad_start (ms := ms) hst
    simp [hnil, hR, hst]
    exact hlive w2 hb02
  have hst := Classical.not_not.mp hst
  have hat := run_at (ms := ms) hst
  have hplain := prefix_plain method price ms hst (by omega)
  obtain ⟨R, hR⟩ : ∃ R, R = runV method price ms := ⟨_, rfl⟩
  rw [← hR] at hat hplain hc hk ⊢
  have hne : ¬ (R.2.2.1 = -1 ∧ R.2.2.2 ≠ 0) := by
    rintro ⟨h1, h2⟩
    have := hat h2
    omega
  have hgo : ∀ (G : Value → Prop), G (.bool false) → (onSome (gateQ false (.bool (decide ((ms.length : Int) = 0))) (some (.int .i64 R.2.2.1))) fun t32 =>
       onSome (gateQ false (.bool (decide ((ms.length : Int) = 0))) (q_bin .eql t32 (.int .i64 (-1)))) fun t33 =>
       onSome (gateQ false (.bool (decide ((ms.length : Int) = 0))) (some t33)) fun t34 =>
       onSome (gateQ true t34 (some (.int .i64 R.2.2.2))) fun t35 =>
       onSome (gateQ true t34 (q_bin .neq t35 (.int .i64 0))) fun t36 =>
       onSome (gateQ false (.bool (decide ((ms.length : Int) = 0))) (q_pick t34 t36 (.bool false))) fun t37 =>
       onSome (q_pick (.bool (decide ((ms.length : Int) = 0))) (.bool true) t37) fun t38 => G t38) := by
    intro G hG
    have h0 : ¬ ms = [] := by intro e; rw [e] at hnil; exact hnil rfl
    by_cases h1 : R.2.2.1 = -1
    · have h2 : R.2.2.2 = 0 := Classical.not_not.mp (fun h => hne ⟨h1, h⟩)
      simp [h0, h1, h2]; exact hG
    · simp [h0, h1]; exact hG
  simp only [q_eql, onSome_some]
  refine hgo (fun t38 => _) ?_
  clear hgo
  rw [xif_false]
  have e1 : IntKind.i64.wrap ((ms.length : Int) - 1) = ((ms.length - 1 : Nat) : Int) := by rw [wrap_i64 (by omega) (by omega)]; omega
  simp only [q_sub, onSome_some, e1]
  obtain ⟨v3, hq3, hr3⟩ := rd_front (E := MvE) (k := .i64) mvSl hv2 (i := ms.length - 1) (by omega)
  rw [hq3, onSome_some]
  have hm3 : ∀ m ∈ ms.take (ms.length - 1), m.Ok := fun m h => hm m (List.mem_of_mem_take h)
  refine run_new (method := method) ht2 hp hr3 hm3 (by simp; omega) (fun w4 a4 lv4 pv4 cv4 hb4 ha4 hk4 hl4 hp4 hc4 => ?_)
  have hb04 := hb02.then hb4
  have hc' := hc.below hb4
  obtain ⟨Q, hQ⟩ : ∃ Q, Q = runV method price (ms.take (ms.length - 1)) := ⟨_, rfl⟩
  rw [← hQ] at hplain hc4 hk4 ⊢
  have hlive4 := hlive w4 hb04
  rcases hplain with ⟨p1, p2, p3⟩ | ⟨p1, p2, p3, p4⟩
  · have p3a : Q.2.2.1 = R.2.2.1 := by rw [p3]
    have p3b : Q.2.2.2 = R.2.2.2 := by rw [p3]
    simp [p1, p2, p3a, p3b]
    exact hlive4
  · have hgo2 : ∀ (A B' : Prop), B' → (onSome (q_bin .neq (.int .i64 R.2.2.2) (.int .i64 0)) fun t55 =>
         onSome (gateQ true t55 (some (.int .i64 R.2.2.1))) fun t57 =>
         onSome (gateQ true t55 (some (.int .i64 ((ms.length - 1 : Nat) : Int)))) fun t58 =>
         onSome (gateQ true t55 (q_bin .lss t57 t58)) fun t59 =>
         onSome (q_pick t55 t59 (.bool false)) fun t60 => xif t60 A B') := by
      intro A B' hB'
      by_cases h1 : R.2.2.2 = 0
      · simp [h1]; exact hB'
      · have h2 : ¬ R.2.2.1 < ((ms.length - 1 : Nat) : Int) := fun h => p1 ⟨h1, h⟩
        simp [h1, h2]; exact hB'
    refine hgo2 _ _ ?_
    clear hgo2
    have l4 := hc4.len
    rw [p3] at l4
    rcases p4 with h | ⟨h1, h2⟩
    · simp [p2, l4, h]
      exact hlive4
    · by_cases h : R.2.2.2 ≠ 0
      · simp [p2, l4, h]
        exact hlive4
      have h := Classical.not_not.mp h
      have l3 := hc'.len
      rw [h1] at l3
      have e2 : IntKind.i64.wrap (((ms.length - 1 : Nat) : Int) + 1) = (ms.length : Int) := by rw [wrap_i64 (by omega) (by omega)]; omega
      obtain ⟨v5, hq5, hr5⟩ := rd_front (E := CoE) (k := .i64) coSl (Rd.of_own hc') (i := ms.length - 1) (by omega)
      simp [p2, l4, l3, h, e2, hq5]
      refine same_ok hr5 (Rd.of_own hc4) _ (fun w6 hb6 => ?_)
      rw [decide_eq_true h2]
      simp
      exact hlive w6 (hb04.then hb6)
end Go.X
