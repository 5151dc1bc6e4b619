/- Contracts of the law functions Conserves, Prefix, Steps. -/
import Derived.Test.YtbglbbmlohfemaaGreatDoorTw
import Derived.Test.YtbglbbmlohfemaaGreatDoorB7
section
set_option linter.unusedVariables false
set_option linter.unusedSimpArgs false
namespace Go.X
open Go.Proofs Go.RowKit
attribute [local irreducible] l_append l_copy l_make l_run q_slice q_eq q_index q_build onSome l_lit
variable {w w' : World} {B x : Nat} {s : St} {lv pv cv : Value} {m : Mv} {c : Co} {cs : List Co} {method : Int}
theorem start_zero {method price : Int} : (startV method price).1.qty = 0 ∧ (startV method price).1.value = 0 := by
  unfold startV; split; exact ⟨rfl, rfl⟩; split; exact ⟨rfl, rfl⟩; split <;> exact ⟨rfl, rfl⟩
end Go.X
end
section
set_option linter.unusedVariables false
set_option linter.unusedSimpArgs false
namespace Go.X
open Go.Proofs Go.RowKit
attribute [local irreducible] l_append l_copy l_make l_run q_slice q_eq q_index q_build onSome l_lit
variable {w w' : World} {B x : Nat} {s : St} {lv pv cv : Value} {m : Mv} {c : Co} {cs : List Co} {method : Int}
/-- The first error is where it is. -/
theorem runFrom_fail {method : Int} : ∀ (l : List Mv) (k i : Nat) (s t : St) (cs d : List Co) (hk : k < l.length), runOk method s (l.take k) = some (t, d) → (stepV method t l[k]).2.2 ≠ 0 → runFrom method i s cs l = (St.zero, [], ((i + k : Nat) : Int), (stepV method t l[k]).2.2) := by
  intro l
  induction l with
  | nil => intro k i s t cs d hk; simp at hk
  | cons m r ih =>
    intro k i s t cs d hk h he
    cases k with
    | zero =>
      simp [runOk] at h
      obtain ⟨rfl, rfl⟩ := h
      unfold runFrom
      rw [if_pos (by simpa using he)]
      rfl
    | succ k =>
      simp only [List.take_succ_cons, runOk] at h
      split at h
      · cases h
      · rename_i h0
        obtain ⟨x, hx, hxe⟩ := Option.map_eq_some_iff.mp h
        obtain ⟨h1, h2⟩ := Prod.mk.inj hxe
        unfold runFrom
        rw [if_neg h0]
        have hk' : k < r.length := by simpa using hk
        have := ih k (i + 1) (stepV method s m).1 t (cs ++ [(stepV method s m).2.1]) x.2 hk' (by rw [hx, ← h1]) (by simpa using he)
        rw [this]
        simp only [List.getElem_cons_succ]
        rw [show i + 1 + k = i + (k + 1) by omega]
theorem runOk_take {method : Int} : ∀ (l : List Mv) (k : Nat) (s t : St) (d : List Co), runOk method s l = some (t, d) → ∃ t', runOk method s (l.take k) = some (t', d.take k) := by
  intro l
  induction l with
  | nil => intro k s t d h; simp [runOk] at h; obtain ⟨rfl, rfl⟩ := h; exact ⟨s, by simp [runOk]⟩
  | cons m r ih =>
    intro k s t d h
    cases k with
    | zero => exact ⟨s, by simp [runOk]⟩
    | succ k =>
      unfold runOk at h
      split at h
      · cases h
      · rename_i h0
        obtain ⟨x, hx, he⟩ := Option.map_eq_some_iff.mp h
        obtain ⟨h1, h2⟩ := Prod.mk.inj he
        obtain ⟨t', ht'⟩ := ih k _ _ _ hx
        refine ⟨t', ?_⟩
        simp only [List.take_succ_cons, runOk, if_neg h0]
        rw [ht', ← h2]
        simp
end Go.X
end
section
set_option linter.unusedVariables false
set_option linter.unusedSimpArgs false
namespace Go.X
open Go.Proofs Go.RowKit
attribute [local irreducible] l_append l_copy l_make l_run q_slice q_eq q_index q_build onSome l_lit
variable {w w' : World} {B x : Nat} {s : St} {lv pv cv : Value} {m : Mv} {c : Co} {cs : List Co} {method : Int}
theorem runOk_snoc {method : Int} : ∀ (l : List Mv) (k : Nat) (s t : St) (d : List Co) (hk : k < l.length), runOk method s (l.take k) = some (t, d) → (stepV method t l[k]).2.2 = 0 → runOk method s (l.take (k + 1)) = some ((stepV method t l[k]).1, d ++ [(stepV method t l[k]).2.1]) := by
  intro l
  induction l with
  | nil => intro k s t d hk; simp at hk
  | cons m r ih =>
    intro k s t d hk h he
    cases k with
    | zero =>
      simp [runOk] at h
      obtain ⟨rfl, rfl⟩ := h
      simp only [List.getElem_cons_zero] at he ⊢
      simp [runOk, he]
    | succ k =>
      simp only [List.take_succ_cons, runOk] at h ⊢
      split at h
      · cases h
      · rename_i h0
        obtain ⟨x, hx, hxe⟩ := Option.map_eq_some_iff.mp h
        obtain ⟨h1, h2⟩ := Prod.mk.inj hxe
        rw [if_neg h0]
        have hk' : k < r.length := by simpa using hk
        have := ih k (stepV method s m).1 t x.2 hk' (by rw [hx, ← h1]) (by simpa using he)
        rw [this, ← h2]
        simp
theorem l_new_eq {t : TypeId} {c : Array Value} {w : World} {K : Value → World → Prop} : l_new t c w K = K (.pointer (some ⟨w.heap.size, 0, none⟩)) (w.alloc (.cells c t)) := rfl
end Go.X
end
