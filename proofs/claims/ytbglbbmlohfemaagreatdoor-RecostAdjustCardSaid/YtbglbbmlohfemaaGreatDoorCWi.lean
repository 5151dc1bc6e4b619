/- Law 39: the adjustments, plain; costs that a law keeps beside an engine. -/
import Derived.Test.YtbglbbmlohfemaaGreatDoorCWt
set_option linter.unusedVariables false
set_option linter.unusedSimpArgs false
namespace Go.X
open Go.Proofs Go.RowKit
attribute [local irreducible] l_append l_copy l_make l_run l_runU q_slice q_eq q_index q_build onSome l_lit q_read
variable {w w' w'' : World} {B x : Nat} {r : Option Nat} {method : Int} {s0 : St} {L : List Mv} {m : Mv}
def coG (C : List Co) (i : Nat) : Co := (C[i]?).getD Co.zero
/-- The indices of the costs that differ. -/
def dif (C C' : List Co) (i : Nat) : Bool := decide ((coG C' i).value ≠ (coG C i).value ∨ (coG C' i).var ≠ (coG C i).var)
def difI (C C' : List Co) (n : Nat) : List Nat := (List.range n).filter (dif C C')
def adG (C C' : List Co) (i : Nat) : Ad := ⟨(coG C i).seq, IntKind.i64.wrap ((coG C' i).value - (coG C i).value), IntKind.i64.wrap ((coG C' i).var - (coG C i).var)⟩
theorem adjV_dif {C C' : List Co} (hl : C.length ≤ C'.length) : ∀ n, n ≤ C.length → adjV (C.take n) (C'.take n) = (difI C C' n).map (adG C C') := by
  intro n
  induction n with
  | zero => intro _; simp [adjV, difI]
  | succ n ih =>
    intro hn
    have h1 : n < C.length := by omega
    have h2 : C'[n]? = some C'[n] := List.getElem?_eq_getElem (by omega)
    rw [adjV_succ h1 h2, ih (by omega)]
    unfold difI
    rw [List.range_succ, List.filter_append, List.map_append]
    congr 1
    have e1 : coG C n = C[n] := by unfold coG; rw [List.getElem?_eq_getElem h1]; rfl
    have e2 : coG C' n = C'[n] := by unfold coG; rw [h2]; rfl
    unfold adjOf
    by_cases hd : C'[n].value ≠ C[n].value ∨ C'[n].var ≠ C[n].var
    · rw [if_pos hd]
      have : dif C C' n = true := by unfold dif; rw [e1, e2]; exact decide_eq_true hd
      simp only [List.filter_cons, this, if_true, List.filter_nil, List.map_cons, List.map_nil]
      unfold adG
      rw [e1, e2]
    · rw [if_neg hd]
      have : dif C C' n = false := by unfold dif; rw [e1, e2]; exact decide_eq_false hd
      simp [List.filter_cons, this]
theorem adjV_all {C C' : List Co} (hl : C.length ≤ C'.length) : adjV C C' = (difI C C' C.length).map (adG C C') := by
  rw [← adjV_dif hl _ (Nat.le_refl _), List.take_length]
  have : ∀ (l k : List Co) (n : Nat), l.length ≤ n → adjV l (k.take n) = adjV l k := by
    intro l
    induction l with
    | nil => intro k n _; simp [adjV]
    | cons a t ih =>
      intro k n hn
      cases k with
      | nil => simp
      | cons c u =>
        cases n with
        | zero => simp at hn
        | succ n => simp only [List.take_succ_cons, adjV]; rw [ih u n (by simpa using hn)]
  exact (this C C' C.length (Nat.le_refl _)).symm
theorem difI_lt {C C' : List Co} {n : Nat} : ∀ i ∈ difI C C' n, i < n ∧ dif C C' i = true := by
  intro i hi
  unfold difI at hi
  rw [List.mem_filter] at hi
  exact ⟨List.mem_range.1 hi.1, hi.2⟩
theorem difI_srt (C C' : List Co) (n : Nat) : (difI C C' n).Pairwise (· < ·) := (List.pairwise_lt_range).sublist List.filter_sublist
/-- The costs, some of them brought up to date. -/
def curV (C C' : List Co) (D : List Nat) : List Co := Co.zero :: (List.range C.length).map (fun i => if i ∈ D then coG C' i else coG C i)
theorem curV_len (C C' : List Co) (D : List Nat) : (curV C C' D).length = C.length + 1 := by simp [curV]
theorem curV_nil (C C' : List Co) : curV C C' [] = Co.zero :: C := by
  unfold curV
  congr 1
  apply List.ext_getElem
  · simp
  · intro i h1 h2
    simp only [List.getElem_map, List.getElem_range, List.not_mem_nil, if_false]
    unfold coG
    rw [List.getElem?_eq_getElem h2]; rfl
theorem curV_get {C C' : List Co} {D : List Nat} {i : Nat} (hi : i < C.length) : (curV C C' D)[i + 1]? = some (if i ∈ D then coG C' i else coG C i) := by
  unfold curV
  rw [List.getElem?_cons_succ, List.getElem?_map, List.getElem?_range hi]
  rfl
theorem curV_set {C C' : List Co} {D : List Nat} {k : Nat} (hk : k < D.length) (hD : D.Nodup) (hi : D[k] < C.length) : (curV C C' (D.take k)).set (D[k] + 1) (coG C' D[k]) = curV C C' (D.take (k + 1)) := by
  have etk : D.take (k + 1) = D.take k ++ [D[k]] := by rw [List.take_add_one, List.getElem?_eq_getElem hk]; rfl
  apply List.ext_getElem?
  intro j
  cases j with
  | zero => rfl
  | succ j =>
    rcases Nat.lt_or_ge j C.length with hj | hj
    · by_cases hjk : j = D[k]
      · subst hjk
        rw [List.getElem?_set_self (by rw [curV_len]; omega), curV_get hj, if_pos]
        rw [etk, List.mem_append]
        exact .inr (List.mem_singleton.2 rfl)
      · rw [List.getElem?_set_ne (by omega), curV_get hj, curV_get hj]
        have : (j ∈ D.take (k + 1)) ↔ (j ∈ D.take k) := by
          rw [etk, List.mem_append, List.mem_singleton]
          exact ⟨fun h => h.elim id (fun e => absurd e hjk), .inl⟩
        simp only [this]
    · rw [List.getElem?_eq_none (by rw [List.length_set, curV_len]; omega), List.getElem?_eq_none (by rw [curV_len]; omega)]
theorem curV_at {C C' : List Co} {D : List Nat} {k : Nat} (hk : k < D.length) (hD : D.Nodup) (hi : D[k] < C.length) : ∃ h : D[k] + 1 < (curV C C' (D.take k)).length, (curV C C' (D.take k))[D[k] + 1] = coG C D[k] := by
  have h : D[k] + 1 < (curV C C' (D.take k)).length := by rw [curV_len]; omega
  refine ⟨h, ?_⟩
  have hn : ¬ D[k] ∈ D.take k := by
    intro hm
    obtain ⟨j, hj, e⟩ := List.getElem_of_mem hm
    rw [List.getElem_take] at e
    rw [List.length_take] at hj
    have := (List.getElem_inj hD).1 e
    omega
  have := curV_get (C' := C') (D := D.take k) hi
  rw [List.getElem?_eq_getElem h, if_neg hn] at this
  exact Option.some.inj this
/-- What a movement more does to the costs of the others. -/
theorem cos_more (hG : GoodL method s0 L) (hG' : GoodL method s0 (L ++ [m])) {i : Nat} (hi : i < L.length) :
    (coG (cosV method s0 L) i).seq = ((i + 1 : Nat) : Int) ∧ (coG (cosV method s0 (L ++ [m])) i).seq = ((i + 1 : Nat) : Int) ∧ (coG (cosV method s0 L) i).qty = (coG (cosV method s0 (L ++ [m])) i).qty ∧ (coG (cosV method s0 L) i).Ok ∧ (coG (cosV method s0 (L ++ [m])) i).Ok := by
  have h1 : i < (cosV method s0 L).length := by rw [cosV_len]; exact hi
  have h2 : i < (cosV method s0 (L ++ [m])).length := by rw [cosV_len]; simp; omega
  obtain ⟨_, a1, a2, a3⟩ := hG.cos h1
  obtain ⟨_, b1, b2, b3⟩ := hG'.cos h2
  have e1 : coG (cosV method s0 L) i = (cosV method s0 L)[i] := by unfold coG; rw [List.getElem?_eq_getElem h1]; rfl
  have e2 : coG (cosV method s0 (L ++ [m])) i = (cosV method s0 (L ++ [m]))[i] := by unfold coG; rw [List.getElem?_eq_getElem h2]; rfl
  rw [e1, e2]
  refine ⟨a1, b1, ?_, a3, b3⟩
  rw [a2, b2, List.getElem_append_left hi]
theorem curV_all (hG : GoodL method s0 L) (hG' : GoodL method s0 (L ++ [m])) :
    curV (cosV method s0 L) (cosV method s0 (L ++ [m])) (difI (cosV method s0 L) (cosV method s0 (L ++ [m])) (cosV method s0 L).length) ++ [((cosV method s0 (L ++ [m]))[L.length]?).getD Co.zero] = Co.zero :: cosV method s0 (L ++ [m]) := by
  have hl := cosV_len method s0 L
  have hl' : (cosV method s0 (L ++ [m])).length = L.length + 1 := by rw [cosV_len]; simp
  apply List.ext_getElem?
  intro j
  cases j with
  | zero => rfl
  | succ j =>
    rw [List.getElem?_cons_succ]
    rcases Nat.lt_or_ge j L.length with hj | hj
    · rw [List.getElem?_append_left (by rw [curV_len]; omega), curV_get (by omega)]
      have e2 : (cosV method s0 (L ++ [m]))[j]? = some (coG (cosV method s0 (L ++ [m])) j) := by unfold coG; rw [List.getElem?_eq_getElem (by omega)]; rfl
      rw [e2]
      congr 1
      by_cases hd : j ∈ difI (cosV method s0 L) (cosV method s0 (L ++ [m])) (cosV method s0 L).length
      · rw [if_pos hd]
      · rw [if_neg hd]
        have hnd : dif (cosV method s0 L) (cosV method s0 (L ++ [m])) j = false := by
          cases h : dif (cosV method s0 L) (cosV method s0 (L ++ [m])) j with
          | false => rfl
          | true => exact absurd (by unfold difI; rw [List.mem_filter]; exact ⟨List.mem_range.2 (by omega), h⟩) hd
        unfold dif at hnd
        have hnd := of_decide_eq_false hnd
        obtain ⟨s1, s2, s3, _, _⟩ := cos_more hG hG' hj
        have v1 : (coG (cosV method s0 (L ++ [m])) j).value = (coG (cosV method s0 L) j).value := Decidable.byContradiction (fun h => hnd (.inl h))
        have v2 : (coG (cosV method s0 (L ++ [m])) j).var = (coG (cosV method s0 L) j).var := Decidable.byContradiction (fun h => hnd (.inr h))
        have ext : ∀ a b : Co, a.seq = b.seq → a.qty = b.qty → a.value = b.value → a.var = b.var → a = b := by
          intro a b h1 h2 h3 h4; cases a; cases b; simp_all
        exact ext _ _ (by rw [s1, s2]) s3 v1.symm v2.symm
    · rw [List.getElem?_append_right (by rw [curV_len]; omega), curV_len, hl]
      rcases Nat.eq_or_lt_of_le hj with he | hlt
      · rw [← he, show L.length + 1 - (L.length + 1) = 0 by omega, List.getElem?_cons_zero]
        rw [List.getElem?_eq_getElem (show L.length < (cosV method s0 (L ++ [m])).length by omega)]
        rfl
      · rw [List.getElem?_eq_none (by simp; omega), List.getElem?_eq_none (by omega)]
theorem wrap_ne {a b : Int} (ha : I64 a) (hb : I64 b) (h : a ≠ b) : IntKind.i64.wrap (a - b) ≠ 0 := by
  unfold I64 at ha hb
  rw [IntKind.wrap_i64]
  omega
/-- An engine, where only blocks of costs that are not its own are changed. -/
theorem HasE.fr43 {S : Nat → Prop} (h : HasE w B x r method s0 L) (hF : Fr S w w') (hS : ∀ j, S j → (∃ c f, X.blk w j = some (.cells c 43 f)) ∧ r ≠ some j) : HasE w' B x r method s0 L := by
  obtain ⟨mv, cv, ov, kv, lv, pv, ks, hrow, h⟩ := h
  have ow : ∀ {α : Type} {E : Enc α} {t : TypeId} {v : Value} {l : List α}, t ≠ 43 → Own E t w B v l → Own E t w' B v l := fun ht ho => hF.own ho (fun k hk hs => by
    obtain ⟨⟨c, f, hc⟩, _⟩ := hS k hs
    obtain ⟨c', hc'⟩ := ho.type k hk
    rw [hc] at hc'; injection hc' with hc'; injection hc' with _ hc'; exact ht hc'.symm)
  refine ⟨mv, cv, ov, kv, lv, pv, ks, hrow, h.le, hF.blk h.blk (fun hs => ?_), ow (by decide) h.mv, hF.own h.co (fun k hk hs => (hS k hs).2 (by rw [← hrow]; exact hk)), ow (by decide) h.ov, ow (by decide) h.kv, ⟨h.ks.1, fun i k s hk hs => ?_⟩, ow (by decide) h.ly, ow (by decide) h.pa⟩
  · obtain ⟨⟨c, f, hc⟩, _⟩ := hS x hs
    rw [h.blk] at hc; injection hc with hc; injection hc with _ hc; cases hc
  · have := h.ks.2 i k s hk hs
    exact ⟨this.qty, this.value, this.price, ow (by decide) this.ly, ow (by decide) this.pa⟩
theorem HasE.ne43 (h : HasE w B x r method s0 L) {j : Nat} {c : Array Value} {f : Nat × Nat} (hj : X.blk w j = some (.cells c 43 f)) : j ≠ x := by
  obtain ⟨mv, cv, ov, kv, lv, pv, ks, hrow, h⟩ := h
  intro e
  rw [e, h.blk] at hj; injection hj with hj; injection hj with _ hj; cases hj
end Go.X
