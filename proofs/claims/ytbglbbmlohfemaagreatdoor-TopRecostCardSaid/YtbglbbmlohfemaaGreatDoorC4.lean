/- Recosting, plain: order, costs, sums; receipts and issues. -/
import Derived.Test.YtbglbbmlohfemaaGreatDoorC2
import Derived.Test.YtbglbbmlohfemaaGreatDoorB9
section
set_option linter.unusedVariables false
set_option linter.unusedSimpArgs false
namespace Go.X
open Go.Proofs Go.RowKit
theorem seqV_len' {L : List Mv} {O : List Nat} : (seqV L O).length = O.length := by simp [seqV]
/-! ### The binary search -/
theorem bs_spec (f : Nat → Bool) {N : Nat} (hf : ∀ a b, a ≤ b → b < N → f b = true → f a = true) : ∀ (n i j : Nat), j - i ≤ n → i ≤ j → j ≤ N → (∀ k, k < i → f k = true) → (∀ k, j ≤ k → k < N → f k = false) →
    (∀ k, k < bsV f n i j → f k = true) ∧ (∀ k, bsV f n i j ≤ k → k < N → f k = false) := by
  intro n
  induction n with
  | zero =>
    intro i j h hij hj h1 h2
    have : i = j := by omega
    subst this
    exact ⟨h1, h2⟩
  | succ n ih =>
    intro i j h hij hj h1 h2
    unfold bsV
    split
    · rename_i hlt
      split
      · rename_i ht
        exact ih _ _ (by omega) (by omega) hj (fun k hk => hf k ((i + j) / 2) (by omega) (by omega) ht) h2
      · rename_i hff
        refine ih _ _ (by omega) (by omega) (by omega) h1 (fun k hk hkN => ?_)
        cases hfk : f k with
        | false => rfl
        | true => exact absurd (hf _ k hk hkN hfk) hff
    · have : i = j := by omega
      subst this
      exact ⟨h1, h2⟩
theorem bs_congr {f g : Nat → Bool} {N : Nat} (h : ∀ k, k < N → f k = g k) : ∀ (n i j : Nat), j ≤ N → bsV f n i j = bsV g n i j := by
  intro n
  induction n with
  | zero => intro i j _; rfl
  | succ n ih =>
    intro i j hj
    unfold bsV
    split
    · rename_i hlt
      rw [h _ (by omega), ih _ _ hj, ih _ _ (by omega)]
    · rfl
/-! ### The order -/
theorem at0_old {L : List Mv} (m : Mv) {i : Nat} (h : i < L.length) : at0 (L ++ [m]) i = at0 L i := by
  unfold at0; rw [List.getElem?_append_left h]
theorem at0_new (L : List Mv) (m : Mv) : at0 (L ++ [m]) L.length = m := by
  unfold at0; simp
def ordN (L : List Mv) : Nat → List Nat
  | 0 => []
  | n + 1 => insI (ordN L n) (placeV L (ordN L n) (at0 L n).value) n
def ordV (L : List Mv) : List Nat := ordN L L.length
theorem insI_perm {α : Type} (l : List α) (i : Nat) (x : α) : (insI l i x).Perm (x :: l) := by
  unfold insI
  refine List.perm_middle.trans ?_
  rw [List.take_append_drop]
theorem ordN_perm (L : List Mv) : ∀ n, (ordN L n).Perm (List.range n) := by
  intro n
  induction n with
  | zero => exact List.Perm.refl _
  | succ n ih =>
    unfold ordN
    refine (insI_perm _ _ _).trans ?_
    rw [List.range_succ]
    exact (List.Perm.cons n ih).trans (List.perm_append_singleton n _).symm
theorem ordN_len (L : List Mv) (n : Nat) : (ordN L n).length = n := by simpa using (ordN_perm L n).length_eq
theorem ordN_lt (L : List Mv) (n : Nat) : ∀ o ∈ ordN L n, o < n := fun o ho => List.mem_range.1 ((ordN_perm L n).mem_iff.1 ho)
theorem ordN_nodup (L : List Mv) (n : Nat) : (ordN L n).Nodup := (ordN_perm L n).symm.nodup List.nodup_range
def LtV (L : List Mv) (a b : Nat) : Prop := (at0 L a).value < (at0 L b).value ∨ ((at0 L a).value = (at0 L b).value ∧ a < b)
theorem lev_eq {L : List Mv} {O : List Nat} {value : Int} {k : Nat} (h : k < O.length) : leV L O value k = decide ((at0 L O[k]).value ≤ value) := by
  unfold leV at0
  rw [List.getElem?_eq_getElem h]
  rfl
theorem place_spec {L : List Mv} {O : List Nat} (hO : O.Pairwise (LtV L)) (value : Int) :
    (∀ k (h : k < O.length), k < placeV L O value → (at0 L O[k]).value ≤ value) ∧ (∀ k (h : k < O.length), placeV L O value ≤ k → value < (at0 L O[k]).value) := by
  have mono : ∀ a b, a ≤ b → b < O.length → leV L O value b = true → leV L O value a = true := by
    intro a b hab hb h
    rw [lev_eq hb] at h
    rw [lev_eq (by omega)]
    have h := of_decide_eq_true h
    refine decide_eq_true ?_
    rcases Nat.lt_or_ge a b with h1 | h1
    · have := List.pairwise_iff_getElem.1 hO a b (by omega) hb h1
      rcases this with h2 | ⟨h2, _⟩ <;> omega
    · have : a = b := by omega
      subst this; exact h
  obtain ⟨h1, h2⟩ := bs_spec (leV L O value) mono O.length 0 O.length (by omega) (Nat.zero_le _) (Nat.le_refl _) (fun k hk => by omega) (fun k hk hk2 => by omega)
  refine ⟨fun k h hk => ?_, fun k h hk => ?_⟩
  · have := h1 k hk
    rw [lev_eq h] at this
    exact of_decide_eq_true this
  · have := h2 k hk h
    rw [lev_eq h] at this
    have := of_decide_eq_false this
    omega
theorem ordN_srt (L : List Mv) : ∀ n, (ordN L n).Pairwise (LtV L) := by
  intro n
  induction n with
  | zero => exact List.Pairwise.nil
  | succ n ih =>
    unfold ordN
    obtain ⟨h1, h2⟩ := place_spec ih (at0 L n).value
    have hlt := ordN_lt L n
    generalize placeV L (ordN L n) (at0 L n).value = p at *
    generalize ordN L n = O at *
    unfold insI
    have hsp : (O.take p ++ O.drop p).Pairwise (LtV L) := by rw [List.take_append_drop]; exact ih
    obtain ⟨p1, p2, p3⟩ := List.pairwise_append.1 hsp
    refine List.pairwise_append.2 ⟨p1, List.pairwise_cons.2 ⟨fun b hb => ?_, p2⟩, fun a ha b hb => ?_⟩
    · obtain ⟨k, hk, rfl⟩ := List.getElem_of_mem hb
      rw [List.getElem_drop]
      rw [List.length_drop] at hk
      exact .inl (h2 (p + k) (by omega) (by omega))
    · rcases List.mem_cons.1 hb with rfl | hb
      · have han := hlt a (List.mem_of_mem_take ha)
        obtain ⟨k, hk, rfl⟩ := List.getElem_of_mem ha
        rw [List.getElem_take] at han ⊢
        rw [List.length_take] at hk
        have := h1 k (by omega) (by omega)
        rcases Int.lt_or_eq_of_le this with h | h
        · exact .inl h
        · exact .inr ⟨h, han⟩
      · exact p3 a ha b hb
theorem place_congr {L L' : List Mv} {O : List Nat} (h : ∀ o ∈ O, at0 L o = at0 L' o) (value : Int) : placeV L O value = placeV L' O value := by
  unfold placeV
  refine bs_congr (N := O.length) (fun k hk => ?_) _ _ _ (Nat.le_refl _)
  rw [lev_eq hk, lev_eq hk, h _ (List.getElem_mem hk)]
theorem ordN_congr {L L' : List Mv} : ∀ n, (∀ i, i < n → at0 L i = at0 L' i) → ordN L n = ordN L' n := by
  intro n
  induction n with
  | zero => intro _; rfl
  | succ n ih =>
    intro h
    have hn := ih (fun i hi => h i (by omega))
    unfold ordN
    rw [← hn, h n (by omega), place_congr (fun o ho => h o (by have := ordN_lt L n o ho; omega))]
theorem ordV_len (L : List Mv) : (ordV L).length = L.length := ordN_len L _
theorem ordV_lt (L : List Mv) : ∀ o ∈ ordV L, o < L.length := ordN_lt L _
theorem ordV_nodup (L : List Mv) : (ordV L).Nodup := ordN_nodup L _
theorem ordV_perm (L : List Mv) : (ordV L).Perm (List.range L.length) := ordN_perm L _
theorem ordV_srt (L : List Mv) : (ordV L).Pairwise (LtV L) := ordN_srt L _
/-- Where a movement is placed in the order. -/
def plcV (L : List Mv) (m : Mv) : Nat := placeV L (ordV L) m.value
theorem plc_le (L : List Mv) (m : Mv) : plcV L m ≤ L.length := by have := place_le L (ordV L) m.value; rw [ordV_len] at this; exact this
theorem ordV_add (L : List Mv) (m : Mv) : ordV (L ++ [m]) = insI (ordV L) (plcV L m) L.length := by
  unfold ordV plcV
  rw [List.length_append, List.length_singleton]
  show insI (ordN (L ++ [m]) L.length) _ _ = _
  have e : ordN (L ++ [m]) L.length = ordN L L.length := ordN_congr _ (fun i hi => at0_old m hi)
  rw [e, at0_new, place_congr (L' := L) (fun o ho => at0_old m (ordN_lt L _ o ho))]
  rfl
/-- The movements in the order of their values. -/
def ordI (L : List Mv) : List Mv := seqV L (ordV L)
theorem ordI_len (L : List Mv) : (ordI L).length = L.length := by unfold ordI; rw [seqV_len', ordV_len]
theorem ordI_add (L : List Mv) (m : Mv) : ordI (L ++ [m]) = insI (ordI L) (plcV L m) m := by
  unfold ordI
  rw [ordV_add]
  unfold seqV insI
  have key : ∀ l : List Nat, (∀ o ∈ l, o < L.length) → l.map (at0 (L ++ [m])) = l.map (at0 L) := by
    intro l hl
    exact List.map_congr_left (fun o ho => at0_old m (hl o ho))
  rw [List.map_append, List.map_cons, at0_new, key _ (fun o ho => ordV_lt L o (List.mem_of_mem_take ho)), key _ (fun o ho => ordV_lt L o (List.mem_of_mem_drop ho)), List.map_take, List.map_drop]
theorem ordI_perm (L : List Mv) : (ordI L).Perm L := by
  unfold ordI seqV
  have h := (ordV_perm L).map (at0 L)
  refine h.trans ?_
  have : (List.range L.length).map (at0 L) = L := by
    apply List.ext_getElem
    · simp
    · intro i h1 h2
      simp only [List.getElem_map, List.getElem_range]
      unfold at0
      rw [List.getElem?_eq_getElem h2]
      rfl
  rw [this]
/-! ### Costs, the engine -/
def cosV (method : Int) (s0 : St) (L : List Mv) : List Co := (List.range L.length).map fun i => coAt method s0 (ordI L) ((ordV L).idxOf i)
def lastV (method : Int) (s0 : St) (L : List Mv) : St := stAt method s0 (ordI L) L.length
def engV (method : Int) (s0 : St) (L : List Mv) : Eng := ⟨method, L, cosV method s0 L, ordV L, keptV (stAt method s0 (ordI L)) (L.length / 16 + 1), lastV method s0 L⟩
/-- The error of a list of movements, all entered. -/
def errV (method : Int) (s0 : St) (L : List Mv) : Int := if (checkV L).2 ≠ 0 then (checkV L).2 else (runFrom method 0 s0 [] (ordI L)).2.2.2
def addL (method : Int) (s0 : St) (L : List Mv) (m : Mv) : List Mv := if errV method s0 (L ++ [m]) = 0 then L ++ [m] else L
theorem cosV_len (method : Int) (s0 : St) (L : List Mv) : (cosV method s0 L).length = L.length := by simp [cosV]
theorem cos_at {method : Int} {s0 : St} {L : List Mv} {q : Nat} (h : q < (ordV L).length) : (cosV method s0 L)[(ordV L)[q]]? = some (coAt method s0 (ordI L) q) := by
  have h2 := ordV_lt L _ (List.getElem_mem h)
  unfold cosV
  rw [List.getElem?_map, List.getElem?_range h2]
  simp only [Option.map_some, Option.some.injEq]
  rw [(ordV_nodup L).idxOf_getElem]
theorem pos_of {L : List Mv} {i : Nat} (h : i < L.length) : ∃ (q : Nat) (hq : q < (ordV L).length), (ordV L)[q] = i := by
  have : i ∈ ordV L := (ordV_perm L).mem_iff.2 (List.mem_range.2 h)
  exact List.getElem_of_mem this
theorem errV_chk {method : Int} {s0 : St} {L : List Mv} (h : errV method s0 L = 0) : (checkV L).2 = 0 := by
  unfold errV at h
  split at h
  · rename_i h1; exact absurd h h1
  · rename_i h1; simpa using h1
theorem errV_run {method : Int} {s0 : St} {L : List Mv} (h : errV method s0 L = 0) : ∃ d, runOk method s0 (ordI L) = some (lastV method s0 L, d) ∧ d.length = L.length := by
  have hc := errV_chk h
  unfold errV at h
  rw [if_neg (by simpa using hc)] at h
  cases hr : runOk method s0 (ordI L) with
  | some x =>
    have hl := (runOk_sums _ _ _ _ hr).2.2
    rw [ordI_len] at hl
    refine ⟨x.2, ?_, hl⟩
    unfold lastV stAt
    rw [List.take_of_length_le (by rw [ordI_len]; exact Nat.le_refl _), hr]
  | none =>
    obtain ⟨k, e, he, _, hk, _⟩ := runFrom_bad (ordI L) 0 s0 [] hr
    rw [hk] at h
    exact absurd h he
theorem errV_of {method : Int} {s0 : St} {L : List Mv} (hc : (checkV L).2 = 0) (hr : ∃ x, runOk method s0 (ordI L) = some x) : errV method s0 L = 0 := by
  obtain ⟨x, hx⟩ := hr
  unfold errV
  rw [if_neg (by simpa using hc), runFrom_ok (ordI L) 0 s0 [] x.1 x.2 hx]
theorem errV_nil (method : Int) (s0 : St) : errV method s0 [] = 0 := errV_of rfl ⟨_, rfl⟩
/-! ### A movement more: what is before it stays -/
theorem insI_take {α : Type} {l : List α} {p k : Nat} {x : α} (hk : k ≤ p) (hp : p ≤ l.length) : (insI l p x).take k = l.take k := by
  unfold insI
  rw [List.take_append_of_le_length (by rw [List.length_take]; omega), List.take_take, Nat.min_eq_left hk]
theorem insI_get {α : Type} {l : List α} {p k : Nat} {x : α} (hk : k < p) (hp : p ≤ l.length) : (insI l p x)[k]? = l[k]? := by
  have h := insI_take (x := x) (show k + 1 ≤ p by omega) hp
  have h2 := congrArg (fun y => y[k]?) h
  simpa [List.getElem?_take] using h2
theorem stAt_ins {method : Int} {s0 : St} {ms : List Mv} {p k : Nat} {m : Mv} (hk : k ≤ p) (hp : p ≤ ms.length) : stAt method s0 (insI ms p m) k = stAt method s0 ms k := by
  unfold stAt
  rw [insI_take hk hp]
theorem coAt_ins {method : Int} {s0 : St} {ms : List Mv} {p k : Nat} {m : Mv} (hk : k < p) (hp : p ≤ ms.length) : coAt method s0 (insI ms p m) k = coAt method s0 ms k := by
  unfold coAt
  rw [stAt_ins (by omega) hp]
  congr 2
  unfold at0
  rw [insI_get hk hp]
theorem cos_keep {method : Int} {s0 : St} {L : List Mv} {m : Mv} {q : Nat} (h : q < plcV L m) (hq : q < (ordV (L ++ [m])).length) :
    (ordV (L ++ [m]))[q] < L.length ∧ (cosV method s0 (L ++ [m]))[(ordV (L ++ [m]))[q]]? = (cosV method s0 L)[(ordV (L ++ [m]))[q]]? := by
  have hp := plc_le L m
  have hqL : q < (ordV L).length := by rw [ordV_len]; omega
  have e : (ordV (L ++ [m]))[q] = (ordV L)[q] := by
    have h1 : (ordV (L ++ [m]))[q]? = (ordV L)[q]? := by rw [ordV_add, insI_get h (by rw [ordV_len]; exact hp)]
    rw [List.getElem?_eq_getElem hq, List.getElem?_eq_getElem hqL] at h1
    exact Option.some.inj h1
  rw [cos_at hq, ordI_add, coAt_ins h (by rw [ordI_len]; exact hp), e, cos_at hqL]
  exact ⟨ordV_lt L _ (List.getElem_mem hqL), rfl⟩
/-! ### The differences of the costs -/
structure Ad where
  seq : Int
  value : Int
  var : Int
deriving DecidableEq
def Ad.cs (a : Ad) : List Value := [.int .i64 a.seq, .int .i64 a.value, .int .i64 a.var]
def adjOf (was now : Co) : List Ad := if now.value ≠ was.value ∨ now.var ≠ was.var then [⟨was.seq, IntKind.i64.wrap (now.value - was.value), IntKind.i64.wrap (now.var - was.var)⟩] else []
def adjV : List Co → List Co → List Ad
  | was :: r, now :: r' => adjOf was now ++ adjV r r'
  | _, _ => []
end Go.X
end
section
set_option linter.unusedVariables false
set_option linter.unusedSimpArgs false
namespace Go.X
open Go.Proofs Go.RowKit
/-! ### The check -/
theorem checkF_ok {l : List Mv} : ∀ (r : List Mv) (i : Nat) (σ : Bk), (checkF l i r σ).2 = 0 → ∀ (k : Nat) (h : k < r.length), r[k].seq = ((i + k + 1 : Nat) : Int) ∧ oneV r[k] = 0 := by
  intro r
  induction r with
  | nil => intro i σ _ k h; simp at h
  | cons m r ih =>
    intro i σ hc k h
    unfold checkF at hc
    split at hc
    · exact absurd hc (by simp)
    rename_i h1
    split at hc
    · rename_i h2; exact absurd hc h2
    rename_i h2
    have next : ∃ σ', (checkF l (i + 1) r σ').2 = 0 := by
      split at hc
      · exact ⟨_, hc⟩
      · split at hc
        · rename_i h3; exact absurd hc h3
        · exact ⟨_, hc⟩
    obtain ⟨σ', hn⟩ := next
    cases k with
    | zero => exact ⟨by simpa using h1, by simpa using h2⟩
    | succ k =>
      have := ih (i + 1) σ' hn k (by simpa using h)
      simp only [List.getElem_cons_succ]
      refine ⟨?_, this.2⟩
      rw [this.1]; omega
theorem check_facts {L : List Mv} (h : (checkV L).2 = 0) : L.length ≤ 2000 ∧ ∀ (k : Nat) (hk : k < L.length), L[k].seq = ((k + 1 : Nat) : Int) ∧ oneV L[k] = 0 := by
  unfold checkV at h
  split at h
  · exact absurd h (by simp)
  · rename_i hl
    refine ⟨by omega, fun k hk => ?_⟩
    have := checkF_ok L 0 [] h k hk
    simpa using this
/-! ### Costs of a run -/
theorem runOk_cons (method : Int) (s : St) (m : Mv) (r : List Mv) : runOk method s (m :: r) = if (stepV method s m).2.2 ≠ 0 then none else (runOk method (stepV method s m).1 r).map fun x => (x.1, (stepV method s m).2.1 :: x.2) := rfl
theorem stAt_cons {method : Int} {s : St} {m : Mv} {r : List Mv} {i : Nat} (h : (stepV method s m).2.2 = 0) : stAt method s (m :: r) (i + 1) = stAt method (stepV method s m).1 r i := by
  unfold stAt
  rw [List.take_succ_cons]
  rw [runOk_cons, if_neg (by rw [h]; simp)]
  cases runOk method (stepV method s m).1 (r.take i) <;> rfl
theorem coAt_cons {method : Int} {s : St} {m : Mv} {r : List Mv} {i : Nat} (h : (stepV method s m).2.2 = 0) : coAt method s (m :: r) (i + 1) = coAt method (stepV method s m).1 r i := by
  unfold coAt
  rw [stAt_cons h]
  rfl
theorem coAt_run {method : Int} : ∀ (ms : List Mv) (s t : St) (d : List Co), runOk method s ms = some (t, d) → d = (List.range ms.length).map (coAt method s ms) := by
  intro ms
  induction ms with
  | nil => intro s t d h; simp [runOk] at h; simp [h.2]
  | cons m r ih =>
    intro s t d h
    unfold runOk at h
    split at h
    · cases h
    rename_i he
    have he' : (stepV method s m).2.2 = 0 := by simpa using he
    cases hr : runOk method (stepV method s m).1 r with
    | none => rw [hr] at h; cases h
    | some y =>
      rw [hr] at h
      simp only [Option.map_some, Option.some.injEq, Prod.mk.injEq] at h
      rw [← h.2, List.length_cons, List.range_succ_eq_map, List.map_cons, List.map_map]
      have e0 : coAt method s (m :: r) 0 = (stepV method s m).2.1 := rfl
      rw [e0]
      congr 1
      rw [ih _ _ _ hr]
      exact List.map_congr_left (fun i _ => (coAt_cons he').symm)
theorem run_get {method : Int} {ms : List Mv} {s t : St} {d : List Co} (h : runOk method s ms = some (t, d)) {q : Nat} (hq : q < ms.length) : d[q]? = some (coAt method s ms q) := by
  rw [coAt_run ms s t d h, List.getElem?_map, List.getElem?_range hq]
  rfl
/-! ### A list of movements that an engine has -/
structure GoodL (method : Int) (s0 : St) (L : List Mv) : Prop where
  err : errV method s0 L = 0
  ok : ∀ m ∈ L, m.Ok
  inv : Inv method s0
  s0 : s0.Ok 0
theorem good_nil {method price : Int} (hp : I64 price) (h : (startV method price).2 = 0) : GoodL method (startV method price).1 [] := ⟨errV_nil _ _, by simp, start_inv h, start_ok 0 hp⟩
theorem GoodL.add {method : Int} {s0 : St} {L : List Mv} {m : Mv} (h : GoodL method s0 L) (hm : m.Ok) (he : errV method s0 (L ++ [m]) = 0) : GoodL method s0 (L ++ [m]) := ⟨he, mem_add_ok h.ok hm, h.inv, h.s0⟩
theorem GoodL.addL {method : Int} {s0 : St} {L : List Mv} {m : Mv} (h : GoodL method s0 L) (hm : m.Ok) : GoodL method s0 (addL method s0 L m) := by
  unfold X.addL
  split
  · rename_i he; exact h.add hm he
  · exact h
variable {method : Int} {s0 : St} {L : List Mv}
theorem GoodL.len (h : GoodL method s0 L) : L.length ≤ 2000 := (check_facts (errV_chk h.err)).1
theorem GoodL.seq (h : GoodL method s0 L) {k : Nat} (hk : k < L.length) : L[k].seq = ((k + 1 : Nat) : Int) := ((check_facts (errV_chk h.err)).2 k hk).1
theorem GoodL.one (h : GoodL method s0 L) {k : Nat} (hk : k < L.length) : OneF L[k] := one_facts ((check_facts (errV_chk h.err)).2 k hk).2
theorem GoodL.ordOk (h : GoodL method s0 L) : ∀ m ∈ ordI L, m.Ok := fun m hm => h.ok m ((ordI_perm L).mem_iff.1 hm)
theorem GoodL.take (h : GoodL method s0 L) (k : Nat) : ∃ d, runOk method s0 ((ordI L).take k) = some (stAt method s0 (ordI L) k, d) := by
  obtain ⟨d, hr, _⟩ := errV_run h.err
  obtain ⟨t, ht⟩ := runOk_take (ordI L) k s0 _ d hr
  refine ⟨d.take k, ?_⟩
  unfold stAt
  rw [ht]
theorem GoodL.stOk (h : GoodL method s0 L) {k : Nat} (hk : k ≤ L.length) : (stAt method s0 (ordI L) k).Ok k := by
  obtain ⟨d, hr⟩ := h.take k
  have := (runOk_ok _ 0 s0 _ d h.s0 (fun m hm => h.ordOk m (List.mem_of_mem_take hm)) hr).1
  rw [Nat.zero_add, List.length_take, ordI_len, Nat.min_eq_left hk] at this
  exact this
/-! ### Sums -/
def tsum {α : Type} (f : α → Int) : List α → Int
  | [] => 0
  | a :: r => f a + tsum f r
theorem tsum_perm {α : Type} {f : α → Int} {l k : List α} (h : l.Perm k) : tsum f l = tsum f k := by
  induction h with
  | nil => rfl
  | cons a _ ih => simp only [tsum, ih]
  | swap a b l => simp only [tsum]; omega
  | trans _ _ h1 h2 => rw [h1, h2]
theorem tsum_append {α : Type} {f : α → Int} (l k : List α) : tsum f (l ++ k) = tsum f l + tsum f k := by
  induction l with
  | nil => simp [tsum]
  | cons a r ih => simp only [List.cons_append, tsum, ih]; omega
theorem tsum_map {α β : Type} {f : β → Int} {g : α → β} (l : List α) : tsum f (l.map g) = tsum (fun a => f (g a)) l := by
  induction l with
  | nil => rfl
  | cons a r ih => simp only [List.map_cons, tsum, ih]
theorem tsum_congr {α : Type} {f g : α → Int} {l : List α} (h : ∀ a ∈ l, f a = g a) : tsum f l = tsum g l := by
  induction l with
  | nil => rfl
  | cons a r ih => simp only [tsum]; rw [h a (List.mem_cons_self ..), ih (fun b hb => h b (List.mem_cons_of_mem _ hb))]
theorem wrap_add (a b : Int) : IntKind.i64.wrap (IntKind.i64.wrap a + b) = IntKind.i64.wrap (a + b) := by
  rw [IntKind.wrap_i64, IntKind.wrap_i64, IntKind.wrap_i64]; omega
/-- The sum of some number of the costs of the movements up to a day. -/
def atS (f : Co → Int) (L : List Mv) (C : List Co) (day : Int) : Int := tsum (fun p : Mv × Co => if p.1.value ≤ day then f p.2 else 0) (L.zip C)
def atV (f : Co → Int) (method : Int) (s0 : St) (L : List Mv) (day : Int) : Int := IntKind.i64.wrap (atS f L (cosV method s0 L) day)
end Go.X
end
section
set_option linter.unusedVariables false
set_option linter.unusedSimpArgs false
namespace Go.X
open Go.Proofs Go.RowKit
def fg (a : Ly) : Ly := ⟨0, a.lot, a.qty, a.value⟩
theorem issueL_fg : ∀ (l : List Ly) (left v : Int), issueL (l.map fg) left v = ((issueL l left v).1.map fg, (issueL l left v).2) := by
  intro l
  induction l with
  | nil => intro left v; rfl
  | cons a r ih =>
    intro left v
    simp only [List.map_cons]
    unfold issueL
    by_cases h1 : left ≤ 0
    · rw [if_pos h1, if_pos h1]; rfl
    · rw [if_neg h1, if_neg h1]
      have e1 : (fg a).qty = a.qty := rfl
      have e2 : (fg a).value = a.value := rfl
      rw [e1, e2]
      by_cases h2 : a.qty < left
      · rw [if_pos h2, if_pos h2, ih]
      · rw [if_neg h2, if_neg h2]
        by_cases h3 : IntKind.i64.wrap (a.qty - left) = 0
        · simp only [if_pos h3]
        · simp only [if_neg h3, List.map_cons]; rfl
theorem takeV_fg (l : List Ly) (i : Nat) (q : Int) : takeV (l.map fg) i q = ((takeV l i q).1.map fg, (takeV l i q).2) := by
  unfold takeV
  rw [List.getElem?_map]
  cases l[i]? with
  | none => rfl
  | some a =>
    simp only [Option.map_some]
    have e1 : (fg a).qty = a.qty := rfl
    have e2 : (fg a).value = a.value := rfl
    rw [e1, e2]
    by_cases h : IntKind.i64.wrap (a.qty - q) = 0
    · simp only [if_pos h, map_erase]
    · simp only [if_neg h, List.map_set]; rfl
theorem lotAt_fg (lot : ByteArray) : ∀ l : List Ly, lotAt lot (l.map fg) = lotAt lot l := by
  intro l
  induction l with
  | nil => rfl
  | cons a r ih =>
    simp only [List.map_cons]
    unfold lotAt
    rw [ih]
    rfl
theorem lotAdd_fg (lot : ByteArray) (q v : Int) (l : List Ly) : lotAdd lot q v (l.map fg) = (lotAdd lot q v l).map fg := by
  unfold lotAdd
  rw [lotAt_fg]
  have e : (if (lotAt lot l).2 then l.map fg else (l.map fg).take (lotAt lot l).1 ++ ⟨0, lot, 0, 0⟩ :: (l.map fg).drop (lotAt lot l).1) = (if (lotAt lot l).2 then l else l.take (lotAt lot l).1 ++ ⟨0, lot, 0, 0⟩ :: l.drop (lotAt lot l).1).map fg := by
    split
    · rfl
    · rw [List.map_append, List.map_cons, List.map_take, List.map_drop]; rfl
  simp only [e]
  generalize (if (lotAt lot l).2 then l else l.take (lotAt lot l).1 ++ ⟨0, lot, 0, 0⟩ :: l.drop (lotAt lot l).1) = k
  rw [List.getElem?_map]
  cases k[(lotAt lot l).1]? with
  | none => rfl
  | some a => simp only [Option.map_some, List.map_set]; rfl
/-! ### What a receipt and an issue do -/
def coreQ (m : Mv) : Int := if m.kind = 1 then m.qty else IntKind.i64.wrap (0 - m.qty)
def coreL (method : Int) (l : List Ly) (m : Mv) : List Ly :=
  if method = 1 then (if m.kind = 1 then l ++ [⟨m.seq, m.lot, m.qty, m.cost⟩] else (issueL l m.qty 0).1)
  else if method = 4 then (if m.kind = 1 then lotAdd m.lot m.qty m.cost l else (takeV l (lotAt m.lot l).1 m.qty).1)
  else l
def coreO (method : Int) (s : St) (m : Mv) : Int :=
  if m.kind = 1 then (if method = 3 then m.qty * s.price else m.cost)
  else IntKind.i64.wrap (0 - (if method = 1 then (issueL s.layers m.qty 0).2 else if method = 2 then partV s.value m.qty s.qty else if method = 3 then m.qty * s.price else (takeV s.layers (lotAt m.lot s.layers).1 m.qty).2))
def coreR (method : Int) (s : St) (m : Mv) : Int := if method = 3 ∧ m.kind = 1 then IntKind.i64.wrap (m.cost - m.qty * s.price) else 0
structure CoreE (method : Int) (s : St) (m : Mv) (t : St) (c : Co) : Prop where
  q : c.qty = coreQ m
  v : c.value = coreO method s m
  r : c.var = coreR method s m
  tq : t.qty = IntKind.i64.wrap (s.qty + coreQ m)
  tv : t.value = IntKind.i64.wrap (s.value + coreO method s m)
  tp : t.price = s.price
  tl : t.layers = coreL method s.layers m
  tk : ∃ v, t.past = s.past ++ [mkPa m v]
theorem fifo_core {s : St} {m : Mv} (hk : m.kind = 1 ∨ m.kind = 2) (h : (fifoV s m).2.2 = 0) : CoreE 1 s m (fifoV s m).1 (fifoV s m).2.1 := by
  revert h
  unfold fifoV
  split
  · intro h; contradiction
  split
  · intro h; exact absurd h (by decide)
  simp only
  split
  · intro h; contradiction
  rename_i hd
  split
  · intro h; exact absurd h (by decide)
  intro _
  revert hd
  rcases hk with hk | hk
  · unfold fifoDo
    simp only [if_pos hk]
    intro _
    refine ⟨?_, ?_, ?_, ?_, ?_, rfl, ?_, ⟨_, rfl⟩⟩ <;> simp [Fx.sum, receiveV, coreQ, coreO, coreR, coreL, hk]
  · have hk1 : ¬ m.kind = 1 := by omega
    unfold fifoDo
    simp only [if_neg hk1, if_pos hk]
    split
    · intro h; simp at h
    intro _
    refine ⟨?_, ?_, ?_, ?_, ?_, rfl, ?_, ⟨_, rfl⟩⟩ <;> simp [Fx.sum, issueV, coreQ, coreO, coreR, coreL, hk]
theorem avg_core {s : St} {m : Mv} (hk : m.kind = 1 ∨ m.kind = 2) (h : (avgV s m).2.2 = 0) : CoreE 2 s m (avgV s m).1 (avgV s m).2.1 := by
  revert h
  unfold avgV
  split
  · intro h; contradiction
  split
  · intro h; exact absurd h (by decide)
  simp only
  split
  · intro h; contradiction
  rename_i hd
  split
  · intro h; exact absurd h (by decide)
  intro _
  revert hd
  rcases hk with hk | hk
  · unfold avgDo
    simp only [if_pos hk]
    intro _
    refine ⟨?_, ?_, ?_, ?_, ?_, rfl, ?_, ⟨_, rfl⟩⟩ <;> simp [St.add, avgReceive, coreQ, coreO, coreR, coreL, hk]
  · have hk1 : ¬ m.kind = 1 := by omega
    unfold avgDo
    simp only [if_neg hk1, if_pos hk]
    unfold avgIssue
    split
    · intro h; simp at h
    intro _
    refine ⟨?_, ?_, ?_, ?_, ?_, rfl, ?_, ⟨_, rfl⟩⟩ <;> simp [St.add, coreQ, coreO, coreR, coreL, hk]
theorem std_core {s : St} {m : Mv} (hk : m.kind = 1 ∨ m.kind = 2) (h : (stdV s m).2.2 = 0) : CoreE 3 s m (stdV s m).1 (stdV s m).2.1 := by
  revert h
  unfold stdV
  split
  · intro h; contradiction
  split
  · intro h; exact absurd h (by decide)
  simp only
  split
  · intro h; contradiction
  rename_i hd
  split
  · intro h; exact absurd h (by decide)
  rename_i hf
  intro _
  have hfv : (fitV (s.value + (stdDo s m).2.1.value)).1 = IntKind.i64.wrap (s.value + (stdDo s m).2.1.value) := by
    have hb : (fitV (s.value + (stdDo s m).2.1.value)).2 = true := by
      cases hb : (fitV (s.value + (stdDo s m).2.1.value)).2 with
      | true => rfl
      | false => exact absurd (.inl hb) hf
    obtain ⟨h1, h2⟩ := (fitV_ok _).2 hb
    rw [h1]
    unfold I64 at h2
    exact (wr (by omega) (by omega)).symm
  rw [hfv]
  clear hf hfv
  revert hd
  rcases hk with hk | hk
  · unfold stdDo
    simp only [if_pos hk]
    unfold stdReceipt
    split
    · intro h; simp at h
    intro _
    refine ⟨?_, ?_, ?_, ?_, ?_, ?_, ?_, ⟨_, rfl⟩⟩ <;> simp [coreQ, coreO, coreR, coreL, hk]
  · have hk1 : ¬ m.kind = 1 := by omega
    unfold stdDo
    simp only [if_neg hk1, if_pos hk]
    unfold stdIssue
    split
    · intro h; simp at h
    split
    · intro h; simp at h
    intro _
    refine ⟨?_, ?_, ?_, ?_, ?_, ?_, ?_, ⟨_, rfl⟩⟩ <;> simp [coreQ, coreO, coreR, coreL, hk]
theorem lots_core {s : St} {m : Mv} (hk : m.kind = 1 ∨ m.kind = 2) (h : (lotsV s m).2.2 = 0) : CoreE 4 s m (lotsV s m).1 (lotsV s m).2.1 := by
  revert h
  unfold lotsV
  split
  · intro h; contradiction
  split
  · intro h; exact absurd h (by decide)
  simp only
  split
  · intro h; contradiction
  rename_i hd
  split
  · intro h; exact absurd h (by decide)
  intro _
  revert hd
  rcases hk with hk | hk
  · unfold lotDo
    simp only [if_pos hk]
    unfold lotReceive
    split
    · intro h; simp at h
    intro _
    refine ⟨?_, ?_, ?_, ?_, ?_, rfl, ?_, ⟨_, rfl⟩⟩ <;> simp [St.add, coreQ, coreO, coreR, coreL, hk]
  · have hk1 : ¬ m.kind = 1 := by omega
    unfold lotDo
    simp only [if_neg hk1, if_pos hk]
    unfold lotIssue
    split
    · intro h; simp at h
    split
    · intro h; simp at h
    intro _
    refine ⟨?_, ?_, ?_, ?_, ?_, rfl, ?_, ⟨_, rfl⟩⟩ <;> simp [St.add, coreQ, coreO, coreR, coreL, hk]
theorem step_core {method : Int} {s : St} {m : Mv} (hk : m.kind = 1 ∨ m.kind = 2) (h : (stepV method s m).2.2 = 0) : CoreE method s m (stepV method s m).1 (stepV method s m).2.1 := by
  revert h
  unfold stepV
  split
  · rename_i e; subst e; exact fifo_core hk
  split
  · rename_i e; subst e; exact avg_core hk
  split
  · rename_i e; subst e; exact std_core hk
  split
  · rename_i e; subst e; exact lots_core hk
  · intro h; exact absurd h (by decide)
/-! ### The same but for the numbers -/
structure SimM (m n : Mv) : Prop where
  value : m.value = n.value
  kind : m.kind = n.kind
  qty : m.qty = n.qty
  cost : m.cost = n.cost
  lot : m.lot = n.lot
structure SimS (s t : St) : Prop where
  qty : s.qty = t.qty
  value : s.value = t.value
  price : s.price = t.price
  layers : s.layers.map fg = t.layers.map fg
structure SimC (c d : Co) : Prop where
  qty : c.qty = d.qty
  value : c.value = d.value
  var : c.var = d.var
theorem SimS.refl (s : St) : SimS s s := ⟨rfl, rfl, rfl, rfl⟩
theorem coreL_sim {method : Int} {l k : List Ly} {m n : Mv} (h : SimM m n) (hl : l.map fg = k.map fg) : (coreL method l m).map fg = (coreL method k n).map fg := by
  unfold coreL
  rw [h.kind, h.qty, h.cost, h.lot]
  split
  · split
    · rw [List.map_append, List.map_append, hl]; rfl
    · have h1 := issueL_fg l n.qty 0
      have h2 := issueL_fg k n.qty 0
      rw [hl] at h1
      rw [h1] at h2
      exact (Prod.mk.inj h2).1
  · split
    · split
      · rw [← lotAdd_fg, ← lotAdd_fg, hl]
      · have h1 := takeV_fg l (lotAt n.lot l).1 n.qty
        have h2 := takeV_fg k (lotAt n.lot k).1 n.qty
        rw [← lotAt_fg n.lot k, ← hl, lotAt_fg] at h2
        rw [hl] at h1
        rw [← lotAt_fg n.lot k, ← hl, lotAt_fg]
        rw [hl, h1] at h2
        exact (Prod.mk.inj h2).1
    · exact hl
theorem coreO_sim {method : Int} {s t : St} {m n : Mv} (h : SimM m n) (hs : SimS s t) : coreO method s m = coreO method t n := by
  unfold coreO
  rw [h.kind, h.qty, h.cost, h.lot, hs.price, hs.value, hs.qty]
  have e1 : (issueL s.layers n.qty 0).2 = (issueL t.layers n.qty 0).2 := by
    have h1 := issueL_fg s.layers n.qty 0
    have h2 := issueL_fg t.layers n.qty 0
    rw [hs.layers, h2] at h1
    exact (Prod.mk.inj h1).2.symm
  have e2 : (takeV s.layers (lotAt n.lot s.layers).1 n.qty).2 = (takeV t.layers (lotAt n.lot t.layers).1 n.qty).2 := by
    have h0 : lotAt n.lot s.layers = lotAt n.lot t.layers := by rw [← lotAt_fg n.lot s.layers, hs.layers, lotAt_fg]
    have h1 := takeV_fg s.layers (lotAt n.lot s.layers).1 n.qty
    have h2 := takeV_fg t.layers (lotAt n.lot s.layers).1 n.qty
    rw [hs.layers, h2] at h1
    rw [← h0]
    exact (Prod.mk.inj h1).2.symm
  rw [e1, e2]
theorem step_sim {method : Int} {s t : St} {m n : Mv} (h : SimM m n) (hk : n.kind = 1 ∨ n.kind = 2) (hs : SimS s t) (h1 : (stepV method s m).2.2 = 0) (h2 : (stepV method t n).2.2 = 0) :
    SimS (stepV method s m).1 (stepV method t n).1 ∧ SimC (stepV method s m).2.1 (stepV method t n).2.1 := by
  have c1 := step_core (by rw [h.kind]; exact hk) h1
  have c2 := step_core hk h2
  have eq : coreQ m = coreQ n := by unfold coreQ; rw [h.kind, h.qty]
  have eo := coreO_sim (method := method) h hs
  have er : coreR method s m = coreR method t n := by unfold coreR; rw [h.kind, h.qty, h.cost, hs.price]
  refine ⟨⟨?_, ?_, ?_, ?_⟩, ⟨?_, ?_, ?_⟩⟩
  · rw [c1.tq, c2.tq, hs.qty, eq]
  · rw [c1.tv, c2.tv, hs.value, eo]
  · rw [c1.tp, c2.tp, hs.price]
  · rw [c1.tl, c2.tl]; exact coreL_sim h hs.layers
  · rw [c1.q, c2.q, eq]
  · rw [c1.v, c2.v, eo]
  · rw [c1.r, c2.r, er]
inductive Sims : List Mv → List Mv → Prop
  | nil : Sims [] []
  | cons {m n : Mv} {l k : List Mv} : SimM m n → (n.kind = 1 ∨ n.kind = 2) → Sims l k → Sims (m :: l) (n :: k)
theorem run_sim {method : Int} : ∀ (ms ns : List Mv) (s t s' t' : St) (d e : List Co), Sims ms ns → SimS s t → runOk method s ms = some (s', d) → runOk method t ns = some (t', e) →
    SimS s' t' ∧ d.length = e.length ∧ ∀ (i : Nat) (a b : Co), d[i]? = some a → e[i]? = some b → SimC a b := by
  intro ms
  induction ms with
  | nil =>
    intro ns s t s' t' d e hm hs h1 h2
    cases hm
    simp [runOk] at h1 h2
    obtain ⟨rfl, rfl⟩ := h1
    obtain ⟨rfl, rfl⟩ := h2
    exact ⟨hs, rfl, fun i a b h => by simp at h⟩
  | cons m r ih =>
    intro ns s t s' t' d e hm hs h1 h2
    cases hm with
    | cons hmn hk hr =>
      rename_i n k
      unfold runOk at h1 h2
      split at h1
      · cases h1
      rename_i e1
      split at h2
      · cases h2
      rename_i e2
      have st := step_sim (method := method) hmn hk hs (by simpa using e1) (by simpa using e2)
      cases hr1 : runOk method (stepV method s m).1 r with
      | none => rw [hr1] at h1; cases h1
      | some y =>
        cases hr2 : runOk method (stepV method t n).1 k with
        | none => rw [hr2] at h2; cases h2
        | some z =>
          rw [hr1] at h1
          rw [hr2] at h2
          simp only [Option.map_some, Option.some.injEq, Prod.mk.injEq] at h1 h2
          obtain ⟨g1, g2, g3⟩ := ih k _ _ _ _ _ _ hr st.1 hr1 hr2
          rw [← h1.1, ← h1.2, ← h2.1, ← h2.2]
          refine ⟨g1, by simp [g2], fun i a b ha hb => ?_⟩
          cases i with
          | zero =>
            simp only [List.getElem?_cons_zero, Option.some.injEq] at ha hb
            rw [← ha, ← hb]
            exact st.2
          | succ i => exact g3 i a b (by simpa using ha) (by simpa using hb)
end Go.X
end
section
set_option linter.unusedVariables false
set_option linter.unusedSimpArgs false
namespace Go.X
open Go.Proofs Go.RowKit
def unseq (m : Mv) : Mv := ⟨0, m.value, m.item, m.kind, m.qty, m.cost, m.lot, m.ref⟩
/-- The movement with a number. -/
def reseq (n : Nat) (m : Mv) : Mv := ⟨(n : Int), m.value, m.item, m.kind, m.qty, m.cost, m.lot, m.ref⟩
theorem unseq_reseq (n : Nat) (m : Mv) : unseq (reseq n m) = unseq m := rfl
theorem simM_of {m n : Mv} (h : unseq m = unseq n) : SimM m n := by
  unfold unseq at h
  injection h with _ h1 h2 h3 h4 h5 h6 h7
  exact ⟨h1, h3, h4, h5, h6⟩
theorem sims_of : ∀ (l k : List Mv), l.map unseq = k.map unseq → (∀ m ∈ k, m.kind = 1 ∨ m.kind = 2) → Sims l k := by
  intro l
  induction l with
  | nil =>
    intro k h _
    cases k with
    | nil => exact .nil
    | cons a r => simp at h
  | cons a r ih =>
    intro k h hk
    cases k with
    | nil => simp at h
    | cons b t =>
      simp only [List.map_cons, List.cons.injEq] at h
      exact .cons (simM_of h.1) (hk b (List.mem_cons_self ..)) (ih t h.2 (fun m hm => hk m (List.mem_cons_of_mem _ hm)))
theorem ordI_srt (L : List Mv) : (ordI L).Pairwise (fun a b => a.value ≤ b.value) := by
  unfold ordI seqV
  rw [List.pairwise_map]
  refine (ordV_srt L).imp (fun h => ?_)
  rcases h with h | ⟨h, _⟩ <;> omega
/-- Movements of different days are ordered alike, however they are entered. -/
theorem ord_same {G H : List Mv} (hp : (G.map unseq).Perm (H.map unseq)) (hd : (G.map Mv.value).Nodup) : (ordI G).map unseq = (ordI H).map unseq := by
  have p1 : ((ordI G).map unseq).Perm ((ordI H).map unseq) := ((ordI_perm G).map unseq).trans (hp.trans ((ordI_perm H).map unseq).symm)
  have s1 : ((ordI G).map unseq).Pairwise (fun a b => a.value ≤ b.value) := by rw [List.pairwise_map]; exact ordI_srt G
  have s2 : ((ordI H).map unseq).Pairwise (fun a b => a.value ≤ b.value) := by rw [List.pairwise_map]; exact ordI_srt H
  have nd : (((ordI G).map unseq).map Mv.value).Nodup := by
    rw [List.map_map]
    have : (Mv.value ∘ unseq) = Mv.value := rfl
    rw [this]
    exact ((ordI_perm G).map Mv.value).symm.nodup hd
  refine List.Perm.eq_of_pairwise (le := fun a b => a.value ≤ b.value) (fun a b ha hb h1 h2 => ?_) s1 s2 p1
  have hb' := p1.mem_iff.2 hb
  have hv : a.value = b.value := Int.le_antisymm h1 h2
  obtain ⟨i, hi, rfl⟩ := List.getElem_of_mem ha
  obtain ⟨j, hj, rfl⟩ := List.getElem_of_mem hb'
  have : i = j := by
    have h := (List.getElem_inj (i := i) (j := j) (h₀ := by simpa using hi) (h₁ := by simpa using hj) nd).1
    exact h (by simpa using hv)
  subst this; rfl
/-- The lists of two engines that accepted the same receipts and issues, of different days. -/
theorem order_plain {method : Int} {s0 : St} {G H : List Mv} (hG : GoodL method s0 G) (hH : GoodL method s0 H) (hp : (G.map unseq).Perm (H.map unseq)) (hd : (G.map Mv.value).Nodup) (hk : ∀ m ∈ H, m.kind = 1 ∨ m.kind = 2) :
    SimS (lastV method s0 G) (lastV method s0 H) ∧ ∀ q, q < (ordI G).length → SimC (coAt method s0 (ordI G) q) (coAt method s0 (ordI H) q) := by
  obtain ⟨d, hr, hl⟩ := errV_run hG.err
  obtain ⟨e, hr2, hl2⟩ := errV_run hH.err
  have hs := ord_same hp hd
  obtain ⟨r1, r2, r3⟩ := run_sim _ _ _ _ _ _ _ _ (sims_of _ _ hs (fun m hm => hk m ((ordI_perm H).mem_iff.1 hm))) (SimS.refl s0) hr hr2
  have hlen : (ordI G).length = (ordI H).length := by have := congrArg List.length hs; simpa using this
  exact ⟨r1, fun q hq => r3 q _ _ (run_get hr hq) (run_get hr2 (by omega))⟩
/-! ### Entering movements one after the other -/
def fillL (method : Int) (s0 : St) (L : List Mv) (l : List Mv) : List Mv := l.foldl (fun L m => addL method s0 L (reseq (L.length + 1) m)) L
theorem reseq_ok {m : Mv} {n : Nat} (h : m.Ok) (hn : n ≤ 1000000) : (reseq n m).Ok := ⟨by unfold I64 reseq; simp only; omega, h.value, h.kind, h.qty, h.cost, h.ref⟩
theorem addL_len {method : Int} {s0 : St} {L : List Mv} {m : Mv} : (addL method s0 L m).length ≤ L.length + 1 := by
  unfold addL; split <;> simp
theorem fillL_len {method : Int} {s0 : St} : ∀ (l L : List Mv), (fillL method s0 L l).length ≤ L.length + l.length := by
  intro l
  induction l with
  | nil => intro L; exact Nat.le_refl _
  | cons m r ih =>
    intro L
    have h := ih (addL method s0 L (reseq (L.length + 1) m))
    have h2 : (addL method s0 L (reseq (L.length + 1) m)).length ≤ L.length + 1 := addL_len
    show (fillL method s0 (addL method s0 L (reseq (L.length + 1) m)) r).length ≤ _
    rw [List.length_cons]
    omega
theorem fillL_good {method : Int} {s0 : St} : ∀ (l L : List Mv), GoodL method s0 L → (∀ m ∈ l, m.Ok) → L.length + l.length ≤ 100000 → GoodL method s0 (fillL method s0 L l) := by
  intro l
  induction l with
  | nil => intro L h _ _; exact h
  | cons m r ih =>
    intro L h hm hn
    rw [List.length_cons] at hn
    have h2 : (addL method s0 L (reseq (L.length + 1) m)).length ≤ L.length + 1 := addL_len
    exact ih (addL method s0 L (reseq (L.length + 1) m)) (h.addL (reseq_ok (hm m (List.mem_cons_self ..)) (by omega))) (fun k hk => hm k (List.mem_cons_of_mem _ hk)) (by omega)
/-- If all were accepted, they are all there. -/
theorem fillL_all {method : Int} {s0 : St} : ∀ (l L : List Mv), (fillL method s0 L l).length = L.length + l.length → (fillL method s0 L l).map unseq = L.map unseq ++ l.map unseq := by
  intro l
  induction l with
  | nil => intro L _; simp [fillL]
  | cons m r ih =>
    intro L h
    have hle := fillL_len (method := method) (s0 := s0) r (addL method s0 L (reseq (L.length + 1) m))
    have h2 : (addL method s0 L (reseq (L.length + 1) m)).length ≤ L.length + 1 := addL_len
    change (fillL method s0 (addL method s0 L (reseq (L.length + 1) m)) r).length = _ at h
    rw [List.length_cons] at h
    have e : addL method s0 L (reseq (L.length + 1) m) = L ++ [reseq (L.length + 1) m] := by
      unfold addL at h2 hle h ⊢
      split
      · rfl
      · rename_i hne
        rw [if_neg hne] at h hle
        omega
    have := ih (addL method s0 L (reseq (L.length + 1) m)) (by rw [e] at h ⊢; simp at h ⊢; omega)
    show (fillL method s0 (addL method s0 L (reseq (L.length + 1) m)) r).map unseq = _
    rw [this, e, List.map_append, List.map_cons, List.map_nil, unseq_reseq, List.map_cons, List.append_assoc]
    rfl
end Go.X
end
section
set_option linter.unusedVariables false
set_option linter.unusedSimpArgs false
namespace Go.X
open Go.Proofs Go.RowKit
def lotL : ByteArray := ⟨#[108]⟩
structure Trd (m : Mv) : Prop where
  one : oneV m = 0
  kind : m.kind = 1 ∨ m.kind = 2
  qty : 1 ≤ m.qty ∧ m.qty ≤ 1000
  cost : 0 ≤ m.cost ∧ m.cost ≤ 1000000
  lot : m.lot = lotL
def LotOne (s : St) : Prop := (s.layers = [] ∧ s.qty = 0 ∧ s.value = 0) ∨ ∃ a : Ly, s.layers = [a] ∧ a.lot = lotL ∧ a.qty = s.qty ∧ a.value = s.value ∧ 0 < s.qty
structure Sml (method : Int) (n : Nat) (s : St) : Prop where
  q : 0 ≤ s.qty ∧ s.qty ≤ 1000 * (n : Int)
  v : method ≠ 3 → 0 ≤ s.value ∧ s.value ≤ 1000000 * (n : Int)
  p : method = 3 → s.value = s.qty * s.price ∧ 0 ≤ s.price ∧ s.price ≤ 1023
  l : method = 1 → Lay s.layers s.qty s.value
  k : method = 4 → LotOne s
theorem far_no {x : Int} (h1 : -1000000000000000 ≤ x) (h2 : x ≤ 1000000000000000) : farV x = false := by
  unfold farV; exact decide_eq_false (by omega)
theorem far_any {l : List Ly} (h : ∀ a ∈ l, 0 ≤ a.value ∧ a.value ≤ 1000000000000000) : l.any (fun a => farV a.value) = false := by
  rw [List.any_eq_false]
  intro a ha
  rw [far_no (by have := h a ha; omega) (h a ha).2]
  simp
theorem fifo_good {n : Nat} {s : St} {m : Mv} (hs : Sml 1 n s) (hn : n ≤ 1000) (hm : Trd m) (hf : findP 0 m.seq s.past = none) (hq : m.kind = 2 → m.qty ≤ s.qty) : (fifoV s m).2.2 = 0 ∧ Sml 1 (n + 1) (fifoV s m).1 := by
  have q1 := hs.q
  have v1 := hs.v (by decide)
  have l1 := hs.l rfl
  have mq := hm.qty
  have mc := hm.cost
  have hlay : ∀ (l : List Ly) (q v : Int), Lay l q v → v ≤ 1000000000000000 → ∀ a ∈ l, 0 ≤ a.value ∧ a.value ≤ 1000000000000000 := by
    intro l q v h hv a ha
    obtain ⟨i, hi, rfl⟩ := List.getElem_of_mem ha
    have := h.get hi
    omega
  unfold fifoV
  rw [if_neg (by rw [hm.one]; simp), hf]
  simp only [Option.isSome_none, Bool.false_eq_true, if_false]
  rcases hm.kind with hk | hk
  · have hd : fifoDo ⟨s, m, ⟨m.seq, 0, 0, 0⟩⟩ = (receiveV ⟨s, m, ⟨m.seq, 0, 0, 0⟩⟩, 0) := by unfold fifoDo; rw [if_pos hk]
    rw [hd]
    simp only [ne_eq, not_true_eq_false, if_false]
    have e1 : IntKind.i64.wrap (s.qty + m.qty) = s.qty + m.qty := wr (by omega) (by omega)
    have e2 : IntKind.i64.wrap (s.value + m.cost) = s.value + m.cost := wr (by omega) (by omega)
    have hL := l1.add (a := ⟨m.seq, m.lot, m.qty, m.cost⟩) (by simp only; omega) (by simp only; omega)
    have hT : (receiveV ⟨s, m, ⟨m.seq, 0, 0, 0⟩⟩).sum = ⟨⟨s.qty + m.qty, s.value + m.cost, s.price, s.layers ++ [⟨m.seq, m.lot, m.qty, m.cost⟩], s.past ++ [mkPa m m.cost]⟩, m, ⟨m.seq, m.qty, m.cost, 0⟩⟩ := by
      rw [← e1, ← e2]; rfl
    rw [hT]
    have ho : overV ⟨⟨s.qty + m.qty, s.value + m.cost, s.price, s.layers ++ [⟨m.seq, m.lot, m.qty, m.cost⟩], s.past ++ [mkPa m m.cost]⟩, m, ⟨m.seq, m.qty, m.cost, 0⟩⟩ = false := by
      unfold overV
      simp only
      rw [far_any (hlay _ _ _ hL (by simp only; omega)), far_no (x := s.value + m.cost) (by omega) (by omega), far_no (x := 0) (by decide) (by decide), decide_eq_false (by omega)]
      rfl
    rw [ho]
    simp only [Bool.false_eq_true, if_false]
    refine ⟨trivial, ⟨?_, fun _ => ?_, fun h => absurd h (by decide), fun _ => ?_, fun h => absurd h (by decide)⟩⟩
    · simp only; omega
    · simp only; omega
    · exact hL
  · have hk1 : ¬ m.kind = 1 := by omega
    have hq' := hq hk
    have hd : fifoDo ⟨s, m, ⟨m.seq, 0, 0, 0⟩⟩ = (issueV ⟨s, m, ⟨m.seq, 0, 0, 0⟩⟩, 0) := by unfold fifoDo; rw [if_neg hk1, if_pos hk, if_neg (by simp only; omega)]
    rw [hd]
    simp only [ne_eq, not_true_eq_false, if_false]
    obtain ⟨y, hy0, hyv, hy, hL⟩ := issueL_lay s.layers m.qty 0 s.qty s.value l1 (by omega) (by omega) (by omega) (by omega) hq'
    rw [Int.zero_add] at hy
    have e1 : IntKind.i64.wrap (0 - m.qty) = -m.qty := by rw [wr (by omega) (by omega)]; omega
    have e2 : IntKind.i64.wrap (0 - y) = -y := by rw [wr (by omega) (by omega)]; omega
    have e3 : IntKind.i64.wrap (s.qty + -m.qty) = s.qty - m.qty := by rw [wr (by omega) (by omega)]; omega
    have e4 : IntKind.i64.wrap (s.value + -y) = s.value - y := by rw [wr (by omega) (by omega)]; omega
    have hT : (issueV ⟨s, m, ⟨m.seq, 0, 0, 0⟩⟩).sum = ⟨⟨s.qty - m.qty, s.value - y, s.price, (issueL s.layers m.qty 0).1, s.past ++ [mkPa m y]⟩, m, ⟨m.seq, -m.qty, -y, 0⟩⟩ := by
      rw [← e3, ← e4, ← e1, ← e2, ← hy]; rfl
    rw [hT]
    have ho : overV ⟨⟨s.qty - m.qty, s.value - y, s.price, (issueL s.layers m.qty 0).1, s.past ++ [mkPa m y]⟩, m, ⟨m.seq, -m.qty, -y, 0⟩⟩ = false := by
      unfold overV
      simp only
      rw [far_any (hlay _ _ _ hL (by omega)), far_no (x := s.value - y) (by omega) (by omega), far_no (x := 0) (by decide) (by decide), decide_eq_false (by omega)]
      rfl
    rw [ho]
    simp only [Bool.false_eq_true, if_false]
    refine ⟨trivial, ⟨?_, fun _ => ?_, fun h => absurd h (by decide), fun _ => ?_, fun h => absurd h (by decide)⟩⟩
    · simp only; omega
    · simp only; omega
    · exact hL
theorem avg_good {n : Nat} {s : St} {m : Mv} (hs : Sml 2 n s) (hn : n ≤ 1000) (hm : Trd m) (hf : findP 0 m.seq s.past = none) (hq : m.kind = 2 → m.qty ≤ s.qty) : (avgV s m).2.2 = 0 ∧ Sml 2 (n + 1) (avgV s m).1 := by
  have q1 := hs.q
  have v1 := hs.v (by decide)
  have mq := hm.qty
  have mc := hm.cost
  unfold avgV
  rw [if_neg (by rw [hm.one]; simp), hf]
  simp only [Option.isSome_none, Bool.false_eq_true, if_false]
  have fin : ∀ (q v : Int) (P : List Pa) (c : Co), 0 ≤ s.qty + q → s.qty + q ≤ 1000 * ((n + 1 : Nat) : Int) → 0 ≤ s.value + v → s.value + v ≤ 1000000 * ((n + 1 : Nat) : Int) → c.qty = q → c.value = v → c.var = 0 → avgDo s m = (s.setP P, c, 0) →
      (let r := avgDo s m; if r.2.2 ≠ 0 then (St.zero, Co.zero, r.2.2) else if (decide (1000000000 < (r.1.add r.2.1).qty) || farV (r.1.add r.2.1).value || farV r.2.1.var) = true then (St.zero, Co.zero, 4) else (r.1.add r.2.1, r.2.1, 0)).2.2 = 0 ∧
      Sml 2 (n + 1) (let r := avgDo s m; if r.2.2 ≠ 0 then (St.zero, Co.zero, r.2.2) else if (decide (1000000000 < (r.1.add r.2.1).qty) || farV (r.1.add r.2.1).value || farV r.2.1.var) = true then (St.zero, Co.zero, 4) else (r.1.add r.2.1, r.2.1, 0)).1 := by
    intro q v P c h1 h2 h3 h4 hc1 hc2 hc3 hd
    rw [hd]
    simp only [ne_eq, not_true_eq_false, if_false]
    have e1 : ((s.setP P).add c).qty = s.qty + q := by unfold St.add St.setP; simp only; rw [hc1]; exact wr (by omega) (by omega)
    have e2 : ((s.setP P).add c).value = s.value + v := by unfold St.add St.setP; simp only; rw [hc2]; exact wr (by omega) (by omega)
    have ho : (decide (1000000000 < ((s.setP P).add c).qty) || farV ((s.setP P).add c).value || farV c.var) = false := by
      rw [e1, e2, hc3, far_no (x := s.value + v) (by omega) (by omega), far_no (x := 0) (by decide) (by decide), decide_eq_false (by omega)]
      rfl
    rw [ho]
    simp only [Bool.false_eq_true, if_false]
    exact ⟨trivial, ⟨by rw [e1]; exact ⟨h1, h2⟩, fun _ => by rw [e2]; exact ⟨h3, h4⟩, fun h => absurd h (by decide), fun h => absurd h (by decide), fun h => absurd h (by decide)⟩⟩
  rcases hm.kind with hk | hk
  · exact fin m.qty m.cost _ ⟨m.seq, m.qty, m.cost, 0⟩ (by omega) (by omega) (by omega) (by omega) rfl rfl rfl (by unfold avgDo; rw [if_pos hk]; rfl)
  · have hk1 : ¬ m.kind = 1 := by omega
    have hq' := hq hk
    have hp := part_share (a := s.value) (b := m.qty) (c := s.qty) v1.1 (by omega) (by omega) hq'
    have e1 : IntKind.i64.wrap (0 - m.qty) = -m.qty := by rw [wr (by omega) (by omega)]; omega
    have e2 : IntKind.i64.wrap (0 - partV s.value m.qty s.qty) = -partV s.value m.qty s.qty := by rw [wr (by omega) (by omega)]; omega
    exact fin (-m.qty) (-partV s.value m.qty s.qty) (s.past ++ [mkPa m (partV s.value m.qty s.qty)]) ⟨m.seq, IntKind.i64.wrap (0 - m.qty), IntKind.i64.wrap (0 - partV s.value m.qty s.qty), 0⟩ (by omega) (by omega) (by omega) (by omega) e1 e2 rfl
      (by unfold avgDo; rw [if_neg hk1, if_pos hk]; unfold avgIssue; rw [if_neg (by omega)])
theorem find_split {past : List Pa} {n : Int} (h : findP 0 n past = none) : findP 1 n past = none ∧ findP 2 n past = none := by
  unfold findP idxF at h ⊢
  rw [List.findIdx?_eq_none_iff] at h
  constructor
  · rw [List.findIdx?_eq_none_iff]
    intro x hx
    have := h x hx
    unfold okP at this ⊢
    by_cases e : x.seq = n
    · simp [e] at this
    · simp [e]
  · rw [List.findIdx?_eq_none_iff]
    intro x hx
    have := h x hx
    unfold okP at this ⊢
    by_cases e : x.seq = n
    · simp [e] at this
    · simp [e]
theorem fit_in {x : Int} (h1 : -9223372036854775808 ≤ x) (h2 : x ≤ 9223372036854775807) : fitV x = (x, true) := by
  unfold fitV; rw [if_pos (by unfold I64; omega)]
theorem mul_small {a p : Int} {k : Int} (ha : 0 ≤ a) (hak : a ≤ k) (hp : 0 ≤ p) (hp2 : p ≤ 1023) : 0 ≤ a * p ∧ a * p ≤ k * 1023 :=
  ⟨Int.mul_nonneg ha hp, Int.mul_le_mul hak hp2 hp (by omega)⟩
theorem std_good {n : Nat} {s : St} {m : Mv} (hs : Sml 3 n s) (hn : n ≤ 1000) (hm : Trd m) (hf : findP 0 m.seq s.past = none) (hq : m.kind = 2 → m.qty ≤ s.qty) : (stdV s m).2.2 = 0 ∧ Sml 3 (n + 1) (stdV s m).1 := by
  have q1 := hs.q
  obtain ⟨p1, p2, p3⟩ := hs.p rfl
  have mq := hm.qty
  have mc := hm.cost
  obtain ⟨f1, f2⟩ := find_split hf
  have b1 := mul_small (a := m.qty) (k := 1000) (by omega) (by omega) p2 p3
  have b2 := mul_small (a := s.qty) (k := 1000 * (n : Int)) q1.1 q1.2 p2 p3
  unfold stdV
  rw [if_neg (by rw [hm.one]; simp), f1, f2]
  simp only [Option.isSome_none, Bool.false_eq_true, or_self, if_false]
  have fin : ∀ (q v r : Int) (P : List Pa) (c : Co), 0 ≤ s.qty + q → s.qty + q ≤ 1000 * ((n + 1 : Nat) : Int) → v = q * s.price → -1000000000000000 ≤ r → r ≤ 1000000000000000 → c.qty = q → c.value = v → c.var = r → stdDo s m = (s.setP P, c, 0) →
      (let r := stdDo s m; if r.2.2 ≠ 0 then (St.zero, Co.zero, r.2.2) else let v := fitV (s.value + r.2.1.value); let q := IntKind.i64.wrap (s.qty + r.2.1.qty); if v.2 = false ∨ 1000000000 < q ∨ farV v.1 = true ∨ farV r.2.1.var = true then (St.zero, Co.zero, 4) else ((⟨q, v.1, r.1.price, r.1.layers, r.1.past⟩ : St), (⟨m.seq, r.2.1.qty, r.2.1.value, r.2.1.var⟩ : Co), (0 : Int))).2.2 = 0 ∧
      Sml 3 (n + 1) (let r := stdDo s m; if r.2.2 ≠ 0 then (St.zero, Co.zero, r.2.2) else let v := fitV (s.value + r.2.1.value); let q := IntKind.i64.wrap (s.qty + r.2.1.qty); if v.2 = false ∨ 1000000000 < q ∨ farV v.1 = true ∨ farV r.2.1.var = true then (St.zero, Co.zero, 4) else ((⟨q, v.1, r.1.price, r.1.layers, r.1.past⟩ : St), (⟨m.seq, r.2.1.qty, r.2.1.value, r.2.1.var⟩ : Co), (0 : Int))).1 := by
    intro q v r P c h1 h2 hv hr1 hr2 hc1 hc2 hc3 hd
    rw [hd]
    simp only [ne_eq, not_true_eq_false, if_false]
    have ev : s.value + v = (s.qty + q) * s.price := by rw [hv, p1, Int.add_mul]
    have b3 := mul_small (a := s.qty + q) (k := 1000 * ((n + 1 : Nat) : Int)) h1 h2 p2 p3
    rw [← ev] at b3
    have e1 : IntKind.i64.wrap (s.qty + q) = s.qty + q := wr (by omega) (by omega)
    rw [hc1, hc2, hc3, e1, fit_in (x := s.value + v) (by omega) (by omega), far_no (x := s.value + v) (by omega) (by omega), far_no hr1 hr2]
    rw [if_neg (by simp; omega)]
    exact ⟨rfl, ⟨⟨h1, h2⟩, fun h => absurd rfl h, fun _ => ⟨ev, p2, p3⟩, fun h => absurd h (by decide), fun h => absurd h (by decide)⟩⟩
  rcases hm.kind with hk | hk
  · have e3 : IntKind.i64.wrap (m.cost - m.qty * s.price) = m.cost - m.qty * s.price := wr (by omega) (by omega)
    exact fin m.qty (m.qty * s.price) (m.cost - m.qty * s.price) (s.past ++ [mkPa m m.cost]) ⟨0, m.qty, m.qty * s.price, IntKind.i64.wrap (m.cost - m.qty * s.price)⟩ (by omega) (by omega) rfl (by omega) (by omega) rfl rfl e3
      (by unfold stdDo; rw [if_pos hk]; unfold stdReceipt; rw [fit_in (by omega) (by omega)]; rfl)
  · have hk1 : ¬ m.kind = 1 := by omega
    have hq' := hq hk
    have e1 : IntKind.i64.wrap (0 - m.qty) = -m.qty := by rw [wr (by omega) (by omega)]; omega
    have e2 : IntKind.i64.wrap (0 - m.qty * s.price) = -m.qty * s.price := by rw [wr (by omega) (by omega), Int.neg_mul]; omega
    exact fin (-m.qty) (-m.qty * s.price) 0 (s.past ++ [mkPa m (m.qty * s.price)]) ⟨0, IntKind.i64.wrap (0 - m.qty), IntKind.i64.wrap (0 - m.qty * s.price), 0⟩ (by omega) (by omega) rfl (by decide) (by decide) e1 e2 rfl
      (by unfold stdDo; rw [if_neg hk1, if_pos hk]; unfold stdIssue; rw [if_neg (by omega), fit_in (by omega) (by omega)]; rfl)
theorem lots_good {n : Nat} {s : St} {m : Mv} (hs : Sml 4 n s) (hn : n ≤ 1000) (hm : Trd m) (hf : findP 0 m.seq s.past = none) (hq : m.kind = 2 → m.qty ≤ s.qty) : (lotsV s m).2.2 = 0 ∧ Sml 4 (n + 1) (lotsV s m).1 := by
  have q1 := hs.q
  have v1 := hs.v (by decide)
  have k1 := hs.k rfl
  have mq := hm.qty
  have mc := hm.cost
  have ml := hm.lot
  have hne : ¬ m.lot = ⟨#[]⟩ := by rw [ml]; unfold lotL; intro h; injection h with h; exact absurd h (by simp)
  unfold lotsV
  rw [if_neg (by rw [hm.one]; simp), hf]
  simp only [Option.isSome_none, Bool.false_eq_true, if_false]
  have fin : ∀ (q v : Int) (l : List Ly) (P : List Pa) (c : Co), 0 ≤ s.qty + q → s.qty + q ≤ 1000 * ((n + 1 : Nat) : Int) → 0 ≤ s.value + v → s.value + v ≤ 1000000 * ((n + 1 : Nat) : Int) → c.qty = q → c.value = v → c.var = 0 →
      ((l = [] ∧ s.qty + q = 0 ∧ s.value + v = 0) ∨ ∃ a : Ly, l = [a] ∧ a.lot = lotL ∧ a.qty = s.qty + q ∧ a.value = s.value + v ∧ 0 < s.qty + q) → lotDo s m = ((s.setL l).setP P, c, 0) →
      (let r := lotDo s m; if r.2.2 ≠ 0 then (St.zero, Co.zero, r.2.2) else let c : Co := ⟨m.seq, r.2.1.qty, r.2.1.value, r.2.1.var⟩; if lotOver (r.1.add c) c = true then (St.zero, Co.zero, 4) else (r.1.add c, c, 0)).2.2 = 0 ∧
      Sml 4 (n + 1) (let r := lotDo s m; if r.2.2 ≠ 0 then (St.zero, Co.zero, r.2.2) else let c : Co := ⟨m.seq, r.2.1.qty, r.2.1.value, r.2.1.var⟩; if lotOver (r.1.add c) c = true then (St.zero, Co.zero, 4) else (r.1.add c, c, 0)).1 := by
    intro q v l P c h1 h2 h3 h4 hc1 hc2 hc3 hl hd
    rw [hd]
    simp only [ne_eq, not_true_eq_false, if_false]
    rw [hc1, hc2, hc3]
    have e1 : (((s.setL l).setP P).add ⟨m.seq, q, v, 0⟩).qty = s.qty + q := by show IntKind.i64.wrap (s.qty + q) = s.qty + q; exact wr (by omega) (by omega)
    have e2 : (((s.setL l).setP P).add ⟨m.seq, q, v, 0⟩).value = s.value + v := by show IntKind.i64.wrap (s.value + v) = s.value + v; exact wr (by omega) (by omega)
    have e3 : (((s.setL l).setP P).add ⟨m.seq, q, v, 0⟩).layers = l := rfl
    have ho : lotOver (((s.setL l).setP P).add ⟨m.seq, q, v, 0⟩) ⟨m.seq, q, v, 0⟩ = false := by
      unfold lotOver
      rw [e1, e2, e3, far_any (l := l) (by
        intro a ha
        rcases hl with ⟨rfl, _⟩ | ⟨b, rfl, _, _, hb, _⟩
        · simp at ha
        · rw [List.mem_singleton.1 ha, hb]; omega), far_no (x := s.value + v) (by omega) (by omega), far_no (x := 0) (by decide) (by decide), decide_eq_false (by omega)]
      rfl
    rw [ho]
    simp only [Bool.false_eq_true, if_false]
    refine ⟨trivial, ⟨by rw [e1]; exact ⟨h1, h2⟩, fun _ => by rw [e2]; exact ⟨h3, h4⟩, fun h => absurd h (by decide), fun h => absurd h (by decide), fun _ => ?_⟩⟩
    unfold LotOne
    rw [e1, e2, e3]
    exact hl
  rcases hm.kind with hk | hk
  · refine fin m.qty m.cost (lotAdd m.lot m.qty m.cost s.layers) (s.past ++ [mkPa m m.cost]) ⟨0, m.qty, m.cost, 0⟩ (by omega) (by omega) (by omega) (by omega) rfl rfl rfl ?_ (by unfold lotDo; rw [if_pos hk]; unfold lotReceive; rw [if_neg hne])
    right
    rcases k1 with ⟨h1, h2, h3⟩ | ⟨a, h1, h2, h3, h4, h5⟩
    · refine ⟨⟨0, m.lot, m.qty, m.cost⟩, ?_, ml, by simp only; omega, by simp only; omega, by omega⟩
      rw [h1]
      unfold lotAdd lotAt
      simp [Ly.plus]
      exact ⟨wr (by omega) (by omega), wr (by omega) (by omega)⟩
    · refine ⟨⟨a.seq, a.lot, s.qty + m.qty, s.value + m.cost⟩, ?_, h2, rfl, rfl, by omega⟩
      rw [h1]
      unfold lotAdd lotAt
      rw [if_pos (by rw [h2, ml])]
      simp [Ly.plus]
      rw [h3, h4]
      exact ⟨wr (by omega) (by omega), wr (by omega) (by omega)⟩
  · have hk1 : ¬ m.kind = 1 := by omega
    have hq' := hq hk
    rcases k1 with ⟨h1, h2, h3⟩ | ⟨a, h1, h2, h3, h4, h5⟩
    · omega
    have hat : lotAt m.lot s.layers = (0, true) := by rw [h1]; unfold lotAt; rw [if_pos (by rw [h2, ml])]
    have hlq : lotQty m.lot s.layers = s.qty := by unfold lotQty; rw [hat, h1]; simp [h3]
    have hp := part_share (a := s.value) (b := m.qty) (c := s.qty) v1.1 (by omega) (by omega) hq'
    have e1 : IntKind.i64.wrap (0 - m.qty) = -m.qty := by rw [wr (by omega) (by omega)]; omega
    have e2 : IntKind.i64.wrap (0 - partV s.value m.qty s.qty) = -partV s.value m.qty s.qty := by rw [wr (by omega) (by omega)]; omega
    have e3 : IntKind.i64.wrap (s.qty - m.qty) = s.qty - m.qty := wr (by omega) (by omega)
    have e4 : IntKind.i64.wrap (s.value - partV s.value m.qty s.qty) = s.value - partV s.value m.qty s.qty := wr (by omega) (by omega)
    have ht : takeV s.layers 0 m.qty = (if s.qty - m.qty = 0 then [] else [⟨a.seq, a.lot, s.qty - m.qty, s.value - partV s.value m.qty s.qty⟩], partV s.value m.qty s.qty) := by
      rw [h1]
      unfold takeV
      simp only [List.getElem?_cons_zero, h3, h4, e3, e4, List.eraseIdx_cons_zero, List.set_cons_zero]
    refine fin (-m.qty) (-partV s.value m.qty s.qty) (if s.qty - m.qty = 0 then [] else [⟨a.seq, a.lot, s.qty - m.qty, s.value - partV s.value m.qty s.qty⟩]) (s.past ++ [mkPa m (partV s.value m.qty s.qty)]) ⟨0, IntKind.i64.wrap (0 - m.qty), IntKind.i64.wrap (0 - partV s.value m.qty s.qty), 0⟩ (by omega) (by omega) (by omega) (by omega) e1 e2 rfl ?_
      (by unfold lotDo; rw [if_neg hk1, if_pos hk]; unfold lotIssue; rw [hat, hlq, if_neg (by simp [hne]), if_neg (by omega)]; simp only [ht])
    by_cases hz : s.qty - m.qty = 0
    · left
      refine ⟨by rw [if_pos hz], by omega, ?_⟩
      have : m.qty = s.qty := by omega
      rw [this, part_all]; omega
    · right
      exact ⟨⟨a.seq, a.lot, s.qty - m.qty, s.value - partV s.value m.qty s.qty⟩, by rw [if_neg hz], h2, by simp only; omega, by simp only; omega, by omega⟩
theorem step_good {method : Int} (hmt : 1 ≤ method ∧ method ≤ 4) {n : Nat} {s : St} {m : Mv} (hs : Sml method n s) (hn : n ≤ 1000) (hm : Trd m) (hf : findP 0 m.seq s.past = none) (hq : m.kind = 2 → m.qty ≤ s.qty) : (stepV method s m).2.2 = 0 ∧ Sml method (n + 1) (stepV method s m).1 := by
  unfold stepV
  by_cases h1 : method = 1
  · subst h1; rw [if_pos rfl]; exact fifo_good hs hn hm hf hq
  rw [if_neg h1]
  by_cases h2 : method = 2
  · subst h2; rw [if_pos rfl]; exact avg_good hs hn hm hf hq
  rw [if_neg h2]
  by_cases h3 : method = 3
  · subst h3; rw [if_pos rfl]; exact std_good hs hn hm hf hq
  rw [if_neg h3]
  have h4 : method = 4 := by omega
  subst h4; rw [if_pos rfl]; exact lots_good hs hn hm hf hq
end Go.X
end
section
set_option linter.unusedVariables false
set_option linter.unusedSimpArgs false
namespace Go.X
open Go.Proofs Go.RowKit
/-! ### Levels -/
def levOk : Int → List Mv → Prop
  | _, [] => True
  | q, m :: r => 0 ≤ q + chg m ∧ levOk (q + chg m) r
theorem run_lev {method : Int} : ∀ (ms : List Mv) (s t : St) (d : List Co), Inv method s → runOk method s ms = some (t, d) → levOk s.qty ms := by
  intro ms
  induction ms with
  | nil => intro s t d _ _; trivial
  | cons m r ih =>
    intro s t d hi h
    unfold runOk at h
    split at h
    · cases h
    rename_i he
    have e := step_eff hi (by simpa using he)
    cases hr : runOk method (stepV method s m).1 r with
    | none => rw [hr] at h; cases h
    | some y =>
      have h2 := ih _ _ _ e.inv hr
      have hs := e.sum
      rw [e.qty] at hs
      rw [hs] at h2
      have := e.inv.qty.1
      rw [hs] at this
      exact ⟨this, h2⟩
theorem find_no {past : List Pa} {n : Int} (h : n ∉ past.map Pa.seq) : findP 0 n past = none := by
  unfold findP
  refine idxF_none (fun j hj => ?_)
  unfold okP
  have : ¬ past[j].seq = n := fun e => h (by rw [← e]; exact List.mem_map_of_mem (List.getElem_mem hj))
  simp [this]
theorem run_good {method : Int} (hmt : 1 ≤ method ∧ method ≤ 4) : ∀ (ms : List Mv) (n : Nat) (s : St), Sml method n s → n + ms.length ≤ 1000 → (∀ m ∈ ms, Trd m) → levOk s.qty ms → (s.past.map Pa.seq ++ ms.map Mv.seq).Nodup → ∃ x, runOk method s ms = some x := by
  intro ms
  induction ms with
  | nil => intro n s _ _ _ _ _; exact ⟨_, rfl⟩
  | cons m r ih =>
    intro n s hs hn hm hl hnd
    rw [List.length_cons] at hn
    have hmm := hm m (List.mem_cons_self ..)
    obtain ⟨l1, l2⟩ := hl
    have hnot : m.seq ∉ s.past.map Pa.seq := by
      intro hin
      have := (List.nodup_append.1 hnd).2.2 _ hin m.seq (by simp)
      exact this rfl
    have hq : m.kind = 2 → m.qty ≤ s.qty := by
      intro hk
      unfold chg at l1
      rw [if_neg (by omega), if_pos (.inl hk)] at l1
      omega
    obtain ⟨he, hs2⟩ := step_good hmt hs (by omega) hmm (find_no hnot) hq
    have hc := step_core hmm.kind he
    have hqq : (stepV method s m).1.qty = s.qty + chg m := by
      rw [hc.tq]
      have q1 := hs.q
      have mq := hmm.qty
      unfold coreQ chg
      rcases hmm.kind with hk | hk
      · rw [if_pos hk, if_pos (.inl hk)]; exact wr (by omega) (by omega)
      · rw [if_neg (by omega), if_neg (by omega), if_pos (.inl hk)]
        have e1 : IntKind.i64.wrap (0 - m.qty) = -m.qty := by rw [wr (by omega) (by omega)]; omega
        rw [e1]; exact wr (by omega) (by omega)
    obtain ⟨v, hp⟩ := hc.tk
    have hnd2 : ((stepV method s m).1.past.map Pa.seq ++ r.map Mv.seq).Nodup := by
      rw [hp, List.map_append, List.append_assoc]
      exact hnd
    obtain ⟨x, hx⟩ := ih (n + 1) _ hs2 (by omega) (fun k hk => hm k (List.mem_cons_of_mem _ hk)) (by rw [hqq]; exact l2) hnd2
    refine ⟨(x.1, (stepV method s m).2.1 :: x.2), ?_⟩
    rw [runOk_cons, if_neg (by rw [he]; simp), hx]
    rfl
/-- The quantity in stock at the end of a day. -/
def lv (L : List Mv) (d : Int) : Int := tsum (fun m => if m.value ≤ d then chg m else 0) L
theorem lv_perm {L K : List Mv} (h : L.Perm K) (d : Int) : lv L d = lv K d := tsum_perm h
theorem lv_unseq (L : List Mv) (d : Int) : lv (L.map unseq) d = lv L d := by
  unfold lv; rw [tsum_map]; rfl
theorem lv_append (L K : List Mv) (d : Int) : lv (L ++ K) d = lv L d + lv K d := tsum_append _ _
theorem tsum_zero {α : Type} {f : α → Int} {l : List α} (h : ∀ a ∈ l, f a = 0) : tsum f l = 0 := by
  induction l with
  | nil => rfl
  | cons a r ih => simp only [tsum]; rw [h a (List.mem_cons_self ..), ih (fun b hb => h b (List.mem_cons_of_mem _ hb))]; rfl
theorem lev_lv : ∀ (ms : List Mv) (q : Int), ms.Pairwise (fun a b => a.value ≤ b.value) → levOk q ms → 0 ≤ q → ∀ d, 0 ≤ q + lv ms d := by
  intro ms
  induction ms with
  | nil => intro q _ _ h d; unfold lv tsum; omega
  | cons m r ih =>
    intro q hp hl hq d
    obtain ⟨p1, p2⟩ := List.pairwise_cons.1 hp
    have h := ih _ p2 hl.2 hl.1 d
    unfold lv at h ⊢
    simp only [tsum]
    by_cases hd : m.value ≤ d
    · rw [if_pos hd]; omega
    · rw [if_neg hd, tsum_zero (fun a ha => by have := p1 a ha; rw [if_neg (by omega)])]
      omega
theorem lv_lev : ∀ (ms : List Mv) (q : Int), ms.Pairwise (fun a b => a.value < b.value) → (∀ d, 0 ≤ q + lv ms d) → levOk q ms := by
  intro ms
  induction ms with
  | nil => intro q _ _; trivial
  | cons m r ih =>
    intro q hp h
    obtain ⟨p1, p2⟩ := List.pairwise_cons.1 hp
    have h0 := h m.value
    unfold lv at h0
    simp only [tsum] at h0
    rw [if_pos (Int.le_refl _), tsum_zero (fun a ha => by have := p1 a ha; rw [if_neg (by omega)])] at h0
    refine ⟨by omega, ih _ p2 (fun d => ?_)⟩
    by_cases hd : m.value ≤ d
    · have := h d
      unfold lv at this ⊢
      simp only [tsum] at this
      rw [if_pos hd] at this
      omega
    · unfold lv
      rw [tsum_zero (fun a ha => by have := p1 a ha; rw [if_neg (by omega)])]
      omega
/-! ### Entering -/
theorem trd_seq {m : Mv} (h : Trd m) (n : Nat) : Trd (reseq n m) := ⟨h.one, h.kind, h.qty, h.cost, h.lot⟩
theorem checkF_good {l : List Mv} : ∀ (r : List Mv) (i : Nat) (σ : Bk), (∀ m ∈ r, Trd m) → (∀ (k : Nat) (h : k < r.length), r[k].seq = ((i + k + 1 : Nat) : Int)) → checkF l i r σ = (-1, 0) := by
  intro r
  induction r with
  | nil => intro i σ _ _; rfl
  | cons m r ih =>
    intro i σ hm hs
    have h1 := hm m (List.mem_cons_self ..)
    have h0 := hs 0 (by simp)
    simp only [List.getElem_cons_zero, Nat.add_zero] at h0
    have hr : refersV m.kind = false := by
      unfold refersV
      rcases h1.kind with hk | hk <;> rw [hk] <;> rfl
    unfold checkF
    rw [if_neg (by simpa using h0), if_neg (by rw [h1.one]; simp), if_pos hr]
    exact ih (i + 1) σ (fun k hk => hm k (List.mem_cons_of_mem _ hk)) (fun k hk => by
      have := hs (k + 1) (by simpa using hk)
      simp only [List.getElem_cons_succ] at this
      rw [this]; omega)
theorem check_good {L : List Mv} (hl : L.length ≤ 2000) (hm : ∀ m ∈ L, Trd m) (hs : ∀ (k : Nat) (h : k < L.length), L[k].seq = ((k + 1 : Nat) : Int)) : (checkV L).2 = 0 := by
  unfold checkV
  rw [if_neg (by omega), checkF_good L 0 [] hm (fun k h => by rw [hs k h]; omega)]
/-- A list is accepted if no quantity falls below zero. -/
theorem err_good {method price : Int} (hmt : 1 ≤ method ∧ method ≤ 4) (hp : 0 ≤ price ∧ price ≤ 1023) (hp3 : method ≠ 3 → price = 0) {L : List Mv} (hl : L.length ≤ 1000) (hm : ∀ m ∈ L, Trd m) (hs : ∀ (k : Nat) (h : k < L.length), L[k].seq = ((k + 1 : Nat) : Int)) (hd : (L.map Mv.value).Nodup) (hv : ∀ d, 0 ≤ lv L d) :
    errV method (startV method price).1 L = 0 := by
  refine errV_of (check_good (by omega) hm hs) ?_
  have hst : (startV method price).1.qty = 0 ∧ (startV method price).1.value = 0 ∧ (startV method price).1.layers = [] ∧ (startV method price).1.past = [] ∧ 0 ≤ (startV method price).1.price ∧ (startV method price).1.price ≤ 1023 := by
    unfold startV
    rw [if_neg (by omega), if_neg (by omega)]
    split
    · exact ⟨rfl, rfl, rfl, rfl, hp.1, hp.2⟩
    · exact ⟨rfl, rfl, rfl, rfl, by decide, by decide⟩
  obtain ⟨z1, z2, z3, z4, z5, z6⟩ := hst
  have hsml : Sml method 0 (startV method price).1 := by
    refine ⟨by rw [z1]; omega, fun _ => by rw [z2]; omega, fun _ => ⟨by rw [z1, z2, Int.zero_mul], z5, z6⟩, fun _ => by rw [z1, z2, z3]; exact Lay.nil, fun _ => .inl ⟨z3, z1, z2⟩⟩
  have hpv : (ordI L).Pairwise (fun a b => a.value < b.value) := by
    have nd : ((ordI L).map Mv.value).Nodup := ((ordI_perm L).map Mv.value).symm.nodup hd
    have h1 := ordI_srt L
    have h2 : (ordI L).Pairwise (fun a b => a.value ≠ b.value) := List.pairwise_map.1 nd
    exact (h1.and h2).imp (fun h => by have := h.1; have := h.2; omega)
  have hnd : (L.map Mv.seq).Nodup := by
    rw [List.nodup_iff_pairwise_ne, List.pairwise_iff_getElem]
    intro i j hi hj hij
    simp only [List.getElem_map]
    rw [List.length_map] at hi hj
    rw [hs i hi, hs j hj]; omega
  refine run_good hmt (ordI L) 0 _ hsml (by rw [ordI_len]; omega) (fun m hm' => hm m ((ordI_perm L).mem_iff.1 hm')) ?_ ?_
  · rw [z1]
    exact lv_lev _ _ hpv (fun d => by rw [lv_perm (ordI_perm L), Int.zero_add]; exact hv d)
  · rw [z4]
    exact ((ordI_perm L).map Mv.seq).symm.nodup hnd
/-- And only then. -/
theorem lv_of_err {method : Int} {s0 : St} {L : List Mv} (h : GoodL method s0 L) (h0 : s0.qty = 0) (d : Int) : 0 ≤ lv L d := by
  obtain ⟨e, hr, _⟩ := errV_run h.err
  have h1 := run_lev _ _ _ _ h.inv hr
  rw [h0] at h1
  have := lev_lv _ _ (ordI_srt L) h1 (Int.le_refl _) d
  rw [lv_perm (ordI_perm L)] at this
  omega
theorem lv_mono {A B : List Mv} (hA : ∀ m ∈ A, m.kind = 1 ∧ 0 ≤ m.qty) (d : Int) : 0 ≤ lv A d := by
  unfold lv
  induction A with
  | nil => exact Int.le_refl _
  | cons m r ih =>
    simp only [tsum]
    have h1 := ih (fun k hk => hA k (List.mem_cons_of_mem _ hk))
    have h2 := hA m (List.mem_cons_self ..)
    have : 0 ≤ chg m := by unfold chg; rw [if_pos (.inl h2.1)]; exact h2.2
    split <;> omega
theorem lv_neg {A : List Mv} (hA : ∀ m ∈ A, m.kind = 2 ∧ 0 ≤ m.qty) (d : Int) : lv A d ≤ 0 := by
  unfold lv
  induction A with
  | nil => exact Int.le_refl _
  | cons m r ih =>
    simp only [tsum]
    have h1 := ih (fun k hk => hA k (List.mem_cons_of_mem _ hk))
    have h2 := hA m (List.mem_cons_self ..)
    have : chg m ≤ 0 := by unfold chg; rw [if_neg (by omega), if_pos (.inl h2.1)]; omega
    split <;> omega
/-- The list after some of the movements, all accepted. -/
def renum (X : List Mv) : List Mv := X.mapIdx fun i m => reseq (i + 1) m
theorem renum_len (X : List Mv) : (renum X).length = X.length := by simp [renum]
theorem renum_add (X : List Mv) (m : Mv) : renum (X ++ [m]) = renum X ++ [reseq (X.length + 1) m] := by simp [renum, List.mapIdx_append]
theorem renum_unseq (X : List Mv) : (renum X).map unseq = X.map unseq := by
  apply List.ext_getElem
  · simp [renum]
  · intro i h1 h2
    simp [renum, unseq_reseq]
theorem renum_seq (X : List Mv) : ∀ (k : Nat) (h : k < (renum X).length), (renum X)[k].seq = ((k + 1 : Nat) : Int) := by
  intro k h
  simp [renum, reseq]
theorem renum_trd {X : List Mv} (h : ∀ m ∈ X, Trd m) : ∀ m ∈ renum X, Trd m := by
  intro m hm
  obtain ⟨k, hk, rfl⟩ := List.getElem_of_mem hm
  simp only [renum, List.getElem_mapIdx]
  exact trd_seq (h _ (List.getElem_mem _)) _
theorem renum_value (X : List Mv) : (renum X).map Mv.value = X.map Mv.value := by
  have := congrArg (fun l : List Mv => l.map Mv.value) (renum_unseq X)
  simp only [List.map_map] at this
  exact this
theorem fillL_app {method : Int} {s0 : St} (L l k : List Mv) : fillL method s0 L (l ++ k) = fillL method s0 (fillL method s0 L l) k := by
  unfold fillL; rw [List.foldl_append]
/-- Receipts first, then issues: they are all accepted if no quantity falls below zero in the end. -/
theorem fill_good {method price : Int} (hmt : 1 ≤ method ∧ method ≤ 4) (hp : 0 ≤ price ∧ price ≤ 1023) (hp3 : method ≠ 3 → price = 0) {R I : List Mv} (hl : (R ++ I).length ≤ 1000) (hm : ∀ m ∈ R ++ I, Trd m) (hR : ∀ m ∈ R, m.kind = 1) (hI : ∀ m ∈ I, m.kind = 2) (hd : ((R ++ I).map Mv.value).Nodup) (hv : ∀ d, 0 ≤ lv (R ++ I) d) :
    ∀ n, n ≤ (R ++ I).length → fillL method (startV method price).1 [] ((R ++ I).take n) = renum ((R ++ I).take n) := by
  intro n
  induction n with
  | zero => intro _; rfl
  | succ n ih =>
    intro hn
    have h1 := ih (by omega)
    have hlt : n < (R ++ I).length := by omega
    have htk : (R ++ I).take (n + 1) = (R ++ I).take n ++ [(R ++ I)[n]] := by rw [List.take_add_one, List.getElem?_eq_getElem hlt]; rfl
    have hlen : ((R ++ I).take n).length = n := by rw [List.length_take]; omega
    rw [htk, fillL_app, h1, renum_add]
    show addL method (startV method price).1 _ (reseq ((renum ((R ++ I).take n)).length + 1) (R ++ I)[n]) = _
    rw [renum_len]
    unfold addL
    rw [if_pos]
    rw [← renum_add, ← htk]
    have hsub : ∀ m ∈ (R ++ I).take (n + 1), m ∈ R ++ I := fun m h => List.mem_of_mem_take h
    refine err_good hmt hp hp3 (by rw [renum_len, List.length_take]; omega) (renum_trd (fun m h => hm m (hsub m h))) (renum_seq _) ?_ (fun d => ?_)
    · rw [renum_value, List.map_take]
      exact (List.take_sublist _ _).nodup hd
    · rw [← lv_unseq, renum_unseq, lv_unseq]
      have hpos : ∀ m ∈ R ++ I, 0 ≤ m.qty := fun m h => by have := (hm m h).qty; omega
      rcases Nat.lt_or_ge n R.length with hnR | hnR
      · rw [List.take_append_of_le_length (by omega)]
        exact lv_mono (B := []) (fun m h => ⟨hR m (List.mem_of_mem_take h), hpos m (List.mem_append_left _ (List.mem_of_mem_take h))⟩) d
      · have e : (R ++ I).take (n + 1) ++ (R ++ I).drop (n + 1) = R ++ I := List.take_append_drop _ _
        have h2 := hv d
        rw [← e, lv_append] at h2
        have h3 : lv ((R ++ I).drop (n + 1)) d ≤ 0 := by
          have ed : (R ++ I).drop (n + 1) = I.drop (n + 1 - R.length) := by
            rw [List.drop_append, List.drop_of_length_le (by omega), List.nil_append]
          rw [ed]
          exact lv_neg (fun m h => ⟨hI m (List.mem_of_mem_drop h), hpos m (List.mem_append_right _ (List.mem_of_mem_drop h))⟩) d
        omega
/-- What is in stock on a day, by the order of the values. -/
theorem atS_ord {method : Int} {s0 : St} {L : List Mv} (f : Co → Int) (day : Int) :
    atS f L (cosV method s0 L) day = tsum (fun q => if (at0 (ordI L) q).value ≤ day then f (coAt method s0 (ordI L) q) else 0) (List.range L.length) := by
  unfold atS
  have h1 : L.zip (cosV method s0 L) = (List.range L.length).map fun i => (at0 L i, coAt method s0 (ordI L) ((ordV L).idxOf i)) := by
    apply List.ext_getElem
    · simp [cosV]
    · intro i h2 h3
      simp only [List.getElem_zip, List.getElem_map, List.getElem_range, cosV]
      rw [List.length_map, List.length_range] at h3
      unfold at0
      rw [List.getElem?_eq_getElem h3]
      rfl
  rw [h1, ← tsum_perm ((ordV_perm L).map _), tsum_map, ]
  have h2 : ordV L = (List.range L.length).map fun q => ((ordV L)[q]?).getD 0 := by
    apply List.ext_getElem
    · simp [ordV_len]
    · intro i h2 h3
      simp only [List.getElem_map, List.getElem_range]
      rw [List.getElem?_eq_getElem h2]
      rfl
  rw [h2, tsum_map, ← h2]
  refine tsum_congr (fun q hq => ?_)
  have hq' : q < (ordV L).length := by rw [ordV_len]; exact List.mem_range.1 hq
  rw [List.getElem?_eq_getElem hq']
  simp only [Option.getD_some]
  rw [(ordV_nodup L).idxOf_getElem]
  have : at0 (ordI L) q = at0 L (ordV L)[q] := by
    unfold ordI seqV
    unfold at0
    rw [List.getElem?_map, List.getElem?_eq_getElem hq']
    rfl
  rw [this]
theorem at_same {method : Int} {s0 : St} {G H : List Mv} (hG : GoodL method s0 G) (hH : GoodL method s0 H) (hp : (G.map unseq).Perm (H.map unseq)) (hd : (G.map Mv.value).Nodup) (hk : ∀ m ∈ H, m.kind = 1 ∨ m.kind = 2) (day : Int) :
    atV Co.qty method s0 G day = atV Co.qty method s0 H day ∧ atV Co.value method s0 G day = atV Co.value method s0 H day := by
  have hlen : G.length = H.length := by simpa using hp.length_eq
  obtain ⟨_, hc⟩ := order_plain hG hH hp hd hk
  have hs := ord_same hp hd
  have hv : ∀ q, q < G.length → (at0 (ordI G) q).value = (at0 (ordI H) q).value := by
    intro q hq
    have h1 : q < (ordI G).length := by rw [ordI_len]; exact hq
    have h2 : q < (ordI H).length := by rw [ordI_len]; omega
    have := congrArg (fun l : List Mv => l[q]?) hs
    simp only [List.getElem?_map, List.getElem?_eq_getElem h1, List.getElem?_eq_getElem h2, Option.map_some, Option.some.injEq] at this
    unfold at0
    rw [List.getElem?_eq_getElem h1, List.getElem?_eq_getElem h2]
    exact (simM_of this).value
  unfold atV
  rw [atS_ord, atS_ord, atS_ord, atS_ord, ← hlen]
  constructor
  · congr 1
    refine tsum_congr (fun q hq => ?_)
    have hq' := List.mem_range.1 hq
    rw [hv q hq', (hc q (by rw [ordI_len]; exact hq')).qty]
  · congr 1
    refine tsum_congr (fun q hq => ?_)
    have hq' := List.mem_range.1 hq
    rw [hv q hq', (hc q (by rw [ordI_len]; exact hq')).value]
end Go.X
end
