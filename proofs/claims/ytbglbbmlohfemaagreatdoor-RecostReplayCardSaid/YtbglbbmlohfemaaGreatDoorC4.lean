/- Recosting, plain: order, costs, sums; receipts and issues. -/
import Derived.Test.YtbglbbmlohfemaaGreatDoorC2
import Derived.Test.YtbglbbmlohfemaaGreatDoorB9
section
set_option linter.unusedVariables false
set_option linter.unusedSimpArgs false
namespace Go.X
open Go.Proofs Go.RowKit
theorem seqV_len' {L : List Mv} {O : List Nat} : (seqV L O).length = O.length := by simp [seqV]
/-! ### The binary search -/
theorem bs_congr {f g : Nat → Bool} {N : Nat} (h : ∀ k, k < N → f k = g k) : ∀ (n i j : Nat), j ≤ N → bsV f n i j = bsV g n i j := by
  intro n
  induction n with
  | zero => intro i j _; rfl
  | succ n ih =>
    intro i j hj
    unfold bsV
    split
    · rename_i hlt
      rw [h _ (by omega), ih _ _ hj, ih _ _ (by omega)]
    · rfl
/-! ### The order -/
theorem at0_old {L : List Mv} (m : Mv) {i : Nat} (h : i < L.length) : at0 (L ++ [m]) i = at0 L i := by
  unfold at0; rw [List.getElem?_append_left h]
theorem at0_new (L : List Mv) (m : Mv) : at0 (L ++ [m]) L.length = m := by
  unfold at0; simp
def ordN (L : List Mv) : Nat → List Nat
  | 0 => []
  | n + 1 => insI (ordN L n) (placeV L (ordN L n) (at0 L n).value) n
def ordV (L : List Mv) : List Nat := ordN L L.length
theorem insI_perm {α : Type} (l : List α) (i : Nat) (x : α) : (insI l i x).Perm (x :: l) := by
  unfold insI
  refine List.perm_middle.trans ?_
  rw [List.take_append_drop]
theorem ordN_perm (L : List Mv) : ∀ n, (ordN L n).Perm (List.range n) := by
  intro n
  induction n with
  | zero => exact List.Perm.refl _
  | succ n ih =>
    unfold ordN
    refine (insI_perm _ _ _).trans ?_
    rw [List.range_succ]
    exact (List.Perm.cons n ih).trans (List.perm_append_singleton n _).symm
theorem ordN_len (L : List Mv) (n : Nat) : (ordN L n).length = n := by simpa using (ordN_perm L n).length_eq
theorem ordN_lt (L : List Mv) (n : Nat) : ∀ o ∈ ordN L n, o < n := fun o ho => List.mem_range.1 ((ordN_perm L n).mem_iff.1 ho)
theorem ordN_nodup (L : List Mv) (n : Nat) : (ordN L n).Nodup := (ordN_perm L n).symm.nodup List.nodup_range
theorem lev_eq {L : List Mv} {O : List Nat} {value : Int} {k : Nat} (h : k < O.length) : leV L O value k = decide ((at0 L O[k]).value ≤ value) := by
  unfold leV at0
  rw [List.getElem?_eq_getElem h]
  rfl
theorem place_congr {L L' : List Mv} {O : List Nat} (h : ∀ o ∈ O, at0 L o = at0 L' o) (value : Int) : placeV L O value = placeV L' O value := by
  unfold placeV
  refine bs_congr (N := O.length) (fun k hk => ?_) _ _ _ (Nat.le_refl _)
  rw [lev_eq hk, lev_eq hk, h _ (List.getElem_mem hk)]
theorem ordN_congr {L L' : List Mv} : ∀ n, (∀ i, i < n → at0 L i = at0 L' i) → ordN L n = ordN L' n := by
  intro n
  induction n with
  | zero => intro _; rfl
  | succ n ih =>
    intro h
    have hn := ih (fun i hi => h i (by omega))
    unfold ordN
    rw [← hn, h n (by omega), place_congr (fun o ho => h o (by have := ordN_lt L n o ho; omega))]
theorem ordV_len (L : List Mv) : (ordV L).length = L.length := ordN_len L _
theorem ordV_lt (L : List Mv) : ∀ o ∈ ordV L, o < L.length := ordN_lt L _
theorem ordV_nodup (L : List Mv) : (ordV L).Nodup := ordN_nodup L _
theorem ordV_perm (L : List Mv) : (ordV L).Perm (List.range L.length) := ordN_perm L _
/-- Where a movement is placed in the order. -/
def plcV (L : List Mv) (m : Mv) : Nat := placeV L (ordV L) m.value
theorem plc_le (L : List Mv) (m : Mv) : plcV L m ≤ L.length := by have := place_le L (ordV L) m.value; rw [ordV_len] at this; exact this
theorem ordV_add (L : List Mv) (m : Mv) : ordV (L ++ [m]) = insI (ordV L) (plcV L m) L.length := by
  unfold ordV plcV
  rw [List.length_append, List.length_singleton]
  show insI (ordN (L ++ [m]) L.length) _ _ = _
  have e : ordN (L ++ [m]) L.length = ordN L L.length := ordN_congr _ (fun i hi => at0_old m hi)
  rw [e, at0_new, place_congr (L' := L) (fun o ho => at0_old m (ordN_lt L _ o ho))]
  rfl
/-- The movements in the order of their values. -/
def ordI (L : List Mv) : List Mv := seqV L (ordV L)
theorem ordI_len (L : List Mv) : (ordI L).length = L.length := by unfold ordI; rw [seqV_len', ordV_len]
theorem ordI_add (L : List Mv) (m : Mv) : ordI (L ++ [m]) = insI (ordI L) (plcV L m) m := by
  unfold ordI
  rw [ordV_add]
  unfold seqV insI
  have key : ∀ l : List Nat, (∀ o ∈ l, o < L.length) → l.map (at0 (L ++ [m])) = l.map (at0 L) := by
    intro l hl
    exact List.map_congr_left (fun o ho => at0_old m (hl o ho))
  rw [List.map_append, List.map_cons, at0_new, key _ (fun o ho => ordV_lt L o (List.mem_of_mem_take ho)), key _ (fun o ho => ordV_lt L o (List.mem_of_mem_drop ho)), List.map_take, List.map_drop]
theorem ordI_perm (L : List Mv) : (ordI L).Perm L := by
  unfold ordI seqV
  have h := (ordV_perm L).map (at0 L)
  refine h.trans ?_
  have : (List.range L.length).map (at0 L) = L := by
    apply List.ext_getElem
    · simp
    · intro i h1 h2
      simp only [List.getElem_map, List.getElem_range]
      unfold at0
      rw [List.getElem?_eq_getElem h2]
      rfl
  rw [this]
theorem ordI_get {L : List Mv} {q : Nat} (h : q < (ordI L).length) : ∃ (h1 : q < (ordV L).length) (h2 : (ordV L)[q] < L.length), (ordI L)[q] = L[(ordV L)[q]] := by
  have h1 : q < (ordV L).length := by rw [ordV_len]; rw [ordI_len] at h; exact h
  have h2 := ordV_lt L _ (List.getElem_mem h1)
  refine ⟨h1, h2, ?_⟩
  have e : (ordI L)[q]? = some L[(ordV L)[q]] := by
    unfold ordI seqV
    rw [List.getElem?_map, List.getElem?_eq_getElem h1]
    simp only [Option.map_some]
    unfold at0
    rw [List.getElem?_eq_getElem h2]
    rfl
  rw [List.getElem?_eq_getElem h] at e
  exact Option.some.inj e
/-! ### Costs, the engine -/
def cosV (method : Int) (s0 : St) (L : List Mv) : List Co := (List.range L.length).map fun i => coAt method s0 (ordI L) ((ordV L).idxOf i)
def lastV (method : Int) (s0 : St) (L : List Mv) : St := stAt method s0 (ordI L) L.length
def engV (method : Int) (s0 : St) (L : List Mv) : Eng := ⟨method, L, cosV method s0 L, ordV L, keptV (stAt method s0 (ordI L)) (L.length / 16 + 1), lastV method s0 L⟩
/-- The error of a list of movements, all entered. -/
def errV (method : Int) (s0 : St) (L : List Mv) : Int := if (checkV L).2 ≠ 0 then (checkV L).2 else (runFrom method 0 s0 [] (ordI L)).2.2.2
def addL (method : Int) (s0 : St) (L : List Mv) (m : Mv) : List Mv := if errV method s0 (L ++ [m]) = 0 then L ++ [m] else L
theorem cosV_len (method : Int) (s0 : St) (L : List Mv) : (cosV method s0 L).length = L.length := by simp [cosV]
theorem cos_at {method : Int} {s0 : St} {L : List Mv} {q : Nat} (h : q < (ordV L).length) : (cosV method s0 L)[(ordV L)[q]]? = some (coAt method s0 (ordI L) q) := by
  have h2 := ordV_lt L _ (List.getElem_mem h)
  unfold cosV
  rw [List.getElem?_map, List.getElem?_range h2]
  simp only [Option.map_some, Option.some.injEq]
  rw [(ordV_nodup L).idxOf_getElem]
theorem pos_of {L : List Mv} {i : Nat} (h : i < L.length) : ∃ (q : Nat) (hq : q < (ordV L).length), (ordV L)[q] = i := by
  have : i ∈ ordV L := (ordV_perm L).mem_iff.2 (List.mem_range.2 h)
  exact List.getElem_of_mem this
theorem errV_chk {method : Int} {s0 : St} {L : List Mv} (h : errV method s0 L = 0) : (checkV L).2 = 0 := by
  unfold errV at h
  split at h
  · rename_i h1; exact absurd h h1
  · rename_i h1; simpa using h1
theorem errV_run {method : Int} {s0 : St} {L : List Mv} (h : errV method s0 L = 0) : ∃ d, runOk method s0 (ordI L) = some (lastV method s0 L, d) ∧ d.length = L.length := by
  have hc := errV_chk h
  unfold errV at h
  rw [if_neg (by simpa using hc)] at h
  cases hr : runOk method s0 (ordI L) with
  | some x =>
    have hl := (runOk_sums _ _ _ _ hr).2.2
    rw [ordI_len] at hl
    refine ⟨x.2, ?_, hl⟩
    unfold lastV stAt
    rw [List.take_of_length_le (by rw [ordI_len]; exact Nat.le_refl _), hr]
  | none =>
    obtain ⟨k, e, he, _, hk, _⟩ := runFrom_bad (ordI L) 0 s0 [] hr
    rw [hk] at h
    exact absurd h he
theorem errV_of {method : Int} {s0 : St} {L : List Mv} (hc : (checkV L).2 = 0) (hr : ∃ x, runOk method s0 (ordI L) = some x) : errV method s0 L = 0 := by
  obtain ⟨x, hx⟩ := hr
  unfold errV
  rw [if_neg (by simpa using hc), runFrom_ok (ordI L) 0 s0 [] x.1 x.2 hx]
theorem errV_nil (method : Int) (s0 : St) : errV method s0 [] = 0 := errV_of rfl ⟨_, rfl⟩
/-! ### A movement more: what is before it stays -/
theorem insI_take {α : Type} {l : List α} {p k : Nat} {x : α} (hk : k ≤ p) (hp : p ≤ l.length) : (insI l p x).take k = l.take k := by
  unfold insI
  rw [List.take_append_of_le_length (by rw [List.length_take]; omega), List.take_take, Nat.min_eq_left hk]
theorem insI_get {α : Type} {l : List α} {p k : Nat} {x : α} (hk : k < p) (hp : p ≤ l.length) : (insI l p x)[k]? = l[k]? := by
  have h := insI_take (x := x) (show k + 1 ≤ p by omega) hp
  have h2 := congrArg (fun y => y[k]?) h
  simpa [List.getElem?_take] using h2
theorem stAt_ins {method : Int} {s0 : St} {ms : List Mv} {p k : Nat} {m : Mv} (hk : k ≤ p) (hp : p ≤ ms.length) : stAt method s0 (insI ms p m) k = stAt method s0 ms k := by
  unfold stAt
  rw [insI_take hk hp]
theorem coAt_ins {method : Int} {s0 : St} {ms : List Mv} {p k : Nat} {m : Mv} (hk : k < p) (hp : p ≤ ms.length) : coAt method s0 (insI ms p m) k = coAt method s0 ms k := by
  unfold coAt
  rw [stAt_ins (by omega) hp]
  congr 2
  unfold at0
  rw [insI_get hk hp]
theorem cos_keep {method : Int} {s0 : St} {L : List Mv} {m : Mv} {q : Nat} (h : q < plcV L m) (hq : q < (ordV (L ++ [m])).length) :
    (ordV (L ++ [m]))[q] < L.length ∧ (cosV method s0 (L ++ [m]))[(ordV (L ++ [m]))[q]]? = (cosV method s0 L)[(ordV (L ++ [m]))[q]]? := by
  have hp := plc_le L m
  have hqL : q < (ordV L).length := by rw [ordV_len]; omega
  have e : (ordV (L ++ [m]))[q] = (ordV L)[q] := by
    have h1 : (ordV (L ++ [m]))[q]? = (ordV L)[q]? := by rw [ordV_add, insI_get h (by rw [ordV_len]; exact hp)]
    rw [List.getElem?_eq_getElem hq, List.getElem?_eq_getElem hqL] at h1
    exact Option.some.inj h1
  rw [cos_at hq, ordI_add, coAt_ins h (by rw [ordI_len]; exact hp), e, cos_at hqL]
  exact ⟨ordV_lt L _ (List.getElem_mem hqL), rfl⟩
/-! ### The differences of the costs -/
structure Ad where
  seq : Int
  value : Int
  var : Int
deriving DecidableEq
def Ad.cs (a : Ad) : List Value := [.int .i64 a.seq, .int .i64 a.value, .int .i64 a.var]
def adjOf (was now : Co) : List Ad := if now.value ≠ was.value ∨ now.var ≠ was.var then [⟨was.seq, IntKind.i64.wrap (now.value - was.value), IntKind.i64.wrap (now.var - was.var)⟩] else []
def adjV : List Co → List Co → List Ad
  | was :: r, now :: r' => adjOf was now ++ adjV r r'
  | _, _ => []
end Go.X
end
section
set_option linter.unusedVariables false
set_option linter.unusedSimpArgs false
namespace Go.X
open Go.Proofs Go.RowKit
/-! ### The check -/
theorem checkF_ok {l : List Mv} : ∀ (r : List Mv) (i : Nat) (σ : Bk), (checkF l i r σ).2 = 0 → ∀ (k : Nat) (h : k < r.length), r[k].seq = ((i + k + 1 : Nat) : Int) ∧ oneV r[k] = 0 := by
  intro r
  induction r with
  | nil => intro i σ _ k h; simp at h
  | cons m r ih =>
    intro i σ hc k h
    unfold checkF at hc
    split at hc
    · exact absurd hc (by simp)
    rename_i h1
    split at hc
    · rename_i h2; exact absurd hc h2
    rename_i h2
    have next : ∃ σ', (checkF l (i + 1) r σ').2 = 0 := by
      split at hc
      · exact ⟨_, hc⟩
      · split at hc
        · rename_i h3; exact absurd hc h3
        · exact ⟨_, hc⟩
    obtain ⟨σ', hn⟩ := next
    cases k with
    | zero => exact ⟨by simpa using h1, by simpa using h2⟩
    | succ k =>
      have := ih (i + 1) σ' hn k (by simpa using h)
      simp only [List.getElem_cons_succ]
      refine ⟨?_, this.2⟩
      rw [this.1]; omega
theorem check_facts {L : List Mv} (h : (checkV L).2 = 0) : L.length ≤ 2000 ∧ ∀ (k : Nat) (hk : k < L.length), L[k].seq = ((k + 1 : Nat) : Int) ∧ oneV L[k] = 0 := by
  unfold checkV at h
  split at h
  · exact absurd h (by simp)
  · rename_i hl
    refine ⟨by omega, fun k hk => ?_⟩
    have := checkF_ok L 0 [] h k hk
    simpa using this
/-! ### Costs of a run -/
theorem runOk_cons (method : Int) (s : St) (m : Mv) (r : List Mv) : runOk method s (m :: r) = if (stepV method s m).2.2 ≠ 0 then none else (runOk method (stepV method s m).1 r).map fun x => (x.1, (stepV method s m).2.1 :: x.2) := rfl
theorem stAt_cons {method : Int} {s : St} {m : Mv} {r : List Mv} {i : Nat} (h : (stepV method s m).2.2 = 0) : stAt method s (m :: r) (i + 1) = stAt method (stepV method s m).1 r i := by
  unfold stAt
  rw [List.take_succ_cons]
  rw [runOk_cons, if_neg (by rw [h]; simp)]
  cases runOk method (stepV method s m).1 (r.take i) <;> rfl
theorem coAt_cons {method : Int} {s : St} {m : Mv} {r : List Mv} {i : Nat} (h : (stepV method s m).2.2 = 0) : coAt method s (m :: r) (i + 1) = coAt method (stepV method s m).1 r i := by
  unfold coAt
  rw [stAt_cons h]
  rfl
theorem coAt_run {method : Int} : ∀ (ms : List Mv) (s t : St) (d : List Co), runOk method s ms = some (t, d) → d = (List.range ms.length).map (coAt method s ms) := by
  intro ms
  induction ms with
  | nil => intro s t d h; simp [runOk] at h; simp [h.2]
  | cons m r ih =>
    intro s t d h
    unfold runOk at h
    split at h
    · cases h
    rename_i he
    have he' : (stepV method s m).2.2 = 0 := by simpa using he
    cases hr : runOk method (stepV method s m).1 r with
    | none => rw [hr] at h; cases h
    | some y =>
      rw [hr] at h
      simp only [Option.map_some, Option.some.injEq, Prod.mk.injEq] at h
      rw [← h.2, List.length_cons, List.range_succ_eq_map, List.map_cons, List.map_map]
      have e0 : coAt method s (m :: r) 0 = (stepV method s m).2.1 := rfl
      rw [e0]
      congr 1
      rw [ih _ _ _ hr]
      exact List.map_congr_left (fun i _ => (coAt_cons he').symm)
theorem run_get {method : Int} {ms : List Mv} {s t : St} {d : List Co} (h : runOk method s ms = some (t, d)) {q : Nat} (hq : q < ms.length) : d[q]? = some (coAt method s ms q) := by
  rw [coAt_run ms s t d h, List.getElem?_map, List.getElem?_range hq]
  rfl
/-! ### A list of movements that an engine has -/
structure GoodL (method : Int) (s0 : St) (L : List Mv) : Prop where
  err : errV method s0 L = 0
  ok : ∀ m ∈ L, m.Ok
  inv : Inv method s0
  s0 : s0.Ok 0
theorem good_nil {method price : Int} (hp : I64 price) (h : (startV method price).2 = 0) : GoodL method (startV method price).1 [] := ⟨errV_nil _ _, by simp, start_inv h, start_ok 0 hp⟩
theorem GoodL.add {method : Int} {s0 : St} {L : List Mv} {m : Mv} (h : GoodL method s0 L) (hm : m.Ok) (he : errV method s0 (L ++ [m]) = 0) : GoodL method s0 (L ++ [m]) := ⟨he, mem_add_ok h.ok hm, h.inv, h.s0⟩
theorem GoodL.addL {method : Int} {s0 : St} {L : List Mv} {m : Mv} (h : GoodL method s0 L) (hm : m.Ok) : GoodL method s0 (addL method s0 L m) := by
  unfold X.addL
  split
  · rename_i he; exact h.add hm he
  · exact h
variable {method : Int} {s0 : St} {L : List Mv}
theorem GoodL.len (h : GoodL method s0 L) : L.length ≤ 2000 := (check_facts (errV_chk h.err)).1
theorem GoodL.seq (h : GoodL method s0 L) {k : Nat} (hk : k < L.length) : L[k].seq = ((k + 1 : Nat) : Int) := ((check_facts (errV_chk h.err)).2 k hk).1
theorem GoodL.one (h : GoodL method s0 L) {k : Nat} (hk : k < L.length) : OneF L[k] := one_facts ((check_facts (errV_chk h.err)).2 k hk).2
theorem GoodL.ordOk (h : GoodL method s0 L) : ∀ m ∈ ordI L, m.Ok := fun m hm => h.ok m ((ordI_perm L).mem_iff.1 hm)
theorem GoodL.lastOk (h : GoodL method s0 L) : (lastV method s0 L).Ok L.length := by
  obtain ⟨d, hr, _⟩ := errV_run h.err
  have := (runOk_ok (ordI L) 0 s0 _ d h.s0 h.ordOk hr).1
  rw [Nat.zero_add, ordI_len] at this
  exact this
theorem GoodL.take (h : GoodL method s0 L) (k : Nat) : ∃ d, runOk method s0 ((ordI L).take k) = some (stAt method s0 (ordI L) k, d) := by
  obtain ⟨d, hr, _⟩ := errV_run h.err
  obtain ⟨t, ht⟩ := runOk_take (ordI L) k s0 _ d hr
  refine ⟨d.take k, ?_⟩
  unfold stAt
  rw [ht]
theorem GoodL.stOk (h : GoodL method s0 L) {k : Nat} (hk : k ≤ L.length) : (stAt method s0 (ordI L) k).Ok k := by
  obtain ⟨d, hr⟩ := h.take k
  have := (runOk_ok _ 0 s0 _ d h.s0 (fun m hm => h.ordOk m (List.mem_of_mem_take hm)) hr).1
  rw [Nat.zero_add, List.length_take, ordI_len, Nat.min_eq_left hk] at this
  exact this
/-- What the cost at a place in the order is. -/
theorem GoodL.eff (h : GoodL method s0 L) {q : Nat} (hq : q < (ordI L).length) : ∃ a b, Inv method a ∧ Eff method a (ordI L)[q] b (coAt method s0 (ordI L) q) ∧ (coAt method s0 (ordI L) q).seq = (ordI L)[q].seq ∧ (coAt method s0 (ordI L) q).Ok := by
  obtain ⟨d, hr, hl⟩ := errV_run h.err
  obtain ⟨a, b, hd, _, _, ha, he, hs⟩ := (runOk_eff (ordI L) s0 _ d h.inv hr).2 q hq
  have e := run_get hr hq
  rw [List.getElem?_eq_getElem hd] at e
  have e := Option.some.inj e
  have hok := (runOk_ok (ordI L) 0 s0 _ d h.s0 h.ordOk hr).2 d[q] (List.getElem_mem hd)
  rw [e] at he hs hok
  exact ⟨a, b, ha, he, hs, hok⟩
theorem cos_get {i : Nat} (h : i < (cosV method s0 L).length) : ∃ (q : Nat) (hq : q < (ordI L).length) (hi : i < L.length), (cosV method s0 L)[i] = coAt method s0 (ordI L) q ∧ (ordI L)[q] = L[i] := by
  have hi : i < L.length := by rw [cosV_len] at h; exact h
  obtain ⟨q, hq, hqi⟩ := pos_of hi
  have hq' : q < (ordI L).length := by rw [ordI_len, ← ordV_len L]; exact hq
  refine ⟨q, hq', hi, ?_, ?_⟩
  · have := cos_at (method := method) (s0 := s0) hq
    rw [hqi, List.getElem?_eq_getElem h] at this
    exact Option.some.inj this
  · obtain ⟨h1, h2, h3⟩ := ordI_get hq'
    rw [h3]
    congr 1
theorem GoodL.cos (h : GoodL method s0 L) {i : Nat} (hi : i < (cosV method s0 L).length) : ∃ (hL : i < L.length), (cosV method s0 L)[i].seq = ((i + 1 : Nat) : Int) ∧ (cosV method s0 L)[i].qty = chg L[i] ∧ (cosV method s0 L)[i].Ok := by
  obtain ⟨q, hq, hL, e1, e2⟩ := cos_get hi
  obtain ⟨a, b, _, he, hs, hok⟩ := h.eff hq
  refine ⟨hL, ?_, ?_, by rw [e1]; exact hok⟩
  · rw [e1, hs, e2, h.seq hL]
  · rw [e1, he.qty, e2]
/-- The costs in the order of the values. -/
theorem cos_run (h : GoodL method s0 L) : runOk method s0 (ordI L) = some (lastV method s0 L, (ordV L).map fun i => ((cosV method s0 L)[i]?).getD Co.zero) := by
  obtain ⟨d, hr, hl⟩ := errV_run h.err
  rw [hr]
  congr 2
  apply List.ext_getElem?
  intro q
  rw [List.getElem?_map]
  rcases Nat.lt_or_ge q (ordV L).length with hq | hq
  · rw [List.getElem?_eq_getElem hq, Option.map_some, cos_at hq, run_get hr (by rw [ordI_len, ← ordV_len L]; exact hq)]
    rfl
  · rw [List.getElem?_eq_none hq, List.getElem?_eq_none (by rw [hl, ← ordV_len L]; exact hq)]
    rfl
/-! ### Sums -/
def tsum {α : Type} (f : α → Int) : List α → Int
  | [] => 0
  | a :: r => f a + tsum f r
theorem tsum_append {α : Type} {f : α → Int} (l k : List α) : tsum f (l ++ k) = tsum f l + tsum f k := by
  induction l with
  | nil => simp [tsum]
  | cons a r ih => simp only [List.cons_append, tsum, ih]; omega
theorem wrap_add (a b : Int) : IntKind.i64.wrap (IntKind.i64.wrap a + b) = IntKind.i64.wrap (a + b) := by
  rw [IntKind.wrap_i64, IntKind.wrap_i64, IntKind.wrap_i64]; omega
/-- The sum of some number of the costs of the movements up to a day. -/
def atS (f : Co → Int) (L : List Mv) (C : List Co) (day : Int) : Int := tsum (fun p : Mv × Co => if p.1.value ≤ day then f p.2 else 0) (L.zip C)
def atV (f : Co → Int) (method : Int) (s0 : St) (L : List Mv) (day : Int) : Int := IntKind.i64.wrap (atS f L (cosV method s0 L) day)
end Go.X
end
section
set_option linter.unusedVariables false
set_option linter.unusedSimpArgs false
namespace Go.X
open Go.Proofs Go.RowKit
def fg (a : Ly) : Ly := ⟨0, a.lot, a.qty, a.value⟩
/-! ### What a receipt and an issue do -/
/-! ### The same but for the numbers -/
structure SimS (s t : St) : Prop where
  qty : s.qty = t.qty
  value : s.value = t.value
  price : s.price = t.price
  layers : s.layers.map fg = t.layers.map fg
theorem SimS.refl (s : St) : SimS s s := ⟨rfl, rfl, rfl, rfl⟩
end Go.X
end
section
set_option linter.unusedVariables false
set_option linter.unusedSimpArgs false
namespace Go.X
open Go.Proofs Go.RowKit
/-- The movement with a number. -/
def reseq (n : Nat) (m : Mv) : Mv := ⟨(n : Int), m.value, m.item, m.kind, m.qty, m.cost, m.lot, m.ref⟩
/-! ### Entering movements one after the other -/
def fillL (method : Int) (s0 : St) (L : List Mv) (l : List Mv) : List Mv := l.foldl (fun L m => addL method s0 L (reseq (L.length + 1) m)) L
theorem reseq_ok {m : Mv} {n : Nat} (h : m.Ok) (hn : n ≤ 1000000) : (reseq n m).Ok := ⟨by unfold I64 reseq; simp only; omega, h.value, h.kind, h.qty, h.cost, h.ref⟩
theorem addL_len {method : Int} {s0 : St} {L : List Mv} {m : Mv} : (addL method s0 L m).length ≤ L.length + 1 := by
  unfold addL; split <;> simp
theorem fillL_len {method : Int} {s0 : St} : ∀ (l L : List Mv), (fillL method s0 L l).length ≤ L.length + l.length := by
  intro l
  induction l with
  | nil => intro L; exact Nat.le_refl _
  | cons m r ih =>
    intro L
    have h := ih (addL method s0 L (reseq (L.length + 1) m))
    have h2 : (addL method s0 L (reseq (L.length + 1) m)).length ≤ L.length + 1 := addL_len
    show (fillL method s0 (addL method s0 L (reseq (L.length + 1) m)) r).length ≤ _
    rw [List.length_cons]
    omega
theorem fillL_good {method : Int} {s0 : St} : ∀ (l L : List Mv), GoodL method s0 L → (∀ m ∈ l, m.Ok) → L.length + l.length ≤ 100000 → GoodL method s0 (fillL method s0 L l) := by
  intro l
  induction l with
  | nil => intro L h _ _; exact h
  | cons m r ih =>
    intro L h hm hn
    rw [List.length_cons] at hn
    have h2 : (addL method s0 L (reseq (L.length + 1) m)).length ≤ L.length + 1 := addL_len
    exact ih (addL method s0 L (reseq (L.length + 1) m)) (h.addL (reseq_ok (hm m (List.mem_cons_self ..)) (by omega))) (fun k hk => hm k (List.mem_cons_of_mem _ hk)) (by omega)
end Go.X
end
section
set_option linter.unusedVariables false
set_option linter.unusedSimpArgs false
namespace Go.X
open Go.Proofs Go.RowKit
end Go.X
end
section
set_option linter.unusedVariables false
set_option linter.unusedSimpArgs false
namespace Go.X
open Go.Proofs Go.RowKit
/-! ### Levels -/
/-- The quantity in stock at the end of a day. -/
def lv (L : List Mv) (d : Int) : Int := tsum (fun m => if m.value ≤ d then chg m else 0) L
/-! ### Entering -/
theorem fillL_app {method : Int} {s0 : St} (L l k : List Mv) : fillL method s0 L (l ++ k) = fillL method s0 (fillL method s0 L l) k := by
  unfold fillL; rw [List.foldl_append]
end Go.X
end
