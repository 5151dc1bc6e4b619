/- What a step does, for all methods; a run. -/
import Derived.Test.YtbglbbmlohfemaaGreatDoorB3
section
set_option linter.unusedVariables false
set_option linter.unusedSimpArgs false
namespace Go.X
open Go.Proofs Go.RowKit
/-- What an allowed movement is. -/
structure OneF (m : Mv) : Prop where
  kind : 1 ≤ m.kind ∧ m.kind ≤ 6
  qty : m.kind ≤ 4 → 1 ≤ m.qty ∧ m.qty ≤ 1000000000
  noqty : 5 ≤ m.kind → m.qty = 0
  cost : 0 ≤ m.cost ∧ m.cost ≤ 1000000000000
  nocost : m.kind = 2 ∨ m.kind = 3 → m.cost = 0
theorem one_facts {m : Mv} (h : oneV m = 0) : OneF m := by
  unfold oneV at h
  split at h
  · cases h
  split at h
  · cases h
  split at h
  · cases h
  rename_i hk
  have hk := Classical.not_not.mp hk
  split at h
  · cases h
  rename_i hq
  have hq1 : quantityV m = true := by
    cases hv : quantityV m with
    | true => rfl
    | false => exact absurd (Or.inl hv) hq
  have hc1 : costV m = true := by
    cases hv : costV m with
    | true => rfl
    | false => exact absurd (Or.inr hv) hq
  unfold quantityV at hq1
  unfold costV at hc1
  refine ⟨hk, fun h4 => ?_, fun h5 => ?_, ?_, fun h23 => ?_⟩
  · rw [if_neg (by omega)] at hq1
    exact of_decide_eq_true hq1
  · rw [if_pos (by omega)] at hq1
    exact of_decide_eq_true hq1
  · split at hc1
    · have := of_decide_eq_true hc1; omega
    · split at hc1
      · have := of_decide_eq_true hc1; omega
      · exact of_decide_eq_true hc1
  · rw [if_pos h23] at hc1
    exact of_decide_eq_true hc1
theorem wr {x : Int} (h1 : -9223372036854775808 ≤ x) (h2 : x ≤ 9223372036854775807) : IntKind.i64.wrap x = x := wrap_i64 h1 (by omega)
def fsum (f : Ly → Int) : List Ly → Int
  | [] => 0
  | a :: r => f a + fsum f r
theorem fsum_append {f : Ly → Int} (l k : List Ly) : fsum f (l ++ k) = fsum f l + fsum f k := by
  induction l with
  | nil => simp [fsum]
  | cons a r ih => simp only [List.cons_append, fsum, ih]; omega
theorem fsum_set {f : Ly → Int} {l : List Ly} {i : Nat} {a : Ly} (hi : i < l.length) : fsum f (l.set i a) = fsum f l - f l[i] + f a := by
  induction l generalizing i with
  | nil => simp at hi
  | cons b r ih =>
    cases i with
    | zero => simp only [List.set_cons_zero, fsum, List.getElem_cons_zero]; omega
    | succ i =>
      simp only [List.set_cons_succ, fsum, List.getElem_cons_succ]
      rw [ih (by simpa using hi)]; omega
theorem fsum_non {f : Ly → Int} {l : List Ly} (h : ∀ a ∈ l, 0 ≤ f a) : 0 ≤ fsum f l := by
  induction l with
  | nil => simp [fsum]
  | cons a r ih =>
    have h1 := h a (List.mem_cons_self ..)
    have h2 := ih (fun b hb => h b (List.mem_cons_of_mem _ hb))
    simp only [fsum]; omega
theorem fsum_get {f : Ly → Int} {l : List Ly} (h : ∀ a ∈ l, 0 ≤ f a) {i : Nat} (hi : i < l.length) : 0 ≤ f l[i] ∧ f l[i] ≤ fsum f l := by
  induction l generalizing i with
  | nil => simp at hi
  | cons b r ih =>
    have h1 := h b (List.mem_cons_self ..)
    have hr : ∀ a ∈ r, 0 ≤ f a := fun c hc => h c (List.mem_cons_of_mem _ hc)
    have h2 := fsum_non hr
    cases i with
    | zero => simp only [List.getElem_cons_zero, fsum]; omega
    | succ i =>
      have := ih hr (i := i) (by simpa using hi)
      simp only [List.getElem_cons_succ, fsum]; omega
/-- Layers of a quantity and a value, none below zero. -/
structure Lay (l : List Ly) (q v : Int) : Prop where
  non : ∀ a ∈ l, 0 ≤ a.qty ∧ 0 ≤ a.value
  qty : fsum Ly.qty l = q
  value : fsum Ly.value l = v
variable {l : List Ly} {q v : Int}
theorem Lay.nonq (h : Lay l q v) : ∀ a ∈ l, 0 ≤ a.qty := fun a ha => (h.non a ha).1
theorem Lay.nonv (h : Lay l q v) : ∀ a ∈ l, 0 ≤ a.value := fun a ha => (h.non a ha).2
theorem Lay.pos (h : Lay l q v) : 0 ≤ q ∧ 0 ≤ v := ⟨by rw [← h.qty]; exact fsum_non h.nonq, by rw [← h.value]; exact fsum_non h.nonv⟩
theorem Lay.get (h : Lay l q v) {i : Nat} (hi : i < l.length) : 0 ≤ l[i].qty ∧ l[i].qty ≤ q ∧ 0 ≤ l[i].value ∧ l[i].value ≤ v := by
  have h1 := fsum_get h.nonq hi
  have h2 := fsum_get h.nonv hi
  rw [h.qty] at h1
  rw [h.value] at h2
  exact ⟨h1.1, h1.2, h2.1, h2.2⟩
theorem Lay.nil : Lay [] 0 0 := ⟨by simp, rfl, rfl⟩
theorem Lay.add (h : Lay l q v) {a : Ly} (h1 : 0 ≤ a.qty) (h2 : 0 ≤ a.value) : Lay (l ++ [a]) (q + a.qty) (v + a.value) :=
  ⟨mem_add_ok h.non ⟨h1, h2⟩, by rw [fsum_append, h.qty]; simp [fsum], by rw [fsum_append, h.value]; simp [fsum]⟩
theorem Lay.set (h : Lay l q v) {i : Nat} (hi : i < l.length) {a : Ly} (h1 : 0 ≤ a.qty) (h2 : 0 ≤ a.value) : Lay (l.set i a) (q - l[i].qty + a.qty) (v - l[i].value + a.value) :=
  ⟨mem_set_ok h.non ⟨h1, h2⟩, by rw [fsum_set hi, h.qty], by rw [fsum_set hi, h.value]⟩
/-! ### Rounding -/
theorem md_share {a b c : Int} (ha : 0 ≤ a) (hb : 0 ≤ b) (hc : 0 < c) : 0 ≤ (mdV a b c).1 ∧ (b ≤ c → a ≤ 9223372036854775807 → (mdV a b c).1 ≤ a) := by
  have hn : negV a b c = false := by
    unfold negV
    have e1 : decide (a < 0) = false := decide_eq_false (by omega)
    have e2 : decide (b < 0) = false := decide_eq_false (by omega)
    have e3 : decide (c < 0) = false := decide_eq_false (by omega)
    rw [e1, e2, e3]; simp
  unfold mdV
  rw [if_neg (by omega), hn]
  unfold sgnV
  simp only [Bool.false_eq_true, if_false]
  refine ⟨?_, fun hbc ha2 => ?_⟩
  · split
    · simp
    · simp
  · have hr : rnd (a.natAbs * b.natAbs) c.natAbs ≤ a.natAbs := by
      have hc0 : 0 < c.natAbs := by omega
      have hle : a.natAbs * b.natAbs ≤ a.natAbs * c.natAbs := Nat.mul_le_mul_left _ (by omega)
      have h1 : a.natAbs * b.natAbs / c.natAbs ≤ a.natAbs := by
        calc a.natAbs * b.natAbs / c.natAbs ≤ a.natAbs * c.natAbs / c.natAbs := Nat.div_le_div_right hle
          _ = a.natAbs := Nat.mul_div_cancel _ hc0
      unfold rnd
      split
      · rename_i haw
        have hdm := Nat.div_add_mod (a.natAbs * b.natAbs) c.natAbs
        by_cases he : a.natAbs * b.natAbs / c.natAbs = a.natAbs
        · exfalso
          rw [he] at hdm
          rw [Nat.mul_comm c.natAbs] at hdm
          have hm0 : (a.natAbs * b.natAbs) % c.natAbs = 0 := by omega
          rw [hm0] at haw
          simp [awayE] at haw
          omega
        · omega
      · exact h1
    split
    · simp only; omega
    · simp only; omega
theorem part_share {a b c : Int} (ha : 0 ≤ a) (ha2 : a ≤ 9223372036854775807) (hb : 0 ≤ b) (hbc : b ≤ c) : 0 ≤ partV a b c ∧ partV a b c ≤ a := by
  unfold partV
  split
  · exact ⟨ha, Int.le_refl _⟩
  · have h := md_share ha hb (c := c) (by omega)
    exact ⟨h.1, h.2 hbc ha2⟩
theorem part_all {a b : Int} : partV a b b = a := by unfold partV; rw [if_pos rfl]
/-! ### Taking from layers -/
theorem Lay.cons {a : Ly} (h : Lay l q v) (h1 : 0 ≤ a.qty) (h2 : 0 ≤ a.value) : Lay (a :: l) (a.qty + q) (a.value + v) :=
  ⟨fun b hb => by rcases List.mem_cons.mp hb with rfl | hb
                  · exact ⟨h1, h2⟩
                  · exact h.non b hb, by simp only [fsum]; rw [h.qty], by simp only [fsum]; rw [h.value]⟩
/-! ### Lots -/
end Go.X
end
section
set_option linter.unusedVariables false
set_option linter.unusedSimpArgs false
namespace Go.X
open Go.Proofs Go.RowKit
structure PaOk (p : Pa) : Prop where
  kind : p.kind = 1 ∨ p.kind = 2
  qty : 1 ≤ p.qty ∧ p.qty ≤ 1000000000
  used : 0 ≤ p.used ∧ p.used ≤ p.qty
  value : p.value ≤ 2000000000000000
  usedV : 0 ≤ p.usedV ∧ p.usedV ≤ p.value
  all : p.kind = 2 → p.used = p.qty → p.usedV = p.value
structure Inv (method : Int) (s : St) : Prop where
  qty : 0 ≤ s.qty ∧ s.qty ≤ 1000000000
  value : -1000000000000000 ≤ s.value ∧ s.value ≤ 1000000000000000
  non : method ≠ 3 → 0 ≤ s.value
  price : 0 ≤ s.price
  lay : method = 1 ∨ method = 4 → Lay s.layers s.qty s.value
  past : ∀ p ∈ s.past, PaOk p
/-- The change of the quantity in stock. -/
def chg (m : Mv) : Int := if m.kind = 1 ∨ m.kind = 3 then m.qty else if m.kind = 2 ∨ m.kind = 4 then -m.qty else 0
def usedP (p : Pa) (n d : Int) : Pa := ⟨p.seq, p.kind, p.lot, p.qty, p.value, p.used + n, p.usedV + d⟩
/-- What a movement does to the past. -/
structure PastE (past : List Pa) (m : Mv) (past' : List Pa) (c : Co) : Prop where
  one : m.kind = 1 → findP 0 m.seq past = none ∧ past' = past ++ [mkPa m m.cost]
  two : m.kind = 2 → findP 0 m.seq past = none ∧ c.var = 0 ∧ c.value ≤ 0 ∧ -2000000000000000 ≤ c.value ∧ past' = past ++ [mkPa m (-c.value)]
  three : m.kind = 3 → ∃ (i : Nat) (hi : i < past.length), findP 2 m.ref past = some i ∧ m.qty ≤ past[i].qty - past[i].used ∧
    IntKind.i64.wrap (c.value + c.var) = partV (past[i].value - past[i].usedV) m.qty (past[i].qty - past[i].used) ∧
    past' = past.set i (usedP past[i] m.qty (partV (past[i].value - past[i].usedV) m.qty (past[i].qty - past[i].used)))
  four : m.kind = 4 → ∃ (i : Nat) (hi : i < past.length), findP 1 m.ref past = some i ∧ m.qty ≤ past[i].qty - past[i].used ∧ past' = past.set i (usedP past[i] m.qty 0)
  five : 5 ≤ m.kind → past' = past
theorem idx_get {α : Type} {p : α → Bool} {l : List α} {i : Nat} (h : idxF p l = some i) (hi : i < l.length) : p l[i] = true := (idxF_lt h).2
theorem PastE.ok {past past' : List Pa} {m : Mv} {c : Co} (h : PastE past m past' c) (h1 : OneF m) (hp : ∀ p ∈ past, PaOk p) : ∀ p ∈ past', PaOk p := by
  have hk := h1.kind
  have hcost := h1.cost
  by_cases k1 : m.kind = 1
  · have hq := h1.qty (by omega)
    rw [(h.one k1).2]
    exact mem_add_ok hp ⟨.inl k1, hq, ⟨Int.le_refl _, by simp only [mkPa]; omega⟩, by simp only [mkPa]; omega, ⟨Int.le_refl _, by simp only [mkPa]; omega⟩, fun h2 => by simp only [mkPa] at h2; omega⟩
  by_cases k2 : m.kind = 2
  · have hq := h1.qty (by omega)
    obtain ⟨_, _, h4, h5, h6⟩ := h.two k2
    rw [h6]
    exact mem_add_ok hp ⟨.inr k2, hq, ⟨Int.le_refl _, by simp only [mkPa]; omega⟩, by simp only [mkPa]; omega, ⟨Int.le_refl _, by simp only [mkPa]; omega⟩, fun _ h2 => by simp only [mkPa] at h2; omega⟩
  by_cases k3 : m.kind = 3
  · have hq := h1.qty (by omega)
    obtain ⟨i, hi, hf, hle, _, he⟩ := h.three k3
    have pk := hp past[i] (List.getElem_mem hi)
    have ps := part_share (a := past[i].value - past[i].usedV) (b := m.qty) (c := past[i].qty - past[i].used) (by have := pk.usedV; omega) (by have := pk.usedV; have := pk.value; omega) (by omega) hle
    rw [he]
    have hu := pk.used
    have hv := pk.usedV
    refine mem_set_ok hp ⟨pk.kind, pk.qty, ?_, pk.value, ?_, fun h2 h3 => ?_⟩
    · simp only [usedP]; omega
    · simp only [usedP]; omega
    · simp only [usedP] at h3 ⊢
      have e : m.qty = past[i].qty - past[i].used := by omega
      rw [← e, part_all]; omega
  by_cases k4 : m.kind = 4
  · have hq := h1.qty (by omega)
    obtain ⟨i, hi, hf, hle, he⟩ := h.four k4
    have pk := hp past[i] (List.getElem_mem hi)
    have hki := idx_get hf hi
    unfold okP at hki
    simp only [Bool.and_eq_true, Bool.or_eq_true, decide_eq_true_eq] at hki
    rw [he]
    have hu := pk.used
    have hv := pk.usedV
    refine mem_set_ok hp ⟨pk.kind, pk.qty, ?_, pk.value, ?_, fun h2 h3 => ?_⟩
    · simp only [usedP]; omega
    · simp only [usedP]; omega
    · simp only [usedP] at h2; omega
  rw [h.five (by omega)]
  exact hp
/-! ### What the past has, by kinds -/
/-! ### First in, first out -/
end Go.X
end
section
set_option linter.unusedVariables false
set_option linter.unusedSimpArgs false
namespace Go.X
open Go.Proofs Go.RowKit
/-! ### Standard price -/
end Go.X
end
section
set_option linter.unusedVariables false
set_option linter.unusedSimpArgs false
namespace Go.X
open Go.Proofs Go.RowKit
theorem start_inv {method price : Int} (h : (startV method price).2 = 0) : Inv method (startV method price).1 := by
  revert h
  unfold startV
  split
  · intro h; cases h
  split
  · intro h; cases h
  rename_i hp
  have z : Inv method ⟨0, 0, 0, [], []⟩ := ⟨by simp, by simp, fun _ => Int.le_refl _, Int.le_refl _, fun _ => Lay.nil, by simp⟩
  split
  · intro _; exact ⟨by simp, by simp, fun _ => Int.le_refl _, by simp only; omega, fun _ => Lay.nil, by simp⟩
  · intro _; exact z
end Go.X
end
