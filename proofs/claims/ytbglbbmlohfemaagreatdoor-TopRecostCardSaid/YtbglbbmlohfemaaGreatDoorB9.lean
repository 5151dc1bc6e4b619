/- What a step does, for all methods; a run. -/
import Derived.Test.YtbglbbmlohfemaaGreatDoorB3
section
set_option linter.unusedVariables false
set_option linter.unusedSimpArgs false
namespace Go.X
open Go.Proofs Go.RowKit
/-- What an allowed movement is. -/
structure OneF (m : Mv) : Prop where
  kind : 1 ≤ m.kind ∧ m.kind ≤ 6
  qty : m.kind ≤ 4 → 1 ≤ m.qty ∧ m.qty ≤ 1000000000
  noqty : 5 ≤ m.kind → m.qty = 0
  cost : 0 ≤ m.cost ∧ m.cost ≤ 1000000000000
  nocost : m.kind = 2 ∨ m.kind = 3 → m.cost = 0
theorem one_facts {m : Mv} (h : oneV m = 0) : OneF m := by
  unfold oneV at h
  split at h
  · cases h
  split at h
  · cases h
  split at h
  · cases h
  rename_i hk
  have hk := Classical.not_not.mp hk
  split at h
  · cases h
  rename_i hq
  have hq1 : quantityV m = true := by
    cases hv : quantityV m with
    | true => rfl
    | false => exact absurd (Or.inl hv) hq
  have hc1 : costV m = true := by
    cases hv : costV m with
    | true => rfl
    | false => exact absurd (Or.inr hv) hq
  unfold quantityV at hq1
  unfold costV at hc1
  refine ⟨hk, fun h4 => ?_, fun h5 => ?_, ?_, fun h23 => ?_⟩
  · rw [if_neg (by omega)] at hq1
    exact of_decide_eq_true hq1
  · rw [if_pos (by omega)] at hq1
    exact of_decide_eq_true hq1
  · split at hc1
    · have := of_decide_eq_true hc1; omega
    · split at hc1
      · have := of_decide_eq_true hc1; omega
      · exact of_decide_eq_true hc1
  · rw [if_pos h23] at hc1
    exact of_decide_eq_true hc1
theorem wr {x : Int} (h1 : -9223372036854775808 ≤ x) (h2 : x ≤ 9223372036854775807) : IntKind.i64.wrap x = x := wrap_i64 h1 (by omega)
def fsum (f : Ly → Int) : List Ly → Int
  | [] => 0
  | a :: r => f a + fsum f r
theorem fsum_append {f : Ly → Int} (l k : List Ly) : fsum f (l ++ k) = fsum f l + fsum f k := by
  induction l with
  | nil => simp [fsum]
  | cons a r ih => simp only [List.cons_append, fsum, ih]; omega
theorem fsum_set {f : Ly → Int} {l : List Ly} {i : Nat} {a : Ly} (hi : i < l.length) : fsum f (l.set i a) = fsum f l - f l[i] + f a := by
  induction l generalizing i with
  | nil => simp at hi
  | cons b r ih =>
    cases i with
    | zero => simp only [List.set_cons_zero, fsum, List.getElem_cons_zero]; omega
    | succ i =>
      simp only [List.set_cons_succ, fsum, List.getElem_cons_succ]
      rw [ih (by simpa using hi)]; omega
theorem fsum_erase {f : Ly → Int} {l : List Ly} {i : Nat} (hi : i < l.length) : fsum f (l.eraseIdx i) = fsum f l - f l[i] := by
  induction l generalizing i with
  | nil => simp at hi
  | cons b r ih =>
    cases i with
    | zero => simp only [List.eraseIdx_cons_zero, fsum, List.getElem_cons_zero]; omega
    | succ i =>
      simp only [List.eraseIdx_cons_succ, fsum, List.getElem_cons_succ]
      rw [ih (by simpa using hi)]; omega
theorem fsum_non {f : Ly → Int} {l : List Ly} (h : ∀ a ∈ l, 0 ≤ f a) : 0 ≤ fsum f l := by
  induction l with
  | nil => simp [fsum]
  | cons a r ih =>
    have h1 := h a (List.mem_cons_self ..)
    have h2 := ih (fun b hb => h b (List.mem_cons_of_mem _ hb))
    simp only [fsum]; omega
theorem fsum_get {f : Ly → Int} {l : List Ly} (h : ∀ a ∈ l, 0 ≤ f a) {i : Nat} (hi : i < l.length) : 0 ≤ f l[i] ∧ f l[i] ≤ fsum f l := by
  induction l generalizing i with
  | nil => simp at hi
  | cons b r ih =>
    have h1 := h b (List.mem_cons_self ..)
    have hr : ∀ a ∈ r, 0 ≤ f a := fun c hc => h c (List.mem_cons_of_mem _ hc)
    have h2 := fsum_non hr
    cases i with
    | zero => simp only [List.getElem_cons_zero, fsum]; omega
    | succ i =>
      have := ih hr (i := i) (by simpa using hi)
      simp only [List.getElem_cons_succ, fsum]; omega
/-- Layers of a quantity and a value, none below zero. -/
structure Lay (l : List Ly) (q v : Int) : Prop where
  non : ∀ a ∈ l, 0 ≤ a.qty ∧ 0 ≤ a.value
  qty : fsum Ly.qty l = q
  value : fsum Ly.value l = v
variable {l : List Ly} {q v : Int}
theorem Lay.nonq (h : Lay l q v) : ∀ a ∈ l, 0 ≤ a.qty := fun a ha => (h.non a ha).1
theorem Lay.nonv (h : Lay l q v) : ∀ a ∈ l, 0 ≤ a.value := fun a ha => (h.non a ha).2
theorem Lay.pos (h : Lay l q v) : 0 ≤ q ∧ 0 ≤ v := ⟨by rw [← h.qty]; exact fsum_non h.nonq, by rw [← h.value]; exact fsum_non h.nonv⟩
theorem Lay.get (h : Lay l q v) {i : Nat} (hi : i < l.length) : 0 ≤ l[i].qty ∧ l[i].qty ≤ q ∧ 0 ≤ l[i].value ∧ l[i].value ≤ v := by
  have h1 := fsum_get h.nonq hi
  have h2 := fsum_get h.nonv hi
  rw [h.qty] at h1
  rw [h.value] at h2
  exact ⟨h1.1, h1.2, h2.1, h2.2⟩
theorem Lay.nil : Lay [] 0 0 := ⟨by simp, rfl, rfl⟩
theorem Lay.add (h : Lay l q v) {a : Ly} (h1 : 0 ≤ a.qty) (h2 : 0 ≤ a.value) : Lay (l ++ [a]) (q + a.qty) (v + a.value) :=
  ⟨mem_add_ok h.non ⟨h1, h2⟩, by rw [fsum_append, h.qty]; simp [fsum], by rw [fsum_append, h.value]; simp [fsum]⟩
theorem Lay.set (h : Lay l q v) {i : Nat} (hi : i < l.length) {a : Ly} (h1 : 0 ≤ a.qty) (h2 : 0 ≤ a.value) : Lay (l.set i a) (q - l[i].qty + a.qty) (v - l[i].value + a.value) :=
  ⟨mem_set_ok h.non ⟨h1, h2⟩, by rw [fsum_set hi, h.qty], by rw [fsum_set hi, h.value]⟩
theorem Lay.erase (h : Lay l q v) {i : Nat} (hi : i < l.length) : Lay (l.eraseIdx i) (q - l[i].qty) (v - l[i].value) :=
  ⟨fun b hb => h.non b (List.mem_of_mem_eraseIdx hb), by rw [fsum_erase hi, h.qty], by rw [fsum_erase hi, h.value]⟩
theorem Lay.cast (h : Lay l q v) {q' v' : Int} (h1 : q = q') (h2 : v = v') : Lay l q' v' := h1 ▸ h2 ▸ h
/-! ### Rounding -/
theorem md_share {a b c : Int} (ha : 0 ≤ a) (hb : 0 ≤ b) (hc : 0 < c) : 0 ≤ (mdV a b c).1 ∧ (b ≤ c → a ≤ 9223372036854775807 → (mdV a b c).1 ≤ a) := by
  have hn : negV a b c = false := by
    unfold negV
    have e1 : decide (a < 0) = false := decide_eq_false (by omega)
    have e2 : decide (b < 0) = false := decide_eq_false (by omega)
    have e3 : decide (c < 0) = false := decide_eq_false (by omega)
    rw [e1, e2, e3]; simp
  unfold mdV
  rw [if_neg (by omega), hn]
  unfold sgnV
  simp only [Bool.false_eq_true, if_false]
  refine ⟨?_, fun hbc ha2 => ?_⟩
  · split
    · simp
    · simp
  · have hr : rnd (a.natAbs * b.natAbs) c.natAbs ≤ a.natAbs := by
      have hc0 : 0 < c.natAbs := by omega
      have hle : a.natAbs * b.natAbs ≤ a.natAbs * c.natAbs := Nat.mul_le_mul_left _ (by omega)
      have h1 : a.natAbs * b.natAbs / c.natAbs ≤ a.natAbs := by
        calc a.natAbs * b.natAbs / c.natAbs ≤ a.natAbs * c.natAbs / c.natAbs := Nat.div_le_div_right hle
          _ = a.natAbs := Nat.mul_div_cancel _ hc0
      unfold rnd
      split
      · rename_i haw
        have hdm := Nat.div_add_mod (a.natAbs * b.natAbs) c.natAbs
        by_cases he : a.natAbs * b.natAbs / c.natAbs = a.natAbs
        · exfalso
          rw [he] at hdm
          rw [Nat.mul_comm c.natAbs] at hdm
          have hm0 : (a.natAbs * b.natAbs) % c.natAbs = 0 := by omega
          rw [hm0] at haw
          simp [awayE] at haw
          omega
        · omega
      · exact h1
    split
    · simp only; omega
    · simp only; omega
theorem part_share {a b c : Int} (ha : 0 ≤ a) (ha2 : a ≤ 9223372036854775807) (hb : 0 ≤ b) (hbc : b ≤ c) : 0 ≤ partV a b c ∧ partV a b c ≤ a := by
  unfold partV
  split
  · exact ⟨ha, Int.le_refl _⟩
  · have h := md_share ha hb (c := c) (by omega)
    exact ⟨h.1, h.2 hbc ha2⟩
theorem part_all {a b : Int} : partV a b b = a := by unfold partV; rw [if_pos rfl]
/-! ### Taking from layers -/
theorem take_lay {i : Nat} {n : Int} (hi : i < l.length) (h : Lay l q v) (hq : q ≤ 1000000000) (hv : v ≤ 4000000000000000) (hn : 0 ≤ n) (hle : n ≤ l[i].qty) :
    0 ≤ (takeV l i n).2 ∧ (takeV l i n).2 ≤ v ∧ Lay (takeV l i n).1 (q - n) (v - (takeV l i n).2) := by
  obtain ⟨h1, h2, h3, h4⟩ := h.get hi
  have hp := part_share (a := l[i].value) (b := n) (c := l[i].qty) h3 (by omega) hn hle
  have e1 : IntKind.i64.wrap (l[i].qty - n) = l[i].qty - n := wr (by omega) (by omega)
  have e2 : IntKind.i64.wrap (l[i].value - partV l[i].value n l[i].qty) = l[i].value - partV l[i].value n l[i].qty := wr (by omega) (by omega)
  unfold takeV
  simp only [List.getElem?_eq_getElem hi, e1, e2]
  refine ⟨hp.1, by omega, ?_⟩
  split
  · rename_i h0
    have e3 : n = l[i].qty := by omega
    have e4 : partV l[i].value n l[i].qty = l[i].value := by rw [e3, part_all]
    exact (h.erase hi).cast (by omega) (by omega)
  · exact (h.set hi (by simp only; omega) (by simp only; omega)).cast (by simp only; omega) (by simp only; omega)
theorem Lay.cons {a : Ly} (h : Lay l q v) (h1 : 0 ≤ a.qty) (h2 : 0 ≤ a.value) : Lay (a :: l) (a.qty + q) (a.value + v) :=
  ⟨fun b hb => by rcases List.mem_cons.mp hb with rfl | hb
                  · exact ⟨h1, h2⟩
                  · exact h.non b hb, by simp only [fsum]; rw [h.qty], by simp only [fsum]; rw [h.value]⟩
theorem issueL_lay : ∀ (l : List Ly) (left x q v : Int), Lay l q v → q ≤ 1000000000 → 0 ≤ x → x + v ≤ 4000000000000000 → 0 ≤ left → left ≤ q →
    ∃ y, 0 ≤ y ∧ y ≤ v ∧ (issueL l left x).2 = x + y ∧ Lay (issueL l left x).1 (q - left) (v - y) := by
  intro l
  induction l with
  | nil =>
    intro left x q v h hq hx hv h0 h1
    have hq0 := h.qty
    have hv0 := h.value
    simp only [fsum] at hq0 hv0
    exact ⟨0, by omega, by omega, by simp [issueL], by simp only [issueL]; exact h.cast (by omega) (by omega)⟩
  | cons a r ih =>
    intro left x q v h hq hx hv h0 h1
    have ha := h.non a (List.mem_cons_self ..)
    have hr : Lay r (q - a.qty) (v - a.value) := by
      have := h.erase (i := 0) (by simp)
      simpa using this
    have hrp := hr.pos
    unfold issueL
    split
    · exact ⟨0, by omega, by omega, by simp, h.cast (by omega) (by omega)⟩
    · split
      · have e : IntKind.i64.wrap (left - a.qty) = left - a.qty := wr (by omega) (by omega)
        have e2 : IntKind.i64.wrap (x + partV a.value a.qty a.qty) = x + a.value := by rw [part_all]; exact wr (by omega) (by omega)
        rw [e, e2]
        obtain ⟨y, y1, y2, y3, y4⟩ := ih (left - a.qty) (x + a.value) _ _ hr (by omega) (by omega) (by omega) (by omega) (by omega)
        exact ⟨a.value + y, by omega, by omega, by rw [y3]; omega, y4.cast (by omega) (by omega)⟩
      · have hp := part_share (a := a.value) (b := left) (c := a.qty) ha.2 (by omega) h0 (by omega)
        have e : IntKind.i64.wrap (a.qty - left) = a.qty - left := wr (by omega) (by omega)
        have e2 : IntKind.i64.wrap (a.value - partV a.value left a.qty) = a.value - partV a.value left a.qty := wr (by omega) (by omega)
        have e3 : IntKind.i64.wrap (x + partV a.value left a.qty) = x + partV a.value left a.qty := wr (by omega) (by omega)
        rw [e, e2, e3]
        refine ⟨partV a.value left a.qty, hp.1, by omega, rfl, ?_⟩
        simp only
        split
        · have e4 : partV a.value left a.qty = a.value := by rw [show left = a.qty by omega, part_all]
          exact hr.cast (by omega) (by omega)
        · exact (hr.cons (a := ⟨a.seq, a.lot, a.qty - left, a.value - partV a.value left a.qty⟩) (by simp only; omega) (by simp only; omega)).cast (by simp only; omega) (by simp only; omega)
/-! ### Lots -/
theorem lotQty_le {lot : ByteArray} (h : Lay l q v) : 0 ≤ lotQty lot l ∧ lotQty lot l ≤ q := by
  have hp := h.pos
  unfold lotQty
  split
  · rename_i h2
    have hlt := (lotAt_le lot l).2 h2
    rw [List.getElem?_eq_getElem hlt]
    have := h.get hlt
    exact ⟨this.1, this.2.1⟩
  · omega
theorem lotQty_get {lot : ByteArray} (h : 0 < lotQty lot l) : ∃ hi : (lotAt lot l).1 < l.length, l[(lotAt lot l).1].qty = lotQty lot l := by
  unfold lotQty at h ⊢
  split at h
  · rename_i h2
    have hlt := (lotAt_le lot l).2 h2
    rw [if_pos h2]
    rw [List.getElem?_eq_getElem hlt]
    exact ⟨hlt, rfl⟩
  · omega
theorem lotAdd_lay {lot : ByteArray} {n x : Int} (h : Lay l q v) (hq : q ≤ 1000000000) (hv : v ≤ 4000000000000000) (hn : 0 ≤ n) (hn2 : n ≤ 1000000000) (hx : 0 ≤ x) (hx2 : x ≤ 4000000000000000) :
    Lay (lotAdd lot n x l) (q + n) (v + x) := by
  unfold lotAdd
  have hle := lotAt_le lot l
  have hk : ∃ k, (if (lotAt lot l).2 then l else l.take (lotAt lot l).1 ++ ⟨0, lot, 0, 0⟩ :: l.drop (lotAt lot l).1) = k ∧ Lay k q v ∧ (lotAt lot l).1 < k.length := by
    split
    · rename_i h2
      exact ⟨l, rfl, h, hle.2 h2⟩
    · refine ⟨_, rfl, ⟨fun a ha => ?_, ?_, ?_⟩, by simp; omega⟩
      · rcases List.mem_append.mp ha with ha | ha
        · exact h.non a (List.mem_of_mem_take ha)
        · rcases List.mem_cons.mp ha with rfl | ha
          · exact ⟨Int.le_refl _, Int.le_refl _⟩
          · exact h.non a (List.mem_of_mem_drop ha)
      · have e := h.qty
        rw [← List.take_append_drop (lotAt lot l).1 l, fsum_append] at e
        rw [fsum_append]; simp only [fsum]; omega
      · have e := h.value
        rw [← List.take_append_drop (lotAt lot l).1 l, fsum_append] at e
        rw [fsum_append]; simp only [fsum]; omega
  obtain ⟨k, hk, hl, hlt⟩ := hk
  simp only [hk, List.getElem?_eq_getElem hlt]
  obtain ⟨h1, h2, h3, h4⟩ := hl.get hlt
  have e1 : IntKind.i64.wrap (k[(lotAt lot l).1].qty + n) = k[(lotAt lot l).1].qty + n := wr (by omega) (by omega)
  have e2 : IntKind.i64.wrap (k[(lotAt lot l).1].value + x) = k[(lotAt lot l).1].value + x := wr (by omega) (by omega)
  unfold Ly.plus
  rw [e1, e2]
  exact (hl.set hlt (by simp only; omega) (by simp only; omega)).cast (by simp only; omega) (by simp only; omega)
end Go.X
end
section
set_option linter.unusedVariables false
set_option linter.unusedSimpArgs false
namespace Go.X
open Go.Proofs Go.RowKit
structure PaOk (p : Pa) : Prop where
  kind : p.kind = 1 ∨ p.kind = 2
  qty : 1 ≤ p.qty ∧ p.qty ≤ 1000000000
  used : 0 ≤ p.used ∧ p.used ≤ p.qty
  value : p.value ≤ 2000000000000000
  usedV : 0 ≤ p.usedV ∧ p.usedV ≤ p.value
  all : p.kind = 2 → p.used = p.qty → p.usedV = p.value
structure Inv (method : Int) (s : St) : Prop where
  qty : 0 ≤ s.qty ∧ s.qty ≤ 1000000000
  value : -1000000000000000 ≤ s.value ∧ s.value ≤ 1000000000000000
  non : method ≠ 3 → 0 ≤ s.value
  price : 0 ≤ s.price
  lay : method = 1 ∨ method = 4 → Lay s.layers s.qty s.value
  past : ∀ p ∈ s.past, PaOk p
/-- The change of the quantity in stock. -/
def chg (m : Mv) : Int := if m.kind = 1 ∨ m.kind = 3 then m.qty else if m.kind = 2 ∨ m.kind = 4 then -m.qty else 0
def usedP (p : Pa) (n d : Int) : Pa := ⟨p.seq, p.kind, p.lot, p.qty, p.value, p.used + n, p.usedV + d⟩
/-- What a movement does to the past. -/
structure PastE (past : List Pa) (m : Mv) (past' : List Pa) (c : Co) : Prop where
  one : m.kind = 1 → findP 0 m.seq past = none ∧ past' = past ++ [mkPa m m.cost]
  two : m.kind = 2 → findP 0 m.seq past = none ∧ c.var = 0 ∧ c.value ≤ 0 ∧ -2000000000000000 ≤ c.value ∧ past' = past ++ [mkPa m (-c.value)]
  three : m.kind = 3 → ∃ (i : Nat) (hi : i < past.length), findP 2 m.ref past = some i ∧ m.qty ≤ past[i].qty - past[i].used ∧
    IntKind.i64.wrap (c.value + c.var) = partV (past[i].value - past[i].usedV) m.qty (past[i].qty - past[i].used) ∧
    past' = past.set i (usedP past[i] m.qty (partV (past[i].value - past[i].usedV) m.qty (past[i].qty - past[i].used)))
  four : m.kind = 4 → ∃ (i : Nat) (hi : i < past.length), findP 1 m.ref past = some i ∧ m.qty ≤ past[i].qty - past[i].used ∧ past' = past.set i (usedP past[i] m.qty 0)
  five : 5 ≤ m.kind → past' = past
structure EachE (m : Mv) (c : Co) : Prop where
  sum : m.kind = 1 ∨ m.kind = 5 → IntKind.i64.wrap (c.value + c.var) = m.cost
  send : m.kind = 4 → IntKind.i64.wrap (c.value + c.var) = -m.cost
  price : m.kind = 6 → IntKind.i64.wrap (c.value + c.var) = 0
structure Eff (method : Int) (s : St) (m : Mv) (t : St) (c : Co) : Prop where
  one : OneF m
  qty : c.qty = chg m
  sum : t.qty = s.qty + c.qty
  inv : Inv method t
  past : PastE s.past m t.past c
  each : EachE m c
theorem idx_get {α : Type} {p : α → Bool} {l : List α} {i : Nat} (h : idxF p l = some i) (hi : i < l.length) : p l[i] = true := (idxF_lt h).2
theorem PastE.ok {past past' : List Pa} {m : Mv} {c : Co} (h : PastE past m past' c) (h1 : OneF m) (hp : ∀ p ∈ past, PaOk p) : ∀ p ∈ past', PaOk p := by
  have hk := h1.kind
  have hcost := h1.cost
  by_cases k1 : m.kind = 1
  · have hq := h1.qty (by omega)
    rw [(h.one k1).2]
    exact mem_add_ok hp ⟨.inl k1, hq, ⟨Int.le_refl _, by simp only [mkPa]; omega⟩, by simp only [mkPa]; omega, ⟨Int.le_refl _, by simp only [mkPa]; omega⟩, fun h2 => by simp only [mkPa] at h2; omega⟩
  by_cases k2 : m.kind = 2
  · have hq := h1.qty (by omega)
    obtain ⟨_, _, h4, h5, h6⟩ := h.two k2
    rw [h6]
    exact mem_add_ok hp ⟨.inr k2, hq, ⟨Int.le_refl _, by simp only [mkPa]; omega⟩, by simp only [mkPa]; omega, ⟨Int.le_refl _, by simp only [mkPa]; omega⟩, fun _ h2 => by simp only [mkPa] at h2; omega⟩
  by_cases k3 : m.kind = 3
  · have hq := h1.qty (by omega)
    obtain ⟨i, hi, hf, hle, _, he⟩ := h.three k3
    have pk := hp past[i] (List.getElem_mem hi)
    have ps := part_share (a := past[i].value - past[i].usedV) (b := m.qty) (c := past[i].qty - past[i].used) (by have := pk.usedV; omega) (by have := pk.usedV; have := pk.value; omega) (by omega) hle
    rw [he]
    have hu := pk.used
    have hv := pk.usedV
    refine mem_set_ok hp ⟨pk.kind, pk.qty, ?_, pk.value, ?_, fun h2 h3 => ?_⟩
    · simp only [usedP]; omega
    · simp only [usedP]; omega
    · simp only [usedP] at h3 ⊢
      have e : m.qty = past[i].qty - past[i].used := by omega
      rw [← e, part_all]; omega
  by_cases k4 : m.kind = 4
  · have hq := h1.qty (by omega)
    obtain ⟨i, hi, hf, hle, he⟩ := h.four k4
    have pk := hp past[i] (List.getElem_mem hi)
    have hki := idx_get hf hi
    unfold okP at hki
    simp only [Bool.and_eq_true, Bool.or_eq_true, decide_eq_true_eq] at hki
    rw [he]
    have hu := pk.used
    have hv := pk.usedV
    refine mem_set_ok hp ⟨pk.kind, pk.qty, ?_, pk.value, ?_, fun h2 h3 => ?_⟩
    · simp only [usedP]; omega
    · simp only [usedP]; omega
    · simp only [usedP] at h2; omega
  rw [h.five (by omega)]
  exact hp
/-- What an operation with layers does. -/
structure OpE (s : St) (m : Mv) (l : List Ly) (past : List Pa) (c : Co) : Prop where
  qty : c.qty = chg m
  low : -2000000000000000 ≤ c.value ∧ c.value ≤ 4000000000000000
  lay : Lay l (s.qty + c.qty) (s.value + c.value)
  past : PastE s.past m past c
  each : EachE m c
theorem chg_in {m : Mv} (hk : m.kind = 1 ∨ m.kind = 3) : chg m = m.qty := by unfold chg; rw [if_pos hk]
theorem chg_out {m : Mv} (hk : m.kind = 2 ∨ m.kind = 4) : chg m = -m.qty := by unfold chg; rw [if_neg (by omega), if_pos hk]
theorem chg_no {m : Mv} (hk : 5 ≤ m.kind) : chg m = 0 := by unfold chg; rw [if_neg (by omega), if_neg (by omega)]
theorem far_of {x : Int} (h : farV x = false) : -1000000000000000 ≤ x ∧ x ≤ 1000000000000000 := by
  unfold farV at h
  have := of_decide_eq_false h
  omega
/-! ### What the past has, by kinds -/
theorem pastE_one {past : List Pa} {m : Mv} {c : Co} (hk : m.kind = 1) (hf : findP 0 m.seq past = none) : PastE past m (past ++ [mkPa m m.cost]) c :=
  ⟨fun _ => ⟨hf, rfl⟩, fun h => by omega, fun h => by omega, fun h => by omega, fun h => by omega⟩
theorem pastE_two {past : List Pa} {m : Mv} {c : Co} {x : Int} (hk : m.kind = 2) (hf : findP 0 m.seq past = none) (hv : c.var = 0) (h1 : 0 ≤ x) (h2 : x ≤ 2000000000000000) (hx : c.value = -x) : PastE past m (past ++ [mkPa m x]) c :=
  ⟨fun h => by omega, fun _ => ⟨hf, hv, by omega, by omega, by rw [hx]; simp⟩, fun h => by omega, fun h => by omega, fun h => by omega⟩
theorem pastE_three {past : List Pa} {m : Mv} {c : Co} {i : Nat} {p : Pa} (hk : m.kind = 3) (h1 : OneF m) (hp : ∀ p ∈ past, PaOk p) (hf : findP 2 m.ref past = some i) (hpi : past[i]? = some p) (hle : ¬ IntKind.i64.wrap (p.qty - p.used) < m.qty)
    (hd : IntKind.i64.wrap (c.value + c.var) = partV (IntKind.i64.wrap (p.value - p.usedV)) m.qty (IntKind.i64.wrap (p.qty - p.used))) :
    PastE past m (past.set i ⟨p.seq, p.kind, p.lot, p.qty, p.value, IntKind.i64.wrap (p.used + m.qty), IntKind.i64.wrap (p.usedV + partV (IntKind.i64.wrap (p.value - p.usedV)) m.qty (IntKind.i64.wrap (p.qty - p.used)))⟩) c ∧
    0 ≤ partV (IntKind.i64.wrap (p.value - p.usedV)) m.qty (IntKind.i64.wrap (p.qty - p.used)) ∧ partV (IntKind.i64.wrap (p.value - p.usedV)) m.qty (IntKind.i64.wrap (p.qty - p.used)) ≤ 2000000000000000 := by
  obtain ⟨hi, rfl⟩ := List.getElem?_eq_some_iff.1 hpi
  have pk := hp past[i] (List.getElem_mem hi)
  have hq := h1.qty (by omega)
  have u1 := pk.qty
  have u2 := pk.used
  have u3 := pk.value
  have u4 := pk.usedV
  have e1 : IntKind.i64.wrap (past[i].qty - past[i].used) = past[i].qty - past[i].used := wr (by omega) (by omega)
  have e2 : IntKind.i64.wrap (past[i].value - past[i].usedV) = past[i].value - past[i].usedV := wr (by omega) (by omega)
  have e3 : IntKind.i64.wrap (past[i].used + m.qty) = past[i].used + m.qty := wr (by omega) (by omega)
  rw [e1] at hle
  have ps := part_share (a := past[i].value - past[i].usedV) (b := m.qty) (c := past[i].qty - past[i].used) (by omega) (by omega) (by omega) (by omega)
  have e4 : IntKind.i64.wrap (past[i].usedV + partV (past[i].value - past[i].usedV) m.qty (past[i].qty - past[i].used)) = past[i].usedV + partV (past[i].value - past[i].usedV) m.qty (past[i].qty - past[i].used) := wr (by omega) (by omega)
  rw [e1, e2] at hd ⊢
  rw [e3, e4]
  exact ⟨⟨fun h => by omega, fun h => by omega, fun _ => ⟨i, hi, hf, by omega, hd, rfl⟩, fun h => by omega, fun h => by omega⟩, ps.1, by omega⟩
theorem pastE_four {past : List Pa} {m : Mv} {c : Co} {i : Nat} {p : Pa} (hk : m.kind = 4) (h1 : OneF m) (hp : ∀ p ∈ past, PaOk p) (hf : findP 1 m.ref past = some i) (hpi : past[i]? = some p) (hle : ¬ IntKind.i64.wrap (p.qty - p.used) < m.qty) :
    PastE past m (past.set i ⟨p.seq, p.kind, p.lot, p.qty, p.value, IntKind.i64.wrap (p.used + m.qty), p.usedV⟩) c := by
  obtain ⟨hi, rfl⟩ := List.getElem?_eq_some_iff.1 hpi
  have pk := hp past[i] (List.getElem_mem hi)
  have hq := h1.qty (by omega)
  have u1 := pk.qty
  have u2 := pk.used
  have e1 : IntKind.i64.wrap (past[i].qty - past[i].used) = past[i].qty - past[i].used := wr (by omega) (by omega)
  have e3 : IntKind.i64.wrap (past[i].used + m.qty) = past[i].used + m.qty := wr (by omega) (by omega)
  rw [e1] at hle
  rw [e3]
  exact ⟨fun h => by omega, fun h => by omega, fun h => by omega, fun _ => ⟨i, hi, hf, by omega, by simp [usedP]⟩, fun h => by omega⟩
theorem pastE_five {past : List Pa} {m : Mv} {c : Co} (hk : 5 ≤ m.kind) : PastE past m past c :=
  ⟨fun h => by omega, fun h => by omega, fun h => by omega, fun h => by omega, fun _ => rfl⟩
theorem w_part {a b : Int} (hb : I64 b) : IntKind.i64.wrap (a + IntKind.i64.wrap (b - a)) = b := by
  have h := hb; unfold I64 at h
  rw [IntKind.wrap_i64, IntKind.wrap_i64]; omega
theorem w_send {a b : Int} (hb : 0 ≤ b) (hb2 : b ≤ 1000000000000) : IntKind.i64.wrap (IntKind.i64.wrap (0 - a) + IntKind.i64.wrap (a - b)) = -b := by
  rw [IntKind.wrap_i64, IntKind.wrap_i64, IntKind.wrap_i64]; omega
theorem w_neg {a : Int} : IntKind.i64.wrap (a + IntKind.i64.wrap (0 - a)) = 0 := by
  rw [IntKind.wrap_i64, IntKind.wrap_i64]; omega
theorem each_sum {m : Mv} {c : Co} (hk : m.kind = 1 ∨ m.kind = 5) (h : IntKind.i64.wrap (c.value + c.var) = m.cost) : EachE m c := ⟨fun _ => h, fun h => by omega, fun h => by omega⟩
theorem each_no {m : Mv} {c : Co} (hk : m.kind = 2 ∨ m.kind = 3) : EachE m c := ⟨fun h => by omega, fun h => by omega, fun h => by omega⟩
theorem each_send {m : Mv} {c : Co} (hk : m.kind = 4) (h : IntKind.i64.wrap (c.value + c.var) = -m.cost) : EachE m c := ⟨fun h => by omega, fun _ => h, fun h => by omega⟩
theorem each_price {m : Mv} {c : Co} (hk : m.kind = 6) (h : IntKind.i64.wrap (c.value + c.var) = 0) : EachE m c := ⟨fun h => by omega, fun h => by omega, fun _ => h⟩
/-! ### First in, first out -/
theorem refV_find {k : Int} {s : Fx} {i : Nat} (h : (refV k s).1 = some i) : findP k s.m.ref s.t.past = some i := by
  unfold refV at h
  split at h
  · cases h
  · rename_i j hj
    split at h
    · cases h
    · split at h
      · cases h
      · cases h; exact hj
theorem refV_rest {k : Int} {s : Fx} {i : Nat} {p : Pa} (h : (refV k s).1 = some i) (hp : s.t.past[i]? = some p) : ¬ IntKind.i64.wrap (p.qty - p.used) < s.m.qty := by
  obtain ⟨hi, _, h3⟩ := refV_lt h
  obtain ⟨_, rfl⟩ := List.getElem?_eq_some_iff.1 hp
  exact h3
theorem fifoDo_e {s : St} {m : Mv} {c0 : Co} (hc0 : c0.qty = 0 ∧ c0.value = 0 ∧ c0.var = 0) (hi : Inv 1 s) (h1 : OneF m) (hf : findP 0 m.seq s.past = none) (he : (fifoDo ⟨s, m, c0⟩).2 = 0) (hov : ∀ a ∈ (fifoDo ⟨s, m, c0⟩).1.t.layers, farV a.value = false) :
    OpE s m (fifoDo ⟨s, m, c0⟩).1.t.layers (fifoDo ⟨s, m, c0⟩).1.t.past (fifoDo ⟨s, m, c0⟩).1.c := by
  have hl := hi.lay (.inl rfl)
  have hq := hi.qty
  have hv := hi.value
  have hv0 := hi.non (by decide)
  have hcost := h1.cost
  obtain ⟨z1, z2, z3⟩ := hc0
  revert he hov
  unfold fifoDo
  split
  · rename_i hk
    intro _ _
    simp only at hk
    have hm := h1.qty (by omega)
    refine ⟨by simp [receiveV, chg_in (.inl hk)], by simp [receiveV]; omega, ?_, pastE_one hk hf, each_sum (.inl hk) ?_⟩
    · simp only [receiveV, Fx.setC_t, Fx.setP_l, Fx.setL_l, Fx.setC_c]
      exact hl.add (by simp only; omega) (by simp only; omega)
    · simp only [receiveV, Fx.setC_c, z3, Int.add_zero]; exact wr (by omega) (by omega)
  split
  · rename_i hk
    simp only at hk
    have hm := h1.qty (by omega)
    split
    · intro h; cases h
    · rename_i hge
      simp only at hge
      intro _ _
      obtain ⟨y, y1, y2, y3, y4⟩ := issueL_lay s.layers m.qty 0 _ _ hl hq.2 (Int.le_refl _) (by omega) (by omega) (by omega)
      rw [Int.zero_add] at y3
      have e1 : IntKind.i64.wrap (0 - m.qty) = -m.qty := by rw [wr (by omega) (by omega)]; omega
      have e2 : IntKind.i64.wrap (0 - y) = -y := by rw [wr (by omega) (by omega)]; omega
      have ec : (issueV ⟨s, m, c0⟩).c = ⟨c0.seq, -m.qty, -y, c0.var⟩ := by simp only [issueV, Fx.setC_c, y3, e1, e2]
      have ep : (issueV ⟨s, m, c0⟩).t.past = s.past ++ [mkPa m y] := by simp only [issueV, Fx.setC_t, Fx.setP_p, Fx.setL_p, y3, mkPa]
      have el : (issueV ⟨s, m, c0⟩).t.layers = (issueL s.layers m.qty 0).1 := by simp only [issueV, Fx.setC_t, Fx.setP_l, Fx.setL_l]
      simp only [ec, ep, el]
      exact ⟨(chg_out (.inl hk)).symm, by simp only; omega, y4.cast (by simp only; omega) (by simp only; omega), pastE_two hk hf z3 y1 (by omega) rfl, each_no (.inl hk)⟩
  split
  · rename_i hk
    simp only at hk
    have hm := h1.qty (by omega)
    unfold backV
    cases hr : (refV 2 ⟨s, m, c0⟩).1 with
    | none => intro h; exact absurd h (refV_none hr)
    | some i =>
      simp only
      cases hp : s.past[i]? with
      | none => intro h; cases h
      | some p =>
        intro _ _
        have hfd := refV_find hr
        have hrs := refV_rest (p := p) hr hp
        simp only at hfd hrs
        have hpe := pastE_three (c := ⟨c0.seq, m.qty, partV (IntKind.i64.wrap (p.value - p.usedV)) m.qty (IntKind.i64.wrap (p.qty - p.used)), c0.var⟩) hk h1 hi.past hfd hp hrs
        simp only [z3, Int.add_zero] at hpe
        have hw : I64 (partV (IntKind.i64.wrap (p.value - p.usedV)) m.qty (IntKind.i64.wrap (p.qty - p.used))) := partV_I64 (I64.wrap _)
        obtain ⟨p1, p2, p3⟩ := hpe (I64.same hw)
        simp only [Fx.setC_t, Fx.setC_c, Fx.setL_l, Fx.setP_l, Fx.setL_p, Fx.setP_p, z3]
        generalize partV (IntKind.i64.wrap (p.value - p.usedV)) m.qty (IntKind.i64.wrap (p.qty - p.used)) = d at *
        exact ⟨(chg_in (.inr hk)).symm, by simp only; omega, hl.add (by simp only; omega) (by simp only; omega), p1, each_no (.inr hk)⟩
  split
  · rename_i hk
    simp only at hk
    have hm := h1.qty (by omega)
    unfold sendV
    cases hr : (refV 1 ⟨s, m, c0⟩).1 with
    | none => intro h; exact absurd h (refV_none hr)
    | some i =>
      simp only
      cases hp : s.past[i]? with
      | none => intro h; cases h
      | some p =>
        simp only
        cases hj : idxF (fun a : Ly => decide (a.seq = m.ref)) s.layers with
        | none => intro h; cases h
        | some j =>
          simp only
          cases ha : s.layers[j]? with
          | none => intro h; cases h
          | some a =>
            simp only
            split
            · intro h; cases h
            rename_i hge
            intro _ _
            have hfd := refV_find hr
            have hrs := refV_rest (p := p) hr hp
            simp only at hfd hrs
            obtain ⟨hj', hja⟩ := List.getElem?_eq_some_iff.1 ha
            obtain ⟨t1, t2, t3⟩ := take_lay (n := m.qty) hj' hl hq.2 (by omega) (by omega) (by rw [hja]; omega)
            simp only [Fx.setC_t, Fx.setC_c, Fx.setL_l, Fx.setP_l, Fx.setL_p, Fx.setP_p]
            generalize (takeV s.layers j m.qty).2 = y at *
            have e1 : IntKind.i64.wrap (0 - m.qty) = -m.qty := by rw [wr (by omega) (by omega)]; omega
            have e2 : IntKind.i64.wrap (0 - y) = -y := by rw [wr (by omega) (by omega)]; omega
            have hs := w_send (a := y) hcost.1 hcost.2
            rw [e2] at hs
            rw [e1, e2]
            exact ⟨(chg_out (.inr hk)).symm, by simp only; omega, t3.cast (by simp only; omega) (by simp only; omega), pastE_four hk h1 hi.past hfd hp hrs, each_send hk hs⟩
  split
  · rename_i hk
    simp only at hk
    unfold landV
    cases hr : (refV 1 ⟨s, m, c0⟩).1 with
    | none => intro h; exact absurd h (refV_none hr)
    | some i =>
      simp only
      cases hp : s.past[i]? with
      | none => intro h; cases h
      | some p =>
        simp only
        cases hj : idxF (fun a : Ly => decide (a.seq = m.ref)) s.layers with
        | none =>
          intro _ _
          simp only [Fx.setC_t, Fx.setC_c, z1, z2]
          exact ⟨(chg_no (by omega)).symm, by simp only; omega, hl.cast (by simp only; omega) (by simp only; omega), pastE_five (by omega), each_sum (.inr hk) (w_part ⟨by omega, by omega⟩)⟩
        | some j =>
          simp only
          cases ha : s.layers[j]? with
          | none => intro h; cases h
          | some a =>
            simp only
            split
            · intro h; cases h
            intro _ hov
            obtain ⟨hj', hja⟩ := List.getElem?_eq_some_iff.1 ha
            subst hja
            have hg := hl.get hj'
            have pk := hi.past p (List.mem_of_getElem? hp)
            have hn : 0 ≤ (landShare m.cost s.layers[j].qty p.qty).1 ∧ (landShare m.cost s.layers[j].qty p.qty).1 ≤ 9223372036854775807 := by
              unfold landShare
              split
              · simp only; omega
              · have := md_share (a := m.cost) (b := s.layers[j].qty) (c := p.qty) hcost.1 hg.1 (by have := pk.qty; omega)
                have h2 : I64 (mdV m.cost s.layers[j].qty p.qty).1 := mdV_I64
                exact ⟨this.1, by have := h2.2; simp only; omega⟩
            simp only [Fx.setC_t, Fx.setC_c, Fx.setL_l, Fx.setL_p, z1] at hov ⊢
            generalize (landShare m.cost s.layers[j].qty p.qty).1 = y at *
            have hfar := far_of (hov ⟨s.layers[j].seq, s.layers[j].lot, s.layers[j].qty, IntKind.i64.wrap (s.layers[j].value + y)⟩ (List.mem_set hj' _))
            simp only at hfar
            have e1 : IntKind.i64.wrap (s.layers[j].value + y) = s.layers[j].value + y := by
              rw [IntKind.wrap_i64] at hfar ⊢; omega
            rw [e1] at hfar ⊢
            exact ⟨(chg_no (by omega)).symm, by simp only; omega, (hl.set hj' (a := ⟨s.layers[j].seq, s.layers[j].lot, s.layers[j].qty, s.layers[j].value + y⟩) (by simp only; omega) (by simp only; omega)).cast (by simp only; omega) (by simp only; omega), pastE_five (by omega), each_sum (.inr hk) (w_part ⟨by omega, by omega⟩)⟩
  intro h; cases h
theorem fifo_eff {s : St} {m : Mv} (hi : Inv 1 s) (he : (fifoV s m).2.2 = 0) : Eff 1 s m (fifoV s m).1 (fifoV s m).2.1 := by
  revert he
  unfold fifoV
  split
  · intro h; contradiction
  rename_i h1
  have h1 := one_facts (Classical.not_not.mp h1)
  split
  · intro h; cases h
  rename_i hf
  have hf : findP 0 m.seq s.past = none := by simpa using hf
  simp only
  split
  · intro h; contradiction
  rename_i h0
  split
  · intro h; cases h
  rename_i hov
  intro _
  have hov : overV (fifoDo ⟨s, m, ⟨m.seq, 0, 0, 0⟩⟩).1.sum = false := by simpa using hov
  have hk := fifoDo_keep ⟨s, m, ⟨m.seq, 0, 0, 0⟩⟩
  have hop := fifoDo_e (c0 := ⟨m.seq, 0, 0, 0⟩) ⟨rfl, rfl, rfl⟩ hi h1 hf (Classical.not_not.mp h0)
  generalize fifoDo ⟨s, m, ⟨m.seq, 0, 0, 0⟩⟩ = r at *
  unfold overV Fx.sum at hov
  simp only [Bool.or_eq_false_iff, decide_eq_false_iff_not] at hov
  obtain ⟨⟨⟨o1, o2⟩, o3⟩, o4⟩ := hov
  have hop := hop (by intro a ha; have := List.any_eq_false.1 o1 a ha; simpa using this)
  have hpos := hop.lay.pos
  have hq := hi.qty
  have hv := hi.value
  have hlow := hop.low
  simp only at hk
  have eq : IntKind.i64.wrap (r.1.t.qty + r.1.c.qty) = s.qty + r.1.c.qty := by
    rw [hk.1]
    have hc := hop.qty
    have h4 := h1.qty
    have h5 := h1.noqty
    have : r.1.c.qty ≤ 1000000000 := by
      rw [hc]; unfold chg
      split
      · exact (h4 (by omega)).2
      · split
        · have := h4 (by omega); omega
        · omega
    exact wr (by omega) (by omega)
  have ev : IntKind.i64.wrap (r.1.t.value + r.1.c.value) = s.value + r.1.c.value := by rw [hk.2.1]; exact wr (by omega) (by omega)
  rw [eq] at o2
  rw [ev] at o3
  have h3 := far_of o3
  unfold Fx.sum
  rw [eq, ev]
  exact ⟨h1, hop.qty, rfl, ⟨⟨hpos.1, by simp only; omega⟩, h3, fun _ => hpos.2, by simp only [hk.2.2.1]; exact hi.price, fun _ => hop.lay, hop.past.ok h1 hi.past⟩, hop.past, hop.each⟩
end Go.X
end
section
set_option linter.unusedVariables false
set_option linter.unusedSimpArgs false
namespace Go.X
open Go.Proofs Go.RowKit
theorem refS_find {k : Int} {s : St} {m : Mv} {i : Nat} (h : (refS k s m).1 = some i) : findP k m.ref s.past = some i := by
  unfold refS at h
  split at h
  · cases h
  · rename_i j hj
    split at h
    · cases h
    · split at h
      · cases h
      · cases h; exact hj
theorem refS_rest {k : Int} {s : St} {m : Mv} {i : Nat} {p : Pa} (h : (refS k s m).1 = some i) (hp : s.past[i]? = some p) : ¬ IntKind.i64.wrap (p.qty - p.used) < m.qty := by
  obtain ⟨hi, _, h3⟩ := refS_lt h
  obtain ⟨_, rfl⟩ := List.getElem?_eq_some_iff.1 hp
  exact h3
/-- What an operation without layers does. -/
structure OpN (s : St) (m : Mv) (t : St) (c : Co) : Prop where
  qty : c.qty = chg m
  low : 0 ≤ s.qty + c.qty
  val : 0 ≤ s.value + c.value ∧ c.value ≤ 4000000000000000
  price : t.price = s.price
  past : PastE s.past m t.past c
  each : EachE m c
theorem avgDo_e {s : St} {m : Mv} (hi : Inv 2 s) (h1 : OneF m) (hf : findP 0 m.seq s.past = none) (he : (avgDo s m).2.2 = 0) : OpN s m (avgDo s m).1 (avgDo s m).2.1 := by
  have hq := hi.qty
  have hv := hi.value
  have hv0 := hi.non (by decide)
  have hcost := h1.cost
  revert he
  unfold avgDo
  split
  · rename_i hk
    intro _
    have hm := h1.qty (by omega)
    unfold avgReceive
    exact ⟨(chg_in (.inl hk)).symm, by simp only; omega, by simp only; omega, rfl, pastE_one hk hf, each_sum (.inl hk) (by simp only [Int.add_zero]; exact wr (by omega) (by omega))⟩
  split
  · rename_i hk
    have hm := h1.qty (by omega)
    unfold avgIssue
    split
    · intro h; cases h
    · intro _
      have hp := part_share (a := s.value) (b := m.qty) (c := s.qty) hv0 (by omega) (by omega) (by omega)
      simp only
      generalize partV s.value m.qty s.qty = y at *
      have e1 : IntKind.i64.wrap (0 - m.qty) = -m.qty := by rw [wr (by omega) (by omega)]; omega
      have e2 : IntKind.i64.wrap (0 - y) = -y := by rw [wr (by omega) (by omega)]; omega
      rw [e1, e2]
      exact ⟨(chg_out (.inl hk)).symm, by simp only; omega, by simp only; omega, rfl, pastE_two hk hf rfl hp.1 (by omega) rfl, each_no (.inl hk)⟩
  split
  · rename_i hk
    have hm := h1.qty (by omega)
    unfold avgBack
    cases hr : (refS 2 s m).1 with
    | none => intro h; exact absurd h (refS_none hr)
    | some i =>
      simp only
      cases hp : s.past[i]? with
      | none => intro h; cases h
      | some p =>
        intro _
        have hfd := refS_find hr
        have hrs := refS_rest (p := p) hr hp
        have hpe := pastE_three (c := ⟨m.seq, m.qty, partV (IntKind.i64.wrap (p.value - p.usedV)) m.qty (IntKind.i64.wrap (p.qty - p.used)), 0⟩) hk h1 hi.past hfd hp hrs
        simp only [Int.add_zero] at hpe
        have hw : I64 (partV (IntKind.i64.wrap (p.value - p.usedV)) m.qty (IntKind.i64.wrap (p.qty - p.used))) := partV_I64 (I64.wrap _)
        obtain ⟨p1, p2, p3⟩ := hpe (I64.same hw)
        simp only
        generalize partV (IntKind.i64.wrap (p.value - p.usedV)) m.qty (IntKind.i64.wrap (p.qty - p.used)) = d at *
        exact ⟨(chg_in (.inr hk)).symm, by simp only; omega, by simp only; omega, rfl, p1, each_no (.inr hk)⟩
  split
  · rename_i hk
    have hm := h1.qty (by omega)
    unfold avgSend
    cases hr : (refS 1 s m).1 with
    | none => intro h; exact absurd h (refS_none hr)
    | some i =>
      simp only
      cases hp : s.past[i]? with
      | none => intro h; cases h
      | some p =>
        simp only
        split
        · intro h; cases h
        intro _
        have hfd := refS_find hr
        have hrs := refS_rest (p := p) hr hp
        have hp' := part_share (a := s.value) (b := m.qty) (c := s.qty) hv0 (by omega) (by omega) (by omega)
        simp only
        generalize partV s.value m.qty s.qty = y at *
        have e1 : IntKind.i64.wrap (0 - m.qty) = -m.qty := by rw [wr (by omega) (by omega)]; omega
        have e2 : IntKind.i64.wrap (0 - y) = -y := by rw [wr (by omega) (by omega)]; omega
        have hs := w_send (a := y) hcost.1 hcost.2
        rw [e2] at hs
        rw [e1, e2]
        exact ⟨(chg_out (.inr hk)).symm, by simp only; omega, by simp only; omega, rfl, pastE_four hk h1 hi.past hfd hp hrs, each_send hk hs⟩
  split
  · rename_i hk
    unfold avgLand
    cases hr : (refS 1 s m).1 with
    | none => intro h; exact absurd h (refS_none hr)
    | some i =>
      simp only
      cases hp : s.past[i]? with
      | none => intro h; cases h
      | some p =>
        intro _
        have pk := hi.past p (List.mem_of_getElem? hp)
        have hpq := pk.qty
        have hp' := part_share (a := m.cost) (b := if s.qty < p.qty then s.qty else p.qty) (c := p.qty) hcost.1 (by omega) (by split <;> omega) (by split <;> omega)
        simp only
        generalize partV m.cost (if s.qty < p.qty then s.qty else p.qty) p.qty = y at *
        exact ⟨(chg_no (by omega)).symm, by simp only; omega, by simp only; omega, rfl, pastE_five (by omega), each_sum (.inr hk) (w_part ⟨by omega, by omega⟩)⟩
  intro h; cases h
theorem chg_le {m : Mv} (h1 : OneF m) : -1000000000 ≤ chg m ∧ chg m ≤ 1000000000 := by
  unfold chg
  split
  · have := h1.qty (by omega); omega
  · split
    · have := h1.qty (by omega); omega
    · omega
theorem avg_eff {s : St} {m : Mv} (hi : Inv 2 s) (he : (avgV s m).2.2 = 0) : Eff 2 s m (avgV s m).1 (avgV s m).2.1 := by
  revert he
  unfold avgV
  split
  · intro h; contradiction
  rename_i h1
  have h1 := one_facts (Classical.not_not.mp h1)
  split
  · intro h; cases h
  rename_i hf
  have hf : findP 0 m.seq s.past = none := by simpa using hf
  simp only
  split
  · intro h; contradiction
  rename_i h0
  split
  · intro h; cases h
  rename_i hov
  intro _
  have hk := avgDo_p.keep (s := s) (m := m)
  have hop := avgDo_e hi h1 hf (Classical.not_not.mp h0)
  generalize avgDo s m = r at *
  unfold St.add at hov ⊢
  simp only [Bool.or_eq_true, decide_eq_true_eq, not_or] at hov
  obtain ⟨⟨o2, o3⟩, o4⟩ := hov
  have hq := hi.qty
  have hv := hi.value
  have hlow := hop.low
  have hval := hop.val
  have hc := chg_le h1
  have hcq := hop.qty
  have eq : IntKind.i64.wrap (r.1.qty + r.2.1.qty) = s.qty + r.2.1.qty := by rw [hk.1]; exact wr (by omega) (by omega)
  have ev : IntKind.i64.wrap (r.1.value + r.2.1.value) = s.value + r.2.1.value := by rw [hk.2]; exact wr (by omega) (by omega)
  rw [eq] at o2
  rw [ev] at o3
  have h3 := far_of (by simpa using o3)
  rw [eq, ev]
  exact ⟨h1, hop.qty, rfl, ⟨⟨hlow, by simp only; omega⟩, h3, fun _ => hval.1, by simp only; rw [hop.price]; exact hi.price, fun h => by omega, hop.past.ok h1 hi.past⟩, hop.past, hop.each⟩
/-! ### Standard price -/
theorem find_zero {past : List Pa} {n : Int} (hp : ∀ p ∈ past, PaOk p) (h1 : findP 1 n past = none) (h2 : findP 2 n past = none) : findP 0 n past = none := by
  unfold findP idxF at h1 h2 ⊢
  rw [List.findIdx?_eq_none_iff] at h1 h2 ⊢
  intro x hx
  have a1 := h1 x hx
  have a2 := h2 x hx
  have hk := (hp x hx).kind
  unfold okP at a1 a2 ⊢
  rcases hk with hk | hk
  · rw [hk] at a1; simpa using a1
  · rw [hk] at a2; simpa using a2
/-- What an operation at the standard price does, if the sum with the value is in range. -/
structure OpS (s : St) (m : Mv) (t : St) (c : Co) : Prop where
  qty : c.qty = chg m
  low : 0 ≤ s.qty + c.qty
  price : 0 ≤ t.price
  past : -1000000000000000 ≤ s.value + c.value → s.value + c.value ≤ 1000000000000000 → PastE s.past m t.past c
  each : EachE m c
theorem stdDo_e {s : St} {m : Mv} (hi : Inv 3 s) (h1 : OneF m) (hf : findP 0 m.seq s.past = none) (he : (stdDo s m).2.2 = 0) : OpS s m (stdDo s m).1 (stdDo s m).2.1 := by
  have hq := hi.qty
  have hv := hi.value
  have hpr := hi.price
  have hcost := h1.cost
  have hfit : ¬ (fitV (m.qty * s.price)).2 = false → I64 (m.qty * s.price) := fun h => ((fitV_ok _).2 (by simpa using h)).2
  have hcI : I64 m.cost := ⟨by omega, by omega⟩
  revert he
  unfold stdDo
  split
  · rename_i hk
    have hm := h1.qty (by omega)
    unfold stdReceipt
    split
    · intro h; cases h
    · intro _
      exact ⟨(chg_in (.inl hk)).symm, by simp only; omega, hpr, fun _ _ => pastE_one hk hf, each_sum (.inl hk) (w_part hcI)⟩
  split
  · rename_i hk
    have hm := h1.qty (by omega)
    unfold stdIssue
    split
    · intro h; cases h
    split
    · intro h; cases h
    · rename_i hft
      intro _
      have hb := hfit hft
      have hpos : 0 ≤ m.qty * s.price := Int.mul_nonneg (by omega) hpr
      simp only
      generalize m.qty * s.price = y at *
      unfold I64 at hb
      have e1 : IntKind.i64.wrap (0 - m.qty) = -m.qty := by rw [wr (by omega) (by omega)]; omega
      have e2 : IntKind.i64.wrap (0 - y) = -y := by rw [wr (by omega) (by omega)]; omega
      rw [e1, e2]
      exact ⟨(chg_out (.inl hk)).symm, by simp only; omega, hpr, fun h1 h2 => pastE_two hk hf rfl hpos (by simp only at h1; omega) rfl, each_no (.inl hk)⟩
  split
  · rename_i hk
    have hm := h1.qty (by omega)
    unfold stdCustomer
    cases hr : (refS 2 s m).1 with
    | none => intro h; exact absurd h (refS_none hr)
    | some i =>
      simp only
      cases hp : s.past[i]? with
      | none => intro h; cases h
      | some p =>
        simp only
        split
        · intro h; cases h
        intro _
        have hfd := refS_find hr
        have hrs := refS_rest (p := p) hr hp
        have hw : I64 (partV (IntKind.i64.wrap (p.value - p.usedV)) m.qty (IntKind.i64.wrap (p.qty - p.used))) := partV_I64 (I64.wrap _)
        have hpe := pastE_three (c := ⟨0, m.qty, m.qty * s.price, IntKind.i64.wrap (partV (IntKind.i64.wrap (p.value - p.usedV)) m.qty (IntKind.i64.wrap (p.qty - p.used)) - m.qty * s.price)⟩) hk h1 hi.past hfd hp hrs (w_part hw)
        exact ⟨(chg_in (.inr hk)).symm, by simp only; omega, hpr, fun _ _ => hpe.1, each_no (.inr hk)⟩
  split
  · rename_i hk
    have hm := h1.qty (by omega)
    unfold stdSupplier
    cases hr : (refS 1 s m).1 with
    | none => intro h; exact absurd h (refS_none hr)
    | some i =>
      simp only
      cases hp : s.past[i]? with
      | none => intro h; cases h
      | some p =>
        simp only
        split
        · intro h; cases h
        split
        · intro h; cases h
        intro _
        have hfd := refS_find hr
        have hrs := refS_rest (p := p) hr hp
        simp only
        have e1 : IntKind.i64.wrap (0 - m.qty) = -m.qty := by rw [wr (by omega) (by omega)]; omega
        have hs := w_send (a := m.qty * s.price) hcost.1 hcost.2
        rw [e1]
        exact ⟨(chg_out (.inr hk)).symm, by simp only; omega, hpr, fun _ _ => pastE_four hk h1 hi.past hfd hp hrs, each_send hk hs⟩
  split
  · rename_i hk
    unfold stdLanded
    cases hr : (refS 1 s m).1 with
    | none => intro h; exact absurd h (refS_none hr)
    | some i =>
      intro _
      exact ⟨(chg_no (by omega)).symm, by simp only; omega, hpr, fun _ _ => pastE_five (by omega), each_sum (.inr hk) (by simp only [Int.zero_add]; exact I64.same hcI)⟩
  · have hk : m.kind = 6 := by have := h1.kind; omega
    unfold stdReprice
    simp only
    split
    · intro h; cases h
    · intro _
      exact ⟨(chg_no (by omega)).symm, by simp only; omega, hcost.1, fun _ _ => pastE_five (by omega), each_price hk w_neg⟩
theorem std_eff {s : St} {m : Mv} (hi : Inv 3 s) (he : (stdV s m).2.2 = 0) : Eff 3 s m (stdV s m).1 (stdV s m).2.1 := by
  revert he
  unfold stdV
  split
  · intro h; contradiction
  rename_i h1
  have h1 := one_facts (Classical.not_not.mp h1)
  split
  · intro h; cases h
  rename_i hf
  rw [not_or] at hf
  have hf : findP 0 m.seq s.past = none := find_zero hi.past (by simpa using hf.1) (by simpa using hf.2)
  simp only
  split
  · intro h; contradiction
  rename_i h0
  split
  · intro h; cases h
  rename_i hov
  intro _
  have hop := stdDo_e hi h1 hf (Classical.not_not.mp h0)
  generalize stdDo s m = r at *
  rw [not_or, not_or, not_or] at hov
  obtain ⟨o1, o2, o3, o4⟩ := hov
  have hfv := (fitV_ok (s.value + r.2.1.value)).2 (by simpa using o1)
  have hq := hi.qty
  have hlow := hop.low
  have hc := chg_le h1
  have hcq := hop.qty
  have eq : IntKind.i64.wrap (s.qty + r.2.1.qty) = s.qty + r.2.1.qty := wr (by omega) (by omega)
  rw [eq] at o2
  rw [hfv.1] at o3
  have h3 := far_of (by simpa using o3)
  rw [eq, hfv.1]
  have hpe := hop.past h3.1 h3.2
  have hpe2 : PastE s.past m r.1.past ⟨m.seq, r.2.1.qty, r.2.1.value, r.2.1.var⟩ := ⟨hpe.one, hpe.two, hpe.three, hpe.four, hpe.five⟩
  exact ⟨h1, hop.qty, rfl, ⟨⟨hlow, by simp only; omega⟩, h3, fun h => absurd rfl h, hop.price, fun h => by omega, hpe.ok h1 hi.past⟩, hpe2, ⟨hop.each.sum, hop.each.send, hop.each.price⟩⟩
end Go.X
end
section
set_option linter.unusedVariables false
set_option linter.unusedSimpArgs false
namespace Go.X
open Go.Proofs Go.RowKit
theorem lotDo_e {s : St} {m : Mv} (hi : Inv 4 s) (h1 : OneF m) (hf : findP 0 m.seq s.past = none) (he : (lotDo s m).2.2 = 0) : OpE s m (lotDo s m).1.layers (lotDo s m).1.past (lotDo s m).2.1 := by
  have hl := hi.lay (.inr rfl)
  have hq := hi.qty
  have hv := hi.value
  have hv0 := hi.non (by decide)
  have hcost := h1.cost
  revert he
  unfold lotDo
  split
  · rename_i hk
    have hm := h1.qty (by omega)
    unfold lotReceive
    split
    · intro h; cases h
    intro _
    exact ⟨(chg_in (.inl hk)).symm, by simp only; omega, lotAdd_lay hl hq.2 (by omega) (by omega) (by omega) (by omega) (by omega), pastE_one hk hf, each_sum (.inl hk) (by simp only [Int.add_zero]; exact wr (by omega) (by omega))⟩
  split
  · rename_i hk
    have hm := h1.qty (by omega)
    unfold lotIssue
    split
    · intro h; cases h
    split
    · intro h; cases h
    · intro _
      obtain ⟨hj, hja⟩ := lotQty_get (lot := m.lot) (l := s.layers) (by omega)
      obtain ⟨t1, t2, t3⟩ := take_lay (n := m.qty) hj hl hq.2 (by omega) (by omega) (by rw [hja]; omega)
      simp only [St.setP_l, St.setL_l, St.setP_p]
      generalize (takeV s.layers (lotAt m.lot s.layers).1 m.qty).2 = y at *
      have e1 : IntKind.i64.wrap (0 - m.qty) = -m.qty := by rw [wr (by omega) (by omega)]; omega
      have e2 : IntKind.i64.wrap (0 - y) = -y := by rw [wr (by omega) (by omega)]; omega
      rw [e1, e2]
      exact ⟨(chg_out (.inl hk)).symm, by simp only; omega, t3.cast (by simp only; omega) (by simp only; omega), pastE_two hk hf rfl t1 (by omega) rfl, each_no (.inl hk)⟩
  split
  · rename_i hk
    have hm := h1.qty (by omega)
    unfold lotBack
    cases hr : (refS 2 s m).1 with
    | none => intro h; exact absurd h (refS_none hr)
    | some i =>
      simp only
      cases hp : s.past[i]? with
      | none => intro h; cases h
      | some p =>
        intro _
        have hfd := refS_find hr
        have hrs := refS_rest (p := p) hr hp
        have hpe := pastE_three (c := ⟨0, m.qty, partV (IntKind.i64.wrap (p.value - p.usedV)) m.qty (IntKind.i64.wrap (p.qty - p.used)), 0⟩) hk h1 hi.past hfd hp hrs
        simp only [Int.add_zero] at hpe
        have hw : I64 (partV (IntKind.i64.wrap (p.value - p.usedV)) m.qty (IntKind.i64.wrap (p.qty - p.used))) := partV_I64 (I64.wrap _)
        obtain ⟨p1, p2, p3⟩ := hpe (I64.same hw)
        simp only [St.setL_l, St.setL_p, St.setP_p]
        generalize partV (IntKind.i64.wrap (p.value - p.usedV)) m.qty (IntKind.i64.wrap (p.qty - p.used)) = d at *
        exact ⟨(chg_in (.inr hk)).symm, by simp only; omega, lotAdd_lay hl hq.2 (by omega) (by omega) (by omega) (by omega) (by omega), p1, each_no (.inr hk)⟩
  split
  · rename_i hk
    have hm := h1.qty (by omega)
    unfold lotSend
    cases hr : (refS 1 s m).1 with
    | none => intro h; exact absurd h (refS_none hr)
    | some i =>
      simp only
      cases hp : s.past[i]? with
      | none => intro h; cases h
      | some p =>
        simp only
        split
        · intro h; cases h
        intro _
        have hfd := refS_find hr
        have hrs := refS_rest (p := p) hr hp
        obtain ⟨hj, hja⟩ := lotQty_get (lot := p.lot) (l := s.layers) (by omega)
        obtain ⟨t1, t2, t3⟩ := take_lay (n := m.qty) hj hl hq.2 (by omega) (by omega) (by rw [hja]; omega)
        simp only [St.setP_l, St.setL_l, St.setP_p, St.setL_p]
        generalize (takeV s.layers (lotAt p.lot s.layers).1 m.qty).2 = y at *
        have e1 : IntKind.i64.wrap (0 - m.qty) = -m.qty := by rw [wr (by omega) (by omega)]; omega
        have e2 : IntKind.i64.wrap (0 - y) = -y := by rw [wr (by omega) (by omega)]; omega
        have hs := w_send (a := y) hcost.1 hcost.2
        rw [e2] at hs
        rw [e1, e2]
        exact ⟨(chg_out (.inr hk)).symm, by simp only; omega, t3.cast (by simp only; omega) (by simp only; omega), pastE_four hk h1 hi.past hfd hp hrs, each_send hk hs⟩
  split
  · rename_i hk
    unfold lotLand
    cases hr : (refS 1 s m).1 with
    | none => intro h; exact absurd h (refS_none hr)
    | some i =>
      simp only
      cases hp : s.past[i]? with
      | none => intro h; cases h
      | some p =>
        have pk := hi.past p (List.mem_of_getElem? hp)
        have hpq := pk.qty
        have hlq := lotQty_le (lot := p.lot) hl
        simp only
        have hb : 0 ≤ (if lotQty p.lot s.layers < p.qty then lotQty p.lot s.layers else p.qty) ∧ (if lotQty p.lot s.layers < p.qty then lotQty p.lot s.layers else p.qty) ≤ p.qty := by split <;> omega
        generalize (if lotQty p.lot s.layers < p.qty then lotQty p.lot s.layers else p.qty) = b at *
        split
        · intro _
          exact ⟨(chg_no (by omega)).symm, by simp only; omega, hl.cast (by simp only; omega) (by simp only; omega), pastE_five (by omega), each_sum (.inr hk) (by simp only [Int.zero_add]; exact wr (by omega) (by omega))⟩
        · intro _
          have hp' := part_share (a := m.cost) (b := b) (c := p.qty) hcost.1 (by omega) hb.1 hb.2
          generalize partV m.cost b p.qty = y at *
          exact ⟨(chg_no (by omega)).symm, by simp only; omega, (lotAdd_lay (n := 0) hl hq.2 (by omega) (Int.le_refl _) (by omega) hp'.1 (by omega)).cast (by simp only) (by simp only), pastE_five (by omega), each_sum (.inr hk) (w_part ⟨by omega, by omega⟩)⟩
  intro h; cases h
theorem lots_eff {s : St} {m : Mv} (hi : Inv 4 s) (he : (lotsV s m).2.2 = 0) : Eff 4 s m (lotsV s m).1 (lotsV s m).2.1 := by
  revert he
  unfold lotsV
  split
  · intro h; contradiction
  rename_i h1
  have h1 := one_facts (Classical.not_not.mp h1)
  split
  · intro h; cases h
  rename_i hf
  have hf : findP 0 m.seq s.past = none := by simpa using hf
  simp only
  split
  · intro h; contradiction
  rename_i h0
  split
  · intro h; cases h
  rename_i hov
  intro _
  have hk := lotDo_p.keep (s := s) (m := m)
  have hpr : (lotDo s m).1.price = s.price := by
    unfold lotDo
    split
    · unfold lotReceive; split <;> rfl
    split
    · unfold lotIssue
      split
      · rfl
      · split <;> rfl
    split
    · unfold lotBack
      split
      · rfl
      · split <;> rfl
    split
    · unfold lotSend
      split
      · rfl
      · split
        · rfl
        · split <;> rfl
    split
    · unfold lotLand
      split
      · rfl
      · split
        · rfl
        · rename_i p _
          simp only
          generalize (if lotQty p.lot s.layers < p.qty then lotQty p.lot s.layers else p.qty) = b
          split <;> rfl
    rfl
  have hop := lotDo_e hi h1 hf (Classical.not_not.mp h0)
  generalize lotDo s m = r at *
  unfold lotOver St.add at hov
  unfold St.add
  simp only [Bool.or_eq_true, decide_eq_true_eq, not_or] at hov
  obtain ⟨⟨⟨o1, o2⟩, o3⟩, o4⟩ := hov
  have hpos := hop.lay.pos
  have hq := hi.qty
  have hv := hi.value
  have hlow := hop.low
  have hc := chg_le h1
  have hcq := hop.qty
  have eq : IntKind.i64.wrap (r.1.qty + r.2.1.qty) = s.qty + r.2.1.qty := by rw [hk.1]; exact wr (by omega) (by omega)
  have ev : IntKind.i64.wrap (r.1.value + r.2.1.value) = s.value + r.2.1.value := by rw [hk.2]; exact wr (by omega) (by omega)
  rw [eq] at o2
  rw [ev] at o3
  have h3 := far_of (by simpa using o3)
  rw [eq, ev]
  have hpe := hop.past
  have hpe2 : PastE s.past m r.1.past ⟨m.seq, r.2.1.qty, r.2.1.value, r.2.1.var⟩ := ⟨hpe.one, hpe.two, hpe.three, hpe.four, hpe.five⟩
  exact ⟨h1, hop.qty, rfl, ⟨⟨hpos.1, by simp only; omega⟩, h3, fun _ => hpos.2, by simp only [hpr]; exact hi.price, fun _ => hop.lay, hpe.ok h1 hi.past⟩, hpe2, ⟨hop.each.sum, hop.each.send, hop.each.price⟩⟩
theorem step_eff {method : Int} {s : St} {m : Mv} (hi : Inv method s) (he : (stepV method s m).2.2 = 0) : Eff method s m (stepV method s m).1 (stepV method s m).2.1 := by
  revert he
  unfold stepV
  split
  · rename_i h; subst h; exact fifo_eff hi
  split
  · rename_i h; subst h; exact avg_eff hi
  split
  · rename_i h; subst h; exact std_eff hi
  split
  · rename_i h; subst h; exact lots_eff hi
  intro h; cases h
theorem start_inv {method price : Int} (h : (startV method price).2 = 0) : Inv method (startV method price).1 := by
  revert h
  unfold startV
  split
  · intro h; cases h
  split
  · intro h; cases h
  rename_i hp
  have z : Inv method ⟨0, 0, 0, [], []⟩ := ⟨by simp, by simp, fun _ => Int.le_refl _, Int.le_refl _, fun _ => Lay.nil, by simp⟩
  split
  · intro _; exact ⟨by simp, by simp, fun _ => Int.le_refl _, by simp only; omega, fun _ => Lay.nil, by simp⟩
  · intro _; exact z
end Go.X
end
