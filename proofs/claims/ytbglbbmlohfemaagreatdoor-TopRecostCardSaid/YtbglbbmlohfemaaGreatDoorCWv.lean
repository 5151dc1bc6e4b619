/- TopRecost: entered. -/
import Derived.Test.YtbglbbmlohfemaaGreatDoorCWu
set_option linter.unusedVariables false
set_option linter.unusedSimpArgs false
namespace Go.X
open Go.Proofs Go.RowKit
attribute [local irreducible] l_append l_copy l_make l_run l_runU q_slice q_eq q_index q_build onSome l_lit q_read
variable {w w' w'' : World} {B x : Nat} {r : Option Nat} {method : Int} {s0 : St} {L : List Mv} {m : Mv}
/-- A trade as a movement. -/
def mvT (t : Tr) : Mv := ⟨0, t.day, ⟨#[120]⟩, if t.qty < 0 then 2 else 1, if t.qty < 0 then -t.qty else t.qty, if t.qty < 0 then 0 else t.cost, lotL, 0⟩
theorem mvT_ok {t : Tr} (h : TrV t) : (mvT t).Ok := by
  have h1 := h.day
  have h2 := h.qty
  have h3 := h.cost
  unfold mvT
  refine ⟨by unfold I64; simp only; omega, by unfold I64; simp only; omega, by unfold I64; simp only; split <;> omega, by unfold I64; simp only; split <;> omega, by unfold I64; simp only; split <;> omega, by unfold I64; simp only; omega⟩
theorem codeX : codeV ⟨#[120]⟩ = true := by kernel_rfl
theorem codeL : codeV lotL = true := by kernel_rfl
theorem mvT_trd {t : Tr} (h : TrV t) : Trd (mvT t) := by
  have h1 := h.day
  have h2 := h.qty
  have h3 := h.cost
  have hk : (mvT t).kind = 1 ∨ (mvT t).kind = 2 := by unfold mvT; simp only; split <;> simp
  have hq : 1 ≤ (mvT t).qty ∧ (mvT t).qty ≤ 1000 := by unfold mvT; simp only; split <;> omega
  have hc : 0 ≤ (mvT t).cost ∧ (mvT t).cost ≤ 1000000 := by unfold mvT; simp only; split <;> omega
  refine ⟨?_, hk, hq, hc, rfl⟩
  have hcode : codeV (mvT t).item = true := codeX
  have hlot : codeV (mvT t).lot = true := codeL
  have hv : 0 ≤ (mvT t).value ∧ (mvT t).value ≤ 109572 := h1
  have hr : (mvT t).ref = 0 := rfl
  have hc2 : (mvT t).kind = 2 → (mvT t).cost = 0 := by
    unfold mvT; simp only
    by_cases hn : t.qty < 0
    · simp [hn]
    · simp [hn]
  generalize mvT t = m at *
  unfold oneV
  rw [if_neg (fun hh => hh hv), if_neg (by rw [hcode]; simp), if_neg (fun hh => hh (by omega))]
  have e1 : quantityV m = true := by unfold quantityV; rw [if_neg (by omega)]; exact decide_eq_true (by omega)
  have e2 : costV m = true := by
    unfold costV
    rcases hk with h | h
    · rw [if_neg (by omega), if_neg (by omega)]; exact decide_eq_true (by omega)
    · rw [if_pos (.inl h)]; exact decide_eq_true (hc2 h)
  have e3 : lotV m = true := by
    unfold lotV
    rw [hlot]
    have : decide (m.kind = 1 ∨ m.kind = 2) = true := decide_eq_true hk
    rw [this]; simp
  have e4 : refersV m.kind = false := by unfold refersV; exact decide_eq_false (by omega)
  rw [e1, e2, e3, e4, hr]
  simp
theorem move59_ok {t : Tr} {n : Nat} (h : TrV t) (hn : n ≤ 1000000) : Calc 59 [.agg #[.int .i64 t.day, .int .i64 t.qty, .int .i64 t.cost], .int .i64 (n : Int)] w (reseq n (mvT t)).v := by
  intro K hK
  have h2 := h.qty
  refine lift59 ?_
  unfold L59
  rw [l_new_eq, cells_agg]
  have hb1 := (Below.refl w.heap.size w).alloc (Nat.le_refl _) (.cells #[.int .i64 t.day, .int .i64 t.qty, .int .i64 t.cost] 56)
  have hk1 := new_blk w (.cells #[.int .i64 t.day, .int .i64 t.qty, .int .i64 t.cost] 56) _ rfl
  generalize w.alloc (.cells #[.int .i64 t.day, .int .i64 t.qty, .int .i64 t.cost] 56) = W1 at *
  rw [l_new_eq]
  have hb12 := (Below.refl W1.heap.size W1).alloc (Nat.le_refl _) (.cells #[.int .i64 0, .int .i64 0, .string ⟨#[]⟩, .int .i64 0, .int .i64 0, .int .i64 0, .string ⟨#[]⟩, .int .i64 0] 47)
  have hk2 := new_blk W1 (.cells #[.int .i64 0, .int .i64 0, .string ⟨#[]⟩, .int .i64 0, .int .i64 0, .int .i64 0, .string ⟨#[]⟩, .int .i64 0] 47) _ rfl
  generalize W1.alloc (.cells #[.int .i64 0, .int .i64 0, .string ⟨#[]⟩, .int .i64 0, .int .i64 0, .int .i64 0, .string ⟨#[]⟩, .int .i64 0] 47) = W2 at *
  have hk12 := (blk_below hb12 (lt_of_blk hk1)).trans hk1
  have hb02 := hb1.then hb12
  have hb := hb1.size
  simp [hk12]
  rw [build_of (cs := #[.int .i64 (n : Int), .int .i64 t.day, .string ⟨#[120]⟩, .int .i64 1, .int .i64 t.qty, .int .i64 t.cost, .string ⟨#[108]⟩, .int .i64 0]) (by simp), onSome_some]
  refine var_mv (m := ⟨(n : Int), t.day, ⟨#[120]⟩, 1, t.qty, t.cost, ⟨#[108]⟩, 0⟩) (fun W4 hb4 hk4 hs4 => ?_)
  have hk14 := (blk_below hb4 (lt_of_blk hk12)).trans hk12
  have hk24 := (blk_below hb4 (lt_of_blk hk2)).trans hk2
  have hb04 := hb02.then hb4
  have hs := hb02.size
  simp only [Mv.cs] at hk4
  have n1 : ¬ W2.heap.size = w.heap.size := by have := lt_of_blk hk12; omega
  have n2 : ¬ W2.heap.size = W1.heap.size := by have := lt_of_blk hk2; omega
  have n3 : ¬ W1.heap.size = W2.heap.size := fun e => n2 e.symm
  have n4 : ¬ w.heap.size = W2.heap.size := fun e => n1 e.symm
  by_cases hq : t.qty < 0
  · have e1 : IntKind.i64.wrap (0 - t.qty) = -t.qty := by rw [wr (by omega) (by omega)]; omega
    have e1' : IntKind.i64.wrap (-t.qty) = -t.qty := wr (by omega) (by omega)
    have := hK _ (below_putL (below_putL (below_putL (below_putL hb04 hs [.int .i64 2] 3) hs [.int .i64 (-t.qty)] 4) hs [.int .i64 0] 5) hb [.int .i64 (n : Int), .int .i64 t.day, .string ⟨#[120]⟩, .int .i64 2, .int .i64 (-t.qty), .int .i64 0, .string ⟨#[108]⟩, .int .i64 0] 0)
    unfold reseq mvT Mv.v Mv.cs at this
    simp only [if_pos hq, lotL] at this
    simp [hk14, hk4, hq, n1, n2, n3, n4, hk24, e1, e1']
    exact this
  · have := hK _ (below_putL hb04 hb [.int .i64 (n : Int), .int .i64 t.day, .string ⟨#[120]⟩, .int .i64 1, .int .i64 t.qty, .int .i64 t.cost, .string ⟨#[108]⟩, .int .i64 0] 0)
    unfold reseq mvT Mv.v Mv.cs at this
    simp only [if_neg hq, lotL] at this
    simp [hk14, hk4, hq, n1, n2, n3, n4, hk24]
    exact this
/-! ### entered -/
def selP (p : Nat) (l : List Tr) : List Mv := (l.filter fun t => decide (t.qty < 0) == decide (p = 1)).map mvT
def enX (l : List Tr) : Nat → List Mv
  | 0 => []
  | 1 => selP 0 l
  | _ => selP 0 l ++ selP 1 l
theorem enX_succ (l : List Tr) {p : Nat} (h : p < 2) : enX l (p + 1) = enX l p ++ selP p l := by
  match p, h with
  | 0, _ => rfl
  | 1, _ => rfl
theorem selP_take {l : List Tr} {p i : Nat} (hi : i < l.length) : selP p (l.take (i + 1)) = selP p (l.take i) ++ (if decide (l[i].qty < 0) == decide (p = 1) then [mvT l[i]] else []) := by
  have etk : l.take (i + 1) = l.take i ++ [l[i]] := by rw [List.take_add_one, List.getElem?_eq_getElem hi]; rfl
  unfold selP
  rw [etk, List.filter_append, List.map_append]
  congr 1
  by_cases h : (decide (l[i].qty < 0) == decide (p = 1)) = true
  · rw [if_pos h]; simp [List.filter_cons, h]
  · rw [if_neg h]; simp [List.filter_cons, h]
theorem selP_len (p : Nat) (l : List Tr) : (selP p l).length ≤ l.length := by unfold selP; rw [List.length_map]; exact List.length_filter_le _ _
theorem selP_mem {p : Nat} {l : List Tr} : ∀ m ∈ selP p l, ∃ t ∈ l, m = mvT t := by
  intro m hm
  unfold selP at hm
  obtain ⟨t, ht, rfl⟩ := List.mem_map.1 hm
  exact ⟨t, (List.mem_filter.1 ht).1, rfl⟩
theorem enX_mem {l : List Tr} {p k : Nat} (hp : p < 2) : ∀ m ∈ enX l p ++ selP p (l.take k), ∃ t ∈ l, m = mvT t := by
  intro m hm
  rcases List.mem_append.1 hm with h | h
  · match p, hp, h with
    | 0, _, h => simp [enX] at h
    | 1, _, h => exact selP_mem m h
  · obtain ⟨t, h1, h2⟩ := selP_mem m h
    exact ⟨t, List.mem_of_mem_take h1, h2⟩
theorem enX_len {l : List Tr} {p k : Nat} (hp : p < 2) : (enX l p ++ selP p (l.take k)).length ≤ 2 * l.length := by
  have h1 := selP_len p (l.take k)
  have h2 := selP_len 0 l
  rw [List.length_take] at h1
  rw [List.length_append]
  match p, hp with
  | 0, _ => simp [enX]; omega
  | 1, _ => simp [enX]; omega
def Ent (w0 : World) (x : Nat) (method : Int) (s0 : St) (X : List Mv) (seq ok : Value) (W : World) : Prop :=
  Below w0.heap.size w0 W ∧ ∃ r, HasE W w0.heap.size x r method s0 (fillL method s0 [] X) ∧ seq = .int .i64 (((fillL method s0 [] X).length + 1 : Nat) : Int) ∧ ok = .bool (decide ((fillL method s0 [] X).length = X.length))
def EntO (w0 : World) (x : Nat) (method : Int) (s0 : St) (l : List Tr) (seq ok pass : Value) (W : World) : Prop := ∃ p : Nat, p ≤ 2 ∧ pass = .int .i64 p ∧ Ent w0 x method s0 (enX l p) seq ok W
def EntN (w0 : World) (x : Nat) (method : Int) (s0 : St) (l : List Tr) (p : Nat) (seq ok i_ : Value) (W : World) : Prop := ∃ i : Nat, i ≤ l.length ∧ i_ = .int .i64 i ∧ Ent w0 x method s0 (enX l p ++ selP p (l.take i)) seq ok W
theorem ent_zero {w0 W : World} (hb : Below w0.heap.size w0 W) (hE : HasE W w0.heap.size x none method s0 []) : Ent w0 x method s0 [] (.int .i64 1) (.bool true) W :=
  ⟨hb, none, hE, by simp [fillL], by simp [fillL]⟩
theorem entO_zero {w0 W : World} {l : List Tr} (hb : Below w0.heap.size w0 W) (hE : HasE W w0.heap.size x none method s0 []) : EntO w0 x method s0 l (.int .i64 1) (.bool true) (.int .i64 0) W :=
  ⟨0, by decide, by simp, ent_zero hb hE⟩
theorem entN_zero {w0 W : World} {l : List Tr} {p : Nat} {seq ok : Value} (h : Ent w0 x method s0 (enX l p) seq ok W) : EntN w0 x method s0 l p seq ok (.int .i64 0) W :=
  ⟨0, Nat.zero_le _, by simp, by simpa [selP] using h⟩
def turnT (turned : Bool) (l : List Tr) : List Tr := if turned then l.reverse else l
theorem ent_one {t : Tr} {G : List Mv} {F S : World → Prop} (ht : Tab w) (hE : HasE w B x r method s0 G) (hgG : GoodL method s0 G) (hti : TrV t) (hn : G.length ≤ 48)
    (hF : addL method s0 G (reseq (G.length + 1) (mvT t)) = G → ∀ W r, Below B w W → HasE W B x r method s0 G → F W)
    (hS : addL method s0 G (reseq (G.length + 1) (mvT t)) = G ++ [reseq (G.length + 1) (mvT t)] → ∀ W r, Below B w W → HasE W B x r method s0 (G ++ [reseq (G.length + 1) (mvT t)]) → S W) :
    Ret Tryz.prog 59 [.agg #[.int .i64 t.day, .int .i64 t.qty, .int .i64 t.cost], .int .i64 ((G.length + 1 : Nat) : Int)] w fun t65 W8 =>
 Ret Tryz.prog 41 [.pointer (some ⟨x, 0, none⟩), t65] W8 fun t66 W9 =>
 onSome (q_extract t66 0) fun t67 =>
 onSome (q_extract t66 1) fun t68 =>
 onSome (q_extract t66 2) fun t69 =>
 l_new 43 #[.int .i64 0, .int .i64 0, .int .i64 0, .int .i64 0] W9 fun t17 W10 =>
 l_store 4 t17 t67 W10 fun _ W11 =>
 onSome (q_bin .neq t69 (.int .i64 0)) fun t71 =>
 xif t71 (F W11) (S W11) := by
  refine move59_ok hti (by omega) _ (fun W8 hb8 => ?_)
  refine eng_addc (ht.below hb8) (hE.below hb8) hgG (reseq_ok (mvT_ok hti) (by omega)) (fun he3 W11 j hb11 _ _ => ?_) (fun he3 W11 j r' av c _ hE11 hr' hF11 _ _ _ _ _ => ?_)
  · have hG2 : addL method s0 G (reseq (G.length + 1) (mvT t)) = G := by unfold addL; rw [if_neg he3]
    simp only [q_neq, onSome_some]
    exact xif_ndec (fun _ => hF hG2 W11 r ((hb8.then hb11).mono hE.size) ((hE.below hb8).below hb11)) (fun hh => absurd hh he3)
  · have hG2 : addL method s0 G (reseq (G.length + 1) (mvT t)) = G ++ [reseq (G.length + 1) (mvT t)] := by unfold addL; rw [if_pos he3]
    simp only [q_neq, onSome_some, decide_true, Bool.not_true, xif_false]
    exact hS hG2 W11 r' ((hb8.mono hE.size).trans ((hE.below hb8).belowS hF11)) hE11
theorem entered_ok {v : Value} {l : List Tr} {price : Int} {turned : Bool} (ht : Tab w) (hp : I64 price) (hst : (startV method price).2 = 0) (hv : Rd TrE w v l) (hva : ∀ t ∈ l, TrV t) (hn : l.length ≤ 24) {K : Value → World → Prop}
    (hK : ∀ w' x r, Below w.heap.size w w' → HasE w' w.heap.size x r method (startV method price).1 (fillL method (startV method price).1 [] (enX (turnT turned l) 2)) → K (.tuple #[.pointer (some ⟨x, 0, none⟩), .bool (decide ((fillL method (startV method price).1 [] (enX (turnT turned l) 2)).length = (enX (turnT turned l) 2).length))]) w') :
    Ret Tryz.prog 29 [.int .i64 method, .int .i64 price, v, .bool turned] w K := by
  refine lift29 ?_
  unfold L29
  refine new_ok hp (fun he => absurd hst he) (fun _ W1 x hb1 hx hE => ?_)
  have hgood := good_nil (method := method) hp hst
  generalize (startV method price).1 = s0 at *
  simp only [q_extract_tuple, List.getElem?_toArray, List.getElem?_cons_succ, List.getElem?_cons_zero, onSome_some, q_neq, decide_true, Bool.not_true, gateQ_false, Bool.false_eq_true, if_false, ptr, (nil50 _).1, Option.isNone_some, q_pick_bool, cond_false, xif_false]
  obtain ⟨lt, hlt⟩ : ∃ lt, lt = turnT turned l := ⟨_, rfl⟩
  rw [← hlt] at hK
  have hltl : lt.length = l.length := by rw [hlt]; unfold turnT; split <;> simp
  have hltm : ∀ t ∈ lt, TrV t := by
    intro t h
    rw [hlt] at h
    unfold turnT at h
    split at h
    · exact hva t (List.mem_reverse.1 h)
    · exact hva t h
  have hgX : ∀ X : List Mv, (∀ m ∈ X, ∃ t ∈ lt, m = mvT t) → X.length ≤ 1000 → GoodL method s0 (fillL method s0 [] X) := fun X hX hXn => fillL_good X [] hgood (fun m hm => by
    obtain ⟨t, h1, rfl⟩ := hX m hm
    exact mvT_ok (hltm t h1)) (by simp; omega)
  refine looping_i (EntO w x method s0 lt) (fun _ _ p _ => 2 - (intOf p).toNat) ⟨entO_zero hb1 hE, ?_⟩
  rintro seq ok _ W2 ⟨p, hp2, rfl, hent⟩ _
  simp only [q_lss, onSome_some]
  refine xif_dec (fun hplt => ?_) (fun hplt => ?_)
  · have hp' : p < 2 := by omega
    have ep : IntKind.i64.wrap ((p : Int) + 1) = ((p + 1 : Nat) : Int) := by rw [wrap_i64 (by omega) (by omega)]; omega
    refine looping_i (EntN w x method s0 lt p) (fun _ _ i _ => lt.length - (intOf i).toNat) ⟨entN_zero hent, ?_⟩
    rintro seq1 ok1 _ W3 ⟨i, hi, rfl, hb3, r, hE3, rfl, rfl⟩ _
    rw [hv.len, onSome_some]
    simp only [q_lss, onSome_some]
    have hXm : ∀ k, ∀ m ∈ enX lt p ++ selP p (lt.take k), ∃ t ∈ lt, m = mvT t := fun k => enX_mem hp'
    have hXl : ∀ k, (enX lt p ++ selP p (lt.take k)).length ≤ 48 := fun k => by
      have := enX_len (l := lt) (k := k) hp'
      omega
    refine xif_dec (fun hilt => ?_) (fun hilt => ?_)
    · have h1 : i < l.length := by omega
      have h1' : i < lt.length := by omega
      have e1 : IntKind.i64.wrap ((i : Int) + 1) = ((i + 1 : Nat) : Int) := by rw [wrap_i64 (by omega) (by omega)]; omega
      obtain ⟨ad, hq, hload⟩ := tr_load (hv.below hb3) h1
      rw [hq, onSome_some, (hload _ (Below.refl _ _)).1, onSome_some]
      refine var_tr (t := l[i]) (fun W5 hb5 hk5 hs5 => ?_)
      have hb05 := hb3.then hb5
      have hti := hltm _ (List.getElem_mem h1')
      have hsel := selP_take (p := p) h1'
      have hgG := hgX _ (hXm i) (by have := hXl i; omega)
      have hlG := fillL_len (method := method) (s0 := s0) (enX lt p ++ selP p (lt.take i)) []
      have hXli := hXl i
      refine joining_i (fun W7 => Below W3.heap.size W3 W7 ∧ X.blk W7 W3.heap.size = some (.cells #[.int .i64 lt[i].day, .int .i64 lt[i].qty, .int .i64 lt[i].cost] 56 (0, 0))) ⟨?_, ?_⟩
      · cases turned with
        | false =>
          simp only [xif_false]
          refine ⟨hb5, ?_⟩
          have : lt[i] = l[i] := by simp only [hlt]; rfl
          rw [this]; exact hk5
        | true =>
          simp only [xif_true]
          have h3 : l.length - 1 - i < l.length := by omega
          have es1 : IntKind.i64.wrap ((l.length : Int) - 1) = ((l.length - 1 : Nat) : Int) := by rw [wrap_i64 (by omega) (by omega)]; omega
          have es2 : IntKind.i64.wrap (((l.length - 1 : Nat) : Int) - (i : Int)) = ((l.length - 1 - i : Nat) : Int) := by rw [wrap_i64 (by omega) (by omega)]; omega
          obtain ⟨ad2, hq2, hload2⟩ := tr_load (hv.below hb05) h3
          simp only [q_sub, onSome_some, es1, es2]
          rw [hq2, onSome_some, (hload2 _ (Below.refl _ _)).1, onSome_some, l_store_to (by rw [cells_agg, hk5]; simp), cells_agg]
          refine ⟨below_putL hb5 (Nat.le_refl _) _ _, ?_⟩
          have : lt[i] = l[l.length - 1 - i] := by
            simp only [hlt, turnT, if_true]
            rw [List.getElem_reverse]
          rw [this]
          simp [hk5]
      · rintro W7 ⟨hb7, hk7⟩ _
        have hb07 := hb3.then hb7
        have hE7 := hE3.below hb7
        generalize lt[i] = t at *
        have q55 : q_load1 (.pointer (some ⟨W3.heap.size, 1, none⟩)) W7 = some (.int .i64 t.qty) := by simp [hk7]
        rw [q_faddr_ptr, onSome_some, addr_add, Nat.zero_add, q55, onSome_some]
        simp only [q_lss, q_eql, onSome_some, ne4b]
        have hpp : decide ((p : Int) = 1) = decide (p = 1) := decide_eq_decide.2 (by omega)
        rw [hpp]
        refine xif_bool (fun hne => ?_) (fun heq => ?_)
        · have hsk : (decide (t.qty < 0) == decide (p = 1)) = false := by
            cases h1 : decide (t.qty < 0) <;> cases h2 : decide (p = 1) <;> simp_all
          rw [hsk] at hsel
          simp only [Bool.false_eq_true, if_false, List.append_nil] at hsel
          simp only [q_add, onSome_some, e1]
          exact ⟨⟨i + 1, by omega, rfl, by rw [hsel]; exact ⟨hb07, r, hE7, rfl, rfl⟩⟩, by simp only [intOf]; omega⟩
        · have hsk : (decide (t.qty < 0) == decide (p = 1)) = true := by
            cases h1 : decide (t.qty < 0) <;> cases h2 : decide (p = 1) <;> simp_all
          rw [hsk] at hsel
          simp only [if_true] at hsel
          have q63 : q_loadn 3 (.pointer (some ⟨W3.heap.size, 0, none⟩)) W7 = some (.agg #[.int .i64 t.day, .int .i64 t.qty, .int .i64 t.cost]) := by simp [hk7]
          rw [q63, onSome_some]
          have hX2 : enX lt p ++ selP p (lt.take (i + 1)) = (enX lt p ++ selP p (lt.take i)) ++ [mvT t] := by rw [hsel, List.append_assoc]
          generalize enX lt p ++ selP p (lt.take i) = X at *
          have hfl : fillL method s0 [] (X ++ [mvT t]) = addL method s0 (fillL method s0 [] X) (reseq ((fillL method s0 [] X).length + 1) (mvT t)) := by rw [fillL_app]; rfl
          simp only [List.length_nil, Nat.zero_add] at hlG
          generalize fillL method s0 [] X = G at *
          refine ent_one (ht.below hb07) hE7 hgG hti (by omega) (fun hA W r2 hbW hEW => ?_) (fun hA W r2 hbW hEW => ?_)
          · rw [hA] at hfl
            simp only [q_add, onSome_some, e1]
            refine ⟨⟨i + 1, by omega, rfl, ?_⟩, by simp only [intOf]; omega⟩
            rw [hX2]
            refine ⟨hb07.trans hbW, r2, by rw [hfl]; exact hEW, by rw [hfl], ?_⟩
            rw [hfl, decide_eq_false (by rw [List.length_append, List.length_singleton]; omega)]
          · rw [hA] at hfl
            have e2 : IntKind.i64.wrap (((G.length + 1 : Nat) : Int) + 1) = ((G.length + 1 + 1 : Nat) : Int) := by rw [wrap_i64 (by omega) (by omega)]; omega
            simp only [q_add, onSome_some, e1, e2]
            refine ⟨⟨i + 1, by omega, rfl, ?_⟩, by simp only [intOf]; omega⟩
            rw [hX2]
            refine ⟨hb07.trans hbW, r2, by rw [hfl]; exact hEW, by rw [hfl, List.length_append, List.length_singleton], ?_⟩
            rw [hfl, List.length_append, List.length_append, List.length_singleton, List.length_singleton]
            congr 1
            exact decide_eq_decide.2 (by omega)
    · have hie : i = lt.length := by omega
      subst hie
      simp only [q_add, onSome_some, ep]
      refine ⟨⟨p + 1, by omega, rfl, ?_⟩, by simp only [intOf]; omega⟩
      rw [enX_succ lt hp']
      rw [List.take_length] at hE3 ⊢
      exact ⟨hb3, r, hE3, rfl, rfl⟩
  · have hpe : p = 2 := by omega
    subst hpe
    obtain ⟨hb2, r, hE2, rfl, rfl⟩ := hent
    exact hK W2 x r hb2 hE2
end Go.X
