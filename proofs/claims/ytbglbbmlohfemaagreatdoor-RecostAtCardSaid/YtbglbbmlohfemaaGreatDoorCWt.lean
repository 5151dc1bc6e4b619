/- Law 39: the contract of the law function of RecostAt. -/
import Derived.Test.YtbglbbmlohfemaaGreatDoorCWf
set_option linter.unusedVariables false
set_option linter.unusedSimpArgs false
namespace Go.X
open Go.Proofs Go.RowKit
attribute [local irreducible] l_append l_copy l_make l_run l_runU q_slice q_eq q_index q_build onSome l_lit q_read
variable {w w' w'' : World} {B x : Nat} {r : Option Nat} {method : Int} {s0 : St} {L : List Mv} {m : Mv}
def btS (f : Co → Int) (L : List Mv) (C : List Co) (a b : Int) : Int := tsum (fun p : Mv × Co => if a < p.1.value ∧ p.1.value ≤ b then f p.2 else 0) (L.zip C)
theorem btS_succ {f : Co → Int} {L : List Mv} {C : List Co} {a b : Int} {i : Nat} (h1 : i < L.length) (h2 : i < C.length) : btS f (L.take (i + 1)) (C.take (i + 1)) a b = btS f (L.take i) (C.take i) a b + (if a < L[i].value ∧ L[i].value ≤ b then f C[i] else 0) := by
  unfold btS
  rw [zip_take_succ h1 h2, tsum_append]
  simp only [tsum, Int.add_zero]
theorem cost_at (hG : GoodL method s0 L) {i : Nat} (hi : i < L.length) : ∃ hc : i < (cosV method s0 L).length, costQ (cosV method s0 L) L[i].seq = ((cosV method s0 L)[i], true) := by
  have hc : i < (cosV method s0 L).length := by rw [cosV_len]; exact hi
  refine ⟨hc, ?_⟩
  rw [hG.seq hi]
  unfold costQ
  have e : (((i + 1 : Nat) : Int) - 1).toNat = i := by omega
  rw [if_neg (by omega), e, List.getElem?_eq_getElem hc]
  rfl
def AtxI (w0 : World) (L : List Mv) (C : List Co) (from_ to_ : Int) (a b v : Value) (W : World) : Prop :=
  Below w0.heap.size w0 W ∧ ∃ i : Nat, v = .int .i64 i ∧ i ≤ L.length ∧ a = .int .i64 (IntKind.i64.wrap (atS Co.qty L C from_ + btS Co.qty (L.take i) (C.take i) from_ to_)) ∧ b = .int .i64 (IntKind.i64.wrap (atS Co.value L C from_ + btS Co.value (L.take i) (C.take i) from_ to_))
theorem recostAt_ok {v : Value} {l : List Mv} {price a b : Int} (ht : Tab w) (hp : I64 price) (hv : Rd MvE w v l) (hm : ∀ m ∈ l, m.Ok) : Calc 15 [.agg #[.int .i64 method, .int .i64 price], v, .int .i64 a, .int .i64 b] w (.bool true) := by
  intro K hK
  refine lift15 ?_
  unfold L15
  rw [l_new_eq, cells_agg]
  have hb1 := (Below.refl w.heap.size w).alloc (Nat.le_refl _) (.cells #[.int .i64 method, .int .i64 price] 64)
  have hk1 := new_blk w (.cells #[.int .i64 method, .int .i64 price] 64) _ rfl
  generalize w.alloc (.cells #[.int .i64 method, .int .i64 price] 64) = W1 at *
  have e2 : q_loadn 2 (.pointer (some ⟨w.heap.size, 0, none⟩)) W1 = some (.agg #[.int .i64 method, .int .i64 price]) := by simp [hk1]
  refine light_ok (hv.below hb1) (fun bb hbl => ?_)
  have hlives : Ret Tryz.prog 39 [] W1 K := lives39_ok (ht.below hb1) _ (fun w4 hb4 => hK _ (hb1.then hb4))
  cases bb with
  | false =>
    simp only [q_not, Bool.not_false, onSome_some, gateQ_true, Bool.false_eq_true, if_false, q_pick_bool, cond_true, xif_true]
    exact hlives
  | true =>
  have hl50 := hbl rfl
  simp only [q_not, Bool.not_true, onSome_some, gateQ_false, Bool.false_eq_true, if_false, q_gtr, q_pick_bool, cond_false]
  refine xif_dec (fun _ => hlives) (fun hab => ?_)
  rw [e2, onSome_some]
  refine fill_ok (ht.below hb1) hp (hv.below hb1) hm (by omega) (fun he W4 hb4 => ?_) (fun he W4 x r hb4 hE => ?_)
  · simp only [(nil50 _).1, Option.isNone_none, onSome_some, xif_true]
    have hb04 := hb1.then hb4
    exact lives39_ok (ht.below hb04) _ (fun w4 hb4 => hK _ (hb04.then hb4))
  have hb04 := hb1.then hb4
  have hgG := fillL_good l [] (good_nil (method := method) hp he) hm (by simp; omega)
  have hlG := fillL_len (method := method) (s0 := (startV method price).1) l []
  have hz := start_zero (method := method) (price := price)
  generalize fillL method (startV method price).1 [] l = G at *
  generalize (startV method price).1 = s0 at *
  simp only [List.length_nil, Nat.zero_add] at hlG
  simp only [ptr, (nil50 _).1, Option.isNone_some, onSome_some, xif_false]
  refine at_ok hE (by omega) (fun W6 hb6 => ?_)
  simp only [q_extract_tuple, List.getElem?_toArray, List.getElem?_cons_succ, List.getElem?_cons_zero, onSome_some]
  have hok := hgG.lastOk
  refine stock_ok (hE.below hb6) (hok.up (by omega)) (fun W7 lv pv hl7 hp7 hb7 => ?_)
  obtain ⟨la, lb⟩ := last_at hgG hz (day := 109572) (Int.le_refl _)
  have d1 := own_cells hl7
  have d2 := own_cells hp7
  generalize lastV method s0 G = S at *
  rw [l_new_eq]
  simp only [StV]
  have hbA := (Below.refl W7.heap.size W7).alloc (Nat.le_refl _) (.cells #[.int .i64 0, .int .i64 0, .int .i64 0, .slice none 0 0, .slice none 0 0] 28)
  have hkA := new_blk W7 (.cells #[.int .i64 0, .int .i64 0, .int .i64 0, .slice none 0 0, .slice none 0 0] 28) _ rfl
  generalize W7.alloc (.cells #[.int .i64 0, .int .i64 0, .int .i64 0, .slice none 0 0, .slice none 0 0] 28) = WA at *
  rw [l_store_to (by rw [cells_agg, hkA]; simp [d1.2, d2.2]), cells_agg]
  have hb9 := below_putL hbA (Nat.le_refl _) [.int .i64 S.qty, .int .i64 S.value, .int .i64 S.price, lv, pv] 0
  have hks : X.blk (X.putL WA W7.heap.size 0 [.int .i64 S.qty, .int .i64 S.value, .int .i64 S.price, lv, pv]) W7.heap.size = some (.cells #[.int .i64 S.qty, .int .i64 S.value, .int .i64 S.price, lv, pv] 28 (0, 0)) := by simp [hkA]
  simp only [Array.toList] at hb9 hks ⊢
  generalize X.putL WA W7.heap.size 0 [.int .i64 S.qty, .int .i64 S.value, .int .i64 S.price, lv, pv] = W9 at *
  have hb49 := hb6.then (hb7.then hb9)
  have hE9 := hE.below hb49
  have hb09 := hb04.then hb49
  simp [hks, ← la, ← lb]
  refine at_ok hE9 (by omega) (fun W10 hb10 => ?_)
  simp only [q_extract_tuple, List.getElem?_toArray, List.getElem?_cons_succ, List.getElem?_cons_zero, onSome_some]
  refine at_ok (hE9.below hb10) (by omega) (fun W11 hb11 => ?_)
  simp only [q_extract_tuple, List.getElem?_toArray, List.getElem?_cons_succ, List.getElem?_cons_zero, onSome_some]
  refine moves_ok (hE9.below (hb10.then hb11)) (by omega) (fun W12 vm hom hb12 => ?_)
  have hb912 := (hb10.then hb11).then hb12
  have hE12 := hE9.below hb912
  have hb012 := hb09.then hb912
  have hlm := (Rd.of_own hom).len
  have hlC := cosV_len method s0 G
  obtain ⟨C, hC⟩ : ∃ C, C = cosV method s0 G := ⟨_, rfl⟩
  rw [hlm]
  refine looping_i (AtxI W12 G C a b) (fun _ _ v _ => G.length - (intOf v).toNat) ⟨⟨Below.refl _ _, 0, rfl, Nat.zero_le _, ?_, ?_⟩, ?_⟩
  · simp [btS, tsum, atV, hC]
  · simp [btS, tsum, atV, hC]
  rintro _ _ _ W ⟨hbW, i, rfl, hi, rfl, rfl⟩
  simp only [q_lss, onSome_some]
  refine xif_dec (fun hlt => ?_) (fun hlt => ?_)
  · have hi1 : i < G.length := by omega
    have hi2 : i < C.length := by rw [hC, hlC]; exact hi1
    have e1 : IntKind.i64.wrap ((i : Int) + 1) = ((i + 1 : Nat) : Int) := by rw [wrap_i64 (by omega) (by omega)]; omega
    obtain ⟨ad, hq, hload, hc⟩ := mvElem (Rd.of_own (hom.below hbW)) hi1
    have c0 := hc 0 _ rfl
    have c1 := hc 1 _ rfl
    have sq := btS_succ (f := Co.qty) (a := a) (b := b) hi1 hi2
    have sv := btS_succ (f := Co.value) (a := a) (b := b) hi1 hi2
    have c0' : W.cell? (ad.add 0) = some (.int .i64 G[i].seq) := c0
    have c1' : W.cell? (ad.add 1) = some (.int .i64 G[i].value) := c1
    have stay : ¬ (a < G[i].value ∧ G[i].value ≤ b) → (onSome (q_bin .add (.int .i64 (i : Int)) (.int .i64 1)) fun t72_1 =>
        AtxI W12 G C a b (.int .i64 (IntKind.i64.wrap (atS Co.qty G C a + btS Co.qty (G.take i) (C.take i) a b))) (.int .i64 (IntKind.i64.wrap (atS Co.value G C a + btS Co.value (G.take i) (C.take i) a b))) t72_1 W ∧ G.length - (intOf t72_1).toNat < G.length - (intOf (.int .i64 (i : Int))).toNat) := by
      intro hn
      simp only [q_add, onSome_some, e1]
      rw [if_neg hn, Int.add_zero] at sq sv
      exact ⟨⟨hbW, i + 1, rfl, by omega, by rw [sq], by rw [sv]⟩, by simp only [intOf]; omega⟩
    have go : (a < G[i].value ∧ G[i].value ≤ b) → (onSome (q_iaddr 8 vm (.int .i64 (i : Int))) fun t93 => onSome (q_faddr 0 t93) fun t94 => onSome (q_load1 t94 W) fun t95 =>
        Ret Tryz.prog 42 [.pointer (some ⟨x, 0, none⟩), t95] W fun t96 W14 => onSome (q_extract t96 0) fun t97 => onSome (q_extract t96 1) fun t98 =>
        l_new 43 #[.int .i64 0, .int .i64 0, .int .i64 0, .int .i64 0] W14 fun k19 W15 => l_store 4 k19 t97 W15 fun _ W16 =>
        onSome (q_faddr 1 k19) fun t100 => onSome (q_load1 t100 W16) fun t101 => onSome (q_bin .add (.int .i64 (IntKind.i64.wrap (atS Co.qty G C a + btS Co.qty (G.take i) (C.take i) a b))) t101) fun t102 =>
        onSome (q_faddr 2 k19) fun t104 => onSome (q_load1 t104 W16) fun t105 => onSome (q_bin .add (.int .i64 (IntKind.i64.wrap (atS Co.value G C a + btS Co.value (G.take i) (C.take i) a b))) t105) fun t106 =>
        onSome (q_bin .add (.int .i64 (i : Int)) (.int .i64 1)) fun t72 => AtxI W12 G C a b t102 t106 t72 W16 ∧ G.length - (intOf t72).toNat < G.length - (intOf (.int .i64 (i : Int))).toNat) := by
      intro hn
      rw [hq, onSome_some, q_faddr_ptr, onSome_some, q_load1_ptr, c0', onSome_some]
      refine eng_costc (hE12.below hbW) (by omega) (fun W16 j hb16 hkj hj => ?_)
      obtain ⟨hci, hcq⟩ := cost_at hgG hi1
      rw [hcq] at hkj
      simp only [← hC] at hkj
      simp [hkj]
      rw [if_pos hn] at sq sv
      have e1' : IntKind.i64.wrap ((i : Int) + 1) = (i : Int) + 1 := by rw [wrap_i64 (by omega) (by omega)]
      rw [e1']
      refine ⟨⟨hbW.then hb16, i + 1, by simp, by omega, ?_, ?_⟩, by simp only [intOf]; omega⟩
      · rw [wrap_add, sq]; simp only [Int.add_assoc]
      · rw [wrap_add, sv]; simp only [Int.add_assoc]
    rw [hq, onSome_some, q_faddr_ptr, onSome_some, q_load1_ptr, c1', onSome_some, q_gtr, onSome_some]
    by_cases h1 : a < G[i].value
    · simp [h1, hq, c1']
      refine xif_dec (fun h2 => ?_) (fun h2 => ?_)
      · have := go ⟨h1, h2⟩
        simpa [hq, c0'] using this
      · have := stay (fun hh => h2 hh.2)
        simpa using this
    · simp [h1]
      have := stay (fun hh => h1 hh.1)
      simpa using this
  · have hie : i = G.length := by omega
    subst hie
    have hfin : ∀ f : Co → Int, IntKind.i64.wrap (atS f G C a + btS f G (C.take G.length) a b) = atV f method s0 G b := by
      intro f
      have h1 := at_between (f := f) (L := G) (C := C) (a := a) (b := b) (by omega)
      unfold atV
      rw [← hC, h1, List.take_of_length_le (by rw [hC, hlC]; exact Nat.le_refl _)]
      rfl
    simp [hfin]
    have hb0W := hb012.then hbW
    refine lives39_ok (ht.below hb0W) _ (fun w4 hb4 => ?_)
    exact hK _ (hb0W.then hb4)
end Go.X
