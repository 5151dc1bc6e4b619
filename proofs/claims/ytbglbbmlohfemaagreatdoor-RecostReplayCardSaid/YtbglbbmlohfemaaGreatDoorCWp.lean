/- Law 39: the contract of the law function of RecostReplay. -/
import Derived.Test.YtbglbbmlohfemaaGreatDoorCWo
set_option linter.unusedVariables false
set_option linter.unusedSimpArgs false
namespace Go.X
open Go.Proofs Go.RowKit
attribute [local irreducible] l_append l_copy l_make l_run l_runU q_slice q_eq q_index q_build onSome l_lit q_read
variable {w w' w'' : World} {B x : Nat} {r : Option Nat} {method : Int} {s0 : St} {L : List Mv} {m : Mv}
/-- The costs in the order of the values. -/
def ordC (method : Int) (s0 : St) (L : List Mv) : List Co := (ordV L).map fun i => coG (cosV method s0 L) i
theorem ordC_len (method : Int) (s0 : St) (L : List Mv) : (ordC method s0 L).length = L.length := by unfold ordC; rw [List.length_map, ordV_len]
theorem run_of_good {price : Int} (hst : (startV method price).2 = 0) (hG : GoodL method (startV method price).1 L) : runV method price (ordI L) = (lastV method (startV method price).1 L, ordC method (startV method price).1 L, -1, 0) := by
  have h1 := cos_run hG
  unfold runV
  rw [if_neg (by rw [hst]; simp), runFrom_ok _ 0 _ [] _ _ h1]
  rfl
theorem ordC_cost (hG : GoodL method s0 L) {i : Nat} (hi : i < (ordC method s0 L).length) : costQ (cosV method s0 L) (ordC method s0 L)[i].seq = ((ordC method s0 L)[i], true) := by
  have hi' : i < (ordV L).length := by rw [ordC_len, ← ordV_len L] at hi; exact hi
  have ho := ordV_lt L _ (List.getElem_mem hi')
  have hc : (ordV L)[i] < (cosV method s0 L).length := by rw [cosV_len]; exact ho
  have e : (ordC method s0 L)[i] = (cosV method s0 L)[(ordV L)[i]] := by
    have h : (ordC method s0 L)[i]? = some ((cosV method s0 L)[(ordV L)[i]]) := by
      unfold ordC
      rw [List.getElem?_map, List.getElem?_eq_getElem hi']
      simp only [Option.map_some]
      unfold coG
      rw [List.getElem?_eq_getElem hc]; rfl
    rw [List.getElem?_eq_getElem hi] at h
    exact Option.some.inj h
  rw [e]
  obtain ⟨_, h1, _, _⟩ := hG.cos hc
  rw [h1]
  unfold costQ
  have e2 : ((((ordV L)[i] + 1 : Nat) : Int) - 1).toNat = (ordV L)[i] := by omega
  rw [if_neg (by omega), e2, List.getElem?_eq_getElem hc]
  rfl
def RpJ (w0 : World) (S : St) (d : List Co) (s6 costs at_ e : Value) (W : World) : Prop :=
  ∃ (a : Nat) (lv pv : Value), s6 = .pointer (some ⟨a, 0, none⟩) ∧ X.blk W a = some (.cells #[.int .i64 S.qty, .int .i64 S.value, .int .i64 S.price, lv, pv] 28 (0, 0)) ∧ Own LyE 103 W w0.heap.size lv S.layers ∧ Own PaE 105 W w0.heap.size pv S.past ∧ Own CoE 43 W w0.heap.size costs d ∧
    at_ = .int .i64 (-1) ∧ e = .int .i64 0 ∧ Below w0.heap.size w0 W
theorem rp_end {w0 W : World} {S : St} {d : List Co} {a : Nat} {lv pv cv : Value} (hb : Below w0.heap.size w0 W) (ha : w0.heap.size ≤ a) (hk : X.blk W a = some (.cells #[.int .i64 0, .int .i64 0, .int .i64 0, .slice none 0 0, .slice none 0 0] 28 (0, 0))) (hl : Own LyE 103 W w0.heap.size lv S.layers) (hp : Own PaE 105 W w0.heap.size pv S.past) (hc : Own CoE 43 W w0.heap.size cv d) :
    l_store 5 (.pointer (some ⟨a, 0, none⟩)) (StV S lv pv) W fun _ W' => RpJ w0 S d (.pointer (some ⟨a, 0, none⟩)) cv (.int .i64 (-1)) (.int .i64 0) W' := by
  have d1 := own_cells hl
  have d2 := own_cells hp
  unfold StV
  rw [l_store_to (by rw [cells_agg, hk]; simp [d1.2, d2.2]), cells_agg]
  exact ⟨a, lv, pv, rfl, by simp [hk], hl.putL hk (by decide), hp.putL hk (by decide), hc.putL hk (by decide), rfl, rfl, below_putL hb ha _ _⟩
def RplI (w0 : World) (n : Nat) (v : Value) (W : World) : Prop := Below w0.heap.size w0 W ∧ ∃ i : Nat, v = .int .i64 i ∧ i ≤ n
theorem recostReplay_ok {v : Value} {l : List Mv} {price : Int} (ht : Tab w) (hp : I64 price) (hv : Rd MvE w v l) (hm : ∀ m ∈ l, m.Ok) : Calc 18 [.agg #[.int .i64 method, .int .i64 price], v] w (.bool true) := by
  intro K hK
  refine lift18 ?_
  unfold L18
  rw [l_new_eq, cells_agg]
  have hb1 := (Below.refl w.heap.size w).alloc (Nat.le_refl _) (.cells #[.int .i64 method, .int .i64 price] 64)
  have hk1 := new_blk w (.cells #[.int .i64 method, .int .i64 price] 64) _ rfl
  generalize w.alloc (.cells #[.int .i64 method, .int .i64 price] 64) = W1 at *
  have e2 : q_loadn 2 (.pointer (some ⟨w.heap.size, 0, none⟩)) W1 = some (.agg #[.int .i64 method, .int .i64 price]) := by simp [hk1]
  have lives : ∀ W, Below w.heap.size w W → Ret Tryz.prog 39 [] W K := fun W hW => lives39_ok (ht.below hW) _ (fun w4 hb4 => hK _ (hW.then hb4))
  refine light_ok (hv.below hb1) (fun bb hbl => ?_)
  cases bb with
  | false =>
    simp only [q_not, Bool.not_false, onSome_some, xif_true]
    exact lives _ hb1
  | true =>
  have hl50 := hbl rfl
  simp only [q_not, Bool.not_true, onSome_some, xif_false]
  rw [e2, onSome_some]
  refine fill_ok (ht.below hb1) hp (hv.below hb1) hm (by omega) (fun he W4 hb4 => ?_) (fun he W4 x r hb4 hE => ?_)
  · simp only [(nil50 _).1, Option.isNone_none, onSome_some, xif_true]
    exact lives _ (hb1.then hb4)
  have hb04 := (hb1.then hb4).drew
  have hb14 := hb4.drew
  have hgG := fillL_good l [] (good_nil (method := method) hp he) hm (by simp; omega)
  have hlG := fillL_len (method := method) (s0 := (startV method price).1) l []
  have hED : HasE W4.drew W1.heap.size x r method (startV method price).1 (fillL method (startV method price).1 [] l) := hE.below (Below.refl _ _).drew
  generalize fillL method (startV method price).1 [] l = G at *
  simp only [List.length_nil, Nat.zero_add] at hlG
  have hrunV := run_of_good he hgG
  simp only [ptr, (nil50 _).1, Option.isNone_some, onSome_some, xif_false]
  obtain ⟨W0, hW0⟩ : ∃ W0, W4.drew = W0 := ⟨_, rfl⟩
  rw [hW0] at hb04 hb14 hED ⊢
  have q24 : ∀ W, Below W0.heap.size W0 W → q_load1 (.pointer (some ⟨w.heap.size, 0, none⟩)) W = some (.int .i64 method) := by
    intro W hW
    have := (blk_below (hb14.then hW) (lt_of_blk hk1)).trans hk1
    simp [this]
  have q26 : ∀ W, Below W0.heap.size W0 W → q_load1 (.pointer (some ⟨w.heap.size, 1, none⟩)) W = some (.int .i64 price) := by
    intro W hW
    have := (blk_below (hb14.then hW) (lt_of_blk hk1)).trans hk1
    simp [this]
  have hrf := Below.refl W0.heap.size W0
  obtain ⟨S, hS⟩ : ∃ S, S = lastV method (startV method price).1 G := ⟨_, rfl⟩
  obtain ⟨d, hd⟩ : ∃ d, d = ordC method (startV method price).1 G := ⟨_, rfl⟩
  rw [← hS, ← hd] at hrunV
  have moves : ∀ (W : World) (K' : Value → World → Prop), Below W0.heap.size W0 W → (∀ W' v', Below W.heap.size W W' → Own MvE 47 W' W.heap.size v' G → K' v' W') → Ret Tryz.prog 49 [.pointer (some ⟨x, 0, none⟩)] W K' :=
    fun W K' hW hk => moves_ok (hED.below hW) (by omega) (fun W' v' ho hb => hk W' v' hb ho)
  have order : ∀ (W : World) (K' : Value → World → Prop) (v' : Value), Rd MvE W v' G → (∀ W' v'', Below W.heap.size W W' → Own MvE 47 W' W.heap.size v'' (ordI G) → K' v'' W') → Ret Tryz.prog 54 [v'] W K' :=
    fun W K' v' hr hk => order_ok hr (fun k h => hgG.seq h) (by omega) (fun W' v'' ho hb => hk W' v'' hb ho)
  have run : ∀ (W : World) (K' : Value → World → Prop) (v' : Value), Below W0.heap.size W0 W → Rd MvE W v' (ordI G) → (∀ W' lv pv cv, Below W.heap.size W W' → Own LyE 103 W' W.heap.size lv S.layers → Own PaE 105 W' W.heap.size pv S.past → Own CoE 43 W' W.heap.size cv d → K' (.tuple #[StV S lv pv, cv, .int .i64 (-1), .int .i64 0]) W') → Ret Tryz.prog 23 [.int .i64 method, .int .i64 price, v'] W K' := by
    intro W K' v' hW hr hk
    refine run_ok (ht.below (hb04.then hW)) hp hr hgG.ordOk (by rw [ordI_len]; omega) (fun W' lv pv cv hb hl hpp hc => ?_)
    rw [hrunV] at hl hpp hc ⊢
    exact hk W' lv pv cv hb hl hpp hc
  have z28 : ∀ W : World, X.blk (W.alloc (.cells #[.int .i64 0, .int .i64 0, .int .i64 0, .slice none 0 0, .slice none 0 0] 28)) W.heap.size = some (.cells #[.int .i64 0, .int .i64 0, .int .i64 0, .slice none 0 0, .slice none 0 0] 28 (0, 0)) := fun W => new_blk W _ _ rfl
  have start : ∀ Q : Value → Value → Value → Value → Prop, Q (.pointer (some ⟨w.heap.size, 0, none⟩)) (.int .i64 method) (.pointer (some ⟨w.heap.size, 1, none⟩)) (.int .i64 price) →
      (onSome (q_faddr 0 (.pointer (some ⟨w.heap.size, 0, none⟩))) fun t24 => onSome (q_load1 t24 W0) fun t25 => onSome (q_faddr 1 (.pointer (some ⟨w.heap.size, 0, none⟩))) fun t26 => onSome (q_load1 t26 W0) fun t27 => Q t24 t25 t26 t27) := by
    intro Q hQ
    rw [q_faddr_ptr, onSome_some, addr_add, q24 _ hrf, onSome_some, q_faddr_ptr, onSome_some, addr_add, Nat.zero_add, q26 _ hrf, onSome_some]
    exact hQ
  refine joining_i (RpJ W0 S d) ⟨start _ ⟨?_, ?_⟩, ?_⟩
  · refine moves W0 _ hrf (fun W6 v6 hb6 ho6 => ?_)
    refine ⟨q26 _ hb6, q24 _ hb6, ⟨?_, ?_⟩⟩
    · refine order W6 _ v6 (Rd.of_own ho6) (fun W7 v7 hb7 ho7 => ?_)
      have hb07 := hb6.then hb7
      refine ⟨q26 _ hb07, q24 _ hb07, ⟨?_, ?_⟩⟩
      · refine run W7 _ v7 hb07 (Rd.of_own ho7) (fun W8 lv pv cv hb8 hl hpp hc => ?_)
        simp only [q_extract_tuple, List.getElem?_toArray, List.getElem?_cons_succ, List.getElem?_cons_zero, onSome_some]
        rw [l_new_eq]
        have hb08 := hb07.then hb8
        have hB := hb07.size
        exact rp_end (hb08.alloc hb08.size _) hb08.size (z28 W8) ((hl.lower hB).alloc _) ((hpp.lower hB).alloc _) ((hc.lower hB).alloc _)
      · rw [l_new_eq]
        have hbA := hb07.alloc hb07.size (.cells #[.int .i64 0, .int .i64 0, .int .i64 0, .slice none 0 0, .slice none 0 0] 28)
        have hbA' := (Below.refl W7.heap.size W7).alloc (Nat.le_refl _) (.cells #[.int .i64 0, .int .i64 0, .int .i64 0, .slice none 0 0, .slice none 0 0] 28)
        refine ⟨q26 _ hbA, q24 _ hbA, ?_⟩
        refine run _ _ v7 hbA ((Rd.of_own ho7).below hbA') (fun W8 lv pv cv hb8 hl hpp hc => ?_)
        simp only [q_extract_tuple, List.getElem?_toArray, List.getElem?_cons_succ, List.getElem?_cons_zero, onSome_some]
        have hB := hbA.size
        exact rp_end (hbA.then hb8) hb07.size ((blk_below hb8 (lt_of_blk (z28 W7))).trans (z28 W7)) (hl.lower hB) (hpp.lower hB) (hc.lower hB)
    · rw [l_new_eq]
      have hbA := hb6.alloc hb6.size (.cells #[.int .i64 0, .int .i64 0, .int .i64 0, .slice none 0 0, .slice none 0 0] 28)
      have hbA' := (Below.refl W6.heap.size W6).alloc (Nat.le_refl _) (.cells #[.int .i64 0, .int .i64 0, .int .i64 0, .slice none 0 0, .slice none 0 0] 28)
      refine ⟨q26 _ hbA, q24 _ hbA, ?_⟩
      refine order _ _ v6 ((Rd.of_own ho6).below hbA') (fun W7 v7 hb7 ho7 => ?_)
      have hb07 := hbA.then hb7
      refine ⟨q26 _ hb07, q24 _ hb07, ?_⟩
      refine run W7 _ v7 hb07 (Rd.of_own ho7) (fun W8 lv pv cv hb8 hl hpp hc => ?_)
      simp only [q_extract_tuple, List.getElem?_toArray, List.getElem?_cons_succ, List.getElem?_cons_zero, onSome_some]
      have hB := hb07.size
      have hb78 := hb7.then hb8
      exact rp_end (hb07.then hb8) hb6.size ((blk_below hb78 (lt_of_blk (z28 W6))).trans (z28 W6)) (hl.lower hB) (hpp.lower hB) (hc.lower hB)
  · rw [l_new_eq]
    have hbA := hrf.alloc hrf.size (.cells #[.int .i64 0, .int .i64 0, .int .i64 0, .slice none 0 0, .slice none 0 0] 28)
    refine ⟨q26 _ hbA, q24 _ hbA, ?_⟩
    refine moves _ _ hbA (fun W6 v6 hb6 ho6 => ?_)
    have hb06 := hbA.then hb6
    refine ⟨q26 _ hb06, q24 _ hb06, ?_⟩
    refine order W6 _ v6 (Rd.of_own ho6) (fun W7 v7 hb7 ho7 => ?_)
    have hb07 := hb06.then hb7
    refine ⟨q26 _ hb07, q24 _ hb07, ?_⟩
    refine run W7 _ v7 hb07 (Rd.of_own ho7) (fun W8 lv pv cv hb8 hl hpp hc => ?_)
    simp only [q_extract_tuple, List.getElem?_toArray, List.getElem?_cons_succ, List.getElem?_cons_zero, onSome_some]
    have hB := hb07.size
    have hb78 := (hb6.then hb7).then hb8
    exact rp_end (hb07.then hb8) (Nat.le_refl _) ((blk_below hb78 (lt_of_blk (z28 W0))).trans (z28 W0)) (hl.lower hB) (hpp.lower hB) (hc.lower hB)
  rintro _ cv _ _ W23 ⟨a, lv, pv, rfl, hka, hl, hpp, hc, rfl, rfl, hb23⟩ _
  have hED23 := hED.below hb23.drew
  have hdl : d.length = G.length := by rw [hd, ordC_len]
  have hlc := hc.len
  rw [hdl] at hlc
  simp only [q_neq, onSome_some, decide_true, Bool.not_true, gateQ_false, Bool.false_eq_true, if_false, q_pick_bool, cond_false, hlc, gateL_false]
  refine eng_len hED23 ?_
  have q5 : ∀ W, Below W23.heap.size W23 W → q_loadn 5 (.pointer (some ⟨a, 0, none⟩)) W = some (StV S lv pv) := by
    intro W hW
    have := (blk_below hW (lt_of_blk hka)).trans hka
    simp [this, StV]
  have hrd : Below W23.heap.size W23 W23.drew := (Below.refl _ _).drew
  simp only [q_neq, onSome_some, decide_true, Bool.not_true, gateQ_false, Bool.false_eq_true, if_false, q_pick_bool, cond_false, gateL_false, q5 _ hrd]
  have hok := hgG.lastOk
  refine stock_ok hED23 (hok.up (by omega)) (fun W25 lv2 pv2 hl2 hp2 hb25 => ?_)
  rw [← hS] at hl2 hp2 ⊢
  have hb2325 := hrd.then hb25
  refine ⟨q5 _ hb2325, ?_⟩
  refine same_stock (a := S) (b := S) ((Rd.of_own hl).below hb2325) ((Rd.of_own hpp).below hb2325) (Rd.of_own hl2) (Rd.of_own hp2) _ (fun W26 hb26 => ?_)
  rw [sameStV_self]
  simp only [q_not, Bool.not_true, onSome_some, gateQ_false, Bool.false_eq_true, if_false, q_pick_bool, cond_false, xif_false]
  have hb2326 := hb2325.then hb26
  have hb026 := hb04.then (hb23.then hb2326)
  have hE26 := hED.below (hb23.then hb2326)
  have hc26 := hc.below hb2326
  refine looping_i (RplI W26 G.length) (lenM G.length) ⟨⟨Below.refl _ _, 0, rfl, Nat.zero_le _⟩, ?_⟩
  rintro _ W ⟨hbW, i, rfl, hi⟩ _
  simp only [q_lss, onSome_some]
  refine xif_dec (fun hlt => ?_) (fun hlt => ?_)
  · have h1 : i < G.length := by omega
    have h1d : i < d.length := by omega
    have e1 : IntKind.i64.wrap ((i : Int) + 1) = ((i + 1 : Nat) : Int) := by rw [wrap_i64 (by omega) (by omega)]; omega
    have hcW := hc26.below hbW
    obtain ⟨ad, hq, _, hcell⟩ := (Rd.of_own hcW).elem (i := i) h1d .i64
    have c0 : W.cell? (ad.add 0) = some (.int .i64 d[i].seq) := hcell 0 _ rfl
    have hcost : costQ (cosV method (startV method price).1 G) d[i].seq = (d[i], true) := by
      simp only [hd]
      exact ordC_cost hgG (by rw [← hd]; exact h1d)
    have hq' : q_iaddr 4 cv (.int .i64 (i : Int)) = some (.pointer (some ad)) := hq
    rw [hq', onSome_some, q_faddr_ptr, onSome_some, q_load1_ptr, c0, onSome_some]
    refine eng_costc (hE26.below hbW) (by omega) (fun W30 c11 hb30 hk11 _ => ?_)
    rw [hcost] at hk11 ⊢
    obtain ⟨ad2, hq2, hload2⟩ := co_load (Rd.of_own (hcW.below hb30).drew) (i := i) h1d
    have l2 := (hload2 _ (Below.refl _ _)).1
    generalize d[i] = di at *
    have q11 : q_loadn 4 (.pointer (some ⟨c11, 0, none⟩)) W30.drew = some (.agg #[.int .i64 di.seq, .int .i64 di.qty, .int .i64 di.value, .int .i64 di.var]) := by simp [hk11]
    simp only [q_not, Bool.not_true, onSome_some, gateQ_false, Bool.false_eq_true, if_false, q11, hq2, l2, eq43, decide_true, q_pick_bool, cond_false, xif_false, q_add, e1]
    exact ⟨⟨(hbW.then hb30).drew, i + 1, rfl, by omega⟩, by simp only [lenM, intOf]; omega⟩
  · exact lives _ (hb026.then hbW)
end Go.X
