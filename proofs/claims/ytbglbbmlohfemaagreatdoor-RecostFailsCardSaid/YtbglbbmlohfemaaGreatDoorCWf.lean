/- Law 39: the contract of the law function of RecostFails. -/
import Derived.Test.YtbglbbmlohfemaaGreatDoorC5
import Derived.Test.YtbglbbmlohfemaaGreatDoorCWn
set_option linter.unusedVariables false
set_option linter.unusedSimpArgs false
namespace Go.X
open Go.Proofs Go.RowKit
attribute [local irreducible] l_append l_copy l_make l_run l_runU q_slice q_eq q_index q_build onSome l_lit q_read
variable {w w' w'' : World} {B x : Nat} {r : Option Nat} {method : Int} {s0 : St} {L : List Mv} {m : Mv}
theorem HasE.fr {S : Nat → Prop} (h : HasE w B x r method s0 L) (hF : Fr S w w') (hS : ∀ j, B ≤ j → ¬ S j) : HasE w' B x r method s0 L := by
  obtain ⟨mv, cv, ov, kv, lv, pv, ks, hrow, h⟩ := h
  have ow : ∀ {α : Type} {E : Enc α} {t : TypeId} {v : Value} {l : List α}, Own E t w B v l → Own E t w' B v l := fun ho => hF.own ho (fun k hk => hS k (ho.lt k hk).1)
  refine ⟨mv, cv, ov, kv, lv, pv, ks, hrow, h.le, hF.blk h.blk (hS x h.le), ow h.mv, ow h.co, ow h.ov, ow h.kv, ⟨h.ks.1, fun i k s hk hs => ?_⟩, ow h.ly, ow h.pa⟩
  have := h.ks.2 i k s hk hs
  exact ⟨this.qty, this.value, this.price, ow this.ly, ow this.pa⟩
/-- Two engines, the second one newer: what the first one's call changes is not the second one's. -/
theorem HasE.other {B2 x2 : Nat} {r2 : Option Nat} {L2 : List Mv} {m2 : Int} {t0 : St} (h : HasE w B x r method s0 L) (h2 : HasE w'' B2 x2 r2 m2 t0 L2) (hw : w.heap.size ≤ B2) (hF : Fr (EngS x r) w'' w') : HasE w' B2 x2 r2 m2 t0 L2 := by
  obtain ⟨h1, _, h3⟩ := h.lts
  refine h2.fr hF (fun j hj hS => ?_)
  rcases hS with e | e
  · omega
  · have := (h3 j e).2; omega
def FaI (w0 : World) (n : Nat) (v : Value) (W : World) : Prop := Below w0.heap.size w0 W ∧ ∃ i : Nat, v = .int .i64 i ∧ 1 ≤ i ∧ i ≤ n + 1
theorem recostFails_ok {v : Value} {l : List Mv} {price : Int} (ht : Tab w) (hp : I64 price) (hv : Rd MvE w v l) (hm : ∀ m ∈ l, m.Ok) (hmm : m.Ok) : Calc 14 [.agg #[.int .i64 method, .int .i64 price], v, m.v] w (.bool true) := by
  intro K hK
  refine lift14 ?_
  unfold L14
  rw [l_new_eq, cells_agg]
  have hb1 := (Below.refl w.heap.size w).alloc (Nat.le_refl _) (.cells #[.int .i64 method, .int .i64 price] 64)
  have hk1 := new_blk w (.cells #[.int .i64 method, .int .i64 price] 64) _ rfl
  generalize w.alloc (.cells #[.int .i64 method, .int .i64 price] 64) = W1 at *
  rw [l_new_eq, Mv.v_cells]
  have hb12 := (Below.refl W1.heap.size W1).alloc (Nat.le_refl _) (.cells #[.int .i64 m.seq, .int .i64 m.value, .string m.item, .int .i64 m.kind, .int .i64 m.qty, .int .i64 m.cost, .string m.lot, .int .i64 m.ref] 47)
  have hk2 := new_blk W1 (.cells #[.int .i64 m.seq, .int .i64 m.value, .string m.item, .int .i64 m.kind, .int .i64 m.qty, .int .i64 m.cost, .string m.lot, .int .i64 m.ref] 47) _ rfl
  generalize W1.alloc (.cells #[.int .i64 m.seq, .int .i64 m.value, .string m.item, .int .i64 m.kind, .int .i64 m.qty, .int .i64 m.cost, .string m.lot, .int .i64 m.ref] 47) = W2 at *
  have hb2 := hb1.then hb12
  have hk12 := (blk_below hb12 (lt_of_blk hk1)).trans hk1
  have hv2 := hv.below hb2
  have e8 : ∀ W, Below W2.heap.size W2 W → q_loadn 8 (.pointer (some ⟨W1.heap.size, 0, none⟩)) W = some m.v := by
    intro W hW
    have := (blk_below hW (lt_of_blk hk2)).trans hk2
    simp [this, Mv.v, Mv.cs]
  have e2 : ∀ W, Below W2.heap.size W2 W → q_loadn 2 (.pointer (some ⟨w.heap.size, 0, none⟩)) W = some (.agg #[.int .i64 method, .int .i64 price]) := by
    intro W hW
    have := (blk_below hW (lt_of_blk hk12)).trans hk12
    simp [this]
  refine light_ok hv2 (fun b hbl => ?_)
  cases b with
  | false =>
    simp only [q_not, Bool.not_false, onSome_some, gateQ_true, gateL_true, Bool.false_eq_true, if_false, q_pick_bool, cond_true, xif_true]
    exact lives39_ok (ht.below hb2) _ (fun w4 hb4 => hK _ (hb2.then hb4))
  | true =>
  have hl50 := hbl rfl
  simp only [q_not, Bool.not_true, onSome_some, gateQ_false, gateL_false, Bool.false_eq_true, if_false]
  rw [e8 _ (Below.refl _ _), onSome_some]
  unfold l_lit
  rw [show fillC #[.int .i64 0, .int .i64 0, .string ⟨#[]⟩, .int .i64 0, .int .i64 0, .int .i64 0, .string ⟨#[]⟩, .int .i64 0] [(0, 8, m.v)] = some (MvE.cells m).toArray from lit_mv m, onSome_some]
  dsimp only
  have hbL := (Below.refl W2.heap.size W2).alloc (Nat.le_refl _) (.cells (MvE.cells m).toArray 47)
  have hrL := Rd.new (E := MvE) (t := 47) (a := m) W2 (by decide)
  generalize W2.alloc (.cells (MvE.cells m).toArray 47) = W4 at *
  have hb04 := hb2.then hbL
  refine light_ok hrL (fun b2 _ => ?_)
  cases b2 with
  | false =>
    simp only [q_not, Bool.not_false, onSome_some, q_pick_bool, cond_false, xif_true]
    exact lives39_ok (ht.below hb04) _ (fun w4 hb4 => hK _ (hb04.then hb4))
  | true =>
  simp only [q_not, Bool.not_true, onSome_some, q_pick_bool, cond_false, xif_false]
  have hb2d := hbL.drew
  rw [e2 _ hb2d, onSome_some, onSome_some]
  have hb0d := hb04.drew
  have hvd := hv2.below hb2d
  refine fill_ok (ht.below hb0d) hp hvd hm (by omega) (fun he W7 hb7 => ?_) (fun he W7 x1 r1 hb7 hE1 => ?_)
  · have hb27 := hb2d.then hb7
    refine ⟨e2 _ hb27, ?_⟩
    have hb07 := hb0d.then hb7
    refine fill_ok (ht.below hb07) hp (hv2.below hb27) hm (by omega) (fun _ W8 hb8 => ?_) (fun he2 => absurd he2 he)
    simp [(nil50 _).1]
    have hb08 := hb07.then hb8
    exact lives39_ok (ht.below hb08) _ (fun w4 hb4 => hK _ (hb08.then hb4))
  have hb27 := hb2d.then hb7
  refine ⟨e2 _ hb27, ?_⟩
  have hb07 := hb0d.then hb7
  refine fill_ok (ht.below hb07) hp (hv2.below hb27) hm (by omega) (fun he2 => absurd he he2) (fun _ W8 x2 r2 hb8 hE2 => ?_)
  have hb08 := hb07.then hb8
  have hb28 := hb27.then hb8
  have hgG := fillL_good l [] (good_nil (method := method) hp he) hm (by simp; omega)
  have hlG := fillL_len (method := method) (s0 := (startV method price).1) l []
  generalize fillL method (startV method price).1 [] l = G at *
  generalize (startV method price).1 = s0 at *
  simp only [List.length_nil, Nat.zero_add] at hlG
  simp only [ptr, (nil50 _).1, Option.isNone_some, onSome_some, gateQ_false, Bool.false_eq_true, if_false, q_pick_bool, cond_false, xif_false]
  rw [e8 _ hb28, onSome_some]
  have hE18 := hE1.below hb8
  refine eng_addc (ht.below hb08) hE18 hgG hmm (fun he3 W12 c9 hb12' hkc hjc => ?_) (fun he3 W12 c9 r3 av c hc hE3 hr3 hF3 hA3 hkc hjc hnc hnav => ?_)
  · -- not added
    have hb012 := hb08.then hb12'
    have hE1' := hE18.below hb12'
    have hE2' := hE2.below hb12'
    have q9 : q_loadn 4 (.pointer (some ⟨c9, 0, none⟩)) W12 = some (.agg #[.int .i64 0, .int .i64 0, .int .i64 0, .int .i64 0]) := by simp [hkc]
    have ez := (eq43 Co.zero Co.zero)
    simp only [decide_true, Co.zero, Bool.not_true] at ez
    simp only [q_eql, onSome_some]
    rw [decide_eq_false he3]
    simp only [xif_false, q9, onSome_some, ne43z, ez, gateQ_false, Bool.false_eq_true, if_false, q_len_slice, q_neq, Int.ofNat_zero, decide_true, Bool.not_true, q_pick_bool, cond_false, gateL_false]
    refine moves_ok hE1' (by omega) (fun W16 v1 ho1 hb16 => ?_)
    refine moves_ok (hE2'.below hb16) (by omega) (fun W17 v2 ho2 hb17 => ?_)
    refine same33_ok (Rd.of_own (ho1.below hb17)) (Rd.of_own ho2) _ (fun W18 hb18 => ?_)
    rw [decide_eq_true rfl]
    simp only [q_not, Bool.not_true, onSome_some, gateQ_false, gateL_false, Bool.false_eq_true, if_false, q_pick_bool, cond_false]
    have hb1218 := (hb16.then hb17).then hb18
    have hok := hgG.lastOk
    refine stock_ok (hE1'.below hb1218) (hok.up (by omega)) (fun W19 lv1 pv1 hl1 hp1 hb19 => ?_)
    refine stock_ok (hE2'.below (hb1218.then hb19)) (hok.up (by omega)) (fun W20 lv2 pv2 hl2 hp2 hb20 => ?_)
    refine same_stock (Rd.of_own (hl1.below hb20)) (Rd.of_own (hp1.below hb20)) (Rd.of_own hl2) (Rd.of_own hp2) _ (fun W21 hb21 => ?_)
    rw [sameStV_self]
    simp only [q_not, Bool.not_true, onSome_some, gateQ_false, gateL_false, Bool.false_eq_true, if_false, q_pick_bool, cond_false, xif_false]
    have hb1221 := (hb1218.then hb19).then (hb20.then hb21)
    have hb021 := hb012.then hb1221
    have hE1f := hE1'.below hb1221
    have hE2f := hE2'.below hb1221
    refine looping_i (FaI W21 G.length) (lenM (G.length + 2)) ⟨⟨Below.refl _ _, 1, rfl, Nat.le_refl _, by omega⟩, ?_⟩
    rintro _ W ⟨hbW, i, rfl, hi1, hi2⟩ _
    refine eng_len (hE2f.below hbW) ?_
    simp only [q_leq, onSome_some]
    refine xif_dec (fun hlt => ?_) (fun hlt => ?_)
    · have e1 : IntKind.i64.wrap ((i : Int) + 1) = ((i + 1 : Nat) : Int) := by rw [wrap_i64 (by omega) (by omega)]; omega
      refine eng_costc (hE1f.below hbW) (by omega) (fun W26 a13 hb26 hka _ => ?_)
      refine eng_costc (hE2f.below (hbW.then hb26)) (by omega) (fun W29 b15 hb29 hkb _ => ?_)
      have hka' := (blk_below hb29 (lt_of_blk hka)).trans hka
      have qa : q_loadn 4 (.pointer (some ⟨a13, 0, none⟩)) W29 = some (costQ (cosV method s0 G) i).1.v := by simp [hka', Co.v]
      have qb : q_loadn 4 (.pointer (some ⟨b15, 0, none⟩)) W29 = some (costQ (cosV method s0 G) i).1.v := by simp [hkb, Co.v]
      rw [qa, onSome_some, qb, onSome_some]
      unfold Co.v
      rw [eq43, onSome_some, decide_eq_true rfl]
      simp only [Bool.not_true, xif_false, q_add, onSome_some, e1]
      exact ⟨⟨(hbW.then hb26).then hb29, i + 1, rfl, by omega, by omega⟩, by simp only [lenM, intOf]; omega⟩
    · have hb0W := hb021.then hbW
      exact lives39_ok (ht.below hb0W) _ (fun w4 hb4 => hK _ (hb0W.then hb4))
  · -- added
    have hBB := hE18.belowS hF3
    have hsz := hb0d.size
    have hsz2 := hb2d.size
    have hb012 := hb08.trans (hBB.mono hsz)
    have hb212 := hb28.trans (hBB.mono hsz2)
    have hE2' := HasE.other hE1 hE2 (Nat.le_refl _) hF3
    have hgG' := hgG.add hmm he3
    have hi : G.length < (cosV method s0 (G ++ [m])).length := by rw [cosV_len]; simp
    obtain ⟨hL, hseq, _, _⟩ := hgG'.cos hi
    have hms := hgG'.seq hL
    rw [List.getElem_append_right (Nat.le_refl _)] at hms
    simp only [Nat.sub_self, List.getElem_cons_zero] at hms
    rw [List.getElem?_eq_getElem hi, Option.getD_some] at hc
    rw [← hc, ← hms] at hseq
    have hk212 := (blk_below hb212 (lt_of_blk hk2)).trans hk2
    simp only [q_eql, decide_true, onSome_some, xif_true]
    simp [hkc, hk212, hseq]
    refine eng_len hE3 ?_
    simp
    refine eng_len hE2' ?_
    have e1 : IntKind.i64.wrap ((G.length : Int) + 1) = (G.length : Int) + 1 := by rw [wrap_i64 (by omega) (by omega)]
    simp [e1]
    refine lives39_ok (ht.below hb012) _ (fun w4 hb4 => ?_)
    exact hK _ (hb012.then hb4)
end Go.X
