/- TopRecost: the contract of its law function. -/
import Derived.Test.YtbglbbmlohfemaaGreatDoorCWv
set_option linter.unusedVariables false
set_option linter.unusedSimpArgs false
namespace Go.X
open Go.Proofs Go.RowKit
/-! ### Plain -/
theorem selP_kind0 {l : List Tr} : ∀ m ∈ selP 0 l, m.kind = 1 := by
  intro m hm
  unfold selP at hm
  obtain ⟨t, ht, rfl⟩ := List.mem_map.1 hm
  have h := (List.mem_filter.1 ht).2
  have hq : ¬ t.qty < 0 := by
    intro hn
    rw [decide_eq_true hn] at h
    simp at h
  unfold mvT
  simp [hq]
theorem selP_kind1 {l : List Tr} : ∀ m ∈ selP 1 l, m.kind = 2 := by
  intro m hm
  unfold selP at hm
  obtain ⟨t, ht, rfl⟩ := List.mem_map.1 hm
  have h := (List.mem_filter.1 ht).2
  have hq : t.qty < 0 := by
    refine Classical.byContradiction (fun hn => ?_)
    rw [decide_eq_false hn] at h
    simp at h
  unfold mvT
  simp [hq]
theorem selP_perm : ∀ l : List Tr, (selP 0 l ++ selP 1 l).Perm (l.map mvT) := by
  intro l
  induction l with
  | nil => exact List.Perm.nil
  | cons t r ih =>
    by_cases hq : t.qty < 0
    · have e0 : selP 0 (t :: r) = selP 0 r := by unfold selP; simp [List.filter_cons, hq]
      have e1 : selP 1 (t :: r) = mvT t :: selP 1 r := by unfold selP; simp [List.filter_cons, hq]
      rw [e0, e1, List.map_cons]
      exact List.perm_middle.trans (ih.cons _)
    · have e0 : selP 0 (t :: r) = mvT t :: selP 0 r := by unfold selP; simp [List.filter_cons, hq]
      have e1 : selP 1 (t :: r) = selP 1 r := by unfold selP; simp [List.filter_cons, hq]
      rw [e0, e1, List.map_cons, List.cons_append]
      exact ih.cons _
theorem enX_perm (l : List Tr) : (enX l 2).Perm (enX l.reverse 2) :=
  (selP_perm l).trans (((List.reverse_perm l).symm.map mvT).trans (selP_perm l.reverse).symm)
theorem enX_trd {l : List Tr} (h : ∀ t ∈ l, TrV t) : ∀ m ∈ enX l 2, Trd m := by
  intro m hm
  obtain ⟨t, ht, rfl⟩ := List.mem_map.1 ((selP_perm l).mem_iff.1 hm)
  exact mvT_trd (h t ht)
theorem enX_ok {l : List Tr} (h : ∀ t ∈ l, TrV t) : ∀ m ∈ enX l 2, m.Ok := by
  intro m hm
  obtain ⟨t, ht, rfl⟩ := List.mem_map.1 ((selP_perm l).mem_iff.1 hm)
  exact mvT_ok (h t ht)
theorem enX_length (l : List Tr) : (enX l 2).length = l.length := by
  have := (selP_perm l).length_eq
  rw [List.length_map] at this
  exact this
theorem enX_nodup {l : List Tr} (h : (l.map Tr.day).Nodup) : ((enX l 2).map Mv.value).Nodup := by
  have h1 : ((l.map mvT).map Mv.value).Nodup := by
    rw [List.map_map]
    exact h
  exact (((selP_perm l).map Mv.value).symm).nodup h1
theorem day_nodup {l : List Tr} (h : l.Pairwise (fun a b => a.day < b.day)) : (l.map Tr.day).Nodup := by
  rw [List.nodup_iff_pairwise_ne, List.pairwise_map]
  exact h.imp (fun h => by omega)
theorem enX_iff {method price : Int} (hmt : 1 ≤ method ∧ method ≤ 4) (hp : 0 ≤ price ∧ price ≤ 1023) (hp3 : method ≠ 3 → price = 0) (hst : (startV method price).2 = 0) {l : List Tr} (hva : ∀ t ∈ l, TrV t) (hn : l.length ≤ 24) (hnd : (l.map Tr.day).Nodup) :
    (fillL method (startV method price).1 [] (enX l 2)).length = (enX l 2).length ↔ ∀ d, 0 ≤ lv (enX l 2) d := by
  have hpI : I64 price := by unfold I64; omega
  have hlen := enX_length l
  have hG := fillL_good (enX l 2) [] (good_nil (method := method) hpI hst) (enX_ok hva) (by simp; omega)
  constructor
  · intro h d
    have h1 := fillL_all (enX l 2) [] (by simpa using h)
    have h2 := lv_of_err hG (start_zero (method := method) (price := price)).1 d
    rw [← lv_unseq, h1, List.map_nil, List.nil_append, lv_unseq] at h2
    exact h2
  · intro h
    have := fill_good hmt hp hp3 (R := selP 0 l) (I := selP 1 l) (by have : (selP 0 l ++ selP 1 l).length = l.length := hlen; omega) (enX_trd hva) selP_kind0 selP_kind1 (enX_nodup hnd) h _ (Nat.le_refl _)
    rw [List.take_length] at this
    have h2 := congrArg List.length this
    rw [renum_len] at h2
    exact h2
theorem fill_unseq {method price : Int} {X : List Mv} (h : (fillL method (startV method price).1 [] X).length = X.length) : (fillL method (startV method price).1 [] X).map unseq = X.map unseq := by
  have h1 := fillL_all X [] (by simpa using h)
  simpa using h1
theorem kinds_of {H X : List Mv} (h : H.map unseq = X.map unseq) (hX : ∀ m ∈ X, m.kind = 1 ∨ m.kind = 2) : ∀ m ∈ H, m.kind = 1 ∨ m.kind = 2 := by
  intro m hm
  have h1 : unseq m ∈ X.map unseq := by rw [← h]; exact List.mem_map_of_mem hm
  obtain ⟨k, hk, e⟩ := List.mem_map.1 h1
  have h2 := hX k hk
  have e2 : (unseq k).kind = (unseq m).kind := by rw [e]
  change k.kind = m.kind at e2
  rw [e2] at h2
  exact h2
theorem values_of {G X : List Mv} (h : G.map unseq = X.map unseq) : G.map Mv.value = X.map Mv.value := by
  have := congrArg (fun l : List Mv => l.map Mv.value) h
  simp only [List.map_map] at this
  exact this
theorem enX_kind {l : List Tr} : ∀ m ∈ enX l 2, m.kind = 1 ∨ m.kind = 2 := by
  intro m hm
  rcases List.mem_append.1 hm with h | h
  · exact .inl (selP_kind0 m h)
  · exact .inr (selP_kind1 m h)
/-- Both orders of entering come to the same. -/
theorem top_same {method price : Int} (hmt : 1 ≤ method ∧ method ≤ 4) (hp : 0 ≤ price ∧ price ≤ 1023) (hp3 : method ≠ 3 → price = 0) (hst : (startV method price).2 = 0) {l : List Tr} (hva : ∀ t ∈ l, TrV t) (hn : l.length ≤ 24) (hs : l.Pairwise (fun a b => a.day < b.day)) :
    ((fillL method (startV method price).1 [] (enX l 2)).length = (enX l 2).length ↔ (fillL method (startV method price).1 [] (enX l.reverse 2)).length = (enX l.reverse 2).length) ∧
    ((fillL method (startV method price).1 [] (enX l 2)).length = (enX l 2).length → ∀ d,
      atV Co.qty method (startV method price).1 (fillL method (startV method price).1 [] (enX l 2)) d = atV Co.qty method (startV method price).1 (fillL method (startV method price).1 [] (enX l.reverse 2)) d ∧
      atV Co.value method (startV method price).1 (fillL method (startV method price).1 [] (enX l 2)) d = atV Co.value method (startV method price).1 (fillL method (startV method price).1 [] (enX l.reverse 2)) d) := by
  have hpI : I64 price := by unfold I64; omega
  have hnd := day_nodup hs
  have hva2 : ∀ t ∈ l.reverse, TrV t := fun t h => hva t (List.mem_reverse.1 h)
  have hn2 : l.reverse.length ≤ 24 := by rw [List.length_reverse]; exact hn
  have hnd2 : (l.reverse.map Tr.day).Nodup := ((List.reverse_perm l).symm.map Tr.day).nodup hnd
  have i1 := enX_iff hmt hp hp3 hst hva hn hnd
  have i2 := enX_iff hmt hp hp3 hst hva2 hn2 hnd2
  have hpm := enX_perm l
  have hii : (fillL method (startV method price).1 [] (enX l 2)).length = (enX l 2).length ↔ (fillL method (startV method price).1 [] (enX l.reverse 2)).length = (enX l.reverse 2).length := by
    rw [i1, i2]
    constructor
    · intro h d; rw [← lv_perm hpm]; exact h d
    · intro h d; rw [lv_perm hpm]; exact h d
  refine ⟨hii, fun h d => ?_⟩
  have h2 := hii.1 h
  have hl1 := enX_length l
  have hl2 := enX_length l.reverse
  have hG := fillL_good (enX l 2) [] (good_nil (method := method) hpI hst) (enX_ok hva) (by simp; omega)
  have hH := fillL_good (enX l.reverse 2) [] (good_nil (method := method) hpI hst) (enX_ok hva2) (by simp; simp at hn2; simp at hl2; omega)
  have u1 := fill_unseq h
  have u2 := fill_unseq h2
  refine at_same hG hH ?_ ?_ (kinds_of u2 enX_kind) d
  · rw [u1, u2]; exact hpm.map unseq
  · rw [values_of u1]; exact enX_nodup hnd
theorem start_fine {method price : Int} (hmt : 1 ≤ method ∧ method ≤ 4) (hp : 0 ≤ price ∧ price ≤ 1023) : (startV method price).2 = 0 := by
  unfold startV
  rw [if_neg (by omega), if_neg (by omega)]
  split <;> rfl
theorem q_and_low (x : Int) {m : Nat} (hm : m ≤ 1023) : ∃ y : Nat, y ≤ m ∧ q_bin .and (.int .i64 x) (.int .i64 (m : Int)) = some (.int .i64 (y : Int)) := by
  refine ⟨(BitVec.ofInt IntKind.i64.bits x &&& BitVec.ofInt IntKind.i64.bits (m : Int)).toNat, ?_, ?_⟩
  · have e : (BitVec.ofInt 64 x &&& BitVec.ofInt 64 (m : Int)).toNat ≤ m := by
      rw [BitVec.toNat_and]
      have h2 : (BitVec.ofInt 64 (m : Int)).toNat = m := by rw [BitVec.toNat_ofInt]; omega
      rw [h2]
      exact Nat.and_le_right
    exact e
  · have e : (BitVec.ofInt IntKind.i64.bits x &&& BitVec.ofInt IntKind.i64.bits (m : Int)).toNat ≤ m := by
      have e : (BitVec.ofInt 64 x &&& BitVec.ofInt 64 (m : Int)).toNat ≤ m := by
        rw [BitVec.toNat_and]
        have h2 : (BitVec.ofInt 64 (m : Int)).toNat = m := by rw [BitVec.toNat_ofInt]; omega
        rw [h2]
        exact Nat.and_le_right
      exact e
    simp only [q_bin, vint, if_true]
    rw [wr (by omega) (by omega)]
/-! ### lives12 -/
def l12 : List Tr := [⟨5, 10, 105⟩, ⟨9, -4, 0⟩]
def e12 : List Mv := fillL 2 (startV 2 0).1 [] (enX (turnT false l12) 2)
theorem e12_ok : decide (e12.length = (enX (turnT false l12) 2).length) = true := by kernel_rfl
theorem e12_q : atV Co.qty 2 (startV 2 0).1 e12 9 = 6 := by kernel_rfl
theorem e12_v : atV Co.value 2 (startV 2 0).1 e12 9 = 63 := by kernel_rfl
theorem e12_len : e12.length = 2 := by kernel_rfl
attribute [local irreducible] l_append l_copy l_make l_run l_runU q_slice q_eq q_index q_build onSome l_lit q_read
variable {w w' w'' : World} {B x : Nat} {r : Option Nat} {method : Int} {s0 : St} {L : List Mv} {m : Mv}
theorem lives12_ok (ht : Tab w) : Calc 31 [] w (.bool true) := by
  intro K hK
  refine lift31 ?_
  unfold L31
  rw [build_of (cs := #[.int .i64 5, .int .i64 10, .int .i64 105]) (by simp), onSome_some, build_of (cs := #[.int .i64 9, .int .i64 (-4), .int .i64 0]) (by simp), onSome_some]
  unfold l_lit
  rw [show fillC #[.int .i64 0, .int .i64 0, .int .i64 0, .int .i64 0, .int .i64 0, .int .i64 0] [(0, 3, .agg #[.int .i64 5, .int .i64 10, .int .i64 105]), (3, 3, .agg #[.int .i64 9, .int .i64 (-4), .int .i64 0])] = some #[.int .i64 5, .int .i64 10, .int .i64 105, .int .i64 9, .int .i64 (-4), .int .i64 0] by simp, onSome_some]
  dsimp only
  have hb1 := (Below.refl w.heap.size w).alloc (Nat.le_refl _) (.cells #[.int .i64 5, .int .i64 10, .int .i64 105, .int .i64 9, .int .i64 (-4), .int .i64 0] 56)
  have hk1 := new_blk w (.cells #[.int .i64 5, .int .i64 10, .int .i64 105, .int .i64 9, .int .i64 (-4), .int .i64 0] 56) _ rfl
  generalize w.alloc (.cells #[.int .i64 5, .int .i64 10, .int .i64 105, .int .i64 9, .int .i64 (-4), .int .i64 0] 56) = W1 at *
  have ho : Own TrE 56 W1 w.heap.size (.slice (some ⟨w.heap.size, 0, none⟩) 2 2) l12 :=
    .inr ⟨w.heap.size, 2, _, rfl, Nat.le_refl _, hk1, Nat.le_refl _, by decide, by simp [TrE, Tr.cs], by simp [TrE, Tr.cs, Enc.flat, l12]⟩
  refine entered_ok (method := 2) (price := 0) (turned := false) (ht.below hb1) (by decide) rfl (Rd.of_own ho) (fun t h => ?_) (by decide) (fun W2 x r hb2 hE => ?_)
  · unfold l12 at h
    simp only [List.mem_cons, List.not_mem_nil, or_false] at h
    rcases h with rfl | rfl
    · exact ⟨by decide, by decide, by decide⟩
    · exact ⟨by decide, by decide, by decide⟩
  have hE' : HasE W2 W1.heap.size x r 2 (startV 2 0).1 e12 := hE
  have eok : decide ((fillL 2 (startV 2 0).1 [] (enX (turnT false l12) 2)).length = (enX (turnT false l12) 2).length) = true := e12_ok
  rw [eok]
  simp only [q_extract_tuple, List.getElem?_toArray, List.getElem?_cons_succ, List.getElem?_cons_zero, onSome_some, q_not, Bool.not_true, xif_false]
  refine at_ok hE' (by rw [e12_len]; decide) (fun W3 hb3 => ?_)
  rw [e12_q, e12_v]
  simp only [q_extract_tuple, List.getElem?_toArray, List.getElem?_cons_succ, List.getElem?_cons_zero, onSome_some, q_eql, decide_true, gateQ_true, if_true, q_pick_bool, cond_true]
  exact hK _ ((hb1.then hb2).then hb3)
/-! ### TopRecost -/
def TopI (w0 : World) (n : Nat) (x1 x2 B1 B2 : Nat) (method : Int) (s0 : St) (G H : List Mv) (v : Value) (W : World) : Prop :=
  Below w0.heap.size w0 W ∧ ∃ (i : Nat) (r1 r2 : Option Nat), v = .int .i64 i ∧ i ≤ n ∧ HasE W B1 x1 r1 method s0 G ∧ HasE W B2 x2 r2 method s0 H
def PrI (W1 : World) (v : Value) (W : World) : Prop := W1 = W ∧ ∃ p : Int, v = .int .i64 p ∧ 0 ≤ p ∧ p ≤ 1023
def Pr3 (W1 : World) (method : Int) (v : Value) (W : World) : Prop := W1 = W ∧ ∃ p : Int, v = .int .i64 p ∧ 0 ≤ p ∧ p ≤ 1023 ∧ (method ≠ 3 → p = 0)
theorem topRecost_ok {v : Value} {l : List Tr} {mt price : Int} (ht : Tab w) (hmI : I64 mt) (hp : I64 price) (hv : Rd TrE w v l) (hm : ∀ t ∈ l, t.Ok) : Calc 9 [.int .i64 mt, .int .i64 price, v] w (.bool true) := by
  intro K hK
  refine lift9 ?_
  unfold L9
  refine trades_ok hv hm (fun W1 v' out hown hva hsr hlen hb1 => ?_)
  have hrd := Rd.of_own hown
  clear hv hown hm
  obtain ⟨y, hy, hqy⟩ := q_and_low mt (m := 3) (by decide)
  have hqy' : q_bin .and (.int .i64 mt) (.int .i64 3) = some (.int .i64 (y : Int)) := hqy
  have ew : IntKind.i64.wrap (1 + (y : Int)) = 1 + (y : Int) := wr (by omega) (by omega)
  rw [hqy', onSome_some]
  simp only [q_add, onSome_some, ew]
  have hmt : 1 ≤ 1 + (y : Int) ∧ 1 + (y : Int) ≤ 4 := by omega
  generalize 1 + (y : Int) = method at *
  refine joining_i (PrI W1) ⟨?_, ?_⟩
  · have hmask : ∀ Q : Value → Prop, (∀ p : Int, 0 ≤ p → p ≤ 1023 → Q (.int .i64 p)) → onSome (q_bin .and (.int .i64 price) (.int .i64 1023)) Q := by
      intro Q hQ
      obtain ⟨z, hz, hqz⟩ := q_and_low price (m := 1023) (by decide)
      have hqz' : q_bin .and (.int .i64 price) (.int .i64 1023) = some (.int .i64 (z : Int)) := hqz
      rw [hqz', onSome_some]
      exact hQ _ (by omega) (by omega)
    by_cases h1 : price < 0
    · simp only [q_lss, onSome_some, decide_eq_true h1, gateQ_true, Bool.false_eq_true, if_false, q_pick_bool, cond_true, xif_true]
      exact hmask _ (fun p h1 h2 => ⟨rfl, p, rfl, h1, h2⟩)
    · by_cases h2 : 1000 < price
      · simp only [q_lss, onSome_some, decide_eq_false h1, gateQ_false, gateQ_true, Bool.false_eq_true, if_false, q_gtr, decide_eq_true h2, q_pick_bool, cond_false, cond_true, xif_true]
        exact hmask _ (fun p h1 h2 => ⟨rfl, p, rfl, h1, h2⟩)
      · simp only [q_lss, onSome_some, decide_eq_false h1, gateQ_false, Bool.false_eq_true, if_false, q_gtr, decide_eq_false h2, q_pick_bool, cond_false, q_neq]
        refine xif_ndec (fun _ => hmask _ (fun p h1 h2 => ⟨rfl, p, rfl, h1, h2⟩)) (fun _ => ⟨rfl, price, rfl, by omega, by omega⟩)
  · rintro _ _ ⟨rfl, p1, rfl, hp0, hp1⟩ _
    refine joining_i (Pr3 W1 method) ⟨?_, ?_⟩
    · simp only [q_neq, onSome_some]
      exact xif_ndec (fun _ => ⟨rfl, 0, rfl, by decide, by decide, fun _ => rfl⟩) (fun h => ⟨rfl, p1, rfl, hp0, hp1, fun h2 => absurd h h2⟩)
    · rintro _ _ ⟨rfl, p, rfl, hq0, hq1, hq3⟩ _
      have hst := start_fine hmt ⟨hq0, hq1⟩
      have hpI : I64 p := by unfold I64; omega
      obtain ⟨tii, tat⟩ := top_same hmt ⟨hq0, hq1⟩ hq3 hst hva hlen hsr
      have hlG := fillL_len (method := method) (s0 := (startV method p).1) (enX out 2) []
      have hlH := fillL_len (method := method) (s0 := (startV method p).1) (enX out.reverse 2) []
      have hx1 := enX_length out
      have hx2 := enX_length out.reverse
      rw [List.length_reverse] at hx2
      simp only [List.length_nil, Nat.zero_add] at hlG hlH
      refine entered_ok (turned := false) (ht.below hb1) hpI hst hrd hva hlen (fun W4 x1 r1 hb4 hE4 => ?_)
      have hb04 := hb1.then hb4
      simp only [q_extract_tuple, List.getElem?_toArray, List.getElem?_cons_succ, List.getElem?_cons_zero, onSome_some]
      refine entered_ok (turned := true) (ht.below hb04) hpI hst (hrd.below hb4) hva hlen (fun W5 x2 r2 hb5 hE5 => ?_)
      have hb05 := hb04.then hb5
      have hE45 := hE4.below hb5
      have hrd5 := hrd.below (hb4.then hb5)
      simp only [turnT, Bool.false_eq_true, if_false, if_true] at hE45 hE5 ⊢
      generalize fillL method (startV method p).1 [] (enX out 2) = G at *
      generalize fillL method (startV method p).1 [] (enX out.reverse 2) = H at *
      generalize (startV method p).1 = s0 at *
      have hdd : decide (H.length = (enX out.reverse 2).length) = decide (G.length = (enX out 2).length) := decide_eq_decide.2 tii.symm
      rw [hdd]
      simp only [q_extract_tuple, List.getElem?_toArray, List.getElem?_cons_succ, List.getElem?_cons_zero, onSome_some, (nil50 _).1, Option.isNone_some, gateQ_false, Bool.false_eq_true, if_false, q_pick_bool, cond_false, ne4b, bne_self_eq_false, xif_false]
      generalize hbb : decide (G.length = (enX out 2).length) = bb
      have hlv : ∀ W, Below w.heap.size w W → Ret Tryz.prog 31 [] W K := fun W hb => lives12_ok (ht.below hb) _ (fun w4 hb4 => hK _ (hb.then hb4))
      refine looping_i (TopI W1 out.length x1 x2 W1.heap.size W4.heap.size method s0 G H) (fun v _ => out.length - (intOf v).toNat) ⟨⟨hb4.then hb5, 0, r1, r2, rfl, Nat.zero_le _, hE45, hE5⟩, ?_⟩
      rintro _ W6 ⟨hb6, i, s1, s2, rfl, hi, hE1, hE2⟩ _
      rw [hrd.len, onSome_some]
      simp only [q_lss, onSome_some]
      have hb06 := hb1.then hb6
      have hl6 := hlv W6 hb06
      by_cases hlt : (i : Int) < (out.length : Int)
      · rw [decide_eq_true hlt]
        simp only [gateQ_true, if_true, onSome_some, q_pick_bool, cond_true]
        cases bb with
        | false => simp only [xif_false]; exact hl6
        | true =>
          simp only [xif_true]
          have h1 : i < out.length := by omega
          have e1 : IntKind.i64.wrap ((i : Int) + 1) = ((i + 1 : Nat) : Int) := by rw [wrap_i64 (by omega) (by omega)]; omega
          obtain ⟨ad, hq, hload⟩ := tr_load (hrd.below hb6) h1
          have tt := tat (of_decide_eq_true hbb) out[i].day
          simp only [hq, onSome_some, q_faddr_ptr, q_load1_ptr]
          rw [(hload W6 (Below.refl _ _)).2, onSome_some]
          refine at_ok hE1 (by omega) (fun W7 hb7 => ?_)
          simp only [q_extract_tuple, List.getElem?_toArray, List.getElem?_cons_succ, List.getElem?_cons_zero, onSome_some]
          rw [(hload W7 hb7).2, onSome_some]
          refine at_ok (hE2.below hb7) (by omega) (fun W8 hb8 => ?_)
          rw [tt.1, tt.2]
          simp only [q_extract_tuple, List.getElem?_toArray, List.getElem?_cons_succ, List.getElem?_cons_zero, onSome_some, q_neq, decide_true, Bool.not_true, gateQ_false, Bool.false_eq_true, if_false, q_pick_bool, cond_false, xif_false, q_add, e1]
          exact ⟨⟨hb6.then (hb7.then hb8), i + 1, s1, s2, rfl, by omega, hE1.below (hb7.then hb8), hE2.below (hb7.then hb8)⟩, by simp only [intOf]; omega⟩
      · rw [decide_eq_false hlt]
        simp only [gateQ_false, if_true, onSome_some, q_pick_bool, cond_false, xif_false]
        exact hl6
end Go.X
