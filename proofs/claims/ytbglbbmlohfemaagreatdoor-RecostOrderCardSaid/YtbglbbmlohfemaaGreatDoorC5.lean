/- Law 39: small functions; the examples. -/
import Derived.Test.YtbglbbmlohfemaaGreatDoorC3
import Derived.Test.YtbglbbmlohfemaaGreatDoorB7
import Derived.Test.YtbglbbmlohfemaaGreatDoorC4
section
set_option linter.unusedVariables false
set_option linter.unusedSimpArgs false
namespace Go.X
open Go.Proofs Go.RowKit
def Mv.sc (a : Mv) : List Sc := [.n a.seq, .n a.value, .s a.item, .n a.kind, .n a.qty, .n a.cost, .s a.lot, .n a.ref]
theorem Mv.sc_inj {a b : Mv} : a.sc = b.sc ↔ a = b := by
  cases a; cases b; simp [Mv.sc]
instance : DecidableEq Mv := fun a b => if h : a.sc = b.sc then .isTrue (Mv.sc_inj.mp h) else .isFalse (fun e => h (Mv.sc_inj.mpr e))
theorem is72 : intStruct Tryz.prog 72 3 = true := by kernel_rfl
theorem ne72 (a b : Ad) : q_eq Tryz.prog .neq 72 (.agg #[.int .i64 a.seq, .int .i64 a.value, .int .i64 a.var]) (.agg #[.int .i64 b.seq, .int .i64 b.value, .int .i64 b.var]) = some (.bool (!decide (a = b))) := by
  have h := (q_eq_ints is72 .i64 [a.seq, a.value, a.var] [b.seq, b.value, b.var] rfl rfl).2
  have e : decide ([a.seq, a.value, a.var] = [b.seq, b.value, b.var]) = decide (a = b) := decide_eq_decide.mpr (by cases a; cases b; simp)
  rw [e] at h
  exact h
theorem eqq43 (a b : Co) : q_eq Tryz.prog .eql 43 (.agg #[.int .i64 a.seq, .int .i64 a.qty, .int .i64 a.value, .int .i64 a.var]) (.agg #[.int .i64 b.seq, .int .i64 b.qty, .int .i64 b.value, .int .i64 b.var]) = some (.bool (decide (a = b))) := by
  have h := (q_eq_ints is43 .i64 [a.seq, a.qty, a.value, a.var] [b.seq, b.qty, b.value, b.var] rfl rfl).1
  have e : decide ([a.seq, a.qty, a.value, a.var] = [b.seq, b.qty, b.value, b.var]) = decide (a = b) := decide_eq_decide.mpr (by cases a; cases b; simp)
  rw [e] at h
  exact h
attribute [local irreducible] l_append l_copy l_make l_run l_runU q_slice q_eq q_index q_build onSome l_lit q_read
variable {w w' w'' : World} {B x : Nat} {r : Option Nat} {method : Int} {s0 : St} {L : List Mv} {m : Mv}
theorem adElem {v : Value} {l : List Ad} (h : Rd AdE w v l) {i : Nat} (hi : i < l.length) : ∃ ad, q_iaddr 3 v (.int .i64 (i : Int)) = some (.pointer (some ad)) ∧ q_loadn 3 (.pointer (some ad)) w = some (.agg #[.int .i64 l[i].seq, .int .i64 l[i].value, .int .i64 l[i].var]) ∧
    w.cell? (ad.add 0) = some (.int .i64 l[i].seq) ∧ w.cell? (ad.add 1) = some (.int .i64 l[i].value) ∧ w.cell? (ad.add 2) = some (.int .i64 l[i].var) := by
  obtain ⟨ad, h1, h2, h3⟩ := h.elem hi .i64
  exact ⟨ad, h1, h2, h3 0 _ rfl, h3 1 _ rfl, h3 2 _ rfl⟩
def SamI {α : Type} (l k : List α) (w0 : World) (v : Value) (W : World) : Prop := Below w0.heap.size w0 W ∧ ∃ i : Nat, v = .int .i64 i ∧ i ≤ l.length ∧ ∀ j (h1 : j < l.length) (h2 : j < k.length), j < i → l[j] = k[j]
theorem sameAdj_ok {a b : Value} {l k : List Ad} (ha : Rd AdE w a l) (hb : Rd AdE w b k) : Calc 45 [a, b] w (.bool (decide (l = k))) := by
  intro K hK
  refine lift45 ?_
  unfold L45
  obtain ⟨_, _, _, hm1⟩ := ha.slice
  obtain ⟨_, _, _, hm2⟩ := hb.slice
  have hmx' : (maxLen : Int) ≤ 9223372036854775807 := by decide
  rw [ha.len, onSome_some, hb.len, onSome_some]
  simp only [q_neq, onSome_some]
  refine xif_ndec (fun h0 => ?_) (fun h0 => ?_)
  · rw [decide_eq_false (fun e => h0 (by rw [e]))] at hK
    exact hK _ (Below.refl _ _)
  have hlen : l.length = k.length := by omega
  refine looping_i (SamI l k w) (lenM l.length) ⟨⟨Below.refl _ _, 0, rfl, Nat.zero_le _, by omega⟩, ?_⟩
  rintro _ W ⟨hbW, i, rfl, hi, hno⟩ _
  simp only [q_lss, onSome_some]
  refine xif_dec (fun hlt => ?_) (fun hlt => ?_)
  · have h1 : i < l.length := by omega
    have h2 : i < k.length := by omega
    have e1 : IntKind.i64.wrap ((i : Int) + 1) = ((i + 1 : Nat) : Int) := by rw [wrap_i64 (by omega) (by omega)]; omega
    obtain ⟨ad, hq, hload, _⟩ := adElem ((ha.below hbW).below (Below.refl _ W).drew) h1
    obtain ⟨ad', hq', hload', _⟩ := adElem ((hb.below hbW).below (Below.refl _ W).drew) h2
    rw [hq, onSome_some, hload, onSome_some, hq', onSome_some, hload', onSome_some, ne72, onSome_some]
    refine xif_ndec (fun h3 => ?_) (fun h3 => ?_)
    · rw [decide_eq_false (fun e => h3 (by simp only [e]))] at hK
      exact hK _ hbW.drew
    · simp only [q_add, onSome_some, e1]
      refine ⟨⟨hbW.drew, i + 1, rfl, by omega, fun j j1 j2 hji => ?_⟩, by simp only [lenM, intOf]; omega⟩
      rcases Nat.lt_or_ge j i with h4 | h4
      · exact hno j j1 j2 h4
      · have : j = i := by omega
        subst this
        exact h3
  · rw [decide_eq_true (list_eq_of hlen (fun j h1 h2 => hno j h1 h2 (by omega)))] at hK
    exact hK _ hbW
/-! ### light, move, fill -/
theorem light_ok {v : Value} {l : List Mv} (hv : Rd MvE w v l) {K : Value → World → Prop} (hK : ∀ b : Bool, (b = true → l.length ≤ 50) → K (.bool b) w) : Ret Tryz.prog 38 [v] w K := by
  refine lift38 ?_
  unfold L38
  rw [hv.len, onSome_some]
  simp only [q_gtr, onSome_some]
  refine xif_dec (fun h0 => hK false (by simp)) (fun h0 => ?_)
  have hl : l.length ≤ 50 := by omega
  refine looping_i (fun v W => W = w ∧ ∃ i : Nat, v = .int .i64 i ∧ i ≤ l.length) (lenM l.length) ⟨⟨rfl, 0, rfl, Nat.zero_le _⟩, ?_⟩
  rintro _ W ⟨rfl, i, rfl, hi⟩ _
  simp only [q_lss, onSome_some]
  refine xif_dec (fun hlt => ?_) (fun hlt => hK true (fun _ => hl))
  have h1 : i < l.length := by omega
  have e1 : IntKind.i64.wrap ((i : Int) + 1) = ((i + 1 : Nat) : Int) := by rw [wrap_i64 (by omega) (by omega)]; omega
  obtain ⟨ad, hq, hload, hc⟩ := mvElem hv h1
  have c2 := hc 2 _ rfl
  have c6 := hc 6 _ rfl
  rw [hq, onSome_some, q_faddr_ptr, onSome_some, q_load1_ptr, c2, onSome_some, q_slen_string, onSome_some, q_gtr, onSome_some]
  have fin : (onSome (q_bin .add (.int .i64 (i : Int)) (.int .i64 1)) fun t12 => ((fun v W' => W' = W ∧ ∃ i : Nat, v = .int .i64 i ∧ i ≤ l.length) t12 W) ∧ lenM l.length t12 W < lenM l.length (.int .i64 (i : Int)) W) := by
    simp only [q_add, onSome_some, e1]
    exact ⟨⟨trivial, i + 1, rfl, by omega⟩, by simp only [lenM, intOf]; omega⟩
  by_cases k1 : (100 : Int) < (l[i].item.size : Int)
  · simp [k1]
    exact hK false (by simp)
  · simp [k1, hq, c6]
    by_cases k2 : (100 : Int) < (l[i].lot.size : Int)
    · simp [k2]
      exact hK false (by simp)
    · simp [k2]
      simpa using fin
theorem move_ok {seq day kind qty cost : Int} {K : Value → World → Prop} (hK : ∀ w', Below w.heap.size w w' → K (Mv.v ⟨seq, day, ⟨#[120]⟩, kind, qty, cost, ⟨#[]⟩, 0⟩) w') : Ret Tryz.prog 85 [.int .i64 seq, .int .i64 day, .int .i64 kind, .int .i64 qty, .int .i64 cost] w K := by
  refine lift85 ?_
  unfold L85
  rw [l_new_eq, build_of (cs := #[.int .i64 seq, .int .i64 day, .string ⟨#[120]⟩, .int .i64 kind, .int .i64 qty, .int .i64 cost, .string ⟨#[]⟩, .int .i64 0]) (by simp), onSome_some, l_store_to (by simp), cells_agg]
  have hb := below_putL ((Below.refl w.heap.size w).alloc (Nat.le_refl _) (.cells #[.int .i64 0, .int .i64 0, .string ⟨#[]⟩, .int .i64 0, .int .i64 0, .int .i64 0, .string ⟨#[]⟩, .int .i64 0] 47)) (Nat.le_refl _) [.int .i64 seq, .int .i64 day, .string ⟨#[120]⟩, .int .i64 kind, .int .i64 qty, .int .i64 cost, .string ⟨#[]⟩, .int .i64 0] 0
  simp
  exact hK _ hb
theorem HasE.lts (h : HasE w B x r method s0 L) : x < w.heap.size ∧ B ≤ x ∧ ∀ k, r = some k → B ≤ k ∧ k < w.heap.size := by
  obtain ⟨mv, cv, ov, kv, lv, pv, ks, hrow, h⟩ := h
  exact ⟨lt_of_blk h.blk, h.le, fun k hk => h.co.lt k (by rw [hrow]; exact hk)⟩
theorem HasE.notS (h : HasE w B x r method s0 L) {j : Nat} (hj : w.heap.size ≤ j) : ¬ EngS x r j := by
  obtain ⟨h1, _, h2⟩ := h.lts
  rintro (e | e)
  · omega
  · have := (h2 j e).2; omega
theorem engS_next {r' : Option Nat} {j : Nat} (hn : ¬ EngS x r j) (hj : j < w.heap.size) (hr : r' = r ∨ ∃ k, r' = some k ∧ w.heap.size ≤ k) : ¬ EngS x r' j := by
  rintro (e | e)
  · exact hn (.inl e)
  · rcases hr with rfl | ⟨k, rfl, hk⟩
    · exact hn (.inr e)
    · injection e with e; omega
theorem HasE.belowS (h : HasE w B x r method s0 L) (hF : Fr (EngS x r) w w') : Below B w w' := by
  obtain ⟨h1, h2, h3⟩ := h.lts
  exact hF.below h.size (fun k hk => by
    rcases hk with rfl | hk
    · exact h2
    · exact (h3 k hk).1)
def FilI (w0 : World) (B x : Nat) (method : Int) (s0 : St) (l : List Mv) (v : Value) (W : World) : Prop :=
  Below B w0 W ∧ ∃ (i : Nat) (r : Option Nat), v = .int .i64 i ∧ i ≤ l.length ∧ HasE W B x r method s0 (fillL method s0 [] (l.take i))
theorem fillL_take {l : List Mv} {i : Nat} (hi : i < l.length) (G : List Mv) : fillL method s0 G (l.take (i + 1)) = addL method s0 (fillL method s0 G (l.take i)) (reseq ((fillL method s0 G (l.take i)).length + 1) l[i]) := by
  rw [List.take_add_one, List.getElem?_eq_getElem hi, fillL_app]
  rfl
theorem fill_ok {v : Value} {l : List Mv} {price : Int} (ht : Tab w) (hp : I64 price) (hv : Rd MvE w v l) (hm : ∀ m ∈ l, m.Ok) (hn : l.length ≤ 1000) {K : Value → World → Prop}
    (hK1 : (startV method price).2 ≠ 0 → ∀ w', Below w.heap.size w w' → K (.pointer none) w')
    (hK2 : (startV method price).2 = 0 → ∀ w' x r, Below w.heap.size w w' → HasE w' w.heap.size x r method (startV method price).1 (fillL method (startV method price).1 [] l) → K (ptr x) w') :
    Ret Tryz.prog 52 [.agg #[.int .i64 method, .int .i64 price], v] w K := by
  refine lift52 ?_
  unfold L52
  rw [l_new_eq, cells_agg]
  have hb1 := (Below.refl w.heap.size w).alloc (Nat.le_refl _) (.cells #[.int .i64 method, .int .i64 price] 64)
  have hk1 := new_blk w (.cells #[.int .i64 method, .int .i64 price] 64) _ rfl
  generalize w.alloc (.cells #[.int .i64 method, .int .i64 price] 64) = W1 at *
  simp [hk1]
  refine new_ok hp (fun he W2 hb2 => ?_) (fun he W2 x hb2 hx hE => ?_)
  · simp [he]
    exact hK1 he _ (hb1.then hb2)
  · have hb02 := hb1.then hb2
    have hE' := hE.lower hb1.size
    have hgood := good_nil (method := method) hp he
    simp [ptr, (nil50 _).1]
    refine looping_i (FilI w w.heap.size x method (startV method price).1 l) (lenM l.length) ⟨⟨hb02, 0, none, rfl, Nat.zero_le _, hE'⟩, ?_⟩
    rintro _ W ⟨hbW, i, r, rfl, hi, hEW⟩
    rw [hv.len, onSome_some]
    simp only [q_lss, onSome_some]
    refine xif_dec (fun hlt => ?_) (fun hlt => ?_)
    · have h1 : i < l.length := by omega
      have e1 : IntKind.i64.wrap ((i : Int) + 1) = ((i + 1 : Nat) : Int) := by rw [wrap_i64 (by omega) (by omega)]; omega
      obtain ⟨ad, hq, hload⟩ := mv_load (hv.below hbW) h1
      have htk := fillL_take (method := method) (s0 := (startV method price).1) h1 []
      have hlenG := fillL_len (method := method) (s0 := (startV method price).1) (l.take i) []
      have hgG := fillL_good (l.take i) [] hgood (fun k hk => hm k (List.mem_of_mem_take hk)) (by simp; omega)
      have hmi := hm _ (List.getElem_mem h1)
      generalize l[i] = li at *
      rw [hq, onSome_some, hload _ (Below.refl _ _), onSome_some]
      refine var_mv (m := li) (fun W5 hb5 hk5 hs5 => ?_)
      have hE5 := hEW.below hb5
      have hb05 := hbW.trans (hb5.mono hbW.size)
      obtain ⟨G, hG⟩ : ∃ G, G = fillL method (startV method price).1 [] (l.take i) := ⟨_, rfl⟩
      rw [← hG] at hE5 htk hlenG hgG
      have hlG : G.length ≤ 1000 := by simp [List.length_take] at hlenG; omega
      refine eng_len hE5 ?_
      have e2 : IntKind.i64.wrap ((G.length : Int) + 1) = ((G.length + 1 : Nat) : Int) := by rw [wrap_i64 (by omega) (by omega)]; omega
      simp only [q_add, onSome_some, e2]
      rw [q_faddr_ptr, onSome_some, addr_add, l_store_to (by rw [hk5]; simp [Mv.cs])]
      have hb6 := below_putL hb05 hbW.size [.int .i64 ((G.length + 1 : Nat) : Int)] 0
      have hb56 := below_putL (Below.refl W.heap.size W5) (Nat.le_refl _) [.int .i64 ((G.length + 1 : Nat) : Int)] 0
      have hk6 : X.blk (X.putL W5 W.heap.size 0 [.int .i64 ((G.length + 1 : Nat) : Int)]) W.heap.size = some (.cells (reseq (G.length + 1) li).cs 47 (0, 0)) := by simp [hk5, Mv.cs, reseq]
      have hE6 := hEW.below (hb5.trans hb56)
      rw [← hG] at hE6
      simp only [Array.toList, cells_int, Nat.zero_add] at hk6 hb6 hb56 hE6 ⊢
      generalize X.putL W5 W.heap.size 0 [.int .i64 ((G.length + 1 : Nat) : Int)] = W6 at *
      have e8 : q_loadn 8 (.pointer (some ⟨W.heap.size, 0, none⟩)) W6 = some (reseq (G.length + 1) li).v := by simp [hk6, Mv.cs, Mv.v]
      rw [e8, onSome_some]
      have hadd : ∀ (c : Value), addL method (startV method price).1 G (reseq (G.length + 1) li) = fillL method (startV method price).1 [] (l.take (i + 1)) := fun _ => htk.symm
      refine eng_add (ht.below hb6) hE6 hgG (reseq_ok hmi (by omega)) (fun he3 W8 hb8 => ?_) (fun he3 W8 r' av hE8 hr' hF8 _ => ?_)
      · simp only [e1]
        have hb08 := hb6.trans (hb8.mono hb6.size)
        have : fillL method (startV method price).1 [] (l.take (i + 1)) = G := by rw [htk]; unfold addL; rw [if_neg he3]
        exact ⟨⟨hb08, i + 1, r, rfl, by omega, by rw [this]; exact hE6.below hb8⟩, by simp only [lenM, intOf]; omega⟩
      · simp only [e1]
        have hb08 := hb6.trans (hE6.belowS hF8)
        have : fillL method (startV method price).1 [] (l.take (i + 1)) = G ++ [reseq (G.length + 1) li] := by rw [htk]; unfold addL; rw [if_pos he3]
        exact ⟨⟨hb08, i + 1, r', rfl, by omega, by rw [this]; exact hE8⟩, by simp only [lenM, intOf]; omega⟩
    · have hil : i = l.length := by omega
      rw [hil, List.take_length] at hEW
      exact hK2 he W x r hbW hEW
end Go.X
end
section
set_option linter.unusedVariables false
set_option linter.unusedSimpArgs false
namespace Go.X
open Go.Proofs Go.RowKit
def lm1 : Mv := ⟨1, 10, ⟨#[120]⟩, 1, 4, 40, ⟨#[]⟩, 0⟩
def lm2 : Mv := ⟨2, 20, ⟨#[120]⟩, 2, 3, 0, ⟨#[]⟩, 0⟩
def lm3 : Mv := ⟨3, 5, ⟨#[120]⟩, 1, 2, 50, ⟨#[]⟩, 0⟩
def lm4 : Mv := ⟨4, 1, ⟨#[120]⟩, 2, 1, 0, ⟨#[]⟩, 0⟩
theorem lf1 : errV 1 St.zero ([] ++ [lm1]) = 0 := by kernel_rfl
theorem lf2 : errV 1 St.zero ([lm1] ++ [lm2]) = 0 := by kernel_rfl
theorem lf3 : errV 1 St.zero ([lm1, lm2] ++ [lm3]) = 0 := by kernel_rfl
theorem lf4 : errV 1 St.zero ([lm1, lm2, lm3] ++ [lm4]) = 21 := by kernel_rfl
theorem lc1 : ((cosV 1 St.zero ([] ++ [lm1]))[([] : List Mv).length]?).getD Co.zero = ⟨1, 4, 40, 0⟩ := by kernel_rfl
theorem lc2 : ((cosV 1 St.zero ([lm1] ++ [lm2]))[[lm1].length]?).getD Co.zero = ⟨2, -3, -30, 0⟩ := by kernel_rfl
theorem lc3 : ((cosV 1 St.zero ([lm1, lm2] ++ [lm3]))[[lm1, lm2].length]?).getD Co.zero = ⟨3, 2, 50, 0⟩ := by kernel_rfl
theorem la1 : adjV (cosV 1 St.zero []) (cosV 1 St.zero ([] ++ [lm1])) = [] := by kernel_rfl
theorem la2 : adjV (cosV 1 St.zero [lm1]) (cosV 1 St.zero ([lm1] ++ [lm2])) = [] := by kernel_rfl
theorem la3 : adjV (cosV 1 St.zero [lm1, lm2]) (cosV 1 St.zero ([lm1, lm2] ++ [lm3])) = [⟨2, -30, 0⟩] := by kernel_rfl
theorem lq2 : costQ (cosV 1 St.zero ([lm1, lm2] ++ [lm3])) 2 = (⟨2, -3, -60, 0⟩, true) := by kernel_rfl
theorem lt1 : atV Co.qty 1 St.zero ([lm1, lm2] ++ [lm3]) 10 = 6 := by kernel_rfl
theorem lt2 : atV Co.value 1 St.zero ([lm1, lm2] ++ [lm3]) 10 = 90 := by kernel_rfl
theorem ls1 : (lastV 1 St.zero ([lm1, lm2] ++ [lm3])).qty = 3 ∧ (lastV 1 St.zero ([lm1, lm2] ++ [lm3])).value = 30 := ⟨by kernel_rfl, by kernel_rfl⟩
theorem lok1 : lm1.Ok := ⟨by decide, by decide, by decide, by decide, by decide, by decide⟩
theorem lok2 : lm2.Ok := ⟨by decide, by decide, by decide, by decide, by decide, by decide⟩
theorem lok3 : lm3.Ok := ⟨by decide, by decide, by decide, by decide, by decide, by decide⟩
theorem lok4 : lm4.Ok := ⟨by decide, by decide, by decide, by decide, by decide, by decide⟩
theorem lg0 : GoodL 1 St.zero [] := good_nil (method := 1) (price := 0) (by decide) rfl
theorem lg1 : GoodL 1 St.zero ([] ++ [lm1]) := lg0.add lok1 lf1
theorem lg2 : GoodL 1 St.zero ([lm1] ++ [lm2]) := GoodL.add lg1 lok2 lf2
theorem lg3 : GoodL 1 St.zero ([lm1, lm2] ++ [lm3]) := GoodL.add lg2 lok3 lf3
attribute [local irreducible] l_append l_copy l_make l_run l_runU q_slice q_eq q_index q_build onSome l_lit q_read
variable {w w' w'' : World} {B x : Nat} {r : Option Nat}
variable {method : Int} {s0 : St} {L : List Mv} {m : Mv}
/-- Add, its cost in a variable. -/
theorem eng_addc (ht : Tab w) (h : HasE w B x r method s0 L) (hG : GoodL method s0 L) (hm : m.Ok) {Q : Value → Value → Value → World → Prop}
    (hK1 : errV method s0 (L ++ [m]) ≠ 0 → ∀ w' j, Below w.heap.size w w' → X.blk w' j = some (.cells #[.int .i64 0, .int .i64 0, .int .i64 0, .int .i64 0] 43 (0, 0)) → w.heap.size ≤ j → Q (.pointer (some ⟨j, 0, none⟩)) (.slice none 0 0) (.int .i64 (errV method s0 (L ++ [m]))) w')
    (hK2 : errV method s0 (L ++ [m]) = 0 → ∀ w' j r' av c, c = ((cosV method s0 (L ++ [m]))[L.length]?).getD Co.zero → HasE w' B x r' method s0 (L ++ [m]) → (r' = r ∨ ∃ k, r' = some k ∧ w.heap.size ≤ k) → Fr (EngS x r) w w' → Own AdE 72 w' w.heap.size av (adjV (cosV method s0 L) (cosV method s0 (L ++ [m]))) →
      X.blk w' j = some (.cells #[.int .i64 c.seq, .int .i64 c.qty, .int .i64 c.value, .int .i64 c.var] 43 (0, 0)) → w.heap.size ≤ j → ¬ EngS x r' j → (∀ k, av.ownBlock = some k → ¬ EngS x r' k) → Q (.pointer (some ⟨j, 0, none⟩)) av (.int .i64 0) w') :
    Ret Tryz.prog 41 [.pointer (some ⟨x, 0, none⟩), m.v] w fun t33 W3 => onSome (q_extract t33 0) fun t34 => onSome (q_extract t33 1) fun t35 => onSome (q_extract t33 2) fun t36 =>
      l_new 43 #[.int .i64 0, .int .i64 0, .int .i64 0, .int .i64 0] W3 fun a3 W4 => l_store 4 a3 t34 W4 fun _ W5 => Q a3 t35 t36 W5 := by
  refine eng_add ht h hG hm (fun he w1 hb1 => ?_) (fun he w1 r' av hE1 hr1 hF1 hA1 => ?_)
  · simp only [q_extract_tuple, List.getElem?_toArray, List.getElem?_cons_succ, List.getElem?_cons_zero, onSome_some]
    refine var_co (c := Co.zero) (fun w2 hb2 hk2 _ => ?_)
    exact hK1 he _ _ (hb1.then hb2) hk2 hb1.size
  · simp only [q_extract_tuple, List.getElem?_toArray, List.getElem?_cons_succ, List.getElem?_cons_zero, onSome_some]
    refine var_co (c := ((cosV method s0 (L ++ [m]))[L.length]?).getD Co.zero) (fun w2 hb2 hk2 _ => ?_)
    refine hK2 he _ _ r' av _ rfl (hE1.below hb2) hr1 (hF1.then_below hb2) (hA1.below hb2) hk2 hF1.size (hE1.notS (Nat.le_refl _)) (fun k hk => ?_)
    rintro (e | e)
    · obtain ⟨c, hc⟩ := hA1.type k hk
      obtain ⟨_, _, _, _, _, _, _, _, hx⟩ := hE1
      rw [e, hx.blk] at hc; injection hc with hc; injection hc with _ hc; cases hc
    · obtain ⟨c, hc⟩ := hA1.type k hk
      obtain ⟨_, _, _, _, _, _, _, hrow, hx⟩ := hE1
      obtain ⟨c', hc'⟩ := hx.co.type k (by rw [hrow]; exact e)
      rw [hc] at hc'; injection hc' with hc'; injection hc' with _ hc'; cases hc'
/-- Cost, the cost in a variable. -/
theorem eng_costc (h : HasE w B x r method s0 L) (hl : L.length ≤ 1000000) {seq : Int} {Q : Value → Value → World → Prop}
    (hK : ∀ w' j, Below w.heap.size w w' → X.blk w' j = some (.cells #[.int .i64 (costQ (cosV method s0 L) seq).1.seq, .int .i64 (costQ (cosV method s0 L) seq).1.qty, .int .i64 (costQ (cosV method s0 L) seq).1.value, .int .i64 (costQ (cosV method s0 L) seq).1.var] 43 (0, 0)) → w.heap.size ≤ j → Q (.pointer (some ⟨j, 0, none⟩)) (.bool (costQ (cosV method s0 L) seq).2) w') :
    Ret Tryz.prog 42 [.pointer (some ⟨x, 0, none⟩), .int .i64 seq] w fun t60 W18 => onSome (q_extract t60 0) fun t61 => onSome (q_extract t60 1) fun t62 =>
      l_new 43 #[.int .i64 0, .int .i64 0, .int .i64 0, .int .i64 0] W18 fun d15 W19 => l_store 4 d15 t61 W19 fun _ W20 => Q d15 t62 W20 := by
  refine cost_q h hl (fun w1 hb1 => ?_)
  simp only [q_extract_tuple, List.getElem?_toArray, List.getElem?_cons_succ, List.getElem?_cons_zero, onSome_some]
  refine var_co (c := (costQ (cosV method s0 L) seq).1) (fun w2 hb2 hk2 _ => ?_)
  exact hK _ _ (hb1.then hb2) hk2 hb1.size
theorem lives39_ok (ht : Tab w) : Calc 39 [] w (.bool true) := by
  intro K hK
  refine lift39 ?_
  unfold L39
  refine new_ok (method := 1) (price := 0) (by decide) (fun he => absurd rfl he) (fun _ W1 x hb1 hx hE1 => ?_)
  have hs0 : (startV 1 0).1 = St.zero := rfl
  rw [hs0] at hE1
  simp only [ptr, q_extract_tuple, List.getElem?_toArray, List.getElem?_cons_succ, List.getElem?_cons_zero, onSome_some, q_neq, gateQ_true, gateQ_false, ne_eq, not_true_eq_false, decide_true, Bool.not_true, if_true, if_false, Bool.false_eq_true, (nil50 _).1, q_pick_bool, Option.isNone_some, cond_false, xif_false]
  refine move_ok (fun W2 hb2 => ?_)
  have hb02 := hb1.then hb2
  refine eng_addc (m := lm1) (ht.below hb02) (hE1.below hb2) lg0 lok1 (fun h => absurd lf1 h) (fun _ W5 a3 r3 av3 c3 hc3 hE5 hr5 hF5 hA5 hka hja hna hnav => ?_)
  rw [lc1] at hc3
  rw [la1] at hA5
  subst hc3
  have hb05 := hb02.trans ((hE1.below hb2).belowS hF5)
  refine move_ok (fun W6 hb6 => ?_)
  have hb06 := hb05.then hb6
  have hE6 := hE5.below hb6
  refine eng_addc (m := lm2) (ht.below hb06) hE6 lg1 lok2 (fun h => absurd lf2 h) (fun _ W9 b6 r9 av9 c9 hc9 hE9 hr9 hF9 hA9 hkb hjb hnb hnav9 => ?_)
  rw [show ([] : List Mv) ++ [lm1] = [lm1] from rfl, lc2] at hc9
  rw [show ([] : List Mv) ++ [lm1] = [lm1] from rfl, la2] at hA9
  subst hc9
  have hb09 := hb06.trans (hE6.belowS hF9)
  have sa6 := (blk_below hb6 (lt_of_blk hka)).trans hka
  have hA6 := hA5.below hb6
  have na9 := engS_next hna (lt_of_blk sa6) hr9
  have nav9 : ∀ k, av3.ownBlock = some k → ¬ EngS x r9 k := fun k hk => engS_next (hnav k hk) (hA6.lt k hk).2 hr9
  have sa9 := hF9.blk sa6 hna
  have hA59 := hF9.own hA6 (fun k hk => hnav k hk)
  refine move_ok (fun W10 hb10 => ?_)
  have hb010 := hb09.then hb10
  have hE10 := hE9.below hb10
  refine eng_addc (m := lm3) (ht.below hb010) hE10 lg2 lok3 (fun h => absurd lf3 h) (fun _ W13 c13 r13 av13 d13 hd13 hE13 hr13 hF13 hA13 hkc hjc hnc hnav13 => ?_)
  rw [show ([] ++ [lm1] : List Mv) ++ [lm2] = [lm1, lm2] from rfl, lc3] at hd13
  rw [show ([] ++ [lm1] : List Mv) ++ [lm2] = [lm1, lm2] from rfl, la3] at hA13
  subst hd13
  have hb013 := hb010.trans (hE10.belowS hF13)
  have sa10 := (blk_below hb10 (lt_of_blk sa9)).trans sa9
  have sb10 := (blk_below hb10 (lt_of_blk hkb)).trans hkb
  have hA510 := hA59.below hb10
  have hA910 := hA9.below hb10
  have sa13 := hF13.blk sa10 na9
  have sb13 := hF13.blk sb10 hnb
  have hA513 := hF13.own hA510 nav9
  have hA913 := hF13.own hA910 hnav9
  refine move_ok (fun W14 hb14 => ?_)
  have hb014 := hb013.then hb14
  have hE14 := hE13.below hb14
  have he4 : errV 1 St.zero (([] ++ [lm1] ++ [lm2] ++ [lm3]) ++ [lm4]) = 21 := lf4
  refine eng_addc (m := lm4) (ht.below hb014) hE14 lg3 lok4 (fun _ W17 t12 hb17 hkt hjt => ?_) (fun h => absurd h (by rw [he4]; decide))
  rw [he4]
  have hb1317 := hb14.then hb17
  have hb017 := hb014.then hb17
  have hE17 := hE14.below hb17
  rw [show ([] ++ [lm1] ++ [lm2] ++ [lm3] : List Mv) = [lm1, lm2] ++ [lm3] from rfl] at hE17
  refine eng_costc hE17 (by decide) (fun W20 d15 hb20 hkd hjd => ?_)
  rw [lq2] at hkd ⊢
  have hE20 := hE17.below hb20
  refine at_ok hE20 (by decide) (fun W21 hb21 => ?_)
  rw [lt1, lt2]
  have hE21 := hE20.below hb21
  simp only [q_extract_tuple, List.getElem?_toArray, List.getElem?_cons_succ, List.getElem?_cons_zero, onSome_some]
  refine stock_ok hE21 (lg3.lastOk.up (by decide)) (fun W22 lv pv hl22 hp22 hb22 => ?_)
  obtain ⟨lsq, lsv⟩ := ls1
  generalize hST : lastV 1 St.zero ([lm1, lm2] ++ [lm3]) = S at *
  have d1 := own_cells hl22
  have d2 := own_cells hp22
  rw [l_new_eq]
  simp only [StV]
  have hbA := (Below.refl W22.heap.size W22).alloc (Nat.le_refl _) (.cells #[.int .i64 0, .int .i64 0, .int .i64 0, .slice none 0 0, .slice none 0 0] 28)
  have hkA := new_blk W22 (.cells #[.int .i64 0, .int .i64 0, .int .i64 0, .slice none 0 0, .slice none 0 0] 28) _ rfl
  generalize W22.alloc (.cells #[.int .i64 0, .int .i64 0, .int .i64 0, .slice none 0 0, .slice none 0 0] 28) = WA at *
  rw [l_store_to (by rw [cells_agg, hkA]; simp [d1.2, d2.2]), cells_agg]
  have hb24 := below_putL hbA (Nat.le_refl _) [.int .i64 S.qty, .int .i64 S.value, .int .i64 S.price, lv, pv] 0
  have hks : X.blk (X.putL WA W22.heap.size 0 [.int .i64 S.qty, .int .i64 S.value, .int .i64 S.price, lv, pv]) W22.heap.size = some (.cells #[.int .i64 S.qty, .int .i64 S.value, .int .i64 S.price, lv, pv] 28 (0, 0)) := by simp [hkA]
  simp only [Array.toList] at hb24 hks ⊢
  generalize X.putL WA W22.heap.size 0 [.int .i64 S.qty, .int .i64 S.value, .int .i64 S.price, lv, pv] = W24 at *
  have hb1724 := hb20.then (hb21.then (hb22.then hb24))
  have hb2024 := hb21.then (hb22.then hb24)
  have hb1324 := hb1317.then hb1724
  have hb024 := hb017.then hb1724
  have sa24 := (blk_below hb1324 (lt_of_blk sa13)).trans sa13
  have sb24 := (blk_below hb1324 (lt_of_blk sb13)).trans sb13
  have sc24 := (blk_below hb1324 (lt_of_blk hkc)).trans hkc
  have sd24 := (blk_below hb2024 (lt_of_blk hkd)).trans hkd
  have oa := (hA513.below hb1324).len
  have ob9 := (hA913.below hb1324).len
  have oc := Rd.of_own (hA13.below hb1324)
  have hE24 := hE17.below hb1724
  have qa : q_loadn 4 (.pointer (some ⟨a3, 0, none⟩)) W24 = some (.agg #[.int .i64 1, .int .i64 4, .int .i64 40, .int .i64 0]) := by simp [sa24]
  have qb : q_loadn 4 (.pointer (some ⟨b6, 0, none⟩)) W24 = some (.agg #[.int .i64 2, .int .i64 (-3), .int .i64 (-30), .int .i64 0]) := by simp [sb24]
  have qc : q_loadn 4 (.pointer (some ⟨c13, 0, none⟩)) W24 = some (.agg #[.int .i64 3, .int .i64 2, .int .i64 50, .int .i64 0]) := by simp [sc24]
  have bz : ∀ a b c : Int, q_build #[.int .i64 0, .int .i64 0, .int .i64 0, .int .i64 0] [(0, 1, .int .i64 a), (1, 1, .int .i64 b), (2, 1, .int .i64 c)] = some (.agg #[.int .i64 a, .int .i64 b, .int .i64 c, .int .i64 0]) := fun a b c => build_of (by simp)
  have e1 := eqq43 ⟨1, 4, 40, 0⟩ ⟨1, 4, 40, 0⟩
  have e2 := eqq43 ⟨2, -3, -30, 0⟩ ⟨2, -3, -30, 0⟩
  have e3 := eqq43 ⟨3, 2, 50, 0⟩ ⟨3, 2, 50, 0⟩
  have e4 := eqq43 ⟨2, -3, -60, 0⟩ ⟨2, -3, -60, 0⟩
  simp only [decide_true] at e1 e2 e3 e4
  have b3 : q_build #[.int .i64 0, .int .i64 0, .int .i64 0] [(0, 1, .int .i64 2), (1, 1, .int .i64 (-30))] = some (.agg #[.int .i64 2, .int .i64 (-30), .int .i64 0]) := build_of (by simp)
  simp only [q_extract_tuple, List.getElem?_toArray, List.getElem?_cons_succ, List.getElem?_cons_zero, onSome_some, q_eql, decide_true, gateQ_true, if_true, qa, bz, e1, q_pick_bool, cond_true, oa, List.length_nil, Int.ofNat_zero, qb, e2, ob9, qc, e3, b3, gateL_true]
  unfold l_lit
  rw [show fillC #[.int .i64 0, .int .i64 0, .int .i64 0] [(0, 3, .agg #[.int .i64 2, .int .i64 (-30), .int .i64 0])] = some (AdE.cells ⟨2, -30, 0⟩).toArray by simp [AdE, Ad.cs], onSome_some]
  dsimp only
  have hbL := (Below.refl W24.heap.size W24).alloc (Nat.le_refl _) (.cells (AdE.cells ⟨2, -30, 0⟩).toArray 72)
  have hrL := Rd.new (E := AdE) (t := 72) (a := ⟨2, -30, 0⟩) W24 (by decide)
  generalize W24.alloc (.cells (AdE.cells ⟨2, -30, 0⟩).toArray 72) = W25 at *
  refine sameAdj_ok (oc.below hbL) hrL _ (fun W26 hb26 => ?_)
  rw [decide_eq_true rfl]
  have hb2426 := hbL.then hb26
  have hE26 := hE24.below hb2426
  have qd : ∀ W, Below W26.heap.size W26 W → q_loadn 4 (.pointer (some ⟨d15, 0, none⟩)) W = some (.agg #[.int .i64 2, .int .i64 (-3), .int .i64 (-60), .int .i64 0]) := by
    intro W hW
    have := (blk_below (hb2426.then hW) (lt_of_blk sd24)).trans sd24
    simp [this]
  have hks26 := (blk_below hb2426 (lt_of_blk hks)).trans hks
  simp only [gateQ_true, if_true, onSome_some, q_eql, decide_true, q_pick_bool, cond_true, gateL_true]
  refine eng_len hE26 ?_
  have e5 : (((([lm1, lm2] ++ [lm3] : List Mv)).length : Nat) : Int) = 3 := rfl
  rw [e5]
  simp only [gateQ_true, if_true, onSome_some, q_eql, decide_true, q_pick_bool, cond_true, gateL_true, qd _ (Below.refl _ _), e4]
  simp [hks26, lsq, lsv]
  exact hK _ (hb024.then hb2426)
end Go.X
end
