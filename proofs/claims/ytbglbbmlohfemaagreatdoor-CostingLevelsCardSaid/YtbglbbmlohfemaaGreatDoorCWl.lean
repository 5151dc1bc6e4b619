/- Levels: what moves.Levels answers; the statement of levels. -/
import Derived.Test.YtbglbbmlohfemaaGreatDoorCWe
set_option linter.unusedVariables false
set_option linter.unusedSimpArgs false
namespace Go.X
open Go.Proofs Go.RowKit
def IntE : Enc Int := { sz := 1, cells := fun n => [.int .i64 n], len := fun _ => rfl, one := by intro a v hv; simp at hv; subst hv; rfl }
theorem intSl : SlT Tryz.prog 60 3 1 8 (.int .i64 0) := ⟨by kernel_rfl, by kernel_rfl, rfl, by decide⟩
theorem bytes_int {n : Nat} (h : n ≤ 1000000) : n * 8 ≤ 140737488355328 := by omega
set_option maxRecDepth 20000 in
theorem app_int {w : World} {B : Nat} {K : Value → World → Prop} {v x : Value} {l m : List Int} (hs : Own IntE 3 w B v l) (hx : Rd IntE w x m) (hB : B ≤ w.heap.size) (hn : l.length + m.length ≤ 1000000)
    (hK : ∀ v' w', Own IntE 3 w' B v' (l ++ m) → w.grownBy w' v.ownBlock → K v' w') : l_append Tryz.prog #[60, 60] 60 v x w K :=
  append_ok (E := IntE) intSl hs hx hB (bytes_int hn) (small_max hn) (fun v' w' h1 h2 _ => hK v' w' h1 h2)
attribute [local irreducible] l_append l_copy l_make l_run q_slice q_eq q_index q_build onSome
variable {w w' : World} {B x : Nat} {s : St} {lv pv cv : Value} {m : Mv} {c : Co} {cs : List Co} {method : Int}
def chgJ (W : World) (p : Prop) [Decidable p] (v : Value) (W' : World) : Prop := W' = W ∧ v = .bool (decide p)
/-- The change of the quantity, for an allowed movement. -/
theorem change_ok {m : Mv} {w : World} (h1 : OneF m) : Calc 84 [m.v] w (.int .i64 (chg m)) := by
  intro K hK
  refine lift84 ?_
  unfold L84
  have hb0 := (Below.refl w.heap.size w).alloc (Nat.le_refl _) (Obj.cells m.v.cells 47)
  have hk0 : blk (w.alloc (Obj.cells m.v.cells 47)) w.heap.size = some (.cells m.v.cells 47 (0, 0)) := by simp
  simp only [l_new]
  generalize w.alloc (Obj.cells m.v.cells 47) = w0 at *
  simp [hk0]
  refine in_ok _ (fun w1 hb1 => ?_)
  have hk1 := (blk_below hb1 (lt_of_blk hk0)).trans hk0
  have hb01 := hb0.then hb1
  have hkk := h1.kind
  simp only [q_not, onSome_some]
  refine xif_ndec (fun h => ?_) (fun h => ?_)
  · have hk5 : ¬ m.kind ≤ 4 := fun h4 => h (h1.qty h4)
    rw [chg_no (by omega)] at hK
    exact hK _ hb01
  · have hk4 : m.kind ≤ 4 := by
      by_cases h4 : m.kind ≤ 4
      · exact h4
      · have := h1.noqty (by omega); omega
    simp [hk1]
    refine joining_i (chgJ w1 (m.kind = 1 ∨ m.kind = 3)) ⟨?_, ?_⟩
    · refine xif_dec (fun hk => ?_) (fun hk => ?_)
      · exact ⟨rfl, by simp [hk]⟩
      · exact ⟨rfl, by simp [hk]⟩
    rintro _ W ⟨hW, rfl⟩
    rw [hW]
    clear hW W
    refine xif_dec (fun hk => ?_) (fun hk => ?_)
    · rw [chg_in hk] at hK
      simp [hk1]
      exact hK _ hb01
    · refine joining_i (chgJ w1 (m.kind = 2 ∨ m.kind = 4)) ⟨?_, ?_⟩
      · refine xif_dec (fun hk => ?_) (fun hk => ?_)
        · exact ⟨rfl, by simp [hk]⟩
        · exact ⟨rfl, by simp [hk]⟩
      rintro _ W ⟨hW, rfl⟩
      rw [hW]
      clear hW W
      refine xif_dec (fun hk2 => ?_) (fun hk2 => ?_)
      · rw [chg_out hk2] at hK
        have e : IntKind.i64.wrap (-m.qty) = -m.qty := wr (by omega) (by omega)
        simp [hk1, e]
        exact hK _ hb01
      · omega
/-- The sums up to each movement. -/
def lvls (f : Nat → Int) (n : Nat) : List Int := (List.range n).map fun k => f (k + 1)
theorem lvls_succ (f : Nat → Int) (n : Nat) : lvls f (n + 1) = lvls f n ++ [f (n + 1)] := by simp [lvls, List.range_succ]
theorem lvls_len (f : Nat → Int) (n : Nat) : (lvls f n).length = n := by simp [lvls]
theorem lvls_get (f : Nat → Int) (n i : Nat) (hi : i < (lvls f n).length) : (lvls f n)[i] = f (i + 1) := by simp [lvls]
def LvlI (w0 : World) (f : Nat → Int) (n : Nat) (qs q t : Value) (W : World) : Prop :=
  Below w0.heap.size w0 W ∧ ∃ i : Nat, t = .int .i64 i ∧ i ≤ n ∧ q = .int .i64 (f i) ∧ Own IntE 3 W w0.heap.size qs (lvls f i)
def lvlM (n : Nat) (_ _ v : Value) (_ : World) : Nat := n - (intOf v).toNat
theorem mvlevels_ok {v : Value} {ms : List Mv} {f : Nat → Int} (hv : Rd MvE w v ms) (hn : ms.length ≤ 1000) (h1 : ∀ m ∈ ms, OneF m) (f0 : f 0 = 0) (hf : ∀ i (hi : i < ms.length), f (i + 1) = f i + chg ms[i] ∧ 0 ≤ f (i + 1) ∧ f (i + 1) ≤ 1000000000) {K : Value → World → Prop}
    (hK : ∀ w' qv, Below w.heap.size w w' → Own IntE 3 w' w.heap.size qv (lvls f ms.length) → K (.tuple #[qv, .int .i64 (-1), .int .i64 0]) w') : Ret Tryz.prog 36 [v] w K := by
  refine lift36 ?_
  unfold L36
  rw [hv.len, onSome_some]
  refine looping_i (LvlI w f ms.length) (lvlM ms.length) ⟨⟨Below.refl _ _, 0, rfl, Nat.zero_le _, by rw [f0], by simp [lvls]; exact Own.nil _ _ _ _⟩, ?_⟩
  rintro qs _ _ W ⟨hbW, i, rfl, hi, rfl, hqs⟩ _
  simp only [q_lss, onSome_some]
  refine xif_dec (fun hlt => ?_) (fun hlt => ?_)
  · have hlt' : i < ms.length := by omega
    have e1 : IntKind.i64.wrap ((i : Int) + 1) = ((i + 1 : Nat) : Int) := by rw [wrap_i64 (by omega) (by omega)]; omega
    obtain ⟨ad, hq, hload, _⟩ := mvElem (hv.below hbW) hlt'
    rw [hq, onSome_some, hload, onSome_some]
    have hmi := h1 _ (List.getElem_mem hlt')
    obtain ⟨f1, f2, f3⟩ := hf i hlt'
    have fi : 0 ≤ f i ∧ f i ≤ 1000000000 := by
      cases i with
      | zero => omega
      | succ j => exact (hf j (by omega)).2
    obtain ⟨mi, hmi'⟩ : ∃ mi, mi = ms[i] := ⟨_, rfl⟩
    rw [← hmi'] at hmi f1 ⊢
    simp [l_new, Mv.v, Mv.cs]
    have hbb : Below w.heap.size w (X.putL (W.alloc (Obj.cells #[Value.int IntKind.i64 0, Value.int IntKind.i64 0, Value.string { data := #[] }, Value.int IntKind.i64 0, Value.int IntKind.i64 0, Value.int IntKind.i64 0, Value.string { data := #[] }, Value.int IntKind.i64 0] 47)) W.heap.size 0 mi.cs.toList) :=
      below_putL (hbW.alloc hbW.size _) hbW.size _ _
    have hb2 : Below W.heap.size W (X.putL (W.alloc (Obj.cells #[Value.int IntKind.i64 0, Value.int IntKind.i64 0, Value.string { data := #[] }, Value.int IntKind.i64 0, Value.int IntKind.i64 0, Value.int IntKind.i64 0, Value.string { data := #[] }, Value.int IntKind.i64 0] 47)) W.heap.size 0 mi.cs.toList) :=
      below_putL ((Below.refl _ _).alloc (Nat.le_refl _) _) (Nat.le_refl _) _ _
    refine change_ok (m := mi) hmi _ (fun w2 hb3 => ?_)
    have hb02 := hbb.then hb3
    have hbW2 := hb2.then hb3
    have e2 : IntKind.i64.wrap (f i + chg mi) = f (i + 1) := by rw [f1]; exact wr (by omega) (by omega)
    have g1 : ¬ f (i + 1) < 0 := by omega
    have g2 : ¬ 1000000000 < f (i + 1) := by omega
    simp [e2, g1, g2]
    unfold l_lit
    rw [show fillC #[.int .i64 0] [(0, 1, .int .i64 (f (i + 1)))] = some (IntE.cells (f (i + 1))).toArray by simp [IntE], onSome_some]
    have hr := Rd.new (E := IntE) (t := 3) (a := f (i + 1)) w2 (by decide)
    have hq2 := (hqs.below hbW2).alloc (.cells (IntE.cells (f (i + 1))).toArray 3)
    have hb03 := hb02.alloc hb02.size (.cells (IntE.cells (f (i + 1))).toArray 3)
    refine app_int hq2 hr hb03.size (by rw [lvls_len]; simp; omega) (fun v' w' ho hg => ?_)
    rw [← lvls_succ] at ho
    have hb04 : Below w.heap.size w w' := hb03.grown hg hb03.size (fun k hk => (hq2.lt k hk).1)
    exact ⟨⟨hb04, i + 1, by simp [e1], by omega, rfl, ho⟩, by simp only [lvlM, intOf, e1]; omega⟩
  · have hil : i = ms.length := by omega
    subst hil
    exact hK _ _ hbW hqs
theorem levels_plain {price : Int} {ms : List Mv} {t : St} {d : List Co} (hst : (startV method price).2 = 0) (hrun : runOk method (startV method price).1 ms = some (t, d)) :
    ∃ f : Nat → Int, f 0 = 0 ∧ (∀ i (hi : i < ms.length), f (i + 1) = f i + chg ms[i] ∧ 0 ≤ f (i + 1) ∧ f (i + 1) ≤ 1000000000) ∧ (∀ i (hi : i < ms.length), ∃ hd : i < d.length, d[i].qty = chg ms[i] ∧ d[i].seq = ms[i].seq ∧ OneF ms[i]) := by
  have h := (runOk_eff ms _ _ _ (start_inv hst) hrun).2
  refine ⟨fun i => match runOk method (startV method price).1 (ms.take i) with | some x => x.1.qty | none => 0, ?_, fun i hi => ?_, fun i hi => ?_⟩
  · simp [runOk, start_zero.1]
  · obtain ⟨a, b, hd, e1, e2, _, hE, _⟩ := h i hi
    simp only [e1, e2]
    have hq := hE.inv.qty
    exact ⟨by rw [hE.sum, hE.qty], hq.1, hq.2⟩
  · obtain ⟨a, b, hd, _, _, _, hE, hs⟩ := h i hi
    exact ⟨hd, hE.qty, hs, hE.one⟩
def LwI (w0 : World) (f : Nat → Int) (n : Nat) (q t : Value) (W : World) : Prop := Below w0.heap.size w0 W ∧ ∃ i : Nat, t = .int .i64 i ∧ i ≤ n ∧ q = .int .i64 (f i)
def lwM (n : Nat) (_ v : Value) (_ : World) : Nat := n - (intOf v).toNat
theorem levels_ok {v : Value} {ms : List Mv} {price : Int} (ht : Tab w) (hp : I64 price) (hv : Rd MvE w v ms) (hm : ∀ m ∈ ms, m.Ok) : Calc 11 [.int .i64 method, .int .i64 price, v] w (.bool true) := by
  intro K hK
  refine lift11 ?_
  unfold L11
  refine large_ok hv _ (fun w1 hb1 => ?_)
  refine xif_bool (fun hl => ?_) (fun hl => ?_)
  · exact lives_ok (ht.below hb1) _ (fun w2 hb2 => hK _ (hb1.then hb2))
  have hlen := large_len hl
  refine run_new (ht.below hb1) hp (hv.below hb1) hm (by omega) (fun w2 a lv2 pv2 cv2 hb2 ha hk hl2 hp2 hc => ?_)
  have hb02 := hb1.then hb2
  have ht2 := ht.below hb02
  have hv2 := hv.below hb02
  rcases run_cases method price ms with ⟨t, d, hst, hrun, hR⟩ | ⟨at_, e, he, hR⟩
  · rw [hR] at hk hc ⊢
    have hdl := (runOk_sums ms _ _ _ hrun).2.2
    obtain ⟨f, f0, hf, hd⟩ := levels_plain hst hrun
    simp
    refine mvlevels_ok hv2 (by omega) (fun m hm' => by obtain ⟨i, hi, rfl⟩ := List.getElem_of_mem hm'; exact (hd i hi).2.2.2) f0 hf (fun w3 qv hb3 hq => ?_)
    have hb03 := hb02.then hb3
    have hc3 := hc.below hb3
    have hv3 := hv2.below hb3
    simp [hc3.len, hq.len, lvls_len, hdl]
    refine looping_i (LwI w3 f ms.length) (lwM ms.length) ⟨⟨Below.refl _ _, 0, rfl, Nat.zero_le _, by rw [f0]⟩, ?_⟩
    rintro _ _ W ⟨hbW, i, rfl, hi, rfl⟩
    have hcW := hc3.below hbW
    have hqW := hq.below hbW
    have hb0W := hb03.then hbW
    simp only [q_lss, onSome_some]
    refine xif_dec (fun hlt => ?_) (fun hlt => ?_)
    · have hlt' : i < ms.length := by omega
      have e1 : IntKind.i64.wrap ((i : Int) + 1) = ((i + 1 : Nat) : Int) := by rw [wrap_i64 (by omega) (by omega)]; omega
      have hbD := hbW.drew
      obtain ⟨hid, d1, d2, _⟩ := hd i hlt'
      obtain ⟨f1, f2, f3⟩ := hf i hlt'
      have fi : 0 ≤ f i ∧ f i ≤ 1000000000 := by
        cases i with
        | zero => omega
        | succ j => exact (hf j (by omega)).2
      obtain ⟨g, cap, hcv, _, _, hat⟩ := hcW.coAt hid
      obtain ⟨g2, cap2, hqv, _, _, hat2⟩ := hqW.at (i := i) (by rw [lvls_len]; exact hlt')
      have hq0 := hat2 0 (by decide)
      simp only [IntE, lvls_get, Nat.mul_one, Nat.add_zero, List.getElem?_cons_zero] at hq0
      obtain ⟨ad, hqm, hall⟩ := mvAt hv3 hlt'
      have hat3 := hall _ hbD
      have hiN : ((i : Nat) : Int) < (d.length : Int) := by omega
      have e2 : IntKind.i64.wrap (f i + d[i].qty) = f (i + 1) := by rw [d1, f1]; exact wr (by omega) (by omega)
      have hmx : ((i : Nat) : Int) < (ms.length : Int) := hlt
      have s0 := hat3.seq
      simp [hcv, hqv, hiN, lvls_len, hat.c0, hat.c1, hq0, hqm, s0, e2, e1, d2, hmx]
      exact ⟨⟨hbD, i + 1, by simp, by omega, rfl⟩, by simp only [lwM, intOf]; omega⟩
    · exact lives_ok (ht2.below (hb3.then hbW)) _ (fun w4 hb4 => hK _ (hb0W.then hb4))
  · rw [hR] at hk hc ⊢
    simp [he]
    exact lives_ok ht2 _ (fun w3 hb3 => hK _ (hb02.then hb3))
end Go.X
