/- The statement of returns. -/
import Derived.Test.YtbglbbmlohfemaaGreatDoorCWe
set_option linter.unusedVariables false
set_option linter.unusedSimpArgs false
namespace Go.X
open Go.Proofs Go.RowKit
/-- The first element of the past with its number. -/
def Track (past : List Pa) (j0 : Nat) (p : Pa) : Prop := past[j0]? = some p ∧ ∀ j b, j < j0 → past[j]? = some b → b.seq ≠ p.seq
theorem track_find {past : List Pa} {j0 j : Nat} {p : Pa} (h : Track past j0 p) (hk : p.kind = 2) (hf : findP 2 p.seq past = some j) : j = j0 := by
  obtain ⟨h1, h2⟩ := h
  obtain ⟨hj0, hp0⟩ := List.getElem?_eq_some_iff.1 h1
  unfold findP idxF at hf
  rw [List.findIdx?_eq_some_iff_getElem] at hf
  obtain ⟨hj, hok, hno⟩ := hf
  have hs : past[j].seq = p.seq := by
    unfold okP at hok
    simp only [Bool.and_eq_true, decide_eq_true_eq] at hok
    exact hok.1
  rcases Nat.lt_trichotomy j j0 with hlt | he | hgt
  · exact absurd hs (h2 j _ hlt (List.getElem?_eq_getElem hj))
  · exact he
  · have := hno j0 hgt
    rw [hp0] at this
    unfold okP at this
    simp [hk] at this
theorem track_set {past : List Pa} {j0 i : Nat} {p : Pa} (h : Track past j0 p) (hi : i < past.length) (n x : Int) : Track (past.set i (usedP past[i] n x)) j0 (if i = j0 then usedP p n x else p) := by
  obtain ⟨h1, h2⟩ := h
  obtain ⟨hj0, hp0⟩ := List.getElem?_eq_some_iff.1 h1
  have hs : (if i = j0 then usedP p n x else p).seq = p.seq := by split <;> rfl
  refine ⟨?_, fun j b hj hb => ?_⟩
  · rw [List.getElem?_set]
    by_cases he : i = j0
    · subst he; rw [if_pos rfl, if_pos hi, if_pos rfl, hp0]
    · rw [if_neg he, if_neg he, h1]
  · rw [hs]
    rw [List.getElem?_set] at hb
    by_cases he : i = j
    · subst he
      rw [if_pos rfl, if_pos hi] at hb
      injection hb with hb
      rw [← hb]
      exact h2 i past[i] hj (List.getElem?_eq_getElem hi)
    · rw [if_neg he] at hb
      exact h2 j b hj hb
theorem track_add {past : List Pa} {j0 : Nat} {p a : Pa} (h : Track past j0 p) : Track (past ++ [a]) j0 p := by
  obtain ⟨h1, h2⟩ := h
  obtain ⟨hj0, hp0⟩ := List.getElem?_eq_some_iff.1 h1
  refine ⟨by rw [List.getElem?_append_left hj0]; exact h1, fun j b hj hb => ?_⟩
  rw [List.getElem?_append_left (by omega)] at hb
  exact h2 j b hj hb
theorem track_new {past : List Pa} {a : Pa} (hf : findP 0 a.seq past = none) : Track (past ++ [a]) past.length a := by
  refine ⟨by simp, fun j b hj hb => ?_⟩
  rw [List.getElem?_append_left hj] at hb
  unfold findP idxF at hf
  rw [List.findIdx?_eq_none_iff] at hf
  have := hf b (List.mem_of_getElem? hb)
  unfold okP at this
  simpa using this
theorem track_step {past past' : List Pa} {m : Mv} {c : Co} {j0 : Nat} {p : Pa} (h : Track past j0 p) (hk2 : p.kind = 2) (h1 : OneF m) (hp : PastE past m past' c) :
    (m.kind = 3 ∧ m.ref = p.seq → ∃ x, IntKind.i64.wrap (c.value + c.var) = x ∧ Track past' j0 (usedP p m.qty x)) ∧ (¬ (m.kind = 3 ∧ m.ref = p.seq) → Track past' j0 p) := by
  refine ⟨fun ⟨hk, hr⟩ => ?_, fun hn => ?_⟩
  · obtain ⟨i, hi, hf, hle, hw, he⟩ := hp.three hk
    rw [hr] at hf
    have hij := track_find h hk2 hf
    refine ⟨_, hw, ?_⟩
    rw [he]
    have := track_set h hi m.qty (partV (past[i].value - past[i].usedV) m.qty (past[i].qty - past[i].used))
    rwa [if_pos hij] at this
  · have hkk := h1.kind
    by_cases k1 : m.kind = 1
    · rw [(hp.one k1).2]; exact track_add h
    by_cases k2 : m.kind = 2
    · rw [(hp.two k2).2.2.2.2]; exact track_add h
    by_cases k3 : m.kind = 3
    · obtain ⟨i, hi, hf, hle, hw, he⟩ := hp.three k3
      have hne : ¬ i = j0 := by
        rintro rfl
        have := idx_get hf hi
        have h0 := (List.getElem?_eq_some_iff.1 h.1).2
        rw [h0] at this
        unfold okP at this
        simp only [Bool.and_eq_true, decide_eq_true_eq] at this
        exact hn ⟨k3, this.1.symm⟩
      rw [he]
      have := track_set h hi m.qty (partV (past[i].value - past[i].usedV) m.qty (past[i].qty - past[i].used))
      rwa [if_neg hne] at this
    by_cases k4 : m.kind = 4
    · obtain ⟨i, hi, hf, hle, he⟩ := hp.four k4
      have hne : ¬ i = j0 := by
        rintro rfl
        have := idx_get hf hi
        have h0 := (List.getElem?_eq_some_iff.1 h.1).2
        rw [h0] at this
        unfold okP at this
        rw [hk2] at this
        simp at this
      rw [he]
      have := track_set h hi m.qty 0
      rwa [if_neg hne] at this
    rw [hp.five (by omega)]
    exact h
/-- The issue's element of the past, when k movements are done. -/
def RetP (method : Int) (s0 : St) (ms : List Mv) (d : List Co) (seq qty x : Int) (k : Nat) (u v : Int) : Prop :=
  ∃ (a : St) (j0 : Nat) (lot : ByteArray), runOk method s0 (ms.take k) = some (a, d.take k) ∧ Inv method a ∧ Track a.past j0 ⟨seq, 2, lot, qty, x, u, v⟩
variable {method price : Int} {ms : List Mv} {t : St} {d : List Co}
theorem ret_first (hst : (startV method price).2 = 0) (hrun : runOk method (startV method price).1 ms = some (t, d)) {i : Nat} (hi : i < ms.length) (hk : ms[i].kind = 2) :
    ∃ hd : i < d.length, d[i].value ≤ 0 ∧ -2000000000000000 ≤ d[i].value ∧ RetP method (startV method price).1 ms d ms[i].seq ms[i].qty (-d[i].value) (i + 1) 0 0 := by
  obtain ⟨a, b, hd, e1, e2, hia, hE, _⟩ := (runOk_eff ms _ _ _ (start_inv hst) hrun).2 i hi
  obtain ⟨p1, p2, p3, p4, p5⟩ := hE.past.two hk
  refine ⟨hd, p3, p4, b, a.past.length, ms[i].lot, e2, hE.inv, ?_⟩
  rw [p5]
  have := track_new (a := mkPa ms[i] (-d[i].value)) (past := a.past) p1
  unfold mkPa at this
  rw [hk] at this
  unfold mkPa
  rw [hk]
  exact this
theorem ret_step (hst : (startV method price).2 = 0) (hrun : runOk method (startV method price).1 ms = some (t, d)) {k : Nat} {seq qty x u v : Int} (hk : k < ms.length) (h : RetP method (startV method price).1 ms d seq qty x k u v) :
    ∃ hd : k < d.length, (ms[k].kind = 3 ∧ ms[k].ref = seq → RetP method (startV method price).1 ms d seq qty x (k + 1) (IntKind.i64.wrap (u + ms[k].qty)) (IntKind.i64.wrap (IntKind.i64.wrap (v + d[k].value) + d[k].var))) ∧
      (¬ (ms[k].kind = 3 ∧ ms[k].ref = seq) → RetP method (startV method price).1 ms d seq qty x (k + 1) u v) := by
  obtain ⟨a, b, hd, e1, e2, hia, hE, _⟩ := (runOk_eff ms _ _ _ (start_inv hst) hrun).2 k hk
  obtain ⟨a', j0, lot, e1', hia', htr⟩ := h
  rw [e1] at e1'
  injection e1' with e1'
  have ea : a = a' := (Prod.mk.inj e1').1
  subst ea
  have hs := track_step htr rfl hE.one hE.past
  refine ⟨hd, fun hr => ?_, fun hr => ⟨b, j0, lot, e2, hE.inv, hs.2 hr⟩⟩
  obtain ⟨y, hy, ht⟩ := hs.1 hr
  have pk := hE.inv.past _ (List.mem_of_getElem? ht.1)
  have u1 := pk.used
  have u2 := pk.usedV
  have u3 := pk.value
  have u4 := pk.qty
  simp only [usedP] at u1 u2 u3 u4
  have w1 : IntKind.i64.wrap (u + ms[k].qty) = u + ms[k].qty := wr (by omega) (by omega)
  have w2 : IntKind.i64.wrap (IntKind.i64.wrap (v + d[k].value) + d[k].var) = v + y := by
    have hw := IntKind.wrap_i64 (d[k].value + d[k].var)
    rw [hy] at hw
    rw [IntKind.wrap_i64, IntKind.wrap_i64]
    omega
  rw [w1, w2]
  exact ⟨b, j0, lot, e2, hE.inv, ht⟩
theorem ret_end {k : Nat} {seq qty x u v : Int} {s0 : St} (h : RetP method s0 ms d seq qty x k u v) : v ≤ x ∧ u ≤ qty ∧ (u = qty → v = x) := by
  obtain ⟨a, j0, lot, _, hia, ht⟩ := h
  have pk := hia.past _ (List.mem_of_getElem? ht.1)
  exact ⟨pk.usedV.2, pk.used.2, pk.all rfl⟩
attribute [local irreducible] l_append l_copy l_make l_run q_slice q_eq q_index q_build onSome l_lit
variable {w w' : World}
def RetI (w0 : World) (s0 : St) (method : Int) (ms : List Mv) (d : List Co) (i : Nat) (seq qty x : Int) (q v t : Value) (W : World) : Prop :=
  Below w0.heap.size w0 W ∧ ∃ (k : Nat) (u y : Int), t = .int .i64 k ∧ i < k ∧ k ≤ ms.length ∧ q = .int .i64 u ∧ v = .int .i64 y ∧ RetP method s0 ms d seq qty x k u y
def retM (n : Nat) (_ _ v : Value) (_ : World) : Nat := n - (intOf v).toNat
theorem returns_ok {v : Value} {ms : List Mv} {price : Int} (ht : Tab w) (hp : I64 price) (hv : Rd MvE w v ms) (hm : ∀ m ∈ ms, m.Ok) : Calc 7 [.int .i64 method, .int .i64 price, v] w (.bool true) := by
  intro K hK
  refine lift7 ?_
  unfold L7
  refine large_ok hv _ (fun w1 hb1 => ?_)
  refine xif_bool (fun hl => ?_) (fun hl => ?_)
  · exact lives_ok (ht.below hb1) _ (fun w2 hb2 => hK _ (hb1.then hb2))
  have hlen := large_len hl
  refine run_new (ht.below hb1) hp (hv.below hb1) hm (by omega) (fun w2 a lv2 pv2 cv2 hb2 ha hk hl2 hp2 hc => ?_)
  have hb02 := hb1.then hb2
  have ht2 := ht.below hb02
  have hv2 := hv.below hb02
  rcases run_cases method price ms with ⟨t, d, hst, hrun, hR⟩ | ⟨at_, e, he, hR⟩
  · rw [hR] at hk hc ⊢
    have hdl := (runOk_sums ms _ _ _ hrun).2.2
    simp [hc.len, hv2.len, hdl]
    refine looping_i (EacI w2 ms.length) (lenM ms.length) ⟨⟨Below.refl _ _, 0, rfl, Nat.zero_le _⟩, ?_⟩
    rintro _ W ⟨hbW, i, rfl, hi⟩
    have hcW := hc.below hbW
    have hb0W := hb02.then hbW
    simp only [q_lss, onSome_some]
    refine xif_dec (fun hlt => ?_) (fun hlt => ?_)
    · have hlt' : i < ms.length := by omega
      have e1 : IntKind.i64.wrap ((i : Int) + 1) = ((i + 1 : Nat) : Int) := by rw [wrap_i64 (by omega) (by omega)]; omega
      obtain ⟨ad, hq, hall⟩ := mvAt hv2 hlt'
      have hat2 := hall _ hbW
      simp [hq, hat2.kind, e1]
      refine xif_ndec (fun hk2 => ?_) (fun hk2 => ?_)
      · exact ⟨⟨hbW, i + 1, by simp, by omega⟩, by simp only [lenM, intOf]; omega⟩
      obtain ⟨hd, v1, v2, hfirst⟩ := ret_first hst hrun hlt' hk2
      refine looping_i (RetI w2 (startV method price).1 method ms d i ms[i].seq ms[i].qty (-d[i].value)) (retM ms.length) ⟨⟨hbW, i + 1, 0, 0, by simp, by omega, by omega, rfl, rfl, hfirst⟩, ?_⟩
      rintro _ _ _ W2 ⟨hbW2, k, u, y, rfl, hik, hkn, rfl, rfl, hR2⟩
      have hc2 := hc.below hbW2
      simp only [q_lss, onSome_some]
      refine xif_dec (fun hlt2 => ?_) (fun hlt2 => ?_)
      · have hlt2' : k < ms.length := by omega
        have e2 : IntKind.i64.wrap ((k : Int) + 1) = ((k + 1 : Nat) : Int) := by rw [wrap_i64 (by omega) (by omega)]; omega
        obtain ⟨adk, hqk, hallk⟩ := mvAt hv2 hlt2'
        have hbD := hbW2.drew
        have hatk := hallk _ hbD
        have hati := hall _ hbD
        have hatk2 : W2.cell? (adk.add 4) = some (.int .i64 ms[k].qty) := (hallk _ hbW2).qty
        have hcd : ∀ (u : World) a, u.drew.cell? a = u.cell? a := fun _ _ => rfl
        have si := hati.seq
        obtain ⟨hdk, s1, s2⟩ := ret_step hst hrun hlt2' hR2
        obtain ⟨g, cap, hcv, _, _, hat⟩ := hc2.coAt hdk
        have hkN : ((k : Nat) : Int) < (d.length : Int) := by omega
        simp [hqk, hatk.kind]
        by_cases hk3 : ms[k].kind = 3
        · simp [hk3, hq, hqk, hatk.ref, si]
          refine xif_dec (fun hrf => ?_) (fun hrf => ?_)
          · have := s1 ⟨hk3, hrf⟩
            simp [hcd, hatk2, hcv, hkN, hat.c2, hat.c3, e2]
            exact ⟨⟨hbD.drew, k + 1, _, _, by simp, by omega, by omega, rfl, rfl, this⟩, by simp only [retM, intOf]; omega⟩
          · have := s2 (fun h => hrf h.2)
            simp [e2]
            exact ⟨⟨hbD, k + 1, _, _, by simp, by omega, by omega, rfl, rfl, this⟩, by simp only [retM, intOf]; omega⟩
        · have := s2 (fun h => hk3 h.1)
          simp [hk3, e2]
          exact ⟨⟨hbD, k + 1, _, _, by simp, by omega, by omega, rfl, rfl, this⟩, by simp only [retM, intOf]; omega⟩
      · obtain ⟨r1, r2, r3⟩ := ret_end hR2
        obtain ⟨g, cap, hcv, _, _, hat⟩ := hc2.coAt hd
        have hati := hall _ hbW2
        have hiN : ((i : Nat) : Int) < (d.length : Int) := by omega
        have e3 : IntKind.i64.wrap (-d[i].value) = -d[i].value := wr (by omega) (by omega)
        have n1 : ¬ -d[i].value < y := by omega
        have n2 : ¬ ms[i].qty < u := by omega
        have hend : EacI w2 ms.length (.int .i64 ((i + 1 : Nat) : Int)) W2 ∧ lenM ms.length (.int .i64 ((i + 1 : Nat) : Int)) W2 < lenM ms.length (.int .i64 (i : Int)) W :=
          ⟨⟨hbW2, i + 1, rfl, by omega⟩, by simp only [lenM, intOf]; omega⟩
        simp [hcv, hiN, hat.c2, e3, n1, n2, hq, hati.qty]
        by_cases hu : u = ms[i].qty
        · have hy := r3 hu
          simp [hu, hy, e3, hcv, hiN, hat.c2, e1]
          simpa using hend
        · simp [hu, e1]
          simpa using hend
    · exact lives_ok (ht2.below hbW) _ (fun w3 hb3 => hK _ (hb0W.then hb3))
  · rw [hR] at hk hc ⊢
    simp [he]
    exact lives_ok ht2 _ (fun w3 hb3 => hK _ (hb02.then hb3))
end Go.X
