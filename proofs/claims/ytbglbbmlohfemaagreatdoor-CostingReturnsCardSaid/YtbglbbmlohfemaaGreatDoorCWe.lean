/- The statement about each movement. -/
import Derived.Test.YtbglbbmlohfemaaGreatDoorB9
import Derived.Test.YtbglbbmlohfemaaGreatDoorCQa
set_option linter.unusedVariables false
set_option linter.unusedSimpArgs false
namespace Go.X
open Go.Proofs Go.RowKit
attribute [local irreducible] l_append l_copy l_make l_run q_slice q_eq q_index q_build onSome l_lit
variable {w w' : World} {B x : Nat} {s : St} {lv pv cv : Value} {m : Mv} {c : Co} {cs : List Co} {method : Int}
/-- The cells of a movement. -/
structure MvAt (w : World) (ad : Addr) (m : Mv) : Prop where
  seq : w.cell? (ad.add 0) = some (.int .i64 m.seq)
  kind : w.cell? (ad.add 3) = some (.int .i64 m.kind)
  qty : w.cell? (ad.add 4) = some (.int .i64 m.qty)
  cost : w.cell? (ad.add 5) = some (.int .i64 m.cost)
  ref : w.cell? (ad.add 7) = some (.int .i64 m.ref)
theorem mvAt {v : Value} {l : List Mv} (h : Rd MvE w v l) {i : Nat} (hi : i < l.length) : ∃ ad, q_iaddr 8 v (.int .i64 (i : Int)) = some (.pointer (some ad)) ∧ ∀ w', Below w.heap.size w w' → MvAt w' ad l[i] := by
  obtain ⟨ad, h1, _, _⟩ := mvElem h hi
  refine ⟨ad, h1, fun w' hb => ?_⟩
  obtain ⟨ad', h1', _, h3⟩ := mvElem (h.below hb) hi
  rw [h1] at h1'
  injection h1' with e
  injection e with e
  injection e with e
  subst e
  exact ⟨h3 0 _ rfl, h3 3 _ rfl, h3 4 _ rfl, h3 5 _ rfl, h3 7 _ rfl⟩
theorem each_plain {price : Int} {ms : List Mv} {t : St} {d : List Co} (hst : (startV method price).2 = 0) (hrun : runOk method (startV method price).1 ms = some (t, d)) {i : Nat} (hi : i < ms.length) : ∃ hd : i < d.length, OneF ms[i] ∧ EachE ms[i] d[i] ∧ (ms[i].kind = 2 → d[i].var = 0 ∧ d[i].value ≤ 0) := by
  obtain ⟨a, b, hd, _, _, _, h, _⟩ := (runOk_eff ms _ _ _ (start_inv hst) hrun).2 i hi
  exact ⟨hd, h.one, h.each, fun h2 => ⟨(h.past.two h2).2.1, (h.past.two h2).2.2.1⟩⟩
def EacI (w0 : World) (n : Nat) (v : Value) (W : World) : Prop := Below w0.heap.size w0 W ∧ ∃ i : Nat, v = .int .i64 i ∧ i ≤ n
def EacJ (W : World) (W' : World) : Prop := W' = W
def EacK (k : Int) (W : World) (v : Value) (W' : World) : Prop := W' = W ∧ v = .bool (decide (k = 1 ∨ k = 5))
theorem each_ok {v : Value} {ms : List Mv} {price : Int} (ht : Tab w) (hp : I64 price) (hv : Rd MvE w v ms) (hm : ∀ m ∈ ms, m.Ok) : Calc 6 [.int .i64 method, .int .i64 price, v] w (.bool true) := by
  intro K hK
  refine lift6 ?_
  unfold L6
  refine large_ok hv _ (fun w1 hb1 => ?_)
  refine xif_bool (fun hl => ?_) (fun hl => ?_)
  · exact lives_ok (ht.below hb1) _ (fun w2 hb2 => hK _ (hb1.then hb2))
  have hlen := large_len hl
  refine run_new (ht.below hb1) hp (hv.below hb1) hm (by omega) (fun w2 a lv2 pv2 cv2 hb2 ha hk hl2 hp2 hc => ?_)
  have hb02 := hb1.then hb2
  have ht2 := ht.below hb02
  have hv2 := hv.below hb02
  rcases run_cases method price ms with ⟨t, d, hst, hrun, hR⟩ | ⟨at_, e, he, hR⟩
  · rw [hR] at hk hc ⊢
    have hdl := (runOk_sums ms _ _ _ hrun).2.2
    simp [hc.len, hv2.len, hdl]
    refine looping_i (EacI w2 ms.length) (lenM ms.length) ⟨⟨Below.refl _ _, 0, rfl, Nat.zero_le _⟩, ?_⟩
    rintro _ W ⟨hbW, i, rfl, hi⟩
    have hcW := hc.below hbW
    have hb0W := hb02.then hbW
    simp only [q_lss, onSome_some]
    refine xif_dec (fun hlt => ?_) (fun hlt => ?_)
    · have hlt' : i < ms.length := by omega
      have hmx := hc.i64
      have e1 : IntKind.i64.wrap ((i : Int) + 1) = ((i + 1 : Nat) : Int) := by rw [wrap_i64 (by omega) (by omega)]; omega
      have hbD := hbW.drew
      obtain ⟨hd, h1, hE, h2⟩ := each_plain hst hrun hlt'
      obtain ⟨g, cap, hcv, _, _, hat⟩ := hcW.coAt hd
      obtain ⟨ad, hq, hall⟩ := mvAt hv2 hlt'
      have hat2 := hall _ hbD
      have hkk := h1.kind
      have hcost := h1.cost
      have hiN : ((i : Nat) : Int) < (d.length : Int) := by omega
      refine joining_i (EacJ W.drew) ⟨?_, ?_⟩
      · simp [hcv, hiN, hat.c2, hat.c3, hq, hat2.kind]

        refine joining_i (EacK ms[i].kind W.drew) ⟨?_, ?_⟩
        · refine xif_dec (fun hk1 => ?_) (fun hk1 => ?_)
          · exact ⟨rfl, by simp [hk1]⟩
          · exact ⟨rfl, by simp [hk1]⟩
        rintro _ _ ⟨rfl, rfl⟩
        refine xif_dec (fun hk1 => ?_) (fun hk1 => ?_)
        · have hs := hE.sum hk1
          simp [hat2.cost, hs]
          rfl
        · rw [not_or] at hk1
          refine xif_dec (fun hk4 => ?_) (fun hk4 => ?_)
          · have hs := hE.send hk4
            have e2 : IntKind.i64.wrap (-ms[i].cost) = -ms[i].cost := wr (by omega) (by omega)
            simp [hat2.cost, hs, e2]
            rfl
          refine xif_dec (fun hk6 => ?_) (fun hk6 => ?_)
          · have hs := hE.price hk6
            simp [hs]
            rfl
          refine xif_dec (fun hk2 => ?_) (fun hk2 => ?_)
          · obtain ⟨s1, s2⟩ := h2 hk2
            have s3 : ¬ 0 < d[i].value := by omega
            simp [s1, s2, s3, hat.c2, hat.c3, hcv, hiN]
            rfl
          · rfl
      · rintro _ rfl
        simp only [q_add, onSome_some, e1]
        exact ⟨⟨hbD, i + 1, rfl, by omega⟩, by simp only [lenM, intOf]; omega⟩
    · exact lives_ok (ht2.below hbW) _ (fun w3 hb3 => hK _ (hb0W.then hb3))
  · rw [hR] at hk hc ⊢
    simp [he]
    exact lives_ok ht2 _ (fun w3 hb3 => hK _ (hb02.then hb3))
end Go.X
