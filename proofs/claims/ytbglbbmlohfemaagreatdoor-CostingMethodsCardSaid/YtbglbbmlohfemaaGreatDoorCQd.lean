/- The statement of methods. -/
import Derived.Test.YtbglbbmlohfemaaGreatDoorCQc
set_option linter.unusedVariables false
set_option linter.unusedSimpArgs false
namespace Go.X
open Go.Proofs Go.RowKit
attribute [local irreducible] l_append l_copy l_make l_run q_slice q_eq q_index q_build onSome l_lit
variable {w w' : World} {B x : Nat} {s : St} {lv pv cv : Value} {m : Mv} {c : Co} {cs : List Co} {method : Int}
theorem eq43e (a b : Co) : q_eq Tryz.prog .eql 43 (.agg #[.int .i64 a.seq, .int .i64 a.qty, .int .i64 a.value, .int .i64 a.var]) (.agg #[.int .i64 b.seq, .int .i64 b.qty, .int .i64 b.value, .int .i64 b.var]) = some (.bool (decide (a = b))) := by
  have h := (q_eq_ints is43 .i64 [a.seq, a.qty, a.value, a.var] [b.seq, b.qty, b.value, b.var] rfl rfl).1
  have e : decide ([a.seq, a.qty, a.value, a.var] = [b.seq, b.qty, b.value, b.var]) = decide (a = b) := decide_eq_decide.mpr (by cases a; cases b; simp)
  rw [e] at h
  exact h
/-- A step's results, in two new blocks. -/
theorem step_new {f : FuncId} {F : St → Mv → St × Co × Int} {args : List Value} {K : Value → Value → Value → World → Prop} {R : St × Co × Int}
    (hcall : ∀ K' : Value → World → Prop, (∀ w' lv' pv', Own LyE 103 w' w.heap.size lv' R.1.layers → Own PaE 105 w' w.heap.size pv' R.1.past → Below w.heap.size w w' → K' (stepR R lv' pv') w') → Ret Tryz.prog f args w K')
    (hK : ∀ w' a lv' pv', Below w.heap.size w w' → w.heap.size ≤ a → X.blk w' a = some (.cells #[.int .i64 R.1.qty, .int .i64 R.1.value, .int .i64 R.1.price, lv', pv'] 28 (0, 0)) → X.blk w' (a + 1) = some (.cells #[.int .i64 R.2.1.seq, .int .i64 R.2.1.qty, .int .i64 R.2.1.value, .int .i64 R.2.1.var] 43 (0, 0)) →
      Own LyE 103 w' w.heap.size lv' R.1.layers → Own PaE 105 w' w.heap.size pv' R.1.past → K (.int .i64 R.2.2) (.pointer (some ⟨a, 0, none⟩)) (.pointer (some ⟨a + 1, 0, none⟩)) w') :
    Ret Tryz.prog f args w fun t48 W12 => onSome (q_extract t48 0) fun t49 => onSome (q_extract t48 1) fun t50 => onSome (q_extract t48 2) fun t51 =>
      l_new 28 #[.int .i64 0, .int .i64 0, .int .i64 0, .slice none 0 0, .slice none 0 0] W12 fun a12 W13 => l_new 43 #[.int .i64 0, .int .i64 0, .int .i64 0, .int .i64 0] W13 fun c13 W14 =>
      l_store 5 a12 t49 W14 fun _ W15 => l_store 4 c13 t50 W15 fun _ W16 => K t51 a12 c13 W16 := by
  refine hcall _ (fun w1 lv1 pv1 hl hp hb => ?_)
  unfold stepR StV
  have d1 := own_cells hl
  have d2 := own_cells hp
  simp only [q_extract_tuple]
  simp [l_new, d1.1, d1.2, d2.1, d2.2]
  have k5 : X.blk ((w1.alloc (.cells #[.int .i64 0, .int .i64 0, .int .i64 0, .slice none 0 0, .slice none 0 0] 28)).alloc (.cells #[.int .i64 0, .int .i64 0, .int .i64 0, .int .i64 0] 43)) w1.heap.size = some (.cells #[.int .i64 0, .int .i64 0, .int .i64 0, .slice none 0 0, .slice none 0 0] 28 (0, 0)) := by simp
  have k4 : X.blk (X.putL ((w1.alloc (.cells #[.int .i64 0, .int .i64 0, .int .i64 0, .slice none 0 0, .slice none 0 0] 28)).alloc (.cells #[.int .i64 0, .int .i64 0, .int .i64 0, .int .i64 0] 43)) w1.heap.size 0 [.int .i64 R.1.qty, .int .i64 R.1.value, .int .i64 R.1.price, lv1, pv1]) (w1.heap.size + 1) = some (.cells #[.int .i64 0, .int .i64 0, .int .i64 0, .int .i64 0] 43 (0, 0)) := by simp
  have hs := hb.size
  exact hK _ w1.heap.size lv1 pv1 (below_putL (below_putL ((hb.alloc hs _).alloc (by simp; omega) _) hs _ _) (by omega) _ _) hs (by simp) (by simp)
    ((((hl.alloc _).alloc _).putL k5 (by decide)).putL k4 (by decide)) ((((hp.alloc _).alloc _).putL k5 (by decide)).putL k4 (by decide))
/-- A step's results, stored into blocks that are there. -/
theorem step_into {f : FuncId} {args : List Value} {K : Value → World → Prop} {R : St × Co × Int} {b d : Nat} {x1 x2 x3 x4 x5 y1 y2 y3 y4 : Value}
    (hb5 : X.blk w b = some (.cells #[x1, x2, x3, x4, x5] 28 (0, 0))) (hd4 : X.blk w d = some (.cells #[y1, y2, y3, y4] 43 (0, 0)))
    (hcall : ∀ K' : Value → World → Prop, (∀ w' lv' pv', Own LyE 103 w' w.heap.size lv' R.1.layers → Own PaE 105 w' w.heap.size pv' R.1.past → Below w.heap.size w w' → K' (stepR R lv' pv') w') → Ret Tryz.prog f args w K')
    (hK : ∀ w1 lv' pv', Below w.heap.size w w1 → Own LyE 103 w1 w.heap.size lv' R.1.layers → Own PaE 105 w1 w.heap.size pv' R.1.past →
      X.blk w1 b = some (.cells #[x1, x2, x3, x4, x5] 28 (0, 0)) → X.blk w1 d = some (.cells #[y1, y2, y3, y4] 43 (0, 0)) →
      K (.int .i64 R.2.2) (X.putL (X.putL w1 b 0 [.int .i64 R.1.qty, .int .i64 R.1.value, .int .i64 R.1.price, lv', pv']) d 0 [.int .i64 R.2.1.seq, .int .i64 R.2.1.qty, .int .i64 R.2.1.value, .int .i64 R.2.1.var])) :
    Ret Tryz.prog f args w fun t48 W12 => onSome (q_extract t48 0) fun t49 => onSome (q_extract t48 1) fun t50 => onSome (q_extract t48 2) fun t51 =>
      l_store 5 (.pointer (some ⟨b, 0, none⟩)) t49 W12 fun _ W15 => l_store 4 (.pointer (some ⟨d, 0, none⟩)) t50 W15 fun _ W16 => K t51 W16 := by
  refine hcall _ (fun w1 lv1 pv1 hl hp hb => ?_)
  unfold stepR StV
  have d1 := own_cells hl
  have d2 := own_cells hp
  have hb1 := (blk_below hb (lt_of_blk hb5)).trans hb5
  have hd1 := (blk_below hb (lt_of_blk hd4)).trans hd4
  have nbd : ¬ b = d := ne_of_type hb1 hd1 (by decide)
  simp only [q_extract_tuple]
  simp [hb1, hd1, nbd, d1.1, d1.2, d2.1, d2.2]
  exact hK w1 lv1 pv1 hb hl hp hb1 hd1
def MethI (w0 : World) (v : Value) (W : World) : Prop := Below w0.heap.size w0 W ∧ ∃ i : Nat, v = .int .i64 i ∧ 1 ≤ i ∧ i ≤ 5
def StJ (w0 : World) (b : Nat) (s : St) (W : World) : Prop := Below w0.heap.size w0 W ∧ ∃ lv pv, X.blk W b = some (.cells #[.int .i64 s.qty, .int .i64 s.value, .int .i64 s.price, lv, pv] 28 (0, 0)) ∧ Own LyE 103 W w0.heap.size lv s.layers ∧ Own PaE 105 W w0.heap.size pv s.past
def StJ1 (w0 : World) (b a1 c1 b1 : Nat) (R : St × Co × Int) (g : Value) (W : World) : Prop :=
  Below w0.heap.size w0 W ∧ g = .int .i64 R.2.2 ∧ ∃ lv pv lv' pv', X.blk W a1 = some (.cells #[.int .i64 R.1.qty, .int .i64 R.1.value, .int .i64 R.1.price, lv, pv] 28 (0, 0)) ∧ X.blk W c1 = some (.cells #[.int .i64 R.2.1.seq, .int .i64 R.2.1.qty, .int .i64 R.2.1.value, .int .i64 R.2.1.var] 43 (0, 0)) ∧
    X.blk W b1 = some (.cells #[.int .i64 R.1.qty, .int .i64 R.1.value, .int .i64 R.1.price, lv', pv'] 28 (0, 0)) ∧ X.blk W (b1 + 1) = some (.cells #[.int .i64 R.2.1.seq, .int .i64 R.2.1.qty, .int .i64 R.2.1.value, .int .i64 R.2.1.var] 43 (0, 0)) ∧
    Own LyE 103 W w0.heap.size lv R.1.layers ∧ Own PaE 105 W w0.heap.size pv R.1.past ∧ Own LyE 103 W w0.heap.size lv' R.1.layers ∧ Own PaE 105 W w0.heap.size pv' R.1.past
theorem run_st_ok {method price : Int} {ms : List Mv} (hp : I64 price) (hm : ∀ m ∈ ms, m.Ok) : (runV method price ms).1.Ok ms.length := by
  rcases run_cases method price ms with ⟨t, d, hst, hrun, hR⟩ | ⟨at_, e, he, hR⟩
  · rw [hR]
    have := (runOk_ok ms 0 _ t d (start_ok 0 hp) hm hrun).1
    simpa using this
  · rw [hR]; exact St.zero_ok _
theorem methods_ok {v : Value} {ms : List Mv} {other : Int} (ht : Tab w) (hv : Rd MvE w v ms) (hm : ∀ m ∈ ms, m.Ok) (hmm : m.Ok) : Calc 10 [v, m.v, .int .i64 other] w (.bool true) := by
  intro K hK
  refine lift10 ?_
  unfold L10
  rw [l_new_eq, Mv.v_cells]
  have hb1 := (Below.refl w.heap.size w).alloc (Nat.le_refl _) (.cells #[.int .i64 m.seq, .int .i64 m.value, .string m.item, .int .i64 m.kind, .int .i64 m.qty, .int .i64 m.cost, .string m.lot, .int .i64 m.ref] 47)
  have hkm : X.blk (w.alloc (.cells #[.int .i64 m.seq, .int .i64 m.value, .string m.item, .int .i64 m.kind, .int .i64 m.qty, .int .i64 m.cost, .string m.lot, .int .i64 m.ref] 47)) w.heap.size = some (.cells #[.int .i64 m.seq, .int .i64 m.value, .string m.item, .int .i64 m.kind, .int .i64 m.qty, .int .i64 m.cost, .string m.lot, .int .i64 m.ref] 47 (0, 0)) := by simp
  generalize w.alloc (.cells #[.int .i64 m.seq, .int .i64 m.value, .string m.item, .int .i64 m.kind, .int .i64 m.qty, .int .i64 m.cost, .string m.lot, .int .i64 m.ref] 47) = w1 at *
  have hlive : ∀ W, Below w.heap.size w W → Ret Tryz.prog 20 [] W fun t W' => K t W' := fun W hbW => lives_ok (ht.below hbW) _ (fun w3 hb3 => hK _ (hbW.then hb3))
  refine large_ok (hv.below hb1) _ (fun w2 hb2 => ?_)
  have hb02 := hb1.then hb2
  have hkm2 := (blk_below hb2 (lt_of_blk hkm)).trans hkm
  cases hl : largeV ms with
  | true =>
    simp
    exact hlive w2 hb02
  | false =>
    have hlen := large_len hl
    simp [hkm2]
    unfold l_lit
    rw [show fillC #[.int .i64 0, .int .i64 0, .string ⟨#[]⟩, .int .i64 0, .int .i64 0, .int .i64 0, .string ⟨#[]⟩, .int .i64 0] [(0, 8, .agg #[.int .i64 m.seq, .int .i64 m.value, .string m.item, .int .i64 m.kind, .int .i64 m.qty, .int .i64 m.cost, .string m.lot, .int .i64 m.ref])] = some (MvE.cells m).toArray by simp [MvE, Mv.cs], onSome_some]
    have hb3 := hb02.alloc hb02.size (.cells (MvE.cells m).toArray 47)
    have hr3 := Rd.new (E := MvE) (t := 47) (a := m) w2 (by decide)
    have hkm3 : X.blk (w2.alloc (.cells (MvE.cells m).toArray 47)) w.heap.size = some (.cells #[.int .i64 m.seq, .int .i64 m.value, .string m.item, .int .i64 m.kind, .int .i64 m.qty, .int .i64 m.cost, .string m.lot, .int .i64 m.ref] 47 (0, 0)) := by rw [blk_alloc, if_neg (Nat.ne_of_lt (lt_of_blk hkm2))]; exact hkm2
    generalize (w2.alloc (.cells (MvE.cells m).toArray 47)) = w3 at *
    dsimp only
    refine large_ok hr3 _ (fun w4 hb4 => ?_)
    have hb04 := hb3.then hb4
    have hkm4 := (blk_below hb4 (lt_of_blk hkm3)).trans hkm3
    refine xif_bool (fun hl2 => ?_) (fun hl2 => ?_)
    · exact hlive w4 hb04
    refine looping_i (MethI w4) (fun v _ => 5 - (intOf v).toNat) ⟨⟨Below.refl _ _, 1, rfl, by omega, by omega⟩, ?_⟩
    rintro _ W ⟨hbW, i, rfl, hi1, hi5⟩
    have hb0W := hb04.then hbW
    have hkmW := (blk_below hbW (lt_of_blk hkm4)).trans hkm4
    have htW := ht.below hb0W
    simp only [q_leq, onSome_some]
    refine xif_dec (fun hlt => ?_) (fun hlt => ?_)
    · have e1 : IntKind.i64.wrap ((i : Int) + 1) = ((i + 1 : Nat) : Int) := by rw [wrap_i64 (by omega) (by omega)]; omega
      refine run_new (method := (i : Int)) (price := 7) htW (by decide) (hv.below hb0W) hm (by omega) (fun w5 b lv5 pv5 cv5 hb5 hbb hkb5 hl5 hp5 hc5 => ?_)
      have hb05 := hb0W.then hb5
      obtain ⟨R0, hR0⟩ : ∃ R0, R0 = runV (i : Int) 7 ms := ⟨_, rfl⟩
      have hok0 := run_st_ok (method := (i : Int)) (price := 7) (by decide) hm
      rw [← hR0] at hkb5 hl5 hp5 hc5 hok0 ⊢
      obtain ⟨sv, hsv⟩ : ∃ sv : St, sv = if R0.2.2.2 ≠ 0 then St.zero else R0.1 := ⟨_, rfl⟩
      have hsok : sv.Ok 900000 := by
        rw [hsv]; split
        · exact St.zero_ok _
        · exact hok0.up (by omega)
      refine joining_i (StJ W b sv) ⟨?_, ?_⟩
      · simp only [q_neq, onSome_some]
        refine xif_ndec (fun he => ?_) (fun he => ?_)
        · rw [build_of (cs := #[.int .i64 0, .int .i64 0, .int .i64 0, .slice none 0 0, .slice none 0 0]) (by simp), onSome_some]
          simp [hkb5]
          rw [if_pos he] at hsv
          rw [hsv]
          exact ⟨below_putL hb5 hbb _ _, .slice none 0 0, .slice none 0 0, by simp [hkb5, St.zero], Own.nil _ _ _ _, Own.nil _ _ _ _⟩
        · rw [if_neg (fun h => h he)] at hsv
          rw [hsv]
          exact ⟨hb5, lv5, pv5, hkb5, hl5, hp5⟩
      · rintro W1 ⟨hbW1, lv6, pv6, hkb6, hl6, hp6⟩
        have hb0W1 := hb0W.then hbW1
        have hkmW1 := (blk_below hbW1 (lt_of_blk hkmW)).trans hkmW
        have htW1 := ht.below hb0W1
        have hkm' := hkmW1
        simp only [loadn_mk, hkb6, hkmW1]
        simp
        obtain ⟨R, hR⟩ : ∃ R, R = stepV (i : Int) sv m := ⟨_, rfl⟩
        refine step_new (F := stepV (i : Int)) (R := R) (fun K' hK' => by rw [hR] at hK'; exact step_any (s := sv) (m := m) htW1 hmm hsok (Rd.of_own hl6) (Rd.of_own hp6) hK') (fun w7 a1 lv7 pv7 hb7 ha1 hk7a hk7c hl7 hp7 => ?_)
        have hb07 := hb0W1.then hb7
        have hkm7 := (blk_below hb7 (lt_of_blk hkmW1)).trans hkmW1
        have hkb7 := (blk_below hb7 (lt_of_blk hkb6)).trans hkb6
        have hl67 := hl6.below hb7
        have hp67 := hp6.below hb7
        simp only [loadn_mk, hkb7, hkm7]
        simp
        obtain ⟨F0, hF0⟩ : ∃ F0, F0 = fifoV sv m := ⟨_, rfl⟩
        refine step_new (F := fifoV) (R := F0) (fun K' hK' => by rw [hF0] at hK'; exact fifo_step w7 sv m lv6 pv6 K' (ht.below hb07) hmm hsok (Rd.of_own hl67) (Rd.of_own hp67) hK') (fun w8 a2 lv8 pv8 hb8 ha2 hk8a hk8c hl8 hp8 => ?_)
        have hb08 := hb07.then hb8
        have hkm8 := (blk_below hb8 (lt_of_blk hkm7)).trans hkm7
        have hkb8 := (blk_below hb8 (lt_of_blk hkb7)).trans hkb7
        have hk7a8 := (blk_below hb8 (lt_of_blk hk7a)).trans hk7a
        have hk7c8 := (blk_below hb8 (lt_of_blk hk7c)).trans hk7c
        have hl68 := hl67.below hb8
        have hp68 := hp67.below hb8
        have hl78 := hl7.below hb8
        have hp78 := hp7.below hb8
        have s7 := hb7.size
        have s1 := hbW1.size
        have hbW8 : Below W.heap.size W w8 := (hbW1.then hb7).then hb8
        have n12 : ¬ a2 = a1 := by have := lt_of_blk hk7a; omega
        have n13 : ¬ a2 = a1 + 1 := by have := lt_of_blk hk7c; omega
        have n14 : ¬ a2 + 1 = a1 := by have := lt_of_blk hk7a; omega
        have n15 : ¬ a2 + 1 = a1 + 1 := by have := lt_of_blk hk7c; omega
        have L7 := hl78.lower s1
        have P7 := hp78.lower s1
        refine joining_i (StJ1 W b a1 (a1 + 1) a2 R) ⟨?_, ?_⟩
        · have into : ∀ (f : FuncId) (F : St → Mv → St × Co × Int), StepOk f F → stepV (i : Int) sv m = F sv m →
              Ret Tryz.prog f [.agg #[.int .i64 sv.qty, .int .i64 sv.value, .int .i64 sv.price, lv6, pv6], .agg #[.int .i64 m.seq, .int .i64 m.value, .string m.item, .int .i64 m.kind, .int .i64 m.qty, .int .i64 m.cost, .string m.lot, .int .i64 m.ref]] w8 fun t48 W12 =>
                onSome (q_extract t48 0) fun t49 => onSome (q_extract t48 1) fun t50 => onSome (q_extract t48 2) fun t51 =>
                l_store 5 (.pointer (some ⟨a2, 0, none⟩)) t49 W12 fun _ W15 => l_store 4 (.pointer (some ⟨a2 + 1, 0, none⟩)) t50 W15 fun _ W16 => StJ1 W b a1 (a1 + 1) a2 R t51 W16 := by
            intro f F hF e
            have eR : R = F sv m := hR.trans e
            refine step_into (R := R) hk8a hk8c (fun K' hK' => by rw [eR] at hK'; exact hF w8 sv m lv6 pv6 K' (ht.below hb08) hmm hsok (Rd.of_own hl68) (Rd.of_own hp68) hK') (fun w9 lv9 pv9 hb9 hl9 hp9 hk9a hk9c => ?_)
            have h9a := (blk_below hb9 (lt_of_blk hk7a8)).trans hk7a8
            have h9c := (blk_below hb9 (lt_of_blk hk7c8)).trans hk7c8
            have s8 := hbW8.size
            have k9 : X.blk (X.putL w9 a2 0 [.int .i64 R.1.qty, .int .i64 R.1.value, .int .i64 R.1.price, lv9, pv9]) (a2 + 1) = some (.cells #[.int .i64 F0.2.1.seq, .int .i64 F0.2.1.qty, .int .i64 F0.2.1.value, .int .i64 F0.2.1.var] 43 (0, 0)) := by
              rw [blk_putL, if_neg (by omega)]; exact hk9c
            exact ⟨below_putL (below_putL (hbW8.then hb9) (by omega) _ _) (by omega) _ _, rfl, lv7, pv7, lv9, pv9, by simp [n12, n14, h9a], by simp [n13, n15, h9c], by simp [hk9a], by simp [hk9c],
              ((L7.below hb9).putL hk9a (by decide)).putL k9 (by decide), ((P7.below hb9).putL hk9a (by decide)).putL k9 (by decide),
              ((hl9.lower s8).putL hk9a (by decide)).putL k9 (by decide), ((hp9.lower s8).putL hk9a (by decide)).putL k9 (by decide)⟩
          have him : i = 1 ∨ i = 2 ∨ i = 3 ∨ i = 4 := by omega
          rcases him with h1 | h1 | h1 | h1
          · have e : R = F0 := by rw [hR, hF0, h1]; rfl
            simp [h1]
            rw [← e] at hk8a hk8c hl8 hp8 ⊢
            exact ⟨hbW8, rfl, lv7, pv7, lv8, pv8, hk7a8, hk7c8, hk8a, hk8c, L7, P7, hl8.lower (by omega), hp8.lower (by omega)⟩
          · have f := into 33 _ avg_step (by rw [h1]; rfl)
            simp [h1, hkb8, hkm8] at f ⊢
            exact f
          · have f := into 34 _ std_step (by rw [h1]; rfl)
            simp [h1, hkb8, hkm8] at f ⊢
            exact f
          · have f := into 35 _ lots_step (by rw [h1]; rfl)
            simp [h1, hkb8, hkm8] at f ⊢
            exact f
        · rintro g W9 ⟨hb9, rfl, la, pa, lb, pb, ka, kc, kb, kd, ola, opa, olb, opb⟩
          have hb09 := hb0W.then hb9
          simp [ka, kc, kb, kd, eq43]
          refine same_stock (a := R.1) (b := R.1) (Rd.of_own ola) (Rd.of_own opa) (Rd.of_own olb) (Rd.of_own opb) _ (fun w10 hb10 => ?_)
          rw [sameStV_self]
          simp [e1]
          exact ⟨⟨(hbW.then hb9).then hb10, i + 1, rfl, by omega, by omega⟩, by simp only [intOf]; omega⟩
    · rw [build_of (cs := #[.int .i64 0, .int .i64 0, .int .i64 0, .slice none 0 0, .slice none 0 0]) (by simp), onSome_some]
      simp [hkmW]
      obtain ⟨R, hR⟩ : ∃ R, R = stepV other St.zero m := ⟨_, rfl⟩
      refine step_new (F := stepV other) (R := R) (fun K' hK' => by rw [hR] at hK'; exact step_any (s := St.zero) (m := m) (lv := .slice none 0 0) (pv := .slice none 0 0) htW hmm (St.zero_ok _) (Rd.of_own (Own.nil LyE 103 W 0)) (Rd.of_own (Own.nil PaE 105 W 0)) hK') (fun w7 a1 lv7 pv7 hb7 ha1 hk7a hk7c hl7 hp7 => ?_)
      have hb07 := hb0W.then hb7
      by_cases ho1 : 1 ≤ other
      · by_cases ho2 : other ≤ 4
        · simp [ho1, ho2]
          exact hlive w7 hb07
        · have e : R = (St.zero, Co.zero, 10) := by rw [hR]; unfold stepV; rw [if_neg (by omega), if_neg (by omega), if_neg (by omega), if_neg (by omega)]
          rw [e] at hk7c ⊢
          simp [ho1, ho2, hk7c]
          rw [build_of (cs := #[.int .i64 0, .int .i64 0, .int .i64 0, .int .i64 0]) (by simp)]
          have h0 := eq43e Co.zero Co.zero
          unfold Co.zero at h0 ⊢
          simp [h0]
          exact hlive w7 hb07
      · have e : R = (St.zero, Co.zero, 10) := by rw [hR]; unfold stepV; rw [if_neg (by omega), if_neg (by omega), if_neg (by omega), if_neg (by omega)]
        rw [e] at hk7c ⊢
        simp [ho1, hk7c]
        rw [build_of (cs := #[.int .i64 0, .int .i64 0, .int .i64 0, .int .i64 0]) (by simp)]
        have h0 := eq43e Co.zero Co.zero
        unfold Co.zero at h0 ⊢
        simp [h0]
        exact hlive w7 hb07
end Go.X
