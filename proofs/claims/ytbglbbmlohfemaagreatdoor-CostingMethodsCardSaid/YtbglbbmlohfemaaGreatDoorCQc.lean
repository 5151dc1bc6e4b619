/- The statement of steps. -/
import Derived.Test.YtbglbbmlohfemaaGreatDoorCQb
set_option linter.unusedVariables false
set_option linter.unusedSimpArgs false
namespace Go.X
open Go.Proofs Go.RowKit
attribute [local irreducible] l_append l_copy l_make l_run q_slice q_eq q_index q_build onSome l_lit
variable {w w' : World} {B x : Nat} {s : St} {lv pv cv : Value} {m : Mv} {c : Co} {cs : List Co} {method : Int}
theorem runOk_snoc {method : Int} : ∀ (l : List Mv) (k : Nat) (s t : St) (d : List Co) (hk : k < l.length), runOk method s (l.take k) = some (t, d) → (stepV method t l[k]).2.2 = 0 → runOk method s (l.take (k + 1)) = some ((stepV method t l[k]).1, d ++ [(stepV method t l[k]).2.1]) := by
  intro l
  induction l with
  | nil => intro k s t d hk; simp at hk
  | cons m r ih =>
    intro k s t d hk h he
    cases k with
    | zero =>
      simp [runOk] at h
      obtain ⟨rfl, rfl⟩ := h
      simp only [List.getElem_cons_zero] at he ⊢
      simp [runOk, he]
    | succ k =>
      simp only [List.take_succ_cons, runOk] at h ⊢
      split at h
      · cases h
      · rename_i h0
        obtain ⟨x, hx, hxe⟩ := Option.map_eq_some_iff.mp h
        obtain ⟨h1, h2⟩ := Prod.mk.inj hxe
        rw [if_neg h0]
        have hk' : k < r.length := by simpa using hk
        have := ih k (stepV method s m).1 t x.2 hk' (by rw [hx, ← h1]) (by simpa using he)
        rw [this, ← h2]
        simp
/-- What the statement compares, at each movement. -/
theorem steps_plain {method price : Int} {ms : List Mv} (hst : (startV method price).2 = 0) {i : Nat} {s : St} {d : List Co} (hi : i < ms.length) (h : runOk method (startV method price).1 (ms.take i) = some (s, d)) :
    ((stepV method s ms[i]).2.2 ≠ 0 → runV method price ms = (St.zero, [], (i : Int), (stepV method s ms[i]).2.2)) ∧
    ((stepV method s ms[i]).2.2 = 0 → (runV method price ms).2.2.2 = 0 → ∃ hl : i < (runV method price ms).2.1.length, (runV method price ms).2.1[i] = (stepV method s ms[i]).2.1) := by
  have e1 : runV method price ms = runFrom method 0 (startV method price).1 [] ms := by unfold runV; rw [if_neg (by rw [hst]; simp)]
  rw [e1]
  refine ⟨fun he => ?_, fun he h0 => ?_⟩
  · rw [runFrom_fail ms i 0 _ s [] d hi h he]; simp
  · cases hr : runOk method (startV method price).1 ms with
    | none =>
      obtain ⟨k, e, hne, _, hk, _⟩ := runFrom_bad ms 0 _ [] hr
      rw [hk] at h0
      exact absurd h0 hne
    | some x =>
      obtain ⟨t, dd⟩ := x
      rw [runFrom_ok ms 0 _ [] t dd hr]
      have hlen := (runOk_sums ms _ _ _ hr).2.2
      have hs := runOk_snoc ms i _ s d hi h he
      obtain ⟨t', ht'⟩ := runOk_take ms (i + 1) _ _ _ hr
      rw [hs] at ht'
      have e2 : d ++ [(stepV method s ms[i]).2.1] = dd.take (i + 1) := by injection ht' with h; exact (Prod.mk.inj h).2
      have hil : i < dd.length := by omega
      refine ⟨by simpa using hil, ?_⟩
      have hdl : d.length = i := by
        have := (runOk_sums _ _ _ _ h).2.2
        rw [this]; simp; omega
      simp only [List.nil_append]
      have h3 : (dd.take (i + 1))[i]? = some (stepV method s ms[i]).2.1 := by
        rw [← e2, List.getElem?_append_right (by omega)]
        simp [hdl]
      rw [List.getElem?_take] at h3
      rw [if_pos (by omega)] at h3
      exact (List.getElem?_eq_some_iff.1 h3).2
theorem steps_end {method price : Int} {ms : List Mv} (hst : (startV method price).2 = 0) {s : St} {d : List Co} (h : runOk method (startV method price).1 ms = some (s, d)) : runV method price ms = (s, d, -1, 0) ∧ d.length = ms.length := by
  have e1 : runV method price ms = runFrom method 0 (startV method price).1 [] ms := by unfold runV; rw [if_neg (by rw [hst]; simp)]
  rw [e1, runFrom_ok ms 0 _ [] s d h]
  exact ⟨rfl, (runOk_sums ms _ _ _ h).2.2⟩
def StpI (w0 : World) (a b : Nat) (method price : Int) (ms : List Mv) (lr pr cv : Value) (v : Value) (W : World) : Prop :=
  Below w0.heap.size w0 W ∧ ∃ (i : Nat) (s : St) (d : List Co) (lv pv : Value), v = .int .i64 i ∧ i ≤ ms.length ∧ runOk method (startV method price).1 (ms.take i) = some (s, d) ∧ s.Ok i ∧
    X.blk W a = some (.cells #[.int .i64 s.qty, .int .i64 s.value, .int .i64 s.price, lv, pv] 28 (0, 0)) ∧ Own LyE 103 W w0.heap.size lv s.layers ∧ Own PaE 105 W w0.heap.size pv s.past ∧
    X.blk W b = some (.cells #[.int .i64 (runV method price ms).1.qty, .int .i64 (runV method price ms).1.value, .int .i64 (runV method price ms).1.price, lr, pr] 28 (0, 0)) ∧
    Own LyE 103 W w0.heap.size lr (runV method price ms).1.layers ∧ Own PaE 105 W w0.heap.size pr (runV method price ms).1.past ∧ Own CoE 43 W w0.heap.size cv (runV method price ms).2.1
theorem l_new_eq {t : TypeId} {c : Array Value} {w : World} {K : Value → World → Prop} : l_new t c w K = K (.pointer (some ⟨w.heap.size, 0, none⟩)) (w.alloc (.cells c t)) := rfl
theorem steps_ok {v : Value} {ms : List Mv} {price : Int} (ht : Tab w) (hp : I64 price) (hv : Rd MvE w v ms) (hm : ∀ m ∈ ms, m.Ok) : Calc 4 [.int .i64 method, .int .i64 price, v] w (.bool true) := by
  intro K hK
  refine lift4 ?_
  unfold L4
  refine large_ok hv _ (fun w1 hb1 => ?_)
  refine xif_bool (fun hl => ?_) (fun hl => ?_)
  · exact lives_ok (ht.below hb1) _ (fun w2 hb2 => hK _ (hb1.then hb2))
  have hlen := large_len hl
  refine start_ok' _ (fun w2 hb2 => ?_)
  have hb02 := hb1.then hb2
  unfold startR StV
  have hk2 : X.blk (w2.alloc (.cells #[.int .i64 0, .int .i64 0, .int .i64 0, .slice none 0 0, .slice none 0 0] 28)) w2.heap.size = some (.cells #[.int .i64 0, .int .i64 0, .int .i64 0, .slice none 0 0, .slice none 0 0] 28 (0, 0)) := by simp
  simp only [q_extract_tuple, nilV]
  rw [show (#[Value.agg #[.int .i64 (startV method price).1.qty, .int .i64 (startV method price).1.value, .int .i64 (startV method price).1.price, .slice none 0 0, .slice none 0 0], .int .i64 (startV method price).2] : Array Value)[0]? = some (Value.agg #[.int .i64 (startV method price).1.qty, .int .i64 (startV method price).1.value, .int .i64 (startV method price).1.price, .slice none 0 0, .slice none 0 0]) from rfl, onSome_some,
    show (#[Value.agg #[.int .i64 (startV method price).1.qty, .int .i64 (startV method price).1.value, .int .i64 (startV method price).1.price, .slice none 0 0, .slice none 0 0], .int .i64 (startV method price).2] : Array Value)[1]? = some (.int .i64 (startV method price).2) from rfl, onSome_some, l_new_eq, l_store_to (by simp), cells_agg]
  have hb3 := below_putL (hb02.alloc hb02.size (.cells #[.int .i64 0, .int .i64 0, .int .i64 0, .slice none 0 0, .slice none 0 0] 28)) hb02.size [.int .i64 (startV method price).1.qty, .int .i64 (startV method price).1.value, .int .i64 (startV method price).1.price, .slice none 0 0, .slice none 0 0] 0
  have hk3 : X.blk (X.putL (w2.alloc (.cells #[.int .i64 0, .int .i64 0, .int .i64 0, .slice none 0 0, .slice none 0 0] 28)) w2.heap.size 0 [.int .i64 (startV method price).1.qty, .int .i64 (startV method price).1.value, .int .i64 (startV method price).1.price, .slice none 0 0, .slice none 0 0]) w2.heap.size = some (.cells #[.int .i64 (startV method price).1.qty, .int .i64 (startV method price).1.value, .int .i64 (startV method price).1.price, .slice none 0 0, .slice none 0 0] 28 (0, 0)) := by simp
  have ha2 := hb02.size
  have ha2w := hb02.size
  simp only [q_neq, onSome_some]
  generalize X.putL (w2.alloc (.cells #[.int .i64 0, .int .i64 0, .int .i64 0, .slice none 0 0, .slice none 0 0] 28)) w2.heap.size 0 [.int .i64 (startV method price).1.qty, .int .i64 (startV method price).1.value, .int .i64 (startV method price).1.price, .slice none 0 0, .slice none 0 0] = w3 at *
  generalize w2.heap.size = a at *
  refine run_new (method := method) (ht.below hb3) hp (hv.below hb3) hm (by omega) (fun w4 b lr pr cv hb4 hb hkb hlr hpr hcv => ?_)
  have hb04 := hb3.then hb4
  have hka := (blk_below hb4 (lt_of_blk hk3)).trans hk3
  have hb0 : w.heap.size ≤ b := by have := hb3.size; omega
  have hlive : ∀ W, Below w.heap.size w W → Ret Tryz.prog 20 [] W fun t W' => K t W' := fun W hbW => lives_ok (ht.below hbW) _ (fun w3 hb3 => hK _ (hbW.then hb3))
  have hab : a < b := by have := lt_of_blk hk3; omega
  have hsr := hb3.size
  refine xif_ndec (fun hst => ?_) (fun hst => ?_)
  · have hR := run_bad_start (ms := ms) hst
    rw [hR] at hcv ⊢
    have l0 := hcv.len
    simp [l0]
    exact hlive w4 hb04
  have hly : (startV method price).1.layers = [] ∧ (startV method price).1.past = [] := by
    unfold startV; split; exact ⟨rfl, rfl⟩; split; exact ⟨rfl, rfl⟩; split <;> exact ⟨rfl, rfl⟩
  refine looping_i (StpI w a b method price ms lr pr cv) (lenM ms.length) ⟨⟨hb04, 0, (startV method price).1, [], .slice none 0 0, .slice none 0 0, rfl, Nat.zero_le _, by simp [runOk], start_ok 0 hp, hka,
    by rw [hly.1]; exact Own.nil _ _ _ _, by rw [hly.2]; exact Own.nil _ _ _ _, hkb, hlr.lower hsr, hpr.lower hsr, hcv.lower hsr⟩, ?_⟩
  rintro _ W ⟨hbW, i, si, d, lvi, pvi, rfl, hi, hrun, hsi, hkaW, hlW, hpW, hkbW, hlrW, hprW, hcvW⟩
  have hvW := hv.below hbW
  obtain ⟨RR, hRR⟩ : ∃ RR, RR = runV method price ms := ⟨_, rfl⟩
  have hliveW := hlive W hbW
  simp [hvW.len]
  refine xif_dec (fun hlt => ?_) (fun hlt => ?_)
  · have hlt' : i < ms.length := by omega
    have e1 : IntKind.i64.wrap ((i : Int) + 1) = ((i + 1 : Nat) : Int) := by rw [wrap_i64 (by omega) (by omega)]; omega
    have hbD := hbW.drew
    obtain ⟨ad, hq, hload, _⟩ := mvElem (hv.below hbD) hlt'
    have hall : ∀ W', Below w.heap.size w W' → q_loadn 8 (.pointer (some ad)) W' = some (.agg #[.int .i64 ms[i].seq, .int .i64 ms[i].value, .string ms[i].item, .int .i64 ms[i].kind, .int .i64 ms[i].qty, .int .i64 ms[i].cost, .string ms[i].lot, .int .i64 ms[i].ref]) := by
      intro W' hb'
      obtain ⟨ad', hq', hload', _⟩ := mvElem (hv.below hb') hlt'
      rw [hq] at hq'
      injection hq' with hq'
      injection hq' with hq'
      injection hq' with hq'
      rw [← hq'] at hload'
      exact hload'
    have hmi := hm _ (List.getElem_mem hlt')
    have hpl := steps_plain hst hlt' hrun
    obtain ⟨mi, hmi'⟩ : ∃ mi, mi = ms[i] := ⟨_, rfl⟩
    have hsn := runOk_snoc ms i (startV method price).1 si d hlt' hrun
    rw [← hmi'] at hmi hpl hall hsn
    obtain ⟨R, hR⟩ : ∃ R, R = stepV method si mi := ⟨_, rfl⟩
    have hok := (step_p method).ok hsi hmi
    rw [← hR] at hpl hok hsn
    obtain ⟨w1, hw1⟩ : ∃ w1, w1 = W.drew := ⟨_, rfl⟩
    have hbW1 : Below W.heap.size W w1 := by rw [hw1]; exact (Below.refl _ _).drew
    have hsW1 : w1.heap.size = W.heap.size := by rw [hw1]; rfl
    have hka1 : X.blk w1 a = some (.cells #[.int .i64 si.qty, .int .i64 si.value, .int .i64 si.price, lvi, pvi] 28 (0, 0)) := by rw [hw1]; exact hkaW
    rw [← hw1]
    have call : ∀ (W' : World) (K' : Value → World → Prop), Below W.heap.size W W' → (∀ w' lv' pv', Own LyE 103 w' W'.heap.size lv' R.1.layers → Own PaE 105 w' W'.heap.size pv' R.1.past → Below W'.heap.size W' w' → lv'.cells = #[lv'] ∧ lv'.oneCell' = true → pv'.cells = #[pv'] ∧ pv'.oneCell' = true →
        K' (.tuple #[.agg #[.int .i64 R.1.qty, .int .i64 R.1.value, .int .i64 R.1.price, lv', pv'], .agg #[.int .i64 R.2.1.seq, .int .i64 R.2.1.qty, .int .i64 R.2.1.value, .int .i64 R.2.1.var], .int .i64 R.2.2]) w') →
        Ret Tryz.prog 27 [.int .i64 method, .agg #[.int .i64 si.qty, .int .i64 si.value, .int .i64 si.price, lvi, pvi], .agg #[.int .i64 mi.seq, .int .i64 mi.value, .string mi.item, .int .i64 mi.kind, .int .i64 mi.qty, .int .i64 mi.cost, .string mi.lot, .int .i64 mi.ref]] W' K' := by
      intro W' K' hb' hk'
      have h0' := hbW.then hb'
      exact step_any (s := si) (m := mi) (ht.below h0') hmi (hsi.up (by omega)) (Rd.of_own (hlW.below hb')) (Rd.of_own (hpW.below hb')) (fun w' lv' pv' a b cb => by rw [← hR] at a b ⊢; exact hk' w' lv' pv' a b cb (own_cells a) (own_cells b))
    have ha1 : ¬ a = w1.heap.size := Nat.ne_of_lt (lt_of_blk hka1)
    have ha2 : ¬ a = w1.heap.size + 1 := by have := lt_of_blk hka1; omega
    have z5 : ∀ (W : World) (b : Nat), b = W.heap.size → X.blk (W.alloc (.cells #[.int .i64 0, .int .i64 0, .int .i64 0, .slice none 0 0, .slice none 0 0] 28)) b = some (.cells #[.int .i64 0, .int .i64 0, .int .i64 0, .slice none 0 0, .slice none 0 0] 28 (0, 0)) := by
      intro W b hb; rw [blk_alloc, if_pos hb]
    have z4 : ∀ (W : World) (b : Nat), b = W.heap.size → X.blk (W.alloc (.cells #[.int .i64 0, .int .i64 0, .int .i64 0, .int .i64 0] 43)) b = some (.cells #[.int .i64 0, .int .i64 0, .int .i64 0, .int .i64 0] 43 (0, 0)) := by
      intro W b hb; rw [blk_alloc, if_pos hb]
    have old : ∀ (W : World) (o : Obj) (b : Nat) (y : Obj), X.blk W b = some y → X.blk (W.alloc o) b = some y := by
      intro W o b y hy; rw [blk_alloc, if_neg (Nat.ne_of_lt (lt_of_blk hy))]; exact hy
    have hsz1 := hbW1.size
    have hA := hbW1.alloc hsz1 (.cells #[.int .i64 0, .int .i64 0, .int .i64 0, .slice none 0 0, .slice none 0 0] 28)
    have hA' := hbW1.alloc hsz1 (.cells #[.int .i64 0, .int .i64 0, .int .i64 0, .int .i64 0] 43)
    have hB := hA.alloc hA.size (.cells #[.int .i64 0, .int .i64 0, .int .i64 0, .int .i64 0] 43)
    have hB' := hA'.alloc hA'.size (.cells #[.int .i64 0, .int .i64 0, .int .i64 0, .slice none 0 0, .slice none 0 0] 28)
    have q0 := hall w1 (hbW.then hbW1)
    have qA := hall _ (hbW.then hA)
    have qA' := hall _ (hbW.then hA')
    have qB := hall _ (hbW.then hB)
    have qB' := hall _ (hbW.then hB')
    refine joining_i (PerfJ W R) ⟨?_, ?_⟩
    · have hkaW' := hkaW
      simp [hka1, hkaW, hq, q0, qA, qA', qB, qB', ha1, ha2, l_new]
      refine ⟨?_, ?_, ?_⟩
      · refine call w1 _ hbW1 (fun w2 lv2 pv2 hl2 hp2 hb2 d1 d2 => ?_)
        have hb02 := hbW1.then hb2
        have l2 := hl2.lower hbW1.size
        have p2 := hp2.lower hbW1.size
        have g2 := hb02.size
        simp [d1.1, d1.2, d2.1, d2.2]
        refine ⟨?_, ?_⟩
        · exact perf_end (by omega) ((l2.alloc _).alloc _) ((p2.alloc _).alloc _) ((hb02.alloc g2 _).alloc (by simp; omega) _) (by omega) (by omega) (old _ _ _ _ (z5 _ _ rfl)) (z4 _ _ (by simp))
        · exact perf_end (by omega) ((l2.alloc _).alloc _) ((p2.alloc _).alloc _) ((hb02.alloc g2 _).alloc (by simp; omega) _) (by omega) (by omega) (z5 _ _ (by simp)) (old _ _ _ _ (z4 _ _ rfl))
      · have hbA := hbW1.alloc hbW1.size (.cells #[.int .i64 0, .int .i64 0, .int .i64 0, .slice none 0 0, .slice none 0 0] 28)
        refine ⟨?_, ?_⟩
        · refine call _ _ hbA (fun w2 lv2 pv2 hl2 hp2 hb2 d1 d2 => ?_)
          have hb02 := hbA.then hb2
          have l2 := hl2.lower hbA.size
          have p2 := hp2.lower hbA.size
          have g2 := hb02.size
          have k5 := (blk_below hb2 (lt_of_blk (z5 w1 _ rfl))).trans (z5 w1 _ rfl)
          have n1 : ¬ w1.heap.size = w2.heap.size := Nat.ne_of_lt (lt_of_blk k5)
          simp [d1.1, d1.2, d2.1, d2.2, k5, n1]
          exact perf_end n1 (l2.alloc _) (p2.alloc _) (hb02.alloc g2 _) hbW1.size g2 (old _ _ _ _ k5) (z4 _ _ rfl)
        · have hbB := hbA.alloc hbA.size (.cells #[.int .i64 0, .int .i64 0, .int .i64 0, .int .i64 0] 43)
          refine call _ _ hbB (fun w2 lv2 pv2 hl2 hp2 hb2 d1 d2 => ?_)
          have hb02 := hbB.then hb2
          have l2 := hl2.lower hbB.size
          have p2 := hp2.lower hbB.size
          have k5 := (blk_below hb2 (lt_of_blk (old _ (.cells #[.int .i64 0, .int .i64 0, .int .i64 0, .int .i64 0] 43) _ _ (z5 w1 _ rfl)))).trans (old _ _ _ _ (z5 w1 _ rfl))
          have k4 := (blk_below hb2 (lt_of_blk (z4 (w1.alloc (.cells #[.int .i64 0, .int .i64 0, .int .i64 0, .slice none 0 0, .slice none 0 0] 28)) (w1.heap.size + 1) (by simp)))).trans (z4 _ _ (by simp))
          have g1 := hbW1.size
          simp [d1.1, d1.2, d2.1, d2.2, k5, k4]
          exact perf_end (by omega) l2 p2 hb02 g1 (by omega) k5 k4
      · have hbA := hbW1.alloc hbW1.size (.cells #[.int .i64 0, .int .i64 0, .int .i64 0, .int .i64 0] 43)
        refine ⟨?_, ?_⟩
        · refine call _ _ hbA (fun w2 lv2 pv2 hl2 hp2 hb2 d1 d2 => ?_)
          have hb02 := hbA.then hb2
          have l2 := hl2.lower hbA.size
          have p2 := hp2.lower hbA.size
          have g2 := hb02.size
          have k4 := (blk_below hb2 (lt_of_blk (z4 w1 _ rfl))).trans (z4 w1 _ rfl)
          have n1 : ¬ w1.heap.size = w2.heap.size := Nat.ne_of_lt (lt_of_blk k4)
          have n2 : ¬ w2.heap.size = w1.heap.size := fun e => n1 e.symm
          simp [d1.1, d1.2, d2.1, d2.2, k4, n1, n2]
          exact perf_end n2 (l2.alloc _) (p2.alloc _) (hb02.alloc g2 _) g2 hbW1.size (z5 _ _ rfl) (old _ _ _ _ k4)
        · have hbB := hbA.alloc hbA.size (.cells #[.int .i64 0, .int .i64 0, .int .i64 0, .slice none 0 0, .slice none 0 0] 28)
          refine call _ _ hbB (fun w2 lv2 pv2 hl2 hp2 hb2 d1 d2 => ?_)
          have hb02 := hbB.then hb2
          have l2 := hl2.lower hbB.size
          have p2 := hp2.lower hbB.size
          have k4 := (blk_below hb2 (lt_of_blk (old _ (.cells #[.int .i64 0, .int .i64 0, .int .i64 0, .slice none 0 0, .slice none 0 0] 28) _ _ (z4 w1 _ rfl)))).trans (old _ _ _ _ (z4 w1 _ rfl))
          have k5 := (blk_below hb2 (lt_of_blk (z5 (w1.alloc (.cells #[.int .i64 0, .int .i64 0, .int .i64 0, .int .i64 0] 43)) (w1.heap.size + 1) (by simp)))).trans (z5 _ _ (by simp))
          have g1 := hbW1.size
          simp [d1.1, d1.2, d2.1, d2.2, k5, k4]
          exact perf_end (by omega) l2 p2 hb02 (by omega) g1 k5 k4
    · rintro t cc e W9 ⟨x1, x2, lv2, pv2, rfl, rfl, rfl, ka, kb, hl2, hp2, hb9, hx1, hx2⟩
      have hb09 := hbW.then hb9
      have hka9 := (blk_below hb9 (lt_of_blk hkaW)).trans hkaW
      have hkb9 := (blk_below hb9 (lt_of_blk hkbW)).trans hkbW
      have hlr9 := hlrW.below hb9
      have hpr9 := hprW.below hb9
      have hcv9 := hcvW.below hb9
      rw [← hRR] at hkb9 hlr9 hpr9 hcv9 hpl
      simp only [q_neq, onSome_some]
      refine xif_ndec (fun he => ?_) (fun he => ?_)
      · have hz := hpl.1 he
        rw [← hRR, hz]
        rw [hz] at hkb9 hcv9
        have l9 := hcv9.len
        simp [l9, hkb9, ptr, St.zero]
        exact hlive W9 hb09
      · have hW9lt := hbW.size
        have d1 := own_cells hl2
        have d2 := own_cells hp2
        have na : ¬ a = b := by omega
        have hxa : ¬ x1 = a := by have := lt_of_blk hkaW; omega
        have hgo : ∀ (A G : Prop), G → (onSome (gateQ true (.bool (decide (RR.2.2.2 = 0))) (some (.int .i64 (i : Int)))) fun t100 =>
            onSome (gateQ true (.bool (decide (RR.2.2.2 = 0))) (some cv)) fun t101 =>
            onSome (gateQ true (.bool (decide (RR.2.2.2 = 0))) (q_len t101)) fun t102 =>
            onSome (gateQ true (.bool (decide (RR.2.2.2 = 0))) (q_bin .geq t100 t102)) fun t103 =>
            onSome (gateQ true (.bool (decide (RR.2.2.2 = 0))) (some t103)) fun t104 =>
            onSome (gateQ false t104 (some cv)) fun t105 =>
            onSome (gateQ false t104 (some (.int .i64 (i : Int)))) fun t106 =>
            onSome (gateQ false t104 (q_iaddr 4 t105 t106)) fun t107 =>
            onSome (gateQ false t104 (q_loadn 4 t107 W9.drew)) fun t108 =>
            onSome (gateQ false t104 (q_loadn 4 (ptr x2) W9.drew)) fun t109 =>
            onSome (gateQ false t104 (q_eq Tryz.prog .neq 43 t108 t109)) fun t110 =>
            onSome (gateQ true (.bool (decide (RR.2.2.2 = 0))) (q_pick t104 (.bool true) t110)) fun t111 =>
            xif (bif decide (RR.2.2.2 = 0) then t111 else .bool false) A G) := by
          intro A G hG
          by_cases h0 : RR.2.2.2 = 0
          · obtain ⟨hl, heq⟩ := hpl.2 he h0
            obtain ⟨ad2, hq2, hload2⟩ := coElem (Rd.of_own hcv9.drew) hl
            have hnl : ¬ (RR.2.1.length : Int) ≤ (i : Int) := by omega
            have hself := eq43 R.2.1 R.2.1
            rw [heq] at hload2
            simp [h0, hcv9.len, hnl, hq2, hload2, ptr, kb, hself]
            exact hG
          · simp [h0]
            exact hG
        rw [← hRR]
        refine hgo _ _ ?_
        clear hgo
        simp [ptr, ka, hka9, d1.1, d1.2, d2.1, d2.2, e1]
        have hsn' := hsn he
        have wl := hl2.drew.lower hW9lt
        have wp := hp2.drew.lower hW9lt
        refine ⟨⟨below_putL hb09.drew ha2w _ _, i + 1, R.1, d ++ [R.2.1], lv2, pv2, rfl, by omega, hsn', hok.1, by simp [hka9], wl.putL (w := W9.drew) hka9 (by decide), wp.putL (w := W9.drew) hka9 (by decide), ?_, ?_, ?_, ?_⟩, by simp only [lenM, intOf]; omega⟩
        · rw [← hRR, blk_putL, if_neg na]; exact hkb9
        · rw [← hRR]; exact hlr9.drew.putL (w := W9.drew) hka9 (by decide)
        · rw [← hRR]; exact hpr9.drew.putL (w := W9.drew) hka9 (by decide)
        · rw [← hRR]; exact hcv9.drew.putL (w := W9.drew) hka9 (by decide)
  · have hil : i = ms.length := by omega
    have hrun' : runOk method (startV method price).1 ms = some (si, d) := by rw [← hrun, hil, List.take_length]
    obtain ⟨hend, hdl⟩ := steps_end hst hrun'
    rw [hend] at hkbW hlrW hprW hcvW ⊢
    have l9 := hcvW.len
    rw [hdl] at l9
    simp [l9, hkaW, hkbW, hvW.len]
    refine same_stock (a := si) (b := si) (Rd.of_own hlW) (Rd.of_own hpW) (Rd.of_own hlrW) (Rd.of_own hprW) _ (fun w6 hb6 => ?_)
    rw [sameStV_self]
    simp
    exact hlive w6 (hbW.then hb6)
end Go.X
