/- Recosting: place, run. -/
import Derived.Test.YtbglbbmlohfemaaGreatDoorC1
import Derived.Test.YtbglbbmlohfemaaGreatDoorQ1
section
set_option linter.unusedVariables false
set_option linter.unusedSimpArgs false
namespace Go.X
open Go.Proofs Go.RowKit
attribute [local irreducible] l_append l_copy l_make l_run l_runU q_slice q_eq q_index q_build onSome l_lit q_read
variable {w w' : World} {B x : Nat}
theorem cmp_ok {L : List Mv} {O : List Nat} {mv cv ov kv : Value} {g i : Nat} {value : Int} (h : EngP w x L O mv cv ov kv) (hg : blk w g = some (.cells #[ptr x] 50 (0, 0))) (hi : i < O.length) (hO : ∀ o ∈ O, o < L.length) {K : Value → World → Prop}
    (hK : K (.int .i64 (if leV L O value i then -1 else 1)) w) : l_callv Tryz.prog (.func (.func 139) #[] #[ptr g]) [.int .i64 (ofN O[i]), .int .i64 value] w K := by
  refine ⟨bod139, lift139 ?_⟩
  unfold L139
  obtain ⟨me, q, va, pr, lv, pv, hk⟩ := h.blk
  have ho := hO _ (List.getElem_mem hi)
  obtain ⟨ad, hq, _, hc⟩ := mvElem h.mv ho
  have hv := hc 1 _ rfl
  unfold ptr at hg ⊢
  have hle : leV L O value i = decide (L[O[i]].value ≤ value) := by
    unfold leV
    rw [List.getElem?_eq_getElem hi, Option.getD_some, List.getElem?_eq_getElem ho, Option.getD_some]
  rw [hle] at hK
  simp only [ofN]
  simp [hg, hk, hq, hv]
  by_cases hd : L[O[i]].value ≤ value
  · simp [hd] at hK ⊢; exact hK
  · simp [hd] at hK ⊢; exact hK
theorem place_ok {L : List Mv} {O : List Nat} {mv cv ov kv : Value} {value : Int} (h : EngP w x L O mv cv ov kv) (hO : ∀ o ∈ O, o < L.length) (hn : O.length ≤ 1000000) {K : Value → World → Prop}
    (hK : ∀ w', Below w.heap.size w w' → K (.int .i64 (placeV L O value : Nat)) w') : Ret Tryz.prog 88 [ptr x, .int .i64 value] w K := by
  refine lift88 ?_
  unfold L88
  have hb0 := (Below.refl w.heap.size w).alloc (Nat.le_refl _) (Obj.cells (ptr x).cells 50)
  have hk0 : blk (w.alloc (Obj.cells (ptr x).cells 50)) w.heap.size = some (.cells #[ptr x] 50 (0, 0)) := by rw [blk_alloc, if_pos rfl]; rfl
  have h0 := h.below hb0
  simp only [l_new]
  generalize w.alloc (Obj.cells (ptr x).cells 50) = W1 at *
  obtain ⟨me, q, va, pr, lv, pv, hk⟩ := h0.blk
  have e0 : q_load1 (.pointer (some ⟨w.heap.size, 0, none⟩)) W1 = some (.pointer (some ⟨x, 0, none⟩)) := by rw [q_load1_ptr, cell_mk, hk0]; rfl
  rw [e0]
  simp [hk]
  have hlen := h0.ov.len
  simp only [List.length_map] at hlen
  refine lift138 ?_
  unfold L138
  rw [hlen, onSome_some]
  refine looping_i (PlI W1 L O value) plM ⟨⟨Below.refl _ _, 0, O.length, rfl, rfl, Nat.zero_le _, Nat.le_refl _, rfl⟩, ?_⟩
  rintro _ _ W ⟨hbW, i, j, rfl, rfl, hij, hj, hbs⟩ _
  have hW := h0.below hbW
  have hgW := (blk_below hbW (lt_of_blk hk0)).trans hk0
  have hb0W := hb0.then hbW
  simp only [q_lss, onSome_some]
  refine xif_dec (fun hlt => ?_) (fun hlt => ?_)
  · have hlt' : i < j := by omega
    rw [bs_step _ _ _ _ (by omega), if_pos hlt'] at hbs
    have hmid : (i + j) / 2 < O.length := by omega
    have e1 : IntKind.u64.wrap (IntKind.i64.wrap ((i : Int) + j)) = ((i + j : Nat) : Int) := by rw [wrap_i64 (by omega) (by omega), wrap_u64 (by omega) (by omega)]; omega
    have e2 : IntKind.i64.wrap (((i + j) / 2 : Nat) : Int) = (((i + j) / 2 : Nat) : Int) := wrap_i64 (by omega) (by omega)
    have e3 : q_bin .shr (.int .u64 ((i + j : Nat) : Int)) (.int .u64 1) = some (.int .u64 (((i + j) / 2 : Nat) : Int)) := by
      have := u_shr (x := i + j) 1 (by decide)
      simpa using this
    obtain ⟨ad, hq, hc⟩ := intElem hW.ov (i := (i + j) / 2) (by simpa using hmid)
    rw [q_add, onSome_some, q_toint_int, onSome_some, e1, e3, onSome_some, q_toint_int, onSome_some, e2, hq, onSome_some, q_load1_ptr, hc, onSome_some, List.getElem_map]
    refine cmp_ok hW hgW hmid hO ?_
    have e4 : IntKind.i64.wrap ((((i + j) / 2 : Nat) : Int) + 1) = (((i + j) / 2 + 1 : Nat) : Int) := by rw [wrap_i64 (by omega) (by omega)]; omega
    cases hle : leV L O value ((i + j) / 2) with
    | true =>
      rw [hle] at hbs
      simp only [if_true, q_lss, onSome_some, q_add, e4]
      exact ⟨⟨hbW, _, j, rfl, rfl, by omega, hj, hbs⟩, by simp only [plM, intOf]; omega⟩
    | false =>
      rw [hle] at hbs
      simp only [Bool.false_eq_true, if_false, q_lss, onSome_some]
      exact ⟨⟨hbW, i, _, rfl, rfl, by omega, by omega, hbs⟩, by simp only [plM, intOf]; omega⟩
  · have hije : i = j := by omega
    subst hije
    rw [bs_step _ _ _ _ (by omega), if_neg (by omega)] at hbs
    by_cases hin : i < O.length
    · have hin' : (i : Int) < (O.length : Int) := by omega
      obtain ⟨ad, hq, hc⟩ := intElem hW.ov (i := i) (by simpa using hin)
      rw [decide_eq_true hin']
      simp [hq, hc]
      refine cmp_ok hW hgW hin hO ?_
      have hk2 := hK _ hb0W
      rw [← hbs] at hk2
      cases leV L O value i <;> simp <;> exact hk2
    · have hin' : ¬ (i : Int) < (O.length : Int) := by omega
      rw [decide_eq_false hin']
      have hk2 := hK _ hb0W
      rw [← hbs] at hk2
      simp
      exact hk2
/-! ### An engine -/
structure Eng where
  method : Int
  L : List Mv
  C : List Co
  O : List Nat
  K : List St
  last : St
/-- A kept state and what its rows hold. -/
structure KpOk (w : World) (B : Nat) (k : Kp) (s : St) : Prop where
  qty : k.qty = s.qty
  value : k.value = s.value
  price : k.price = s.price
  ly : Own LyE 103 w B k.lv s.layers
  pa : Own PaE 105 w B k.pv s.past
def KsOk (w : World) (B : Nat) (ks : List Kp) (ss : List St) : Prop := ks.length = ss.length ∧ ∀ (i : Nat) (k : Kp) (s : St), ks[i]? = some k → ss[i]? = some s → KpOk w B k s
structure EX (w : World) (B x : Nat) (e : Eng) (mv cv ov kv lv pv : Value) (ks : List Kp) : Prop where
  le : B ≤ x
  blk : X.blk w x = some (.cells #[.int .i64 e.method, mv, cv, ov, kv, .int .i64 e.last.qty, .int .i64 e.last.value, .int .i64 e.last.price, lv, pv] 109 (0, 0))
  mv : Own MvE 47 w B mv e.L
  co : Own CoE 43 w B cv e.C
  ov : Own IntE 3 w B ov (e.O.map ofN)
  kv : Own KpE 28 w B kv ks
  ks : KsOk w B ks e.K
  ly : Own LyE 103 w B lv e.last.layers
  pa : Own PaE 105 w B pv e.last.past
theorem KpOk.step {k : Kp} {s : St} (h : KpOk w B k s) (hm : ∀ t j c, (t = 103 ∨ t = 105) → X.blk w j = some (.cells c t (0, 0)) → X.blk w' j = X.blk w j) : KpOk w' B k s :=
  ⟨h.qty, h.value, h.price, h.ly.step (fun j hj => by obtain ⟨c, hc⟩ := h.ly.type j hj; exact hm 103 j c (.inl rfl) hc), h.pa.step (fun j hj => by obtain ⟨c, hc⟩ := h.pa.type j hj; exact hm 105 j c (.inr rfl) hc)⟩
theorem KsOk.step {ks : List Kp} {ss : List St} (h : KsOk w B ks ss) (hm : ∀ t j c, (t = 103 ∨ t = 105) → X.blk w j = some (.cells c t (0, 0)) → X.blk w' j = X.blk w j) : KsOk w' B ks ss := ⟨h.1, fun i k s hk hs => (h.2 i k s hk hs).step hm⟩
theorem KsOk.below {ks : List Kp} {ss : List St} (h : KsOk w B ks ss) (hb : Below w.heap.size w w') : KsOk w' B ks ss := h.step (fun t j c _ hc => hb.block j (lt_of_blk hc))
theorem EX.below {e : Eng} {mv cv ov kv lv pv : Value} {ks : List Kp} (h : EX w B x e mv cv ov kv lv pv ks) (hb : Below w.heap.size w w') : EX w' B x e mv cv ov kv lv pv ks :=
  ⟨h.le, (blk_below hb (lt_of_blk h.blk)).trans h.blk, h.mv.below hb, h.co.below hb, h.ov.below hb, h.kv.below hb, h.ks.below hb, h.ly.below hb, h.pa.below hb⟩
theorem EX.P {e : Eng} {mv cv ov kv lv pv : Value} {ks : List Kp} (h : EX w B x e mv cv ov kv lv pv ks) : EngP w x e.L e.O mv cv ov kv :=
  ⟨⟨_, _, _, _, _, _, h.blk⟩, Rd.of_own h.mv, Rd.of_own h.ov⟩
theorem EX.size {e : Eng} {mv cv ov kv lv pv : Value} {ks : List Kp} (h : EX w B x e mv cv ov kv lv pv ks) : B ≤ w.heap.size := Nat.le_trans h.le (Nat.le_of_lt (lt_of_blk h.blk))
end Go.X
end
section
set_option linter.unusedVariables false
set_option linter.unusedSimpArgs false
namespace Go.X
open Go.Proofs Go.RowKit
attribute [local irreducible] l_append l_copy l_make l_run l_runU q_slice q_eq q_index q_build onSome l_lit q_read
variable {w w' : World} {B x : Nat}
def at0 (L : List Mv) (i : Nat) : Mv := (L[i]?).getD Mv.zero
def seqV (L : List Mv) (O : List Nat) : List Mv := O.map (at0 L)
/-- The state after some steps, the cost of a step. -/
def stAt (method : Int) (s0 : St) (ms : List Mv) (p : Nat) : St := match runOk method s0 (ms.take p) with | some y => y.1 | none => St.zero
def coAt (method : Int) (s0 : St) (ms : List Mv) (p : Nat) : Co := (stepV method (stAt method s0 ms p) (at0 ms p)).2.1
def keptV (F : Nat → St) (n : Nat) : List St := (List.range n).map fun k => F (16 * k)
theorem keptV_succ (F : Nat → St) (n : Nat) : keptV F (n + 1) = keptV F n ++ [F (16 * n)] := by simp [keptV, List.range_succ]
def entsV (O : List Nat) (C : Nat → Co) (a n : Nat) : List (Int × Value) := (List.range' a n).map fun q => (ofN ((O[q]?).getD 0), (C q).v)
theorem entsV_succ (O : List Nat) (C : Nat → Co) (a n : Nat) : entsV O C a (n + 1) = entsV O C a n ++ [(ofN ((O[a + n]?).getD 0), (C (a + n)).v)] := by
  simp [entsV, List.range'_concat]
theorem ents_new {O : List Nat} {C : Nat → Co} {a n : Nat} (hO : O.Nodup) (hn : a + n < O.length) : keyI (ofN ((O[a + n]?).getD 0)) (entsV O C a n) = none := by
  unfold keyI
  rw [List.findIdx?_eq_none_iff]
  intro p hp
  obtain ⟨q, hq, rfl⟩ := List.mem_map.1 hp
  obtain ⟨i, hi, rfl⟩ := List.mem_range'.1 hq
  simp only [Nat.one_mul, decide_eq_false_iff_not]
  rw [List.getElem?_eq_getElem hn, List.getElem?_eq_getElem (show a + i < O.length by omega), Option.getD_some, Option.getD_some]
  unfold ofN
  intro h
  have h' : O[a + i] = O[a + n] := by omega
  have := List.pairwise_iff_getElem.1 hO (a + i) (a + n) (by omega) (by omega) (by omega)
  exact this h'
/-- A kept state, out of its numbers and slices. -/
theorem kp_of {s : St} {lv pv : Value} {W : World} (hl : Own LyE 103 W B lv s.layers) (hp : Own PaE 105 W B pv s.past) : ∃ k : Kp, k.lv = lv ∧ k.pv = pv ∧ KpOk W B k s ∧ KpE.cells k = [.int .i64 s.qty, .int .i64 s.value, .int .i64 s.price, lv, pv] := by
  obtain ⟨a, c, hv, _⟩ := hl.slice
  obtain ⟨a', c', hv', _⟩ := hp.slice
  refine ⟨⟨s.qty, s.value, s.price, a, _, c, a', _, c'⟩, hv.symm, hv'.symm, ⟨rfl, rfl, rfl, ?_, ?_⟩, ?_⟩
  · show Own LyE 103 W B (.slice a _ c) _; rw [← hv]; exact hl
  · show Own PaE 105 W B (.slice a' _ c') _; rw [← hv']; exact hp
  · show [Value.int .i64 s.qty, .int .i64 s.value, .int .i64 s.price, .slice a _ c, .slice a' _ c'] = _; rw [← hv, ← hv']
set_option maxRecDepth 20000 in
theorem app_kp {K : Value → World → Prop} {v x : Value} {l m : List Kp} (hs : Own KpE 28 w B v l) (hx : Rd KpE w x m) (hB : B ≤ w.heap.size) (hn : l.length + m.length ≤ 1000000)
    (hK : ∀ v' w', Own KpE 28 w' B v' (l ++ m) → w.grownBy w' v.ownBlock → (v'.ownBlock = v.ownBlock ∨ v'.ownBlock = some w.heap.size) → K v' w') : l_append Tryz.prog #[107, 107] 107 v x w K :=
  append_ok (E := KpE) kpSl hs hx hB (small_bytes hn (by decide)) (small_max hn) hK
/-- What the run has in memory, when p movements are done. -/
structure RunAt (w0 : World) (B r8 r10 s11 b from_ p : Nat) (method : Int) (s0 : St) (ms : List Mv) (O : List Nat) (ksp : List Kp) (kvp slv spv : Value) (W : World) : Prop where
  below : Below w0.heap.size w0 W
  b8 : X.blk W r8 = some (.cells #[.map none, .slice none 0 0, .int .i64 0, .int .i64 0, .int .i64 0, .slice none 0 0, .slice none 0 0] 145 (0, 0))
  b10 : X.blk W r10 = some (.cells #[.map (some b), kvp, .int .i64 0, .int .i64 0, .int .i64 0, .slice none 0 0, .slice none 0 0] 145 (0, 0))
  b11 : X.blk W s11 = some (.cells #[.int .i64 (stAt method s0 ms p).qty, .int .i64 (stAt method s0 ms p).value, .int .i64 (stAt method s0 ms p).price, slv, spv] 28 (0, 0))
  ly : Own LyE 103 W B slv (stAt method s0 ms p).layers
  pa : Own PaE 105 W B spv (stAt method s0 ms p).past
  kv : Own KpE 28 W w0.heap.size kvp ksp
  kne : kvp.ownBlock ≠ some s11
  map : MapAt (fun n : Int => .int .i64 n) W b (entsV O (coAt method s0 ms) from_ (p - from_))
  run : ∃ d, runOk method s0 (ms.take p) = some (stAt method s0 ms p, d)
  ok : (stAt method s0 ms p).Ok p
theorem RunAt.called {w0 : World} {r8 r10 s11 b from_ p : Nat} {method : Int} {s0 : St} {ms : List Mv} {O : List Nat} {ksp : List Kp} {kvp slv spv : Value} {W W' : World} (h : RunAt w0 B r8 r10 s11 b from_ p method s0 ms O ksp kvp slv spv W) (hb : Below W.heap.size W W') : RunAt w0 B r8 r10 s11 b from_ p method s0 ms O ksp kvp slv spv W' :=
  ⟨h.below.then hb, (blk_below hb (lt_of_blk h.b8)).trans h.b8, (blk_below hb (lt_of_blk h.b10)).trans h.b10, (blk_below hb (lt_of_blk h.b11)).trans h.b11, h.ly.below hb, h.pa.below hb, h.kv.below hb, h.kne, h.map.below hb, h.run, h.ok⟩
def RunI (w0 : World) (B r8 r10 s11 b from_ : Nat) (method : Int) (s0 : St) (ms : List Mv) (O : List Nat) (v : Value) (W : World) : Prop :=
  ∃ (p : Nat) (ksp : List Kp) (kvp slv spv : Value), v = .int .i64 p ∧ from_ ≤ p ∧ p ≤ O.length ∧ RunAt w0 B r8 r10 s11 b from_ p method s0 ms O ksp kvp slv spv W ∧ KsOk W B ksp (keptV (stAt method s0 ms) ((p + 15) / 16))
/-- Behind the keeping of a state. -/
def KeepJ (w0 : World) (B r8 r10 s11 b from_ p n : Nat) (method : Int) (s0 : St) (ms : List Mv) (O : List Nat) (W : World) : Prop :=
  ∃ (ksp : List Kp) (kvp slv spv : Value), RunAt w0 B r8 r10 s11 b from_ p method s0 ms O ksp kvp slv spv W ∧ KsOk W B ksp (keptV (stAt method s0 ms) n)
theorem ks_add {ks : List Kp} {ss : List St} {k : Kp} {s : St} (h : KsOk w B ks ss) (hk : KpOk w B k s) : KsOk w B (ks ++ [k]) (ss ++ [s]) := by
  refine ⟨by simp [h.1], fun i a c h1 h2 => ?_⟩
  by_cases hi : i < ks.length
  · rw [List.getElem?_append_left hi] at h1
    rw [List.getElem?_append_left (by rw [← h.1]; exact hi)] at h2
    exact h.2 i a c h1 h2
  · rw [List.getElem?_append_right (by omega)] at h1
    rw [List.getElem?_append_right (by have := h.1; omega)] at h2
    have hlen := h.1
    by_cases h0 : i - ks.length = 0
    · have h0' : i - ss.length = 0 := by omega
      rw [h0] at h1; rw [h0'] at h2
      simp at h1 h2
      subst h1 h2
      exact hk
    · have : ([k] : List Kp)[i - ks.length]? = none := by simp; omega
      rw [this] at h1; cases h1
/-- A state is kept: r10's second cell grows by what s11 holds. -/
theorem keep_ok {w0 : World} {r8 r10 s11 b from_ p n : Nat} {method : Int} {s0 : St} {ms : List Mv} {O : List Nat} {ksp : List Kp} {kvp slv spv : Value} {W : World} (h : RunAt w0 B r8 r10 s11 b from_ p method s0 ms O ksp kvp slv spv W)
    (hks : KsOk W B ksp (keptV (stAt method s0 ms) n)) (hpn : p = 16 * n) (hB : B ≤ w0.heap.size) (h10 : w0.heap.size ≤ r10) (hn : n ≤ 100000) {Q : World → Prop}
    (hQ : ∀ W', KeepJ w0 B r8 r10 s11 b from_ p (n + 1) method s0 ms O W' → Q W') :
    onSome (q_faddr 1 (.pointer (some ⟨r10, 0, none⟩))) fun t44 => onSome (q_load1 t44 W) fun t45 => onSome (q_loadn 5 (.pointer (some ⟨s11, 0, none⟩)) W) fun t46 =>
      l_lit 28 1 #[.int .i64 0, .int .i64 0, .int .i64 0, .slice none 0 0, .slice none 0 0] [(0, 5, t46)] W fun t47 W9 => l_append Tryz.prog #[107, 107] 107 t45 t47 W9 fun t48 W10 =>
      onSome (q_faddr 1 (.pointer (some ⟨r10, 0, none⟩))) fun t49 => l_store 1 t49 t48 W10 fun _ W11 => Q W11 := by
  obtain ⟨k, hk1, hk2, hkok, hkc⟩ := kp_of h.ly h.pa
  simp [h.b10, h.b11]
  unfold l_lit
  rw [show fillC #[.int .i64 0, .int .i64 0, .int .i64 0, .slice none 0 0, .slice none 0 0] [(0, 5, .agg #[.int .i64 (stAt method s0 ms p).qty, .int .i64 (stAt method s0 ms p).value, .int .i64 (stAt method s0 ms p).price, slv, spv])] = some (KpE.cells k).toArray by rw [hkc]; simp, onSome_some]
  have hsz := h.below.size
  have hr := Rd.new (E := KpE) (t := 28) (a := k) W (by decide)
  have hbA : Below W.heap.size W (W.alloc (.cells (KpE.cells k).toArray 28)) := (Below.refl _ _).alloc (Nat.le_refl _) _
  have hA := h.called hbA
  have hksA := hks.below hbA
  have hlen : ksp.length = n := by rw [hks.1]; simp [keptV]
  refine app_kp hA.kv hr hA.below.size (by rw [hlen]; simp; omega) (fun v' W2 ho hg hrow => ?_)
  have hgb : ∀ j, j < (W.alloc (.cells (KpE.cells k).toArray 28)).heap.size → kvp.ownBlock ≠ some j → X.blk W2 j = X.blk (W.alloc (.cells (KpE.cells k).toArray 28)) j := fun j hj hne => hg.block j hj (fun e => hne e.symm)
  have hty := hA.kv.type
  have hne : ∀ j c t, X.blk (W.alloc (.cells (KpE.cells k).toArray 28)) j = some (.cells c t (0, 0)) → t ≠ 28 → kvp.ownBlock ≠ some j := by
    intro j c t hj ht e
    obtain ⟨cur, hc⟩ := hty j e
    rw [hc] at hj; injection hj with hj; injection hj with _ hj; exact ht hj.symm
  have k8 := (hgb r8 (lt_of_blk hA.b8) (hne _ _ _ hA.b8 (by decide))).trans hA.b8
  have k10 := (hgb r10 (lt_of_blk hA.b10) (hne _ _ _ hA.b10 (by decide))).trans hA.b10
  have k11 := (hgb s11 (lt_of_blk hA.b11) hA.kne).trans hA.b11
  have v'1 := own_cells ho
  simp [k10, v'1.1, v'1.2]
  have n1 : ¬ r10 = r8 := by
    intro e; rw [e, k8] at k10; injection k10 with k10; injection k10 with k10
    have := congrArg (fun a : Array Value => a[0]?) k10
    simp at this
  have n2 : ¬ r10 = s11 := by intro e; rw [e, k11] at k10; injection k10 with k10; injection k10 with _ k10; cases k10
  have hbW2 : Below w0.heap.size w0 W2 := hA.below.grown hg hA.below.size (fun j hj => (hA.kv.lt j hj).1)
  have hmapne : kvp.ownBlock ≠ some b := by
    intro e
    obtain ⟨cur, hc⟩ := hty b e
    obtain ⟨es, clock, hb, _⟩ := hA.map
    unfold X.blk at hc; rw [hb] at hc; cases hc
  have hmap2 : MapAt (fun n : Int => .int .i64 n) W2 b (entsV O (coAt method s0 ms) from_ (p - from_)) := hA.map.of (hgb b hA.map.lt hmapne)
  have ly2 : Own LyE 103 W2 B slv (stAt method s0 ms p).layers := hA.ly.step (fun j hj => by obtain ⟨c, hc⟩ := hA.ly.type j hj; exact hgb j (lt_of_blk hc) (hne _ _ _ hc (by decide)))
  have pa2 : Own PaE 105 W2 B spv (stAt method s0 ms p).past := hA.pa.step (fun j hj => by obtain ⟨c, hc⟩ := hA.pa.type j hj; exact hgb j (lt_of_blk hc) (hne _ _ _ hc (by decide)))
  have hks2 : KsOk W2 B (ksp ++ [k]) (keptV (stAt method s0 ms) (n + 1)) := by
    rw [keptV_succ]
    refine ks_add (hksA.step (fun t j c ht hc => hgb j (lt_of_blk hc) (hne _ _ _ hc (by rcases ht with rfl | rfl <;> decide)))) ?_
    rw [← hpn]
    exact (hkok.step (fun t j c ht hc => (blk_below hbA (lt_of_blk hc)))).step (fun t j c ht hc => hgb j (lt_of_blk hc) (hne _ _ _ hc (by rcases ht with rfl | rfl <;> decide)))
  have stp : ∀ t j c, X.blk W2 j = some (.cells c t (0, 0)) → t ≠ 145 → X.blk (X.putL W2 r10 1 [v']) j = X.blk W2 j := by
    intro t j c hc ht
    rw [blk_putL, if_neg]
    intro e; rw [← e, k10] at hc; injection hc with hc; injection hc with _ hc; exact ht hc.symm
  refine hQ _ ⟨ksp ++ [k], v', slv, spv, ⟨below_putL hbW2 h10 _ _, by rw [blk_putL, if_neg n1]; exact k8, by simp [k10], by rw [blk_putL, if_neg n2]; exact k11,
    ly2.step (fun j hj => by obtain ⟨c, hc⟩ := ly2.type j hj; exact stp _ _ _ hc (by decide)), pa2.step (fun j hj => by obtain ⟨c, hc⟩ := pa2.type j hj; exact stp _ _ _ hc (by decide)),
    ho.step (fun j hj => by obtain ⟨c, hc⟩ := ho.type j hj; exact stp _ _ _ hc (by decide)), ?_, hmap2.of ?_, hA.run, hA.ok⟩, hks2.step (fun t j c ht hc => stp _ _ _ hc (by rcases ht with rfl | rfl <;> decide))⟩
  · rcases hrow with e | e
    · rw [e]; exact hA.kne
    · rw [e]; intro e2; injection e2 with e2
      have := lt_of_blk h.b11
      simp at e2; omega
  · have := blk_putL (w := W2) (b := r10) (o := 1) (b' := b) (vs := [v'])
    rw [if_neg] at this
    · exact this
    · intro e
      obtain ⟨es, clock, hb, _⟩ := hmap2
      rw [← e] at hb; unfold X.blk at k10; rw [k10] at hb; cases hb
end Go.X
end
section
set_option linter.unusedVariables false
set_option linter.unusedSimpArgs false
namespace Go.X
open Go.Proofs Go.RowKit
attribute [local irreducible] l_append l_copy l_make l_run l_runU q_slice q_eq q_index q_build onSome l_lit q_read
theorem old_blk (W : World) (o : Obj) (b : Nat) (y : Obj) (hy : X.blk W b = some y) : X.blk (W.alloc o) b = some y := by
  rw [blk_alloc, if_neg (Nat.ne_of_lt (lt_of_blk hy))]; exact hy
theorem new_blk (W : World) (o : Obj) (b : Nat) (hb : b = W.heap.size) : X.blk (W.alloc o) b = some o := by rw [blk_alloc, if_pos hb]
theorem step_five {W : World} {method : Int} {s : St} {m : Mv} {lv pv : Value} {R : St × Co × Int} (hR : R = stepV method s m) (ht : Tab W) (hm : m.Ok) (hs : s.Ok 900000) (hl : Rd LyE W lv s.layers) (hp : Rd PaE W pv s.past)
    {A1 A2 A3 A4 : World → Prop} (hA : ∀ W', Below W.heap.size W W' → A1 W' ∧ A2 W' ∧ A3 W' ∧ A4 W') {t54 t55 t62 : Value} (e54 : t54 = .int .i64 method) (e55 : t55 = StV s lv pv) (e62 : t62 = m.v)
    (J1 : Value → Value → Value → World → Prop) (hJ : ∀ t c e W', PerfJ W R t c e W' → J1 t c e W') :
    (Ret Tryz.prog 27 [t54, t55, t62] W fun t63 W13 => onSome (q_extract t63 0) fun t64 => onSome (q_extract t63 1) fun t65 => onSome (q_extract t63 2) fun t66 =>
      (l_new 28 #[.int .i64 0, .int .i64 0, .int .i64 0, .slice none 0 0, .slice none 0 0] W13 fun t13 W14 => l_new 43 #[.int .i64 0, .int .i64 0, .int .i64 0, .int .i64 0] W14 fun c14 W15 => l_store 5 t13 t64 W15 fun _ W16 => l_store 4 c14 t65 W16 fun _ W17 => J1 t13 c14 t66 W17) ∧
      (l_new 43 #[.int .i64 0, .int .i64 0, .int .i64 0, .int .i64 0] W13 fun c14_1 W18 => l_new 28 #[.int .i64 0, .int .i64 0, .int .i64 0, .slice none 0 0, .slice none 0 0] W18 fun t13_1 W19 => l_store 5 t13_1 t64 W19 fun _ W20 => l_store 4 c14_1 t65 W20 fun _ W21 => J1 t13_1 c14_1 t66 W21)) ∧
    ((l_new 28 #[.int .i64 0, .int .i64 0, .int .i64 0, .slice none 0 0, .slice none 0 0] W fun t13_2 W22 => ob (A1 W22) (ob (A2 W22) (ob (A3 W22) (ob (A4 W22) (
      (Ret Tryz.prog 27 [t54, t55, t62] W22 fun t63_1 W23 => onSome (q_extract t63_1 0) fun t64_1 => onSome (q_extract t63_1 1) fun t65_1 => onSome (q_extract t63_1 2) fun t66_1 =>
        l_new 43 #[.int .i64 0, .int .i64 0, .int .i64 0, .int .i64 0] W23 fun c14_2 W24 => l_store 5 t13_2 t64_1 W24 fun _ W25 => l_store 4 c14_2 t65_1 W25 fun _ W26 => J1 t13_2 c14_2 t66_1 W26) ∧
      (l_new 43 #[.int .i64 0, .int .i64 0, .int .i64 0, .int .i64 0] W22 fun c14_3 W27 => ob (A1 W27) (ob (A2 W27) (ob (A3 W27) (ob (A4 W27) (
        Ret Tryz.prog 27 [t54, t55, t62] W27 fun t63_2 W28 => onSome (q_extract t63_2 0) fun t64_2 => onSome (q_extract t63_2 1) fun t65_2 => onSome (q_extract t63_2 2) fun t66_2 =>
          l_store 5 t13_2 t64_2 W28 fun _ W29 => l_store 4 c14_3 t65_2 W29 fun _ W30 => J1 t13_2 c14_3 t66_2 W30)))))))))) ∧
    (l_new 43 #[.int .i64 0, .int .i64 0, .int .i64 0, .int .i64 0] W fun c14_4 W31 => ob (A1 W31) (ob (A2 W31) (ob (A3 W31) (ob (A4 W31) (
      (Ret Tryz.prog 27 [t54, t55, t62] W31 fun t63_3 W32 => onSome (q_extract t63_3 0) fun t64_3 => onSome (q_extract t63_3 1) fun t65_3 => onSome (q_extract t63_3 2) fun t66_3 =>
        l_new 28 #[.int .i64 0, .int .i64 0, .int .i64 0, .slice none 0 0, .slice none 0 0] W32 fun t13_3 W33 => l_store 5 t13_3 t64_3 W33 fun _ W34 => l_store 4 c14_4 t65_3 W34 fun _ W35 => J1 t13_3 c14_4 t66_3 W35) ∧
      (l_new 28 #[.int .i64 0, .int .i64 0, .int .i64 0, .slice none 0 0, .slice none 0 0] W31 fun t13_4 W36 => ob (A1 W36) (ob (A2 W36) (ob (A3 W36) (ob (A4 W36) (
        Ret Tryz.prog 27 [t54, t55, t62] W36 fun t63_4 W37 => onSome (q_extract t63_4 0) fun t64_4 => onSome (q_extract t63_4 1) fun t65_4 => onSome (q_extract t63_4 2) fun t66_4 =>
          l_store 5 t13_4 t64_4 W37 fun _ W38 => l_store 4 c14_4 t65_4 W38 fun _ W39 => J1 t13_4 c14_4 t66_4 W39))))))))))) := by
  subst e54; subst e55; subst e62
  obtain ⟨zt, hzt⟩ : ∃ zt, zt = Obj.cells #[.int .i64 0, .int .i64 0, .int .i64 0, .slice none 0 0, .slice none 0 0] 28 (0, 0) := ⟨_, rfl⟩
  obtain ⟨zc, hzc⟩ : ∃ zc, zc = Obj.cells #[.int .i64 0, .int .i64 0, .int .i64 0, .int .i64 0] 43 (0, 0) := ⟨_, rfl⟩
  have call : ∀ (W' : World) (K' : Value → World → Prop), Below W.heap.size W W' → (∀ w' lv' pv', Own LyE 103 w' W'.heap.size lv' R.1.layers → Own PaE 105 w' W'.heap.size pv' R.1.past → Below W'.heap.size W' w' → lv'.cells = #[lv'] ∧ lv'.oneCell' = true → pv'.cells = #[pv'] ∧ pv'.oneCell' = true →
      K' (.tuple #[.agg #[.int .i64 R.1.qty, .int .i64 R.1.value, .int .i64 R.1.price, lv', pv'], .agg #[.int .i64 R.2.1.seq, .int .i64 R.2.1.qty, .int .i64 R.2.1.value, .int .i64 R.2.1.var], .int .i64 R.2.2]) w') →
      Ret Tryz.prog 27 [.int .i64 method, StV s lv pv, m.v] W' K' := by
    intro W' K' hbW hk
    exact step_any (s := s) (m := m) (ht.below hbW) hm hs (hl.below hbW) (hp.below hbW) (fun w' lv' pv' a b cb => by rw [← hR] at a b ⊢; exact hk w' lv' pv' a b cb (own_cells a) (own_cells b))
  have hb0 := Below.refl W.heap.size W
  refine ⟨?_, ?_, ?_⟩
  · refine call W _ hb0 (fun w2 lv2 pv2 hl2 hp2 hb2 d1 d2 => ?_)
    have g2 := hb2.size
    simp only [q_extract_tuple, l_new_eq]
    simp [d1.1, d1.2, d2.1, d2.2]
    refine ⟨hJ _ _ _ _ ?_, hJ _ _ _ _ ?_⟩
    · exact perf_end (by omega) ((hl2.alloc _).alloc _) ((hp2.alloc _).alloc _) ((hb2.alloc g2 _).alloc (by simp; omega) _) (by omega) (by omega) (old_blk _ _ _ _ (new_blk _ _ _ rfl)) (new_blk _ _ _ (by simp))
    · exact perf_end (by omega) ((hl2.alloc _).alloc _) ((hp2.alloc _).alloc _) ((hb2.alloc g2 _).alloc (by simp; omega) _) (by omega) (by omega) (new_blk _ _ _ (by simp)) (old_blk _ _ _ _ (new_blk _ _ _ rfl))
  · have hbA := hb0.alloc hb0.size (.cells #[.int .i64 0, .int .i64 0, .int .i64 0, .slice none 0 0, .slice none 0 0] 28)
    rw [l_new_eq]
    obtain ⟨a1, a2, a3, a4⟩ := hA _ hbA
    refine ⟨a1, a2, a3, a4, ?_, ?_⟩
    · refine call _ _ hbA (fun w2 lv2 pv2 hl2 hp2 hb2 d1 d2 => ?_)
      have hb02 := hbA.then hb2
      have l2 := hl2.lower hbA.size
      have p2 := hp2.lower hbA.size
      have g2 := hb02.size
      have k5 := (blk_below hb2 (lt_of_blk (new_blk W (.cells #[.int .i64 0, .int .i64 0, .int .i64 0, .slice none 0 0, .slice none 0 0] 28) _ rfl))).trans (new_blk W _ _ rfl)
      have n1 : ¬ W.heap.size = w2.heap.size := Nat.ne_of_lt (lt_of_blk k5)
      simp only [q_extract_tuple, l_new_eq]
      simp [d1.1, d1.2, d2.1, d2.2, k5, n1]
      exact hJ _ _ _ _ (perf_end n1 (l2.alloc _) (p2.alloc _) (hb02.alloc g2 _) (Nat.le_refl _) g2 (old_blk _ _ _ _ k5) (new_blk _ _ _ rfl))
    · rw [l_new_eq]
      have hbB := hbA.alloc hbA.size (.cells #[.int .i64 0, .int .i64 0, .int .i64 0, .int .i64 0] 43)
      obtain ⟨a1, a2, a3, a4⟩ := hA _ hbB
      refine ⟨a1, a2, a3, a4, ?_⟩
      refine call _ _ hbB (fun w2 lv2 pv2 hl2 hp2 hb2 d1 d2 => ?_)
      have hb02 := hbB.then hb2
      have l2 := hl2.lower hbB.size
      have p2 := hp2.lower hbB.size
      have q5 := old_blk _ (.cells #[.int .i64 0, .int .i64 0, .int .i64 0, .int .i64 0] 43) _ _ (new_blk W (.cells #[.int .i64 0, .int .i64 0, .int .i64 0, .slice none 0 0, .slice none 0 0] 28) _ rfl)
      have k5 := (blk_below hb2 (lt_of_blk q5)).trans q5
      have q4 := new_blk (W.alloc (.cells #[.int .i64 0, .int .i64 0, .int .i64 0, .slice none 0 0, .slice none 0 0] 28)) (.cells #[.int .i64 0, .int .i64 0, .int .i64 0, .int .i64 0] 43) (W.heap.size + 1) (by simp)
      have k4 := (blk_below hb2 (lt_of_blk q4)).trans q4
      simp only [q_extract_tuple]
      simp [d1.1, d1.2, d2.1, d2.2, k5, k4]
      exact hJ _ _ _ _ (perf_end (by omega) l2 p2 hb02 (Nat.le_refl _) (by omega) k5 k4)
  · have hbA := hb0.alloc hb0.size (.cells #[.int .i64 0, .int .i64 0, .int .i64 0, .int .i64 0] 43)
    rw [l_new_eq]
    obtain ⟨a1, a2, a3, a4⟩ := hA _ hbA
    refine ⟨a1, a2, a3, a4, ?_, ?_⟩
    · refine call _ _ hbA (fun w2 lv2 pv2 hl2 hp2 hb2 d1 d2 => ?_)
      have hb02 := hbA.then hb2
      have l2 := hl2.lower hbA.size
      have p2 := hp2.lower hbA.size
      have g2 := hb02.size
      have k4 := (blk_below hb2 (lt_of_blk (new_blk W (.cells #[.int .i64 0, .int .i64 0, .int .i64 0, .int .i64 0] 43) _ rfl))).trans (new_blk W _ _ rfl)
      have n1 : ¬ W.heap.size = w2.heap.size := Nat.ne_of_lt (lt_of_blk k4)
      have n2 : ¬ w2.heap.size = W.heap.size := fun e => n1 e.symm
      simp only [q_extract_tuple, l_new_eq]
      simp [d1.1, d1.2, d2.1, d2.2, k4, n1, n2]
      exact hJ _ _ _ _ (perf_end n2 (l2.alloc _) (p2.alloc _) (hb02.alloc g2 _) g2 (Nat.le_refl _) (new_blk _ _ _ rfl) (old_blk _ _ _ _ k4))
    · rw [l_new_eq]
      have hbB := hbA.alloc hbA.size (.cells #[.int .i64 0, .int .i64 0, .int .i64 0, .slice none 0 0, .slice none 0 0] 28)
      obtain ⟨a1, a2, a3, a4⟩ := hA _ hbB
      refine ⟨a1, a2, a3, a4, ?_⟩
      refine call _ _ hbB (fun w2 lv2 pv2 hl2 hp2 hb2 d1 d2 => ?_)
      have hb02 := hbB.then hb2
      have l2 := hl2.lower hbB.size
      have p2 := hp2.lower hbB.size
      have q4 := old_blk _ (.cells #[.int .i64 0, .int .i64 0, .int .i64 0, .slice none 0 0, .slice none 0 0] 28) _ _ (new_blk W (.cells #[.int .i64 0, .int .i64 0, .int .i64 0, .int .i64 0] 43) _ rfl)
      have k4 := (blk_below hb2 (lt_of_blk q4)).trans q4
      have q5 := new_blk (W.alloc (.cells #[.int .i64 0, .int .i64 0, .int .i64 0, .int .i64 0] 43)) (.cells #[.int .i64 0, .int .i64 0, .int .i64 0, .slice none 0 0, .slice none 0 0] 28) (W.heap.size + 1) (by simp)
      have k5 := (blk_below hb2 (lt_of_blk q5)).trans q5
      simp only [q_extract_tuple]
      simp [d1.1, d1.2, d2.1, d2.2, k5, k4]
      exact hJ _ _ _ _ (perf_end (by omega) l2 p2 hb02 (by omega) (Nat.le_refl _) k5 k4)
end Go.X
end
section
set_option linter.unusedVariables false
set_option linter.unusedSimpArgs false
namespace Go.X
open Go.Proofs Go.RowKit
attribute [local irreducible] l_append l_copy l_make l_run l_runU q_slice q_eq q_index q_build onSome l_lit q_read
variable {w w' : World} {B x : Nat}
theorem stAt_of {method : Int} {s0 t : St} {ms : List Mv} {p : Nat} {d : List Co} (h : runOk method s0 (ms.take p) = some (t, d)) : stAt method s0 ms p = t := by unfold stAt; rw [h]
theorem at0_get {L : List Mv} {i : Nat} (h : i < L.length) : at0 L i = L[i] := by unfold at0; rw [List.getElem?_eq_getElem h]; rfl
theorem seqV_len {L : List Mv} {O : List Nat} : (seqV L O).length = O.length := by simp [seqV]
theorem step_next {method : Int} {s0 : St} {ms : List Mv} {p : Nat} {d : List Co} (hp : p < ms.length) (h : runOk method s0 (ms.take p) = some (stAt method s0 ms p, d)) (he : (stepV method (stAt method s0 ms p) ms[p]).2.2 = 0) :
    stAt method s0 ms (p + 1) = (stepV method (stAt method s0 ms p) ms[p]).1 ∧ runOk method s0 (ms.take (p + 1)) = some (stAt method s0 ms (p + 1), d ++ [coAt method s0 ms p]) := by
  have hs := runOk_snoc ms p s0 _ d hp h he
  have e := stAt_of hs
  refine ⟨e, ?_⟩
  rw [e, hs]
  unfold coAt
  rw [at0_get hp]
def zeroR : Value := .agg #[.map none, .slice none 0 0, .int .i64 0, .int .i64 0, .int .i64 0, .slice none 0 0, .slice none 0 0]
theorem mv_load {v : Value} {l : List Mv} (h : Rd MvE w v l) {i : Nat} (hi : i < l.length) : ∃ ad, q_iaddr 8 v (.int .i64 (i : Int)) = some (.pointer (some ad)) ∧ ∀ w', Below w.heap.size w w' → q_loadn 8 (.pointer (some ad)) w' = some (.agg #[.int .i64 l[i].seq, .int .i64 l[i].value, .string l[i].item, .int .i64 l[i].kind, .int .i64 l[i].qty, .int .i64 l[i].cost, .string l[i].lot, .int .i64 l[i].ref]) := by
  obtain ⟨ad, hq, _, _⟩ := mvElem h hi
  refine ⟨ad, hq, fun w' hb => ?_⟩
  obtain ⟨ad', hq', hload', _⟩ := mvElem (h.below hb) hi
  rw [hq] at hq'
  injection hq' with hq'
  injection hq' with hq'
  injection hq' with hq'
  rw [← hq'] at hload'
  exact hload'
theorem int_load {v : Value} {l : List Int} (h : Rd IntE w v l) {i : Nat} (hi : i < l.length) : ∃ ad, q_iaddr 1 v (.int .i64 (i : Int)) = some (.pointer (some ad)) ∧ ∀ w', Below w.heap.size w w' → w'.cell? ad = some (.int .i64 l[i]) := by
  obtain ⟨ad, hq, hc⟩ := intElem h hi
  refine ⟨ad, hq, fun w' hb => ?_⟩
  obtain ⟨ad', hq', hc'⟩ := intElem (h.below hb) hi
  rw [hq] at hq'
  injection hq' with hq'
  injection hq' with hq'
  injection hq' with hq'
  rw [← hq'] at hc'
  exact hc'
theorem rrun_ok {e : Eng} {mv cv ov kv lv pv lm oo : Value} {ks : List Kp} {s0 : St} {L : List Mv} {O : List Nat} {a : Nat} (ht : Tab w) (h : EX w B x e mv cv ov kv lv pv ks) (hL : Rd MvE w lm L) (hO : Rd IntE w oo (O.map ofN)) (hOl : ∀ o ∈ O, o < L.length) (hnd : O.Nodup) (hm : ∀ m ∈ L, m.Ok)
    (hn : O.length ≤ 60000) (ha : 16 * a < O.length) (hak : a < e.K.length) (hK0 : e.K.take (a + 1) = keptV (stAt e.method s0 (seqV L O)) (a + 1)) (hrun0 : ∃ d, runOk e.method s0 ((seqV L O).take (16 * a)) = some (stAt e.method s0 (seqV L O) (16 * a), d)) (hok0 : (stAt e.method s0 (seqV L O) (16 * a)).Ok (16 * a))
    {K : Value → World → Prop}
    (hK1 : ∀ w', (runFrom e.method 0 s0 [] (seqV L O)).2.2.2 ≠ 0 → runOk e.method s0 (seqV L O) = none → Below w.heap.size w w' → K (.tuple #[zeroR, .int .i64 (runFrom e.method 0 s0 [] (seqV L O)).2.2.2]) w')
    (hK2 : ∀ w' b kvp ksp slv spv, (∃ d, runOk e.method s0 (seqV L O) = some (stAt e.method s0 (seqV L O) O.length, d)) → Below w.heap.size w w' → w.heap.size ≤ b → MapAt (fun n : Int => .int .i64 n) w' b (entsV O (coAt e.method s0 (seqV L O)) (16 * a) (O.length - 16 * a)) →
      Own KpE 28 w' w.heap.size kvp ksp → KsOk w' B ksp (keptV (stAt e.method s0 (seqV L O)) (O.length / 16 + 1)) → Own LyE 103 w' B slv (stAt e.method s0 (seqV L O) O.length).layers → Own PaE 105 w' B spv (stAt e.method s0 (seqV L O) O.length).past → (stAt e.method s0 (seqV L O) O.length).Ok O.length →
      K (.tuple #[.agg #[.map (some b), kvp, .int .i64 (stAt e.method s0 (seqV L O) O.length).qty, .int .i64 (stAt e.method s0 (seqV L O) O.length).value, .int .i64 (stAt e.method s0 (seqV L O) O.length).price, slv, spv], .int .i64 0]) w') :
    Ret Tryz.prog 91 [ptr x, lm, oo, .int .i64 ((16 * a : Nat) : Int)] w K := by
  obtain ⟨ms, hms⟩ : ∃ ms, ms = seqV L O := ⟨_, rfl⟩
  rw [← hms] at hK0 hrun0 hok0 hK1 hK2
  have hml : ms.length = O.length := by rw [hms, seqV_len]
  obtain ⟨F, hF⟩ : ∃ F, F = stAt e.method s0 ms := ⟨_, rfl⟩
  have hBw := h.size
  have hxw := lt_of_blk h.blk
  refine lift91 ?_
  unfold L91 ptr
  rw [l_new_eq]
  have hb1 := (Below.refl w.heap.size w).alloc (Nat.le_refl _) (Obj.cells #[.map none, .slice none 0 0, .int .i64 0, .int .i64 0, .int .i64 0, .slice none 0 0, .slice none 0 0] 145)
  have hk8 : blk (w.alloc (Obj.cells #[.map none, .slice none 0 0, .int .i64 0, .int .i64 0, .int .i64 0, .slice none 0 0, .slice none 0 0] 145)) w.heap.size = some (.cells #[.map none, .slice none 0 0, .int .i64 0, .int .i64 0, .int .i64 0, .slice none 0 0, .slice none 0 0] 145 (0, 0)) := by simp
  have hs1 : (w.alloc (Obj.cells #[.map none, .slice none 0 0, .int .i64 0, .int .i64 0, .int .i64 0, .slice none 0 0, .slice none 0 0] 145)).heap.size = w.heap.size + 1 := by simp
  generalize w.alloc (Obj.cells #[.map none, .slice none 0 0, .int .i64 0, .int .i64 0, .int .i64 0, .slice none 0 0, .slice none 0 0] 145) = W1 at *
  refine l_run_of (show (Instr.makeMap 143 none).run Tryz.prog W1 = .ok (.map (some W1.heap.size)) (W1.alloc (.map #[] 0)) from rfl) ?_
  have hM2 : MapAt (κ := Int) (fun n => .int .i64 n) (W1.alloc (.map #[] 0)) W1.heap.size [] := MapAt.new W1
  have hbb2 : Below W1.heap.size W1 (W1.alloc (.map #[] 0)) := (Below.refl _ _).alloc (Nat.le_refl _) _
  have hb2 := hb1.then hbb2
  have hk82 := (blk_below hbb2 (lt_of_blk hk8)).trans hk8
  have hs2 : (W1.alloc (.map #[] 0)).heap.size = w.heap.size + 2 := by simp [hs1]
  generalize W1.alloc (.map #[] 0) = W2 at *
  have h2 := h.below hb2
  have eq16 : IntKind.i64.wrap (((16 * a : Nat) : Int).tdiv 16) = (a : Int) := by
    have : ((16 * a : Nat) : Int).tdiv 16 = (a : Int) := by
      have e : ((16 * a : Nat) : Int) = (a : Int) * 16 := by omega
      rw [e]; exact Int.mul_tdiv_cancel _ (by decide)
    rw [this]; exact wrap_i64 (by omega) (by omega)
  have hkl : ks.length = e.K.length := h.ks.1
  rw [q_nil_ptr, onSome_some, q_faddr_ptr, onSome_some, addr_add, q_load1_ptr, cell_mk, h2.blk, cellO_cells]
  simp only [Nat.zero_add, List.getElem?_toArray, List.getElem?_cons_succ, List.getElem?_cons_zero, onSome_some]
  rw [q_quo, if_neg (by decide), onSome_some, eq16]
  obtain ⟨v3, hq3, hr3⟩ := rd_front (E := KpE) (k := .i64) kpSl (Rd.of_own h2.kv) (i := a) (by omega)
  rw [hq3, onSome_some]
  refine clone_kp hr3 (by simp; omega) (fun W3 kvp hkv3 hb3 => ?_)
  have hb03 := hb2.then hb3
  have hk83 := (blk_below hb3 (lt_of_blk hk82)).trans hk82
  have hM3 := hM2.below hb3
  have d3 := own_cells hkv3
  have hs3 := hb3.size
  rw [build_of (cs := #[.map (some W1.heap.size), kvp, .int .i64 0, .int .i64 0, .int .i64 0, .slice none 0 0, .slice none 0 0]) (by simp [d3.1]), onSome_some, l_new_eq]
  have st10 : storeOk 7 (#[.map (some W1.heap.size), kvp, .int .i64 0, .int .i64 0, .int .i64 0, .slice none 0 0, .slice none 0 0] : Array Value) (blk (W3.alloc (Obj.cells #[.map none, .slice none 0 0, .int .i64 0, .int .i64 0, .int .i64 0, .slice none 0 0, .slice none 0 0] 145)) W3.heap.size) 0 = true := by simp [d3.2]
  rw [l_store_to (by rw [cells_agg]; exact st10), cells_agg]
  have hb5 := below_putL (hb03.alloc hb03.size (Obj.cells #[.map none, .slice none 0 0, .int .i64 0, .int .i64 0, .int .i64 0, .slice none 0 0, .slice none 0 0] 145)) hb03.size [.map (some W1.heap.size), kvp, .int .i64 0, .int .i64 0, .int .i64 0, .slice none 0 0, .slice none 0 0] 0
  have hbb5 := below_putL ((Below.refl W3.heap.size W3).alloc (Nat.le_refl _) (Obj.cells #[.map none, .slice none 0 0, .int .i64 0, .int .i64 0, .int .i64 0, .slice none 0 0, .slice none 0 0] 145)) (Nat.le_refl _) [.map (some W1.heap.size), kvp, .int .i64 0, .int .i64 0, .int .i64 0, .slice none 0 0, .slice none 0 0] 0
  have hk10 : blk (X.putL (W3.alloc (Obj.cells #[.map none, .slice none 0 0, .int .i64 0, .int .i64 0, .int .i64 0, .slice none 0 0, .slice none 0 0] 145)) W3.heap.size 0 [.map (some W1.heap.size), kvp, .int .i64 0, .int .i64 0, .int .i64 0, .slice none 0 0, .slice none 0 0]) W3.heap.size = some (.cells #[.map (some W1.heap.size), kvp, .int .i64 0, .int .i64 0, .int .i64 0, .slice none 0 0, .slice none 0 0] 145 (0, 0)) := by simp
  have hs5 : (X.putL (W3.alloc (Obj.cells #[.map none, .slice none 0 0, .int .i64 0, .int .i64 0, .int .i64 0, .slice none 0 0, .slice none 0 0] 145)) W3.heap.size 0 [.map (some W1.heap.size), kvp, .int .i64 0, .int .i64 0, .int .i64 0, .slice none 0 0, .slice none 0 0]).heap.size = W3.heap.size + 1 := by simp
  simp only [Array.toList] at hb5 hbb5 hk10 hs5 ⊢
  generalize X.putL (W3.alloc (Obj.cells #[.map none, .slice none 0 0, .int .i64 0, .int .i64 0, .int .i64 0, .slice none 0 0, .slice none 0 0] 145)) W3.heap.size 0 [.map (some W1.heap.size), kvp, .int .i64 0, .int .i64 0, .int .i64 0, .slice none 0 0, .slice none 0 0] = W5 at *
  have h5 := h.below hb5
  have hk85 := (blk_below hbb5 (lt_of_blk hk83)).trans hk83
  have hM5 := hM3.below hbb5
  have hkv5 := hkv3.below hbb5
  -- the state before position 'from'
  obtain ⟨k, hkk⟩ : ∃ k, ks[a]? = some k := ⟨ks[a]'(by omega), List.getElem?_eq_getElem _⟩
  have hKa : e.K[a]? = some (stAt e.method s0 ms (16 * a)) := by
    have e1 : (e.K.take (a + 1))[a]? = (keptV (stAt e.method s0 ms) (a + 1))[a]? := by rw [hK0]
    rw [List.getElem?_take, if_pos (by omega)] at e1
    rw [e1]
    simp [keptV]
  have hkok := h5.ks.2 a k _ hkk hKa
  have hrow : ∃ ad, q_iaddr 5 kv (.int .i64 (a : Int)) = some (.pointer (some ad)) ∧ q_loadn 5 (.pointer (some ad)) W5 = some (.agg #[.int .i64 (stAt e.method s0 ms (16 * a)).qty, .int .i64 (stAt e.method s0 ms (16 * a)).value, .int .i64 (stAt e.method s0 ms (16 * a)).price, k.lv, k.pv]) := by
    obtain ⟨ad, q1, q2, _⟩ := (Rd.of_own h5.kv).elem (i := a) (by omega) .i64
    refine ⟨ad, q1, ?_⟩
    have : ks[a]'(by omega) = k := by rw [List.getElem?_eq_getElem (by omega)] at hkk; injection hkk
    rw [this] at q2
    have e2 : KpE.cells k = [.int .i64 (stAt e.method s0 ms (16 * a)).qty, .int .i64 (stAt e.method s0 ms (16 * a)).value, .int .i64 (stAt e.method s0 ms (16 * a)).price, k.lv, k.pv] := by
      show [Value.int .i64 k.qty, .int .i64 k.value, .int .i64 k.price, k.lv, k.pv] = _
      rw [hkok.qty, hkok.value, hkok.price]
    rw [e2] at q2
    exact q2
  obtain ⟨ad, hqa, hla⟩ := hrow
  rw [q_faddr_ptr, onSome_some, addr_add, q_load1_ptr, cell_mk, h5.blk, cellO_cells]
  simp only [Nat.zero_add, List.getElem?_toArray, List.getElem?_cons_succ, List.getElem?_cons_zero, onSome_some]
  rw [hqa, onSome_some, hla, onSome_some, l_new_eq]
  have dl : k.lv.cells = #[k.lv] ∧ k.lv.oneCell' = true := ⟨rfl, rfl⟩
  have dp : k.pv.cells = #[k.pv] ∧ k.pv.oneCell' = true := ⟨rfl, rfl⟩
  have hA6 := (Below.refl W5.heap.size W5).alloc (Nat.le_refl _) (.cells #[.int .i64 0, .int .i64 0, .int .i64 0, .slice none 0 0, .slice none 0 0] 28)
  have hk11 := new_blk W5 (.cells #[.int .i64 0, .int .i64 0, .int .i64 0, .slice none 0 0, .slice none 0 0] 28) _ rfl
  generalize W5.alloc (.cells #[.int .i64 0, .int .i64 0, .int .i64 0, .slice none 0 0, .slice none 0 0] 28) = W6 at *
  rw [l_store_to (by rw [cells_agg, hk11]; simp [dl.2, dp.2]), cells_agg]
  have hb57 := below_putL hA6 (Nat.le_refl _) [.int .i64 (stAt e.method s0 ms (16 * a)).qty, .int .i64 (stAt e.method s0 ms (16 * a)).value, .int .i64 (stAt e.method s0 ms (16 * a)).price, k.lv, k.pv] 0
  have hk117 : blk (X.putL W6 W5.heap.size 0 [.int .i64 (stAt e.method s0 ms (16 * a)).qty, .int .i64 (stAt e.method s0 ms (16 * a)).value, .int .i64 (stAt e.method s0 ms (16 * a)).price, k.lv, k.pv]) W5.heap.size = some (.cells #[.int .i64 (stAt e.method s0 ms (16 * a)).qty, .int .i64 (stAt e.method s0 ms (16 * a)).value, .int .i64 (stAt e.method s0 ms (16 * a)).price, k.lv, k.pv] 28 (0, 0)) := by simp [hk11]
  simp only [Array.toList] at hb57 hk117 ⊢
  generalize X.putL W6 W5.heap.size 0 [.int .i64 (stAt e.method s0 ms (16 * a)).qty, .int .i64 (stAt e.method s0 ms (16 * a)).value, .int .i64 (stAt e.method s0 ms (16 * a)).price, k.lv, k.pv] = W7 at *
  have hb7 := hb5.then hb57
  have hkok7 := hkok.step (fun t j c _ hc => hb57.block j (lt_of_blk hc))
  have hks3 : KsOk W5 B (ks.take a) (keptV (stAt e.method s0 ms) a) := by
    have e1 : keptV (stAt e.method s0 ms) a = e.K.take a := by
      have := congrArg (fun l => l.take a) hK0
      simp only [List.take_take] at this
      rw [show min a (a + 1) = a by omega] at this
      rw [this]
      unfold keptV
      rw [← List.map_take, List.take_range, Nat.min_eq_left (by omega)]
    rw [e1]
    refine ⟨by rw [List.length_take, List.length_take, hkl], fun i k' s hk' hs => ?_⟩
    rw [List.getElem?_take] at hk' hs
    split at hk'
    · rename_i hi
      rw [if_pos hi] at hs
      exact h5.ks.2 i k' s hk' hs
    · cases hk'
  have hR0 : RunAt w B w.heap.size W3.heap.size W5.heap.size W1.heap.size (16 * a) (16 * a) e.method s0 ms O (ks.take a) kvp k.lv k.pv W7 := by
    refine ⟨hb7, (blk_below hb57 (lt_of_blk hk85)).trans hk85, (blk_below hb57 (lt_of_blk hk10)).trans hk10, hk117, hkok7.ly, hkok7.pa, (hkv5.lower hb2.size).below hb57, ?_, ?_, hrun0, hok0⟩
    · intro ee
      have := (hkv3.lt _ ee).2
      omega
    · rw [Nat.sub_self]
      exact (hM5.below hb57)
  have hlenO : q_len oo = some (.int .i64 (O.length : Int)) := by have := hO.len; simpa using this
  have hni : ∀ q, q < O.length → at0 L ((O[q]?).getD 0) = at0 ms q := by
    intro q hq
    rw [hms]
    unfold seqV
    rw [List.getElem?_eq_getElem hq, Option.getD_some]
    unfold at0
    rw [List.getElem?_map, List.getElem?_eq_getElem hq]
    rfl
  refine looping_i (RunI w B w.heap.size W3.heap.size W5.heap.size W1.heap.size (16 * a) e.method s0 ms O) (lenM O.length) ⟨?_, ?_⟩
  · refine ⟨16 * a, ks.take a, kvp, k.lv, k.pv, rfl, Nat.le_refl _, by omega, hR0, ?_⟩
    rw [show (16 * a + 15) / 16 = a by omega]
    exact hks3.below hb57
  rintro _ W ⟨p, ksp, kvp', slv, spv, rfl, hfp, hpO, hRA, hksp⟩ _
  have hB0 : B ≤ w.heap.size := hBw
  have h310 : w.heap.size ≤ W3.heap.size := by omega
  rw [hlenO, onSome_some]
  simp only [q_lss, onSome_some]
  refine xif_dec (fun hlt => ?_) (fun hlt => ?_)
  · have hp : p < O.length := by omega
    have hpm : p < ms.length := by omega
    refine joining_i (KeepJ w B w.heap.size W3.heap.size W5.heap.size W1.heap.size (16 * a) p (p / 16 + 1) e.method s0 ms O) ⟨?_, ?_⟩
    · simp only [q_rem, if_neg (show ¬ (16 : Int) = 0 by decide), onSome_some, q_eql]
      refine xif_dec (fun h0 => ?_) (fun h0 => ?_)
      · have e0 : p = 16 * (p / 16) := by
          rw [Int.tmod_eq_emod_of_nonneg (by omega)] at h0
          omega
        rw [show (p + 15) / 16 = p / 16 by omega] at hksp
        exact keep_ok hRA hksp e0 hB0 h310 (by omega) (fun W' h => h)
      · have e0 : (p + 15) / 16 = p / 16 + 1 := by
          rw [Int.tmod_eq_emod_of_nonneg (by omega)] at h0
          omega
        rw [e0] at hksp
        exact ⟨ksp, kvp', slv, spv, hRA, hksp⟩
    rintro W12 ⟨ksp2, kvp2, slv2, spv2, hR2, hks2'⟩ _
    obtain ⟨R, hR⟩ : ∃ R, R = stepV e.method (stAt e.method s0 ms p) ms[p] := ⟨_, rfl⟩
    have hbD := hR2.below.drew
    have hED := h.below hbD
    have hRD := hR2.called (Below.refl W12.heap.size W12).drew
    have hmsOk : ms[p].Ok := by
      have h1 : ms[p] = at0 L O[p] := by
        have := hni p hp
        rw [List.getElem?_eq_getElem hp, Option.getD_some] at this
        rw [this]
        unfold at0
        rw [List.getElem?_eq_getElem hpm]
        rfl
      have h2 := hOl _ (List.getElem_mem hp)
      rw [h1, at0_get h2]
      exact hm _ (List.getElem_mem h2)
    have hOp := hOl _ (List.getElem_mem hp)
    have hmsp : ms[p] = L[O[p]] := by
      have := hni p hp
      rw [List.getElem?_eq_getElem hp, Option.getD_some] at this
      unfold at0 at this
      rw [List.getElem?_eq_getElem hpm, List.getElem?_eq_getElem hOp] at this
      exact this.symm
    obtain ⟨ad1, hq1, hc1⟩ := int_load (hO.below hbD) (i := p) (by simpa using hp)
    rw [List.getElem_map] at hc1
    obtain ⟨ad2, hq2, hc2⟩ := mv_load (hL.below hbD) hOp
    rw [← hmsp] at hc2
    refine joining_i (PerfJ W12.drew R) ⟨?_, ?_⟩
    · simp [hED.blk, hRD.b11]
      rw [hq1, onSome_some, q_load1_ptr, hc1 _ (Below.refl _ _), onSome_some]
      simp only [ofN]
      rw [hq2, onSome_some, hc2 _ (Below.refl _ _), onSome_some]
      refine step_five (R := R) hR (ht.below hbD) hmsOk (hR2.ok.up (by omega)) (Rd.of_own hRD.ly) (Rd.of_own hRD.pa)
        (A1 := fun W' => q_loadn 8 (.pointer (some ad2)) W' = some (.agg #[.int .i64 ms[p].seq, .int .i64 ms[p].value, .string ms[p].item, .int .i64 ms[p].kind, .int .i64 ms[p].qty, .int .i64 ms[p].cost, .string ms[p].lot, .int .i64 ms[p].ref]))
        (A2 := fun W' => q_load1 (.pointer (some ad1)) W' = some (.int .i64 (O[p] : Int)))
        (A3 := fun W' => loadO 5 (X.blk W' W5.heap.size) 0 = some (.agg #[.int .i64 (stAt e.method s0 ms p).qty, .int .i64 (stAt e.method s0 ms p).value, .int .i64 (stAt e.method s0 ms p).price, slv2, spv2]))
        (A4 := fun W' => cellO (X.blk W' x) 0 = some (.int .i64 e.method)) (fun W' hb' => ⟨hc2 _ hb', hc1 _ hb', ?_, ?_⟩) rfl rfl rfl _ (fun t c er W' hJ => hJ)
      · have := (blk_below hb' (lt_of_blk hRD.b11)).trans hRD.b11
        simp [this]
      · have := (blk_below hb' (lt_of_blk hED.blk)).trans hED.blk
        simp [this]
    rintro _ _ _ W40 ⟨a', b', lv2, pv2, rfl, rfl, rfl, ka, kb, hl2, hp2, hbW, ha', hb'⟩ _
    have hbD4 := hbD.then hbW
    have hR4 := hRD.called hbW
    obtain ⟨d, hd⟩ := hR2.run
    simp only [q_neq, onSome_some]
    refine xif_ndec (fun he => ?_) (fun he => ?_)
    · have hbad := runFrom_fail ms p 0 s0 (stAt e.method s0 ms p) [] d hpm hd (by rw [← hR]; exact he)
      rw [← hR] at hbad
      have hnone : runOk e.method s0 ms = none := by
        cases hr : runOk e.method s0 ms with
        | none => rfl
        | some y =>
          have := runFrom_ok ms 0 s0 [] y.1 y.2 hr
          rw [hbad] at this
          exact absurd (congrArg (fun z => z.2.2.2) this) he
      have e4 : (runFrom e.method 0 s0 [] ms).2.2.2 = R.2.2 := by rw [hbad]
      rw [e4] at hK1
      rw [build_of (cs := #[.map none, .slice none 0 0, .int .i64 0, .int .i64 0, .int .i64 0, .slice none 0 0, .slice none 0 0]) (by simp), onSome_some]
      have hb8 := hR4.b8
      simp [hb8]
      exact hK1 _ he hnone (below_putL hbD4 (Nat.le_refl _) _ _)
    · have he' : R.2.2 = 0 := by simpa using he
      have hst := step_next hpm hd (by rw [← hR]; exact he')
      rw [← hR] at hst
      have hco : coAt e.method s0 ms p = R.2.1 := by
        unfold coAt
        rw [at0_get hpm, ← hR]
      have hR4D := hR4.called (Below.refl W40.heap.size W40).drew
      have hbD5 := hbD4.drew
      have kbD : X.blk W40.drew b' = _ := kb
      have kaD : X.blk W40.drew a' = _ := ka
      have hc1' := hc1 _ (hbW.drew)
      have hb10 := hR4D.b10
      simp only [ptr]
      simp [hb10, kbD]
      rw [hq1, onSome_some, q_load1_ptr, hc1', onSome_some]
      have hkey := ents_new (C := coAt e.method s0 ms) (a := 16 * a) (n := p - 16 * a) hnd (by omega)
      rw [show 16 * a + (p - 16 * a) = p by omega] at hkey
      rw [List.getElem?_eq_getElem hp, Option.getD_some] at hkey
      refine map_put key3 ty143 hR4D.map hkey _ (fun W42 hM42 hg42 => ?_)
      have hent : entsV O (coAt e.method s0 ms) (16 * a) (p - 16 * a) ++ [(ofN O[p], Value.agg #[.int .i64 R.2.1.seq, .int .i64 R.2.1.qty, .int .i64 R.2.1.value, .int .i64 R.2.1.var])] = entsV O (coAt e.method s0 ms) (16 * a) (p + 1 - 16 * a) := by
        rw [show p + 1 - 16 * a = (p - 16 * a) + 1 by omega, entsV_succ, show 16 * a + (p - 16 * a) = p by omega, List.getElem?_eq_getElem hp, Option.getD_some, hco]
        rfl
      rw [hent] at hM42
      have nb : ∀ j c t, X.blk W40.drew j = some (.cells c t (0, 0)) → X.blk W42 j = some (.cells c t (0, 0)) := by
        intro j c t hj
        refine (hg42.block j (lt_of_blk hj) (fun ee => ?_)).trans hj
        injection ee with ee
        obtain ⟨es, clock, hbm, _⟩ := hR4D.map
        rw [ee] at hj
        unfold X.blk at hj
        rw [hbm] at hj
        cases hj
      have ka2 := nb _ _ _ kaD
      have k8 := nb _ _ _ hR4D.b8
      have k10 := nb _ _ _ hb10
      have k11 := nb _ _ _ hR4D.b11
      have dl2 := own_cells hl2
      have dp2 := own_cells hp2
      have ow : ∀ {α : Type} {E : Enc α} {t : TypeId} {Bq : Nat} {v : Value} {l : List α}, Own E t W40.drew Bq v l → Own E t W42 Bq v l := by
        intro α E t Bq v l ho
        refine ho.step (fun j hj => ?_)
        obtain ⟨c, hc⟩ := ho.type j hj
        exact (nb _ _ _ hc).trans hc.symm
      have hb42 : Below w.heap.size w W42 := hbD5.grown hg42 hbD5.size (fun j hj => by
        injection hj with hj
        omega)
      simp [ka2, k11, dl2.1, dl2.2, dp2.1, dp2.2]
      have eadd : IntKind.i64.wrap ((p : Int) + 1) = ((p + 1 : Nat) : Int) := by rw [wrap_i64 (by omega) (by omega)]; omega
      rw [eadd]
      have n8 : ¬ W5.heap.size = w.heap.size := by have := hb5.size; omega
      have n10 : ¬ W5.heap.size = W3.heap.size := by omega
      obtain ⟨WF, hWF⟩ : ∃ WF, X.putL W42 W5.heap.size 0 [.int .i64 R.1.qty, .int .i64 R.1.value, .int .i64 R.1.price, lv2, pv2] = WF := ⟨_, rfl⟩
      have kF11 : X.blk WF W5.heap.size = some (.cells #[.int .i64 R.1.qty, .int .i64 R.1.value, .int .i64 R.1.price, lv2, pv2] 28 (0, 0)) := by rw [← hWF]; simp [k11]
      have keep : ∀ j c t, X.blk W42 j = some (.cells c t (0, 0)) → t ≠ 28 → X.blk WF j = X.blk W42 j := by
        intro j c t hj ht
        rw [← hWF, blk_putL, if_neg]
        intro ee
        rw [← ee, k11] at hj
        injection hj with hj
        injection hj with _ hj
        exact ht hj.symm
      have hbF : Below w.heap.size w WF := by rw [← hWF]; exact below_putL hb42 (by omega) _ _
      have owF : ∀ {α : Type} {E : Enc α} {t : TypeId} {Bq : Nat} {v : Value} {l : List α}, t ≠ 28 → Own E t W42 Bq v l → Own E t WF Bq v l := by
        intro α E t Bq v l ht ho
        refine ho.step (fun j hj => ?_)
        obtain ⟨c, hc⟩ := ho.type j hj
        exact keep _ _ _ hc ht
      have hkvF : Own KpE 28 WF w.heap.size kvp2 ksp2 := by
        have ho := ow hR4D.kv
        refine ho.step (fun j hj => ?_)
        rw [← hWF, blk_putL, if_neg]
        intro ee
        exact hR4D.kne (by rw [ee]; exact hj)
      have hmF : MapAt (fun n : Int => .int .i64 n) WF W1.heap.size (entsV O (coAt e.method s0 ms) (16 * a) (p + 1 - 16 * a)) := by
        refine hM42.of ?_
        have := blk_putL (w := W42) (b := W5.heap.size) (o := 0) (b' := W1.heap.size) (vs := [.int .i64 R.1.qty, .int .i64 R.1.value, .int .i64 R.1.price, lv2, pv2])
        rw [if_neg (by omega), hWF] at this
        exact this
      have e1 : stAt e.method s0 ms (p + 1) = R.1 := hst.1
      have hBD : B ≤ W12.drew.heap.size := Nat.le_trans hB0 hbD.size
      have hok1 := ((step_p e.method).ok hR2.ok hmsOk).1
      rw [← hR, ← e1] at hok1
      rw [hWF]
      refine ⟨⟨p + 1, ksp2, kvp2, lv2, pv2, rfl, by omega, by omega, ⟨hbF, (keep _ _ _ k8 (by decide)).trans k8, (keep _ _ _ k10 (by decide)).trans k10, by rw [e1]; exact kF11, by rw [e1]; exact owF (by decide) (ow (hl2.drew.lower hBD)), by rw [e1]; exact owF (by decide) (ow (hp2.drew.lower hBD)), hkvF, hR4D.kne, hmF, ⟨_, hst.2⟩, hok1⟩, ?_⟩, by simp only [lenM, intOf]; omega⟩
      rw [show (p + 1 + 15) / 16 = p / 16 + 1 by omega]
      have hks4 := (hks2'.below (Below.refl W12.heap.size W12).drew).below hbW
      have hks5 := hks4.below (Below.refl W40.heap.size W40).drew
      refine (hks5.step (fun t j c ht hc => (nb _ _ _ hc).trans hc.symm)).step (fun t j c ht hc => keep _ _ _ hc (by rcases ht with rfl | rfl <;> decide))
  · have hpe : p = O.length := by omega
    subst hpe
    refine joining_i (KeepJ w B w.heap.size W3.heap.size W5.heap.size W1.heap.size (16 * a) O.length (O.length / 16 + 1) e.method s0 ms O) ⟨?_, ?_⟩
    · simp only [q_rem, if_neg (show ¬ (16 : Int) = 0 by decide), onSome_some, q_eql]
      refine xif_dec (fun h0 => ?_) (fun h0 => ?_)
      · have e0 : O.length = 16 * (O.length / 16) := by
          rw [Int.tmod_eq_emod_of_nonneg (by omega)] at h0
          omega
        rw [show (O.length + 15) / 16 = O.length / 16 by omega] at hksp
        exact keep_ok hRA hksp e0 hB0 h310 (by omega) (fun W' h => h)
      · have e0 : (O.length + 15) / 16 = O.length / 16 + 1 := by
          rw [Int.tmod_eq_emod_of_nonneg (by omega)] at h0
          omega
        rw [e0] at hksp
        exact ⟨ksp, kvp', slv, spv, hRA, hksp⟩
    rintro W47 ⟨ksp2, kvp2, slv2, spv2, hR2, hks2'⟩ _
    have dk := own_cells hR2.kv
    have dl2 := own_cells hR2.ly
    have dp2 := own_cells hR2.pa
    have k8 := hR2.b8
    have k10 := hR2.b10
    have k11 := hR2.b11
    have n8 : ¬ W3.heap.size = w.heap.size := by have := hb5.size; omega
    have n8' : ¬ w.heap.size = W3.heap.size := fun ee => n8 ee.symm
    simp [k8, k10, k11, n8, n8', dk.1, dk.2, dl2.1, dl2.2, dp2.1, dp2.2]
    have hbF := below_putL (below_putL hR2.below h310 [.int .i64 (stAt e.method s0 ms O.length).qty, .int .i64 (stAt e.method s0 ms O.length).value, .int .i64 (stAt e.method s0 ms O.length).price, slv2, spv2] 2) (Nat.le_refl _) [.map (some W1.heap.size), kvp2, .int .i64 (stAt e.method s0 ms O.length).qty, .int .i64 (stAt e.method s0 ms O.length).value, .int .i64 (stAt e.method s0 ms O.length).price, slv2, spv2] 0
    obtain ⟨WF, hWF⟩ : ∃ WF, X.putL (X.putL W47 W3.heap.size 2 [.int .i64 (stAt e.method s0 ms O.length).qty, .int .i64 (stAt e.method s0 ms O.length).value, .int .i64 (stAt e.method s0 ms O.length).price, slv2, spv2]) w.heap.size 0 [.map (some W1.heap.size), kvp2, .int .i64 (stAt e.method s0 ms O.length).qty, .int .i64 (stAt e.method s0 ms O.length).value, .int .i64 (stAt e.method s0 ms O.length).price, slv2, spv2] = WF := ⟨_, rfl⟩
    rw [hWF] at hbF ⊢
    have keep : ∀ j, ¬ j = w.heap.size → ¬ j = W3.heap.size → X.blk WF j = X.blk W47 j := by
      intro j h1 h2
      rw [← hWF, blk_putL, if_neg (fun ee => h1 ee.symm), blk_putL, if_neg (fun ee => h2 ee.symm)]
    have kt : ∀ j c t, X.blk W47 j = some (.cells c t (0, 0)) → t ≠ 145 → X.blk WF j = X.blk W47 j := by
      intro j c t hj ht
      refine keep j (fun ee => ?_) (fun ee => ?_)
      · rw [ee, k8] at hj; injection hj with hj; injection hj with _ hj; exact ht hj.symm
      · rw [ee, k10] at hj; injection hj with hj; injection hj with _ hj; exact ht hj.symm
    have owF : ∀ {α : Type} {E : Enc α} {t : TypeId} {Bq : Nat} {v : Value} {l : List α}, t ≠ 145 → Own E t W47 Bq v l → Own E t WF Bq v l := by
      intro α E t Bq v l ht ho
      refine ho.step (fun j hj => ?_)
      obtain ⟨c, hc⟩ := ho.type j hj
      exact kt _ _ _ hc ht
    have htk : ms.take O.length = ms := by rw [← hml]; exact List.take_length
    have hrun := hR2.run
    rw [htk] at hrun
    refine hK2 WF W1.heap.size kvp2 ksp2 slv2 spv2 hrun hbF (by omega) (hR2.map.of (keep _ (by omega) (by omega))) (owF (by decide) hR2.kv) ?_ (owF (by decide) hR2.ly) (owF (by decide) hR2.pa) hR2.ok
    exact hks2'.step (fun t j c ht hc => kt _ _ _ hc (by rcases ht with rfl | rfl <;> decide))
end Go.X
end
