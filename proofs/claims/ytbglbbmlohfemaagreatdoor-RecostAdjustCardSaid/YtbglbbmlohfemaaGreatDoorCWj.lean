/- Law 39: the contract of the law function of RecostAdjust. -/
import Derived.Test.YtbglbbmlohfemaaGreatDoorCWi
set_option linter.unusedVariables false
set_option linter.unusedSimpArgs false
namespace Go.X
open Go.Proofs Go.RowKit
attribute [local irreducible] l_append l_copy l_make l_run l_runU q_slice q_eq q_index q_build onSome l_lit q_read
variable {w w' w'' : World} {B x : Nat} {r : Option Nat} {method : Int} {s0 : St} {L : List Mv} {m : Mv}
def AjI (w0 : World) (B x : Nat) (method : Int) (s0 : St) (l : List Mv) (costs v : Value) (W : World) : Prop :=
  Below w0.heap.size w0 W ∧ ∃ (i : Nat) (r : Option Nat) (g : Nat), v = .int .i64 i ∧ i ≤ l.length ∧ HasE W B x r method s0 (fillL method s0 [] (l.take i)) ∧ Own CoE 43 W w0.heap.size costs (Co.zero :: cosV method s0 (fillL method s0 [] (l.take i))) ∧ costs.ownBlock = some g ∧ r ≠ some g
def InI (W0 : World) (g B0 : Nat) (costs : Value) (C C' : List Co) (D : List Nat) (v : Value) (W : World) : Prop :=
  Fr (fun k => k = g) W0 W ∧ ∃ k : Nat, v = .int .i64 k ∧ k ≤ D.length ∧ Own CoE 43 W B0 costs (curV C C' (D.take k))
def EnI (w0 : World) (n : Nat) (v : Value) (W : World) : Prop := Below w0.heap.size w0 W ∧ ∃ i : Nat, v = .int .i64 i ∧ 1 ≤ i ∧ i ≤ n + 1
theorem recostAdjust_ok {v : Value} {l : List Mv} {price : Int} (ht : Tab w) (hp : I64 price) (hv : Rd MvE w v l) (hm : ∀ m ∈ l, m.Ok) : Calc 12 [.agg #[.int .i64 method, .int .i64 price], v] w (.bool true) := by
  intro K hK
  refine lift12 ?_
  unfold L12
  rw [l_new_eq, cells_agg]
  have hb1 := (Below.refl w.heap.size w).alloc (Nat.le_refl _) (.cells #[.int .i64 method, .int .i64 price] 64)
  have hk1 := new_blk w (.cells #[.int .i64 method, .int .i64 price] 64) _ rfl
  generalize w.alloc (.cells #[.int .i64 method, .int .i64 price] 64) = W1 at *
  simp [hk1]
  have lives : ∀ W, Below w.heap.size w W → Ret Tryz.prog 39 [] W K := fun W hW => lives39_ok (ht.below hW) _ (fun w4 hb4 => hK _ (hW.then hb4))
  refine new_ok hp (fun he W2 hb2 => ?_) (fun he W2 x hb2 hx hE => ?_)
  · have hb02 := hb1.then hb2
    simp only [q_extract_tuple, List.getElem?_toArray, List.getElem?_cons_succ, List.getElem?_cons_zero, onSome_some]
    refine light_ok (hv.below hb02) (fun bb _ => ?_)
    cases bb with
    | false => simp; exact lives _ hb02
    | true => simp [he]; exact lives _ hb02
  have hb02 := hb1.then hb2
  simp only [q_extract_tuple, List.getElem?_toArray, List.getElem?_cons_succ, List.getElem?_cons_zero, onSome_some]
  refine light_ok (hv.below hb02) (fun bb hbl => ?_)
  cases bb with
  | false => simp; exact lives _ hb02
  | true =>
  have hl50 := hbl rfl
  have hgood := good_nil (method := method) hp he
  generalize (startV method price).1 = s0 at *
  simp only [q_not, Bool.not_true, onSome_some, gateQ_false, Bool.false_eq_true, if_false, q_neq, decide_true, q_pick_bool, cond_false, ptr, (nil50 _).1, Option.isNone_some, xif_false, ne43z]
  unfold l_lit
  rw [show fillC #[.int .i64 0, .int .i64 0, .int .i64 0, .int .i64 0] [(0, 4, .agg #[.int .i64 0, .int .i64 0, .int .i64 0, .int .i64 0])] = some (CoE.cells Co.zero).toArray by simp [CoE, Co.cs, Co.zero], onSome_some]
  dsimp only
  have hbA := (Below.refl W2.heap.size W2).alloc (Nat.le_refl _) (.cells (CoE.cells Co.zero).toArray 43)
  have hkA := new_blk W2 (.cells (CoE.cells Co.zero).toArray 43) _ rfl
  generalize W2.alloc (.cells (CoE.cells Co.zero).toArray 43) = W5 at *
  have hb05 := hb02.then hbA
  have hE5 := hE.below hbA
  have hB1 := hb1.size
  have ho5 : Own CoE 43 W5 w.heap.size (.slice (some ⟨W2.heap.size, 0, none⟩) 1 1) [Co.zero] :=
    .inr ⟨W2.heap.size, 1, _, rfl, hb02.size, hkA, Nat.le_refl _, by decide, by simp [CoE, Co.cs], by simp [CoE, Co.cs, Enc.flat]⟩
  refine looping_i (AjI w W1.heap.size x method s0 l) (fun _ v _ => l.length - (intOf v).toNat) ⟨⟨hb05, 0, none, W2.heap.size, rfl, Nat.zero_le _, hE5, ho5, rfl, by simp⟩, ?_⟩
  rintro costs _ W ⟨hbW, i, r, g, rfl, hi, hEW, hoW, hgW, hrg⟩
  rw [hv.len, onSome_some]
  simp only [q_lss, onSome_some]
  refine xif_dec (fun hlt => ?_) (fun hlt => ?_)
  · have h1 : i < l.length := by omega
    have e1 : IntKind.i64.wrap ((i : Int) + 1) = ((i + 1 : Nat) : Int) := by rw [wrap_i64 (by omega) (by omega)]; omega
    obtain ⟨ad, hq, hload⟩ := mv_load (hv.below hbW) h1
    have htk := fillL_take (method := method) (s0 := s0) h1 []
    have hlenG := fillL_len (method := method) (s0 := s0) (l.take i) []
    have hgG := fillL_good (l.take i) [] hgood (fun k hk => hm k (List.mem_of_mem_take hk)) (by simp; omega)
    have hmi := hm _ (List.getElem_mem h1)
    generalize l[i] = li at *
    rw [hq, onSome_some, hload _ (Below.refl _ _), onSome_some]
    refine var_mv (m := li) (fun W8 hb8 hk8 hs8 => ?_)
    have hE8 := hEW.below hb8
    obtain ⟨G, hG⟩ : ∃ G, G = fillL method s0 [] (l.take i) := ⟨_, rfl⟩
    rw [← hG] at hE8 htk hlenG hgG hoW
    have hlG : G.length ≤ 50 := by simp [List.length_take] at hlenG; omega
    refine eng_len hE8 ?_
    have e2 : IntKind.i64.wrap ((G.length : Int) + 1) = ((G.length + 1 : Nat) : Int) := by rw [wrap_i64 (by omega) (by omega)]; omega
    simp only [q_add, onSome_some, e2]
    rw [q_faddr_ptr, onSome_some, addr_add, l_store_to (by rw [hk8]; simp [Mv.cs])]
    have hb810 := hb8.trans (below_putL (Below.refl W.heap.size W8) (Nat.le_refl _) [.int .i64 ((G.length + 1 : Nat) : Int)] 0)
    have hk10 : X.blk (X.putL W8 W.heap.size 0 [.int .i64 ((G.length + 1 : Nat) : Int)]) W.heap.size = some (.cells (reseq (G.length + 1) li).cs 47 (0, 0)) := by simp [hk8, Mv.cs, reseq]
    simp only [Array.toList, cells_int, Nat.zero_add] at hk10 hb810 ⊢
    generalize X.putL W8 W.heap.size 0 [.int .i64 ((G.length + 1 : Nat) : Int)] = W10 at *
    have e8 : q_loadn 8 (.pointer (some ⟨W.heap.size, 0, none⟩)) W10 = some (reseq (G.length + 1) li).v := by simp [hk10, Mv.cs, Mv.v]
    rw [e8, onSome_some]
    have hb010 := hbW.then hb810
    have hE10 := hEW.below hb810
    rw [← hG] at hE10
    have ho10 := hoW.below hb810
    have hg10 := (ho10.type g hgW)
    refine eng_addc (ht.below hb010) hE10 hgG (reseq_ok hmi (by omega)) (fun he3 W13 c10 hb13 hkc hjc => ?_) (fun he3 W13 c10 r' av c hc hE13 hr' hF13 hA13 hkc hjc hnc hnav => ?_)
    · -- not added
      simp only [q_neq, onSome_some]
      refine xif_ndec (fun _ => ?_) (fun hh => absurd hh he3)
      simp only [q_add, onSome_some, e1]
      have : fillL method s0 [] (l.take (i + 1)) = G := by rw [htk]; unfold addL; rw [if_neg he3]
      exact ⟨⟨hb010.then hb13, i + 1, r, g, rfl, by omega, by rw [this]; exact hE10.below hb13, by rw [this]; exact ho10.below hb13, hgW, hrg⟩, by simp only [intOf]; omega⟩
    · -- added
      simp only [q_neq, onSome_some]
      refine xif_ndec (fun hh => absurd trivial hh) (fun _ => ?_)
      have hfl : fillL method s0 [] (l.take (i + 1)) = G ++ [reseq (G.length + 1) li] := by rw [htk]; unfold addL; rw [if_pos he3]
      have hgG' := hgG.add (reseq_ok hmi (by omega)) he3
      generalize reseq (G.length + 1) li = mm at *
      have hb1013 := hE10.belowS hF13
      have hb013 := hb010.trans (hb1013.mono hB1)
      have hng : ¬ EngS x r g := by
        rintro (e | e)
        · obtain ⟨c', hc'⟩ := hg10
          exact hE10.ne43 hc' e
        · exact hrg e
      have hglt : g < W10.heap.size := (ho10.lt g hgW).2
      have hng' := engS_next hng hglt hr'
      have ho13 : Own CoE 43 W13 w.heap.size costs (Co.zero :: cosV method s0 G) := hF13.own ho10 (fun k hk => by rw [hgW] at hk; injection hk with hk; rw [← hk]; exact hng)
      have hall := curV_all hgG hgG'
      rw [← hc] at hall
      have hlC := cosV_len method s0 G
      have hlC' : (cosV method s0 (G ++ [mm])).length = G.length + 1 := by rw [cosV_len]; simp
      have hmore := fun (j : Nat) (hj : j < G.length) => cos_more (m := mm) hgG hgG' hj
      have hav := adjV_all (C := cosV method s0 G) (C' := cosV method s0 (G ++ [mm])) (by omega)
      have hDlt := difI_lt (C := cosV method s0 G) (C' := cosV method s0 (G ++ [mm])) (n := (cosV method s0 G).length)
      have hDs := difI_srt (cosV method s0 G) (cosV method s0 (G ++ [mm])) (cosV method s0 G).length
      obtain ⟨C, hCC⟩ : ∃ C, C = cosV method s0 G := ⟨_, rfl⟩
      obtain ⟨C', hCC'⟩ : ∃ C', C' = cosV method s0 (G ++ [mm]) := ⟨_, rfl⟩
      rw [← hCC, ← hCC'] at hall hav hDlt hDs hA13
      rw [← hCC] at ho13 hlC
      rw [← hCC'] at hlC'
      simp only [← hCC, ← hCC'] at hmore
      obtain ⟨D, hD⟩ : ∃ D, D = difI C C' C.length := ⟨_, rfl⟩
      rw [← hD] at hall hav hDlt hDs
      rw [hav] at hA13
      have hDle : D.length ≤ G.length := by rw [hD, ← hlC]; unfold difI; exact Nat.le_trans (List.length_filter_le _ _) (by simp)
      have hDn : D.Nodup := hDs.imp (fun h => Nat.ne_of_lt h)
      have ho13' : Own CoE 43 W13 w.heap.size costs (curV C C' (D.take 0)) := by rw [List.take_zero, curV_nil]; exact ho13
      have hgne : ∀ k, av.ownBlock = some k → ¬ k = g := fun k hk e => by
        obtain ⟨c1, h1⟩ := hA13.type k hk
        obtain ⟨c2, h2⟩ := ho13.type g hgW
        rw [e, h2] at h1; injection h1 with h1; injection h1 with _ h1; cases h1
      have hjg : ¬ c10 = g := by omega
      refine looping_i (InI W13 g w.heap.size costs C C' D) (lenM D.length) ⟨⟨Fr.refl _ _, 0, rfl, Nat.zero_le _, ho13'⟩, ?_⟩
      rintro _ W14 ⟨hF14, k, rfl, hk, ho14⟩
      have hA14 := hF14.own hA13 hgne
      have hlA := hA14.len
      rw [List.length_map] at hlA
      rw [hlA, onSome_some]
      simp only [q_lss, onSome_some]
      refine xif_dec (fun hltk => ?_) (fun hltk => ?_)
      · have hk1 : k < D.length := by omega
        obtain ⟨hDk, hdif⟩ := hDlt D[k] (List.getElem_mem hk1)
        obtain ⟨s1, s2, s3, o1, o2⟩ := hmore D[k] (by omega)
        have s12 : (coG C D[k]).seq = (coG C' D[k]).seq := by rw [s1, s2]
        obtain ⟨hcur, hcurv⟩ := curV_at (C' := C') hk1 hDn hDk
        have hset := curV_set (C' := C') hk1 hDn hDk
        unfold dif at hdif
        have hdif := of_decide_eq_true hdif
        have ek1 : IntKind.i64.wrap ((k : Int) + 1) = ((k + 1 : Nat) : Int) := by rw [wrap_i64 (by omega) (by omega)]; omega
        have hkA : k < (D.map (adG C C')).length := by simpa using hk1
        obtain ⟨g2, cap2, hav2, _, _, hcell⟩ := hA14.at hkA
        have p0 : cellO (X.blk W14 g2) (k * 3 + 0) = some (.int .i64 (coG C D[k]).seq) := (hcell 0 (by decide)).trans (by simp [AdE, Ad.cs, adG])
        have p1 : cellO (X.blk W14 g2) (k * 3 + 1) = some (.int .i64 (IntKind.i64.wrap ((coG C' D[k]).value - (coG C D[k]).value))) := (hcell 1 (by decide)).trans (by simp [AdE, Ad.cs, adG])
        have p2 : cellO (X.blk W14 g2) (k * 3 + 2) = some (.int .i64 (IntKind.i64.wrap ((coG C' D[k]).var - (coG C D[k]).var))) := (hcell 2 (by decide)).trans (by simp [AdE, Ad.cs, adG])
        rw [s1] at p0
        have hprev : 0 < k → ∃ d : Nat, d < D[k] ∧ cellO (X.blk W14 g2) ((k - 1) * 3 + 0) = some (.int .i64 ((d + 1 : Nat) : Int)) := by
          intro h0
          have hkA' : k - 1 < (D.map (adG C C')).length := by simp; omega
          obtain ⟨g2', cap2', hav2', _, _, hcell'⟩ := hA14.at hkA'
          rw [hav2] at hav2'
          injection hav2' with e1 e2 e3
          injection e1 with e1
          injection e1 with e1
          subst e1
          have hlt' : D[k - 1] < D[k] := List.pairwise_iff_getElem.1 hDs (k - 1) k (by omega) hk1 (by omega)
          refine ⟨D[k - 1], hlt', ?_⟩
          refine (hcell' 0 (by decide)).trans ?_
          simp only [List.getElem_map]
          show some (Value.int .i64 (coG C D[k - 1]).seq) = _
          rw [(hmore D[k - 1] (by omega)).1]
        have hne : ¬ (IntKind.i64.wrap ((coG C' D[k]).value - (coG C D[k]).value) = 0 ∧ IntKind.i64.wrap ((coG C' D[k]).var - (coG C D[k]).var) = 0) := by
          rintro ⟨h1, h2⟩
          rcases hdif with h | h
          · exact wrap_ne o2.value o1.value h h1
          · exact wrap_ne o2.var o1.var h h2
        have w1 := w_part (a := (coG C D[k]).value) (b := (coG C' D[k]).value) o2.value
        have w2 := w_part (a := (coG C D[k]).var) (b := (coG C' D[k]).var) o2.var
        obtain ⟨g3, cap3, hcv, _, ⟨cur, hkcur, hszc⟩, hccell⟩ := ho14.at hcur
        have hg3 : g3 = g := by rw [hcv] at hgW; injection hgW
        subst hg3
        rw [hcurv] at hccell
        have q2 : cellO (X.blk W14 g3) ((D[k] + 1) * 4 + 2) = some (.int .i64 (coG C D[k]).value) := hccell 2 (by decide)
        have q3 : cellO (X.blk W14 g3) ((D[k] + 1) * 4 + 3) = some (.int .i64 (coG C D[k]).var) := hccell 3 (by decide)
        rw [curV_len] at hcv hcur hszc
        have hlA2 : (D.map (adG C C')).length = D.length := by simp
        rw [hlA2] at hav2
        generalize hVV : IntKind.i64.wrap ((coG C' D[k]).value - (coG C D[k]).value) = vv at *
        generalize hRR : IntKind.i64.wrap ((coG C' D[k]).var - (coG C D[k]).var) = rr at *
        have hkI : (k : Int) < (D.length : Int) := by omega
        have t1 : ¬ (((D[k] + 1 : Nat) : Int) < 1) := by omega
        have t2 : ¬ ((C.length : Int) + 1 ≤ ((D[k] + 1 : Nat) : Int)) := by omega
        have t3 : ((D[k] + 1 : Nat) : Int) < (C.length : Int) + 1 := by omega
        have tn : ((D[k] + 1 : Nat) : Int).toNat = D[k] + 1 := by omega
        generalize hdd : D[k] + 1 = dd at *
        rw [Nat.add_zero] at p0
        have hgg : ¬ g3 = g2 := fun e => hgne g2 (by rw [hav2]; rfl) e.symm
        obtain ⟨l0, hl0⟩ : ∃ l0, l0 = curV C C' (D.take k) := ⟨_, rfl⟩
        rw [← hl0] at ho14 hset
        have hl0l : l0.length = C.length + 1 := by rw [hl0, curV_len]
        have hi0 : dd < l0.length := by omega
        have hcv0 : costs = .slice (some ⟨g3, 0, none⟩) l0.length cap3 := by rw [hl0l]; exact hcv
        have hat : l0[dd] = coG C D[k] := by simp only [hl0]; exact hcurv
        have tail : (l_store 1 (.pointer (some ⟨g3, dd * 4 + 2, none⟩)) (.int .i64 (IntKind.i64.wrap ((coG C D[k]).value + vv))) W14.drew.drew fun _ W15 =>
            onSome (cellO (X.blk W15 g2) (k * 3)) fun t140 => onSome (q_iaddr 4 (.slice (some ⟨g3, 0, none⟩) (C.length + 1) cap3) t140) fun t141 => onSome (q_faddr 3 t141) fun t142 => onSome (q_load1 t142 W15.drew) fun t143 =>
            onSome (cellO (X.blk W15 g2) (k * 3 + 2)) fun t148 => onSome (q_bin .add t143 t148) fun t149 => onSome (q_iaddr 4 (.slice (some ⟨g3, 0, none⟩) (C.length + 1) cap3) t140) fun t150 => onSome (q_faddr 3 t150) fun t151 =>
            l_store 1 t151 t149 W15.drew fun _ W16 => InI W13 g3 w.heap.size (.slice (some ⟨g3, 0, none⟩) (C.length + 1) cap3) C C' D (.int .i64 (IntKind.i64.wrap ((k : Int) + 1))) W16 ∧ lenM D.length (.int .i64 (IntKind.i64.wrap ((k : Int) + 1))) W16 < lenM D.length (.int .i64 (k : Int)) W14) := by
          rw [w1]
          have hk14d : X.blk W14.drew.drew g3 = some (.cells cur 43 (0, 0)) := hkcur
          have hsz4 : dd * 4 + 4 ≤ cur.size := by
            have : CoE.sz = 4 := rfl
            rw [this] at hszc; omega
          rw [l_store_to (by rw [hk14d]; simp; omega)]
          have hs1 := (ho14.drew.drew).store (E := CoE) hcv0 hi0 (j := 2) (by decide) (u := .int .i64 (coG C' D[k]).value) (a := ⟨(coG C D[k]).seq, (coG C D[k]).qty, (coG C' D[k]).value, (coG C D[k]).var⟩) (by rw [hat]; rfl)
          have hF15 : Fr (fun k => k = g3) W13 (X.putL W14.drew.drew g3 (dd * 4 + 2) [.int .i64 (coG C' D[k]).value]) := hF14.drew.drew.putL rfl
          have hp15 : ∀ o, cellO (X.blk (X.putL W14.drew.drew g3 (dd * 4 + 2) [.int .i64 (coG C' D[k]).value]) g2) o = cellO (X.blk W14 g2) o := by
            intro o; rw [blk_putL, if_neg hgg]; rfl
          have hk15 : X.blk (X.putL W14.drew.drew g3 (dd * 4 + 2) [.int .i64 (coG C' D[k]).value]) g3 = some (.cells (cur.setIfInBounds (dd * 4 + 2) (.int .i64 (coG C' D[k]).value)) 43 (0, 0)) := by
            rw [blk_putL, if_pos rfl, hk14d]; rfl
          change Own CoE 43 (X.putL W14.drew.drew g3 (dd * 4 + 2) [.int .i64 (coG C' D[k]).value]) w.heap.size costs _ at hs1
          simp only [cells_int, Array.toList]
          generalize X.putL W14.drew.drew g3 (dd * 4 + 2) [.int .i64 (coG C' D[k]).value] = W15 at *
          have hi1 : dd < (l0.set dd ⟨(coG C D[k]).seq, (coG C D[k]).qty, (coG C' D[k]).value, (coG C D[k]).var⟩).length := by rw [List.length_set]; exact hi0
          have hcv1 : costs = .slice (some ⟨g3, 0, none⟩) (l0.set dd ⟨(coG C D[k]).seq, (coG C D[k]).qty, (coG C' D[k]).value, (coG C D[k]).var⟩).length cap3 := by rw [List.length_set]; exact hcv0
          obtain ⟨g5, cap5, hcv5, _, _, hc5⟩ := hs1.at hi1
          have hg5 : g5 = g3 := by rw [hcv1] at hcv5; injection hcv5 with e1; injection e1 with e1; injection e1 with e1; exact e1.symm
          subst hg5
          have q5 : cellO (X.blk W15 g5) (dd * 4 + 3) = some (.int .i64 (coG C D[k]).var) := (hc5 3 (by decide)).trans (by rw [List.getElem_set_self]; rfl)
          simp [hp15, p0, p2, t3, tn, q5]
          rw [w2]
          have hs2 := hs1.drew.store (E := CoE) hcv1 hi1 (j := 3) (by decide) (u := .int .i64 (coG C' D[k]).var) (a := ⟨(coG C D[k]).seq, (coG C D[k]).qty, (coG C' D[k]).value, (coG C' D[k]).var⟩) (by rw [List.getElem_set_self]; rfl)
          have hF16 : Fr (fun k => k = g5) W13 (X.putL W15.drew g5 (dd * 4 + 3) [.int .i64 (coG C' D[k]).var]) := hF15.drew.putL rfl
          have hk15d : X.blk W15.drew g5 = _ := hk15
          rw [l_store_to (by rw [hk15d]; simp; omega)]
          rw [List.set_set] at hs2
          have hnow : (⟨(coG C D[k]).seq, (coG C D[k]).qty, (coG C' D[k]).value, (coG C' D[k]).var⟩ : Co) = coG C' D[k] := by
            rw [s3, s12]
          rw [hnow, hset] at hs2
          rw [hcv] at hs2
          change Own CoE 43 (X.putL W15.drew g5 (dd * 4 + 3) [.int .i64 (coG C' D[k]).var]) w.heap.size _ _ at hs2
          rw [ek1]
          exact ⟨⟨hF16, k + 1, rfl, by omega, hs2⟩, by simp only [lenM, intOf]; omega⟩
        rcases Nat.eq_zero_or_pos k with hk0 | hk0
        · have t5 : ¬ (0 < k) := by omega
          by_cases hv0 : vv = 0
          · have hr0 : ¬ rr = 0 := fun e => hne ⟨hv0, e⟩
            simp [t5, hav2, hkI, p0, t1, hcv, t2, p1, hv0, hr0, t3, tn, q2, p2]
            simpa [hv0] using tail
          · simp [t5, hav2, hkI, p0, t1, hcv, t2, p1, hv0, t3, tn, q2, p2]
            simpa using tail
        · obtain ⟨d, hd, pp⟩ := hprev hk0
          have t4 : ¬ (((dd : Nat) : Int) ≤ (d : Int) + 1) := by omega
          have t5 : (0 : Int) < (k : Int) := by omega
          have t6 : IntKind.i64.wrap ((k : Int) - 1) = ((k - 1 : Nat) : Int) := by rw [wrap_i64 (by omega) (by omega)]; omega
          have t7 : ((k - 1 : Nat) : Int) < (D.length : Int) := by omega
          rw [Nat.add_zero] at pp
          by_cases hv0 : vv = 0
          · have hr0 : ¬ rr = 0 := fun e => hne ⟨hv0, e⟩
            simp [hk0, hav2, hkI, p0, t1, hcv, t2, t5, t6, t7, pp, t4, p1, hv0, hr0, t3, tn, q2, p2]
            simpa [hv0] using tail
          · simp [hk0, hav2, hkI, p0, t1, hcv, t2, t5, t6, t7, pp, t4, p1, hv0, t3, tn, q2, p2]
            simpa using tail
      · have hke : k = D.length := by omega
        subst hke
        rw [List.take_length] at ho14
        have hkc14 := hF14.blk hkc hjg
        have q10 : q_loadn 4 (.pointer (some ⟨c10, 0, none⟩)) W14 = some (.agg #[.int .i64 c.seq, .int .i64 c.qty, .int .i64 c.value, .int .i64 c.var]) := by simp [hkc14]
        rw [q10, onSome_some]
        rw [show fillC #[.int .i64 0, .int .i64 0, .int .i64 0, .int .i64 0] [(0, 4, .agg #[.int .i64 c.seq, .int .i64 c.qty, .int .i64 c.value, .int .i64 c.var])] = some (CoE.cells c).toArray by simp [CoE, Co.cs], onSome_some]
        have hb1314 : Below w.heap.size W13 W14 := hF14.below hb013.size (fun j e => by rw [e]; exact (ho13.lt g hgW).1)
        have hb014 := hb013.trans hb1314
        have hrl := Rd.new (E := CoE) (t := 43) (a := c) W14 (by decide)
        have hb014L := hb014.alloc hb014.size (.cells (CoE.cells c).toArray 43)
        have hoL := ho14.alloc (.cells (CoE.cells c).toArray 43)
        have hE14 := hE13.fr43 hF14 (fun j e => by
          rw [e]
          obtain ⟨c2, h2⟩ := ho13.type g hgW
          exact ⟨⟨c2, _, h2⟩, fun h => hng' (.inr h)⟩)
        have hEL := hE14.below ((Below.refl W14.heap.size W14).alloc (Nat.le_refl _) (.cells (CoE.cells c).toArray 43))
        have hsz14 := hF14.size
        have hszL : (W14.alloc (.cells (CoE.cells c).toArray 43)).heap.size = W14.heap.size + 1 := by simp
        generalize W14.alloc (.cells (CoE.cells c).toArray 43) = WL at *
        refine app_co3 hoL hrl hb014L.size (by rw [curV_len]; simp; omega) (fun v18 W18 ho18 hg18 hrow18 => ?_)
        rw [hall] at ho18
        have hb018 := hb014L.grown hg18 hb014L.size (fun j hj => (hoL.lt j hj).1)
        have hE18 := hEL.fr43 (Fr.of_grown (S := fun j => costs.ownBlock = some j) hg18 (fun j e => e)) (fun j e => by
          rw [hgW] at e; injection e with e; rw [← e]
          obtain ⟨c2, h2⟩ := hoL.type g hgW
          exact ⟨⟨c2, _, h2⟩, fun h => hng' (.inr h)⟩)
        have hglt13 : ∀ k, r' = some k → k < W14.heap.size := fun k hk => by
          have := (hE14.lts.2.2 k hk).2; exact this
        obtain ⟨g', hg', hr'g⟩ : ∃ g', v18.ownBlock = some g' ∧ r' ≠ some g' := by
          rcases hrow18 with h | h
          · exact ⟨g, by rw [h]; exact hgW, fun e => hng' (.inr e)⟩
          · refine ⟨_, h, fun e => ?_⟩
            have := hglt13 _ e; omega
        simp only [q_add, onSome_some, e1]
        refine ⟨⟨hb018, i + 1, r', g', rfl, by omega, by rw [hfl]; exact hE18, by rw [hfl, ← hCC']; exact ho18, hg', hr'g⟩, by simp only [intOf]; omega⟩
  · have hil : i = l.length := by omega
    rw [hil, List.take_length] at hEW hoW
    have hgG := fillL_good l [] hgood hm (by simp; omega)
    have hlG := fillL_len (method := method) (s0 := s0) l []
    generalize fillL method s0 [] l = G at *
    simp only [List.length_nil, Nat.zero_add] at hlG
    have hlC := cosV_len method s0 G
    refine looping_i (EnI W G.length) (lenM (G.length + 2)) ⟨⟨Below.refl _ _, 1, rfl, Nat.le_refl _, by omega⟩, ?_⟩
    rintro _ W19 ⟨hb19, j, rfl, hj1, hj2⟩
    have ho19 := hoW.below hb19
    have hlen := ho19.len
    rw [List.length_cons, hlC] at hlen
    rw [hlen, onSome_some]
    simp only [q_lss, onSome_some]
    refine xif_dec (fun hlt2 => ?_) (fun hlt2 => ?_)
    · have hjl : j < G.length + 1 := by omega
      have ej1 : IntKind.i64.wrap ((j : Int) + 1) = ((j + 1 : Nat) : Int) := by rw [wrap_i64 (by omega) (by omega)]; omega
      refine eng_costc (hEW.below hb19) (by omega) (fun W22 c15 hb22 hkc _ => ?_)
      have ho22 := (ho19.below hb22).drew
      obtain ⟨ad, hq, hload⟩ := co_load (Rd.of_own ho22) (i := j) (by rw [List.length_cons, hlC]; exact hjl)
      have e3 : costQ (cosV method s0 G) (j : Int) = ((Co.zero :: cosV method s0 G)[j]'(by rw [List.length_cons, hlC]; exact hjl), true) := by
        unfold costQ
        rw [if_neg (by omega)]
        have : ((j : Int) - 1).toNat = j - 1 := by omega
        rw [this]
        obtain ⟨j', rfl⟩ : ∃ j', j = j' + 1 := ⟨j - 1, by omega⟩
        simp only [Nat.add_sub_cancel, List.getElem_cons_succ]
        rw [List.getElem?_eq_getElem (by omega)]
        rfl
      rw [e3] at hkc ⊢
      generalize (Co.zero :: cosV method s0 G)[j]'(by rw [List.length_cons, hlC]; exact hjl) = cc at *
      have q15 : q_loadn 4 (.pointer (some ⟨c15, 0, none⟩)) W22.drew = some (.agg #[.int .i64 cc.seq, .int .i64 cc.qty, .int .i64 cc.value, .int .i64 cc.var]) := by simp [hkc]
      simp only [q_not, Bool.not_true, onSome_some, gateQ_false, Bool.false_eq_true, if_false, q15, hq, (hload _ (Below.refl _ _)).1, eq43, decide_true, q_pick_bool, cond_false, xif_false, q_add, ej1]
      exact ⟨⟨(hb19.then hb22).drew, j + 1, rfl, by omega, by omega⟩, by simp only [lenM, intOf]; omega⟩
    · refine eng_len (hEW.below hb19) ?_
      have e2 : IntKind.i64.wrap ((G.length : Int) + 1) = (G.length : Int) + 1 := by rw [wrap_i64 (by omega) (by omega)]
      simp [e2]
      have hb0W := hbW.then hb19
      refine lives39_ok (ht.below hb0W) _ (fun w4 hb4 => ?_)
      exact hK _ (hb0W.then hb4)
end Go.X
