/- Law 39: the contract of the law function of RecostOrder. -/
import Derived.Test.YtbglbbmlohfemaaGreatDoorCWp
set_option linter.unusedVariables false
set_option linter.unusedSimpArgs false
namespace Go.X
open Go.Proofs Go.RowKit
attribute [local irreducible] l_append l_copy l_make l_run l_runU q_slice q_eq q_index q_build onSome l_lit q_read
variable {w w' w'' : World} {B x : Nat} {r : Option Nat} {method : Int} {s0 : St} {L : List Mv} {m : Mv}
/-! ### alone -/
def Alo (l : List Mv) (i : Nat) : Prop := ∀ j (h : j < l.length), j < i → l[j].kind ≤ 2 ∧ ∀ k (hk : k < l.length), k < j → l[k].value ≠ l[j].value
def AloI (w0 : World) (l : List Mv) (v : Value) (W : World) : Prop := Below w0.heap.size w0 W ∧ ∃ i : Nat, v = .int .i64 i ∧ i ≤ l.length ∧ Alo l i
def AlkI (w0 : World) (l : List Mv) (i : Nat) (v : Value) (W : World) : Prop := Below w0.heap.size w0 W ∧ ∃ k : Nat, v = .int .i64 k ∧ k ≤ i ∧ ∀ j (h : j < l.length) (hi : i < l.length), j < k → l[j].value ≠ l[i].value
theorem alone_ok {v : Value} {l : List Mv} (hv : Rd MvE w v l) {K : Value → World → Prop} (hK : ∀ w' (b : Bool), Below w.heap.size w w' → (b = true → Alo l l.length) → K (.bool b) w') : Ret Tryz.prog 53 [v] w K := by
  obtain ⟨_, _, _, hm1⟩ := hv.slice
  have hmx' : (maxLen : Int) ≤ 9223372036854775807 := by decide
  refine lift53 ?_
  unfold L53
  refine looping_i (AloI w l) (lenM l.length) ⟨⟨Below.refl _ _, 0, rfl, Nat.zero_le _, fun j _ h => by omega⟩, ?_⟩
  rintro _ W ⟨hbW, i, rfl, hi, hal⟩ _
  rw [hv.len, onSome_some]
  simp only [q_lss, onSome_some]
  refine xif_dec (fun hlt => ?_) (fun hlt => ?_)
  · have h1 : i < l.length := by omega
    have e1 : IntKind.i64.wrap ((i : Int) + 1) = ((i + 1 : Nat) : Int) := by rw [wrap_i64 (by omega) (by omega)]; omega
    obtain ⟨ad, hq, _, hc⟩ := mvElem (hv.below hbW) h1
    have c3 : W.cell? (ad.add 3) = some (.int .i64 l[i].kind) := hc 3 _ rfl
    rw [hq, onSome_some, q_faddr_ptr, onSome_some, q_load1_ptr, c3, onSome_some, q_gtr, onSome_some]
    refine xif_dec (fun h2 => hK _ false hbW (by simp)) (fun h2 => ?_)
    refine looping_i (AlkI W l i) (lenM i) ⟨⟨Below.refl _ _, 0, rfl, Nat.zero_le _, fun j _ _ h => by omega⟩, ?_⟩
    rintro _ W2 ⟨hb2, k, rfl, hk, hne⟩ _
    have hb02 := hbW.then hb2
    simp only [q_lss, onSome_some]
    refine xif_dec (fun hltk => ?_) (fun hltk => ?_)
    · have hk1 : k < l.length := by omega
      have ek : IntKind.i64.wrap ((k : Int) + 1) = ((k + 1 : Nat) : Int) := by rw [wrap_i64 (by omega) (by omega)]; omega
      obtain ⟨adk, hqk, _, hck⟩ := mvElem (hv.below hb02.drew) hk1
      obtain ⟨adi, hqi, _, hci⟩ := mvElem (hv.below hb02.drew) h1
      have ck : W2.drew.cell? (adk.add 1) = some (.int .i64 l[k].value) := hck 1 _ rfl
      have ci : W2.drew.cell? (adi.add 1) = some (.int .i64 l[i].value) := hci 1 _ rfl
      rw [hq] at hqi
      injection hqi with hqi
      injection hqi with hqi
      injection hqi with hqi
      subst hqi
      rw [hqk, onSome_some, q_faddr_ptr, onSome_some, q_load1_ptr, ck, onSome_some, q_faddr_ptr, onSome_some, q_load1_ptr, ci, onSome_some, q_eql, onSome_some]
      refine xif_dec (fun h3 => hK _ false hb02.drew (by simp)) (fun h3 => ?_)
      simp only [q_add, onSome_some, ek]
      refine ⟨⟨hb2.drew, k + 1, rfl, by omega, fun j hj hi' hjk => ?_⟩, by simp only [lenM, intOf]; omega⟩
      rcases Nat.lt_or_ge j k with h4 | h4
      · exact hne j hj hi' h4
      · have : j = k := by omega
        subst this; exact h3
    · have hki : k = i := by omega
      subst hki
      simp only [q_add, onSome_some, e1]
      refine ⟨⟨hb02, k + 1, rfl, by omega, fun j hj hji => ?_⟩, by simp only [lenM, intOf]; omega⟩
      rcases Nat.lt_or_ge j k with h4 | h4
      · exact hal j hj h4
      · have : j = k := by omega
        subst this
        exact ⟨by omega, fun t ht htj => hne t ht hj htj⟩
  · have hie : i = l.length := by omega
    subst hie
    exact hK _ true hbW (fun _ => hal)
theorem alo_nodup {l : List Mv} (h : Alo l l.length) : (l.map Mv.value).Nodup := by
  rw [List.nodup_iff_pairwise_ne, List.pairwise_iff_getElem]
  intro i j hi hj hij
  simp only [List.getElem_map]
  rw [List.length_map] at hi hj
  exact (h j hj hj).2 i hi hij
/-! ### Every second one -/
def evN (l : List Mv) (t : Nat) : List Mv := (List.range t).map fun s => at0 l (2 * s)
def odN (l : List Mv) (t : Nat) : List Mv := (List.range t).map fun s => at0 l (2 * s + 1)
theorem evN_succ (l : List Mv) (t : Nat) : evN l (t + 1) = evN l t ++ [at0 l (2 * t)] := by simp [evN, List.range_succ]
theorem odN_succ (l : List Mv) (t : Nat) : odN l (t + 1) = odN l t ++ [at0 l (2 * t + 1)] := by simp [odN, List.range_succ]
def turnV (l : List Mv) : List Mv := evN l ((l.length + 1) / 2) ++ odN l (l.length / 2)
theorem turn_perm (l : List Mv) : (turnV l).Perm l := by
  have key : ∀ n, (evN l ((n + 1) / 2) ++ odN l (n / 2)).Perm ((List.range n).map (at0 l)) := by
    intro n
    induction n with
    | zero => exact List.Perm.refl _
    | succ n ih =>
      rw [List.range_succ, List.map_append, List.map_cons, List.map_nil]
      rcases Nat.mod_two_eq_zero_or_one n with h | h
      · have e1 : (n + 1 + 1) / 2 = (n + 1) / 2 + 1 := by omega
        have e2 : (n + 1) / 2 = n / 2 := by omega
        have e3 : 2 * ((n + 1) / 2) = n := by omega
        rw [e1, evN_succ, e3]
        rw [e2] at ih ⊢
        rw [List.append_assoc]
        refine (List.Perm.append_left _ (List.perm_append_comm (l₁ := [at0 l n]) (l₂ := odN l (n / 2)))).trans ?_
        rw [← List.append_assoc]
        exact List.Perm.append_right _ ih
      · have e1 : (n + 1 + 1) / 2 = (n + 1) / 2 := by omega
        have e2 : (n + 1) / 2 = n / 2 + 1 := by omega
        have e3 : 2 * (n / 2) + 1 = n := by omega
        rw [e1]
        have ih' := ih
        rw [show odN l ((n + 1) / 2) = odN l (n / 2) ++ [at0 l n] by rw [e2, odN_succ, e3], ← List.append_assoc]
        exact List.Perm.append_right _ ih'
  have hall : (List.range l.length).map (at0 l) = l := by
    apply List.ext_getElem
    · simp
    · intro i h1 h2
      simp only [List.getElem_map, List.getElem_range]
      exact at0_get h2
  have := key l.length
  rw [hall] at this
  exact this
def TuI (w0 : World) (l P : List Mv) (e : Nat → List Mv) (c : Nat) (a v : Value) (W : World) : Prop :=
  Below w0.heap.size w0 W ∧ ∃ t : Nat, v = .int .i64 ((2 * t + c : Nat) : Int) ∧ 2 * t + c ≤ l.length + 1 ∧ Own MvE 47 W w0.heap.size a (P ++ e t)
theorem cost_ord (hG : GoodL method s0 L) {i : Nat} (hi : i < (ordI L).length) : costQ (cosV method s0 L) (ordI L)[i].seq = (coAt method s0 (ordI L) i, true) := by
  obtain ⟨h1, h2, h3⟩ := ordI_get hi
  rw [h3, hG.seq h2]
  unfold costQ
  have hc : (ordV L)[i] < (cosV method s0 L).length := by rw [cosV_len]; exact h2
  have e2 : ((((ordV L)[i] + 1 : Nat) : Int) - 1).toNat = (ordV L)[i] := by omega
  rw [if_neg (by omega), e2, cos_at h1]
  rfl
/-- Two engines that accepted all movements, entered in two orders. -/
theorem turn_plain {l P G H : List Mv} (hG : GoodL method s0 G) (hH : GoodL method s0 H) (hal : Alo l l.length) (hP : P.Perm l) (hgl : G.map unseq = l.map unseq) (hhl : H.map unseq = P.map unseq) :
    SimS (lastV method s0 G) (lastV method s0 H) ∧ (ordI G).length = l.length ∧ (ordI H).length = l.length ∧ ∀ q (h1 : q < (ordI G).length) (h2 : q < (ordI H).length), (ordI G)[q].value = (ordI H)[q].value ∧ SimC (coAt method s0 (ordI G) q) (coAt method s0 (ordI H) q) := by
  have hp : (G.map unseq).Perm (H.map unseq) := by rw [hgl, hhl]; exact (hP.map unseq).symm
  have hgv : G.map Mv.value = l.map Mv.value := by
    have := congrArg (fun k : List Mv => k.map Mv.value) hgl
    simp only [List.map_map] at this
    exact this
  have hd : (G.map Mv.value).Nodup := by rw [hgv]; exact alo_nodup hal
  have hk : ∀ m ∈ H, m.kind = 1 ∨ m.kind = 2 := by
    intro m hm
    obtain ⟨k, hk, rfl⟩ := List.getElem_of_mem hm
    have h1 := (hH.one hk).kind
    have h2 : unseq H[k] ∈ l.map unseq := by
      have : unseq H[k] ∈ H.map unseq := List.mem_map_of_mem (List.getElem_mem hk)
      rw [hhl] at this
      exact ((hP.map unseq).mem_iff).1 this
    obtain ⟨y, hy, hye⟩ := List.mem_map.1 h2
    obtain ⟨j, hj, rfl⟩ := List.getElem_of_mem hy
    have h3 := (hal j hj hj).1
    have h4 := (simM_of hye).kind
    omega
  obtain ⟨o1, o2⟩ := order_plain hG hH hp hd hk
  have hgn : G.length = l.length := by simpa using congrArg List.length hgl
  have hhn : H.length = l.length := by
    have := congrArg List.length hhl
    simp only [List.length_map] at this
    rw [this, hP.length_eq]
  refine ⟨o1, by rw [ordI_len, hgn], by rw [ordI_len, hhn], fun q h1 h2 => ⟨?_, o2 q h1⟩⟩
  have hs := ord_same hp hd
  have := congrArg (fun k : List Mv => k[q]?) hs
  simp only [List.getElem?_map, List.getElem?_eq_getElem h1, List.getElem?_eq_getElem h2, Option.map_some, Option.some.injEq] at this
  exact (simM_of this).value
def OdI (w0 : World) (n : Nat) (v : Value) (W : World) : Prop := Below w0.heap.size w0 W ∧ ∃ i : Nat, v = .int .i64 i ∧ i ≤ n
theorem recostOrder_ok {v : Value} {l : List Mv} {price : Int} (ht : Tab w) (hp : I64 price) (hv : Rd MvE w v l) (hm : ∀ m ∈ l, m.Ok) : Calc 17 [.agg #[.int .i64 method, .int .i64 price], v] w (.bool true) := by
  intro K hK
  refine lift17 ?_
  unfold L17
  rw [l_new_eq, cells_agg]
  have hb1 := (Below.refl w.heap.size w).alloc (Nat.le_refl _) (.cells #[.int .i64 method, .int .i64 price] 64)
  have hk1 := new_blk w (.cells #[.int .i64 method, .int .i64 price] 64) _ rfl
  generalize w.alloc (.cells #[.int .i64 method, .int .i64 price] 64) = W1 at *
  have lives : ∀ W, Below w.heap.size w W → Ret Tryz.prog 39 [] W K := fun W hW => lives39_ok (ht.below hW) _ (fun w4 hb4 => hK _ (hW.then hb4))
  refine light_ok (hv.below hb1) (fun bb hbl => ?_)
  cases bb with
  | false =>
    simp only [q_not, Bool.not_false, onSome_some, gateQ_true, gateL_true, Bool.false_eq_true, if_false, q_pick_bool, cond_true, xif_true]
    exact lives _ hb1
  | true =>
  have hl50 := hbl rfl
  simp only [q_not, Bool.not_true, onSome_some, gateQ_false, gateL_false, Bool.false_eq_true, if_false]
  refine alone_ok (hv.below hb1) (fun W3 ba hb13 hal => ?_)
  have hb03 := hb1.then hb13
  cases ba with
  | false =>
    simp only [q_not, Bool.not_false, onSome_some, q_pick_bool, cond_false, xif_true]
    exact lives _ hb03
  | true =>
  have hal := hal rfl
  simp only [q_not, Bool.not_true, onSome_some, q_pick_bool, cond_false, xif_false]
  have hlen : ∀ W, Below w.heap.size w W → q_len v = some (.int .i64 (l.length : Int)) := fun W hW => (hv.below hW).len
  have hl := hlen _ hb03
  have elem : ∀ (i : Nat) (hi : i < l.length), at0 l i = l[i] := fun i hi => at0_get hi
  have hlit : ∀ (W : World) (a : Value) (P : List Mv) (mm : Mv) {Q : Value → World → Prop}, Below W3.heap.size W3 W → Own MvE 47 W W3.heap.size a P → P.length ≤ 1000 →
      (∀ W' a', Below W3.heap.size W3 W' → Own MvE 47 W' W3.heap.size a' (P ++ [mm]) → Q a' W') →
      l_lit 47 1 #[.int .i64 0, .int .i64 0, .string ⟨#[]⟩, .int .i64 0, .int .i64 0, .int .i64 0, .string ⟨#[]⟩, .int .i64 0] [(0, 8, .agg #[.int .i64 mm.seq, .int .i64 mm.value, .string mm.item, .int .i64 mm.kind, .int .i64 mm.qty, .int .i64 mm.cost, .string mm.lot, .int .i64 mm.ref])] W fun t W' => l_append Tryz.prog #[22, 22] 22 a t W' Q := by
    intro W a P mm Q hW ho hn hQ
    unfold l_lit
    rw [lit_mv, onSome_some]
    have hbL := hW.alloc hW.size (.cells (MvE.cells mm).toArray 47)
    have hoL := ho.alloc (.cells (MvE.cells mm).toArray 47)
    refine app_mv hoL (Rd.new (E := MvE) (t := 47) (a := mm) W (by decide)) hbL.size (by simp; omega) (fun v' W6 ho6 hg6 => ?_)
    exact hQ W6 v' (hbL.grown hg6 hbL.size (fun k hk => (hoL.lt k hk).1)) ho6
  refine looping_i (TuI W3 l [] (evN l) 0) (fun _ v _ => l.length + 2 - (intOf v).toNat) ⟨⟨Below.refl _ _, 0, rfl, by omega, Own.nil _ _ _ _⟩, ?_⟩
  rintro a5 _ W5 ⟨hb5, t, rfl, htl, ho5⟩ _
  rw [hl, onSome_some]
  simp only [q_lss, onSome_some]
  refine xif_dec (fun hlt => ?_) (fun hlt => ?_)
  · have h1 : 2 * t + 0 < l.length := by omega
    have e1 : IntKind.i64.wrap (((2 * t + 0 : Nat) : Int) + 2) = ((2 * (t + 1) + 0 : Nat) : Int) := by rw [wrap_i64 (by omega) (by omega)]; omega
    obtain ⟨ad, hq, hload⟩ := mv_load (hv.below (hb03.then hb5)) h1
    rw [hq, onSome_some, hload _ (Below.refl _ _), onSome_some]
    refine hlit W5 a5 _ l[2 * t + 0] hb5 ho5 (by simp [evN]; omega) (fun W7 a7 hb7 ho7 => ?_)
    simp only [q_add, onSome_some, e1]
    have : [] ++ evN l t ++ [l[2 * t + 0]] = [] ++ evN l (t + 1) := by rw [evN_succ, elem _ (by omega)]; rfl
    rw [this] at ho7
    exact ⟨⟨hb7, t + 1, rfl, by omega, ho7⟩, by simp only [intOf]; omega⟩
  have hte : t = (l.length + 1) / 2 := by omega
  subst hte
  rw [List.nil_append] at ho5
  refine looping_i (TuI W3 l (evN l ((l.length + 1) / 2)) (odN l) 1) (fun _ v _ => l.length + 2 - (intOf v).toNat) ⟨⟨hb5, 0, rfl, by omega, by simpa [odN] using ho5⟩, ?_⟩
  rintro a8 _ W8 ⟨hb8, t, rfl, htl2, ho8⟩ _
  simp only [q_lss, onSome_some]
  refine xif_dec (fun hlt => ?_) (fun hlt => ?_)
  · have h1 : 2 * t + 1 < l.length := by omega
    have e1 : IntKind.i64.wrap (((2 * t + 1 : Nat) : Int) + 2) = ((2 * (t + 1) + 1 : Nat) : Int) := by rw [wrap_i64 (by omega) (by omega)]; omega
    obtain ⟨ad, hq, hload⟩ := mv_load (hv.below (hb03.then hb8)) h1
    rw [hq, onSome_some, hload _ (Below.refl _ _), onSome_some]
    refine hlit W8 a8 _ l[2 * t + 1] hb8 ho8 (by simp [evN, odN]; omega) (fun W7 a7 hb7 ho7 => ?_)
    simp only [q_add, onSome_some, e1]
    have : evN l ((l.length + 1) / 2) ++ odN l t ++ [l[2 * t + 1]] = evN l ((l.length + 1) / 2) ++ odN l (t + 1) := by rw [odN_succ, elem _ (by omega), List.append_assoc]
    rw [this] at ho7
    exact ⟨⟨hb7, t + 1, rfl, by omega, ho7⟩, by simp only [intOf]; omega⟩
  have hte : t = l.length / 2 := by omega
  subst hte
  have hP := turn_perm l
  change Own MvE 47 W8 W3.heap.size a8 (turnV l) at ho8
  have hPok : ∀ m ∈ turnV l, m.Ok := fun m h => hm m (hP.mem_iff.1 h)
  have hPl := hP.length_eq
  generalize turnV l = P at *
  have hb08 := (hb03.then hb8).drew
  have hb18 := (hb13.then hb8).drew
  have ho8d := ho8.drew
  obtain ⟨W0, hW0⟩ : ∃ W0, W8.drew = W0 := ⟨_, rfl⟩
  rw [hW0] at hb08 hb18 ho8d ⊢
  have q2 : ∀ W, Below W0.heap.size W0 W → q_loadn 2 (.pointer (some ⟨w.heap.size, 0, none⟩)) W = some (.agg #[.int .i64 method, .int .i64 price]) := by
    intro W hW
    have := (blk_below (hb18.then hW) (lt_of_blk hk1)).trans hk1
    simp [this]
  have hrf := Below.refl W0.heap.size W0
  rw [q2 _ hrf, onSome_some, onSome_some]
  refine fill_ok (ht.below hb08) hp (hv.below hb08) hm (by omega) (fun he W11 hb11 => ?_) (fun he W11 x1 r1 hb11 hE1 => ?_)
  · refine ⟨q2 _ hb11, ?_⟩
    have hb011 := hb08.then hb11
    refine fill_ok (ht.below hb011) hp ((Rd.of_own ho8d).below hb11) hPok (by omega) (fun _ W12 hb12 => ?_) (fun he2 => absurd he2 he)
    simp [(nil50 _).1]
    exact lives _ (hb011.then hb12)
  refine ⟨q2 _ hb11, ?_⟩
  have hb011 := hb08.then hb11
  refine fill_ok (ht.below hb011) hp ((Rd.of_own ho8d).below hb11) hPok (by omega) (fun he2 => absurd he he2) (fun _ W12 x2 r2 hb12 hE2 => ?_)
  have hb012 := hb011.then hb12
  have hgood := good_nil (method := method) hp he
  have hgG := fillL_good l [] hgood hm (by simp; omega)
  have hgH := fillL_good P [] hgood hPok (by simp; omega)
  have hlG := fillL_len (method := method) (s0 := (startV method price).1) l []
  have hlH := fillL_len (method := method) (s0 := (startV method price).1) P []
  have haG := fillL_all (method := method) (s0 := (startV method price).1) l []
  have haH := fillL_all (method := method) (s0 := (startV method price).1) P []
  generalize fillL method (startV method price).1 [] l = G at *
  generalize fillL method (startV method price).1 [] P = H at *
  generalize (startV method price).1 = s0 at *
  simp only [List.length_nil, Nat.zero_add, List.map_nil, List.nil_append] at hlG hlH haG haH
  have hE12 := hE1.below hb12
  simp only [ptr, (nil50 _).1, Option.isNone_some, onSome_some, gateQ_false, gateL_false, Bool.false_eq_true, if_false, q_pick_bool, cond_false]
  refine eng_len hE12 ?_
  simp only [onSome_some, hl, q_neq, q_pick_bool, cond_false]
  by_cases hcG : G.length = l.length
  · have hcG' : (G.length : Int) = (l.length : Int) := by omega
    simp only [hcG', decide_true, Bool.not_true, gateQ_false, gateL_false, Bool.false_eq_true, if_false, onSome_some]
    refine eng_len hE2 ?_
    simp only [onSome_some, hl, q_neq, q_pick_bool, cond_false]
    by_cases hcH : H.length = l.length
    · have hcH' : (H.length : Int) = (l.length : Int) := by omega
      simp only [hcH', decide_true, Bool.not_true, xif_false]
      obtain ⟨pS, pG, pH, pC⟩ := turn_plain hgG hgH hal hP (haG (by omega)) (haH (by omega))
      refine moves_ok hE12 (by omega) (fun W16 v16 ho16 hb16 => ?_)
      refine order_ok (Rd.of_own ho16) (fun k h => hgG.seq h) (by omega) (fun W17 v17 ho17 hb17 => ?_)
      have hb1217 := hb16.then hb17
      refine moves_ok (hE2.below hb1217) (by omega) (fun W18 v18 ho18 hb18' => ?_)
      refine order_ok (Rd.of_own ho18) (fun k h => hgH.seq h) (by omega) (fun W19 v19 ho19 hb19 => ?_)
      have hb1719 := hb18'.then hb19
      have hb1219 := hb1217.then hb1719
      have hb019 := hb012.then hb1219
      have hE1f := hE12.below hb1219
      have hE2f := hE2.below hb1219
      have ho17f := ho17.below hb1719
      have hl17 := ho17f.len
      rw [pG] at hl17
      refine looping_i (OdI W19 l.length) (lenM l.length) ⟨⟨Below.refl _ _, 0, rfl, Nat.zero_le _⟩, ?_⟩
      rintro _ W ⟨hbW, i, rfl, hi⟩ _
      rw [hl17, onSome_some]
      simp only [q_lss, onSome_some]
      refine xif_dec (fun hlt2 => ?_) (fun hlt2 => ?_)
      · have h1 : i < (ordI G).length := by omega
        have h2 : i < (ordI H).length := by omega
        have e1 : IntKind.i64.wrap ((i : Int) + 1) = ((i + 1 : Nat) : Int) := by rw [wrap_i64 (by omega) (by omega)]; omega
        obtain ⟨pv, pc⟩ := pC i h1 h2
        have kG := cost_ord hgG h1
        have kH := cost_ord hgH h2
        obtain ⟨ad, hq, _, hc⟩ := mvElem (Rd.of_own (ho17f.below hbW)) h1
        have c0 : W.cell? (ad.add 0) = some (.int .i64 (ordI G)[i].seq) := hc 0 _ rfl
        rw [hq, onSome_some, q_faddr_ptr, onSome_some, q_load1_ptr, c0, onSome_some]
        refine eng_costc (hE1f.below hbW) (by omega) (fun W23 a13 hb23 hka _ => ?_)
        rw [kG] at hka
        obtain ⟨ad2, hq2, _, hc2⟩ := mvElem (Rd.of_own (ho19.below (hbW.then hb23))) h2
        have c02 : W23.cell? (ad2.add 0) = some (.int .i64 (ordI H)[i].seq) := hc2 0 _ rfl
        rw [hq2, onSome_some, q_faddr_ptr, onSome_some, q_load1_ptr, c02, onSome_some]
        refine eng_costc (hE2f.below (hbW.then hb23)) (by omega) (fun W26 b15 hb26 hkb _ => ?_)
        rw [kH] at hkb
        have hka' := (blk_below hb26 (lt_of_blk hka)).trans hka
        have hb26W := (hb23.then hb26).drew
        obtain ⟨ad3, hq3, _, hc3⟩ := mvElem (Rd.of_own ((ho17f.below hbW).below hb26W)) h1
        obtain ⟨ad4, hq4, _, hc4⟩ := mvElem (Rd.of_own ((ho19.below hbW).below hb26W)) h2
        have c13 : W26.drew.cell? (ad3.add 1) = some (.int .i64 (ordI G)[i].value) := hc3 1 _ rfl
        have c14 : W26.drew.cell? (ad4.add 1) = some (.int .i64 (ordI H)[i].value) := hc4 1 _ rfl
        have pq := pc.qty
        have pvv := pc.value
        have pr := pc.var
        rw [hq] at hq3
        injection hq3 with hq3
        injection hq3 with hq3
        injection hq3 with hq3
        subst hq3
        rw [hq2] at hq4
        injection hq4 with hq4
        injection hq4 with hq4
        injection hq4 with hq4
        subst hq4
        rw [onSome_some, q_faddr_ptr, onSome_some, q_load1_ptr, c13, onSome_some, onSome_some, q_faddr_ptr, onSome_some, q_load1_ptr, c14, onSome_some]
        simp [pv, hka', hkb, pq, pvv, pr]
        have e1' : IntKind.i64.wrap ((i : Int) + 1) = (i : Int) + 1 := by rw [wrap_i64 (by omega) (by omega)]
        rw [e1']
        exact ⟨⟨hbW.then hb26W, i + 1, by simp, by omega⟩, by simp only [lenM, intOf]; omega⟩
      · have hokG := hgG.lastOk
        have hokH := hgH.lastOk
        refine stock_ok (hE1f.below hbW) (hokG.up (by omega)) (fun W27 lv1 pv1 hl1 hp1 hb27 => ?_)
        refine stock_ok (hE2f.below (hbW.then hb27)) (hokH.up (by omega)) (fun W28 lv2 pv2 hl2 hp2 hb28 => ?_)
        have d1 := own_cells hl1
        have d2 := own_cells hp1
        have d3 := own_cells hl2
        have d4 := own_cells hp2
        have hb028 := hb019.then (hbW.then (hb27.then hb28))
        have sq := pS.qty
        have sv := pS.value
        generalize lastV method s0 G = S at *
        generalize lastV method s0 H = T at *
        rw [l_new_eq, l_new_eq]
        simp only [StV]
        have n1 : ¬ W28.heap.size = W28.heap.size + 1 := by omega
        have n2 : ¬ W28.heap.size + 1 = W28.heap.size := by omega
        have hbA := (hb028.alloc hb028.size (.cells #[.int .i64 0, .int .i64 0, .int .i64 0, .slice none 0 0, .slice none 0 0] 28))
        have hbB := hbA.alloc hbA.size (.cells #[.int .i64 0, .int .i64 0, .int .i64 0, .slice none 0 0, .slice none 0 0] 28)
        have hs := hb028.size
        have hbC := below_putL (below_putL hbB hs [.int .i64 S.qty, .int .i64 S.value, .int .i64 S.price, lv1, pv1] 0) (show w.heap.size ≤ W28.heap.size + 1 by omega) [.int .i64 T.qty, .int .i64 T.value, .int .i64 T.price, lv2, pv2] 0
        simp [d1.1, d1.2, d2.1, d2.2, d3.1, d3.2, d4.1, d4.2, n1, n2, sq, sv]
        rw [sq, sv] at hbC
        refine lives39_ok (ht.below hbC) _ (fun w4 hb4 => ?_)
        exact hK _ (hbC.then hb4)
    · have hcH' : ¬ (H.length : Int) = (l.length : Int) := by omega
      simp [hcH']
      exact lives _ hb012
  · have hcG' : ¬ (G.length : Int) = (l.length : Int) := by omega
    simp [hcG']
    exact lives _ hb012
end Go.X
