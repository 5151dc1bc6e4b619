/- TopRecost: trades, move, entered. -/
import Derived.Test.YtbglbbmlohfemaaGreatDoorC5
import Derived.Test.YtbglbbmlohfemaaGreatDoorTt
import Derived.Test.YtbglbbmlohfemaaGreatDoorB0
set_option linter.unusedVariables false
set_option linter.unusedSimpArgs false
namespace Go.X
open Go.Proofs Go.RowKit
theorem trSl : SlT Tryz.prog 48 56 3 24 (.agg #[.int .i64 0, .int .i64 0, .int .i64 0]) := ⟨by kernel_rfl, by kernel_rfl, rfl, by decide⟩
set_option maxRecDepth 20000 in
theorem app_tr {w : World} {B : Nat} {K : Value → World → Prop} {v x : Value} {l m : List Tr} (hs : Own TrE 56 w B v l) (hx : Rd TrE w x m) (hB : B ≤ w.heap.size) (hn : l.length + m.length ≤ 1000000)
    (hK : ∀ v' w', Own TrE 56 w' B v' (l ++ m) → w.grownBy w' v.ownBlock → K v' w') : l_append Tryz.prog #[48, 48] 48 v x w K :=
  append_ok (E := TrE) trSl hs hx hB (small_bytes hn (by decide)) (small_max hn) (fun v' w' h1 h2 _ => hK v' w' h1 h2)
theorem ne4b (a b : Bool) : q_eq Tryz.prog .neq 4 (.bool a) (.bool b) = some (.bool (a != b)) := (q_eq_bool bool4 a b).2
attribute [local irreducible] l_append l_copy l_make l_run l_runU q_slice q_eq q_index q_build onSome l_lit q_read
variable {w w' w'' : World} {B x : Nat} {r : Option Nat} {method : Int} {s0 : St} {L : List Mv} {m : Mv}
structure TrV (t : Tr) : Prop where
  day : 0 ≤ t.day ∧ t.day ≤ 109572
  qty : -1000 ≤ t.qty ∧ t.qty ≤ 1000 ∧ t.qty ≠ 0
  cost : 0 ≤ t.cost ∧ t.cost ≤ 1000000
theorem tr_load {v : Value} {l : List Tr} (h : Rd TrE w v l) {i : Nat} (hi : i < l.length) : ∃ ad, q_iaddr 3 v (.int .i64 (i : Int)) = some (.pointer (some ad)) ∧ ∀ w', Below w.heap.size w w' → q_loadn 3 (.pointer (some ad)) w' = some (.agg #[.int .i64 l[i].day, .int .i64 l[i].qty, .int .i64 l[i].cost]) ∧ w'.cell? (ad.add 0) = some (.int .i64 l[i].day) := by
  obtain ⟨ad, hq, _, _⟩ := h.elem hi .i64
  refine ⟨ad, hq, fun w' hb => ?_⟩
  obtain ⟨ad', hq', hload', hc⟩ := (h.below hb).elem hi .i64
  rw [hq] at hq'
  injection hq' with hq'
  injection hq' with hq'
  injection hq' with hq'
  rw [← hq'] at hload' hc
  exact ⟨hload', hc 0 _ rfl⟩
theorem var_tr {t : Tr} {W : World} {Q : Value → World → Prop} (hQ : ∀ W3, Below W.heap.size W W3 → X.blk W3 W.heap.size = some (.cells #[.int .i64 t.day, .int .i64 t.qty, .int .i64 t.cost] 56 (0, 0)) → W3.heap.size = W.heap.size + 1 → Q (.pointer (some ⟨W.heap.size, 0, none⟩)) W3) :
    l_new 56 #[.int .i64 0, .int .i64 0, .int .i64 0] W fun x W2 => l_store 3 x (.agg #[.int .i64 t.day, .int .i64 t.qty, .int .i64 t.cost]) W2 fun _ W3 => Q x W3 := by
  rw [l_new_eq, l_store_to (by simp), cells_agg]
  exact hQ _ (below_putL ((Below.refl _ _).alloc (Nat.le_refl _) _) (Nat.le_refl _) _ _) (by simp) (by simp)
theorem lit_tr {w0 W : World} {a : Value} {P : List Tr} {t : Tr} {Q : Value → World → Prop} (hW : Below w0.heap.size w0 W) (ho : Own TrE 56 W w0.heap.size a P) (hn : P.length ≤ 1000)
    (hQ : ∀ W' a', Below w0.heap.size w0 W' → Own TrE 56 W' w0.heap.size a' (P ++ [t]) → W.grownBy W' a.ownBlock → Q a' W') :
    l_lit 56 1 #[.int .i64 0, .int .i64 0, .int .i64 0] [(0, 3, .agg #[.int .i64 t.day, .int .i64 t.qty, .int .i64 t.cost])] W fun y W' => l_append Tryz.prog #[48, 48] 48 a y W' Q := by
  unfold l_lit
  rw [show fillC #[.int .i64 0, .int .i64 0, .int .i64 0] [(0, 3, .agg #[.int .i64 t.day, .int .i64 t.qty, .int .i64 t.cost])] = some (TrE.cells t).toArray by simp [TrE, Tr.cs], onSome_some]
  have hbL := hW.alloc hW.size (.cells (TrE.cells t).toArray 56)
  have hoL := ho.alloc (.cells (TrE.cells t).toArray 56)
  have hb2 := (Below.refl W.heap.size W).alloc (Nat.le_refl _) (.cells (TrE.cells t).toArray 56)
  refine app_tr hoL (Rd.new (E := TrE) (t := 56) (a := t) W (by decide)) hbL.size (by simp; omega) (fun v' W6 ho6 hg6 => ?_)
  exact hQ W6 v' (hbL.grown hg6 hbL.size (fun k hk => (hoL.lt k hk).1)) ho6 ⟨hg6.os.trans hb2.os, hg6.tape.trans hb2.tape, hg6.output.trans hb2.output, Nat.le_trans hb2.size hg6.size, fun k hk hne => (hg6.block k (Nat.lt_of_lt_of_le hk hb2.size) hne).trans (hb2.block k hk)⟩
/-! ### trades -/
/-- What is built, where the first k have been looked at. -/
def Mor (out : List Tr) (x : Tr) (k : Nat) (more : List Tr) (put : Bool) : Prop :=
  if put then ∃ p, p < k ∧ more = out.take p ++ x :: (out.take k).drop p ∧ (∀ j (h : j < out.length), j < p → out[j].day ≤ x.day) ∧ (∀ (h : p < out.length), x.day < out[p].day)
  else more = out.take k ∧ ∀ j (h : j < out.length), j < k → out[j].day ≤ x.day
def sameD (out : List Tr) (x : Tr) (k : Nat) : Bool := (out.take k).any fun t => decide (t.day = x.day)
theorem sameD_succ {out : List Tr} {x : Tr} {k : Nat} (h : k < out.length) : sameD out x (k + 1) = (sameD out x k || decide (out[k].day = x.day)) := by
  unfold sameD
  have etk : out.take (k + 1) = out.take k ++ [out[k]] := by rw [List.take_add_one, List.getElem?_eq_getElem h]; rfl
  rw [etk, List.any_append, List.any_cons, List.any_nil, Bool.or_false]
theorem sameD_no {out : List Tr} {x : Tr} (h : sameD out x out.length = false) : ∀ j (h : j < out.length), out[j].day ≠ x.day := by
  intro j hj e
  unfold sameD at h
  rw [List.take_length, List.any_eq_false] at h
  exact h _ (List.getElem_mem hj) (by simp [e])
/-- The list with the trade. -/
theorem mor_end {out more : List Tr} {x : Tr} {put : Bool} (hs : out.Pairwise (fun a b => a.day < b.day)) (h : Mor out x out.length more put) (hn : sameD out x out.length = false) :
    (if put then more else more ++ [x]).Pairwise (fun a b => a.day < b.day) ∧ (if put then more else more ++ [x]).length = out.length + 1 ∧ ∀ t ∈ (if put then more else more ++ [x]), t ∈ out ∨ t = x := by
  have hne := sameD_no hn
  unfold Mor at h
  cases put with
  | false =>
    simp only [Bool.false_eq_true, if_false] at h ⊢
    obtain ⟨rfl, hle⟩ := h
    rw [List.take_length]
    refine ⟨List.pairwise_append.2 ⟨hs, by simp, fun a ha b hb => ?_⟩, by simp, fun t ht => ?_⟩
    · rw [List.mem_singleton.1 hb]
      obtain ⟨j, hj, rfl⟩ := List.getElem_of_mem ha
      have := hle j hj hj
      have := hne j hj
      omega
    · rcases List.mem_append.1 ht with h | h
      · exact .inl h
      · exact .inr (List.mem_singleton.1 h)
  | true =>
    simp only [if_true] at h ⊢
    obtain ⟨p, hp, rfl, hle, hgt⟩ := h
    rw [List.take_length]
    have hgt := hgt hp
    have hsp : (out.take p ++ out.drop p).Pairwise (fun a b => a.day < b.day) := by rw [List.take_append_drop]; exact hs
    obtain ⟨p1, p2, p3⟩ := List.pairwise_append.1 hsp
    have hx2 : ∀ b ∈ out.drop p, x.day < b.day := by
      intro b hb
      obtain ⟨k, hk, rfl⟩ := List.getElem_of_mem hb
      rw [List.getElem_drop]
      rw [List.length_drop] at hk
      rcases Nat.eq_zero_or_pos k with h0 | h0
      · subst h0; exact hgt
      · have := List.pairwise_iff_getElem.1 hs p (p + k) hp (by omega) (by omega)
        omega
    have hx1 : ∀ a ∈ out.take p, a.day < x.day := by
      intro a ha
      obtain ⟨k, hk, rfl⟩ := List.getElem_of_mem ha
      rw [List.getElem_take]
      rw [List.length_take] at hk
      have h1 := hle k (by omega) (by omega)
      have h2 := hne k (by omega)
      omega
    refine ⟨List.pairwise_append.2 ⟨p1, List.pairwise_cons.2 ⟨hx2, p2⟩, fun a ha b hb => ?_⟩, by simp; omega, fun t ht => ?_⟩
    · rcases List.mem_cons.1 hb with rfl | hb
      · exact hx1 a ha
      · exact p3 a ha b hb
    · rcases List.mem_append.1 ht with h | h
      · exact .inl (List.mem_of_mem_take h)
      · rcases List.mem_cons.1 h with h | h
        · exact .inr h
        · exact .inl (List.mem_of_mem_drop h)
def TrdI (w0 : World) (n : Nat) (a v : Value) (W : World) : Prop :=
  Below w0.heap.size w0 W ∧ ∃ (i : Nat) (out : List Tr), v = .int .i64 i ∧ i ≤ n ∧ i ≤ 24 ∧ Own TrE 56 W w0.heap.size a out ∧ out.length ≤ i ∧ (∀ t ∈ out, TrV t) ∧ out.Pairwise (fun a b => a.day < b.day)
def MorI (w0 W3 : World) (xb : Nat) (out : List Tr) (ov : Value) (t : Tr) (a p s k : Value) (W : World) : Prop :=
  Below W3.heap.size W3 W ∧ ∃ (i : Nat) (more : List Tr) (put : Bool), k = .int .i64 i ∧ i ≤ out.length ∧ p = .bool put ∧ s = .bool (sameD out t i) ∧ Own TrE 56 W W3.heap.size a more ∧ Mor out t i more put
def MorJ (W3 : World) (out : List Tr) (t : Tr) (k : Nat) (a p : Value) (W : World) : Prop :=
  Below W3.heap.size W3 W ∧ ∃ (more : List Tr) (put : Bool), p = .bool put ∧ Own TrE 56 W W3.heap.size a more ∧ more.length ≤ out.length + 1 ∧ ∀ (h : k < out.length), Mor out t (k + 1) (more ++ [out[k]]) put
def MorE (W3 : World) (out : List Tr) (more : List Tr) (put : Bool) (t : Tr) (a : Value) (W : World) : Prop :=
  Below W3.heap.size W3 W ∧ Own TrE 56 W W3.heap.size a (if put then more else more ++ [t])
theorem mor_len {out more : List Tr} {t : Tr} {k : Nat} {put : Bool} (hk : k ≤ out.length) (h : Mor out t k more put) : more.length ≤ k + 1 := by
  unfold Mor at h
  cases put with
  | false => simp only [Bool.false_eq_true, if_false] at h; rw [h.1, List.length_take]; omega
  | true =>
    simp only [if_true] at h
    obtain ⟨p, hp, rfl, _⟩ := h
    simp [List.length_take]; omega
theorem trades_ok {v : Value} {l : List Tr} (hv : Rd TrE w v l) (hm : ∀ t ∈ l, t.Ok) {K : Value → World → Prop} (hK : ∀ w' v' out, Own TrE 56 w' w.heap.size v' out → (∀ t ∈ out, TrV t) → out.Pairwise (fun a b => a.day < b.day) → out.length ≤ 24 → Below w.heap.size w w' → K v' w') : Ret Tryz.prog 28 [v] w K := by
  obtain ⟨_, _, _, hm1⟩ := hv.slice
  have hmx' : (maxLen : Int) ≤ 9223372036854775807 := by decide
  refine lift28 ?_
  unfold L28
  refine looping_i (TrdI w l.length) (fun _ v _ => 24 - (intOf v).toNat) ⟨⟨Below.refl _ _, 0, [], rfl, Nat.zero_le _, by decide, Own.nil _ _ _ _, Nat.le_refl _, by simp, List.Pairwise.nil⟩, ?_⟩
  rintro ov _ W ⟨hbW, i, out, rfl, hi, hi24, ho, hol, hva, hsr⟩ _
  rw [hv.len, onSome_some]
  simp only [q_lss, onSome_some]
  have done : K ov W := hK W ov out ho hva hsr (by omega) hbW
  by_cases hltn : ¬ (i : Int) < (l.length : Int)
  · rw [decide_eq_false hltn]
    simp
    exact done
  have hlt : (i : Int) < (l.length : Int) := by omega
  rw [decide_eq_true hlt]
  by_cases hltn24 : ¬ (i : Int) < 24
  · simp [hltn24]
    exact done
  have hlt24 : (i : Int) < 24 := by omega
  have h1 : i < l.length := by omega
  have e1 : IntKind.i64.wrap ((i : Int) + 1) = ((i + 1 : Nat) : Int) := by rw [wrap_i64 (by omega) (by omega)]; omega
  obtain ⟨ad, hq, hload⟩ := tr_load (hv.below hbW) h1
  have hti := hm _ (List.getElem_mem h1)
  generalize l[i] = t at *
  simp only [gateQ_true, if_true, onSome_some, q_lss, decide_eq_true hlt24, q_pick_bool, cond_true, xif_true]
  rw [hq, onSome_some, (hload _ (Below.refl _ _)).1, onSome_some]
  refine var_tr (t := t) (fun W3 hb3 hk3 hs3 => ?_)
  have hb03 := hbW.then hb3
  have ho3 := ho.below hb3
  have skip : ((fun W => onSome (q_bin .add (.int .i64 (i : Int)) (.int .i64 1)) fun t19 => TrdI w l.length ov t19 W ∧ 24 - (intOf t19).toNat < 24 - (intOf (.int .i64 (i : Int))).toNat) W3) := by
    simp only [q_add, onSome_some, e1]
    exact ⟨⟨hb03, i + 1, out, rfl, by omega, by omega, ho3, by omega, hva, hsr⟩, by simp only [intOf]; omega⟩
  by_cases c1 : t.day < 0
  · simp [hk3, c1]; simpa using skip
  by_cases c2 : 109572 < t.day
  · simp [hk3, c1, c2]; simpa using skip
  by_cases c3 : t.qty = 0
  · simp [hk3, c1, c2, c3]; simpa using skip
  by_cases c4 : 1000 < t.qty
  · simp [hk3, c1, c2, c3, c4]; simpa using skip
  by_cases c5 : t.qty < -1000
  · simp [hk3, c1, c2, c3, c4, c5]; simpa using skip
  by_cases c6 : t.cost < 0
  · simp [hk3, c1, c2, c3, c4, c5, c6]; simpa using skip
  by_cases c7 : 1000000 < t.cost
  · simp [hk3, c1, c2, c3, c4, c5, c6, c7]; simpa using skip
  have hTV : TrV t := ⟨⟨by omega, by omega⟩, ⟨by omega, by omega, c3⟩, ⟨by omega, by omega⟩⟩
  simp [hk3, c1, c2, c3, c4, c5, c6, c7]
  have hol24 : out.length ≤ 24 := by omega
  refine looping_i (MorI w W3 W.heap.size out ov t) (fun _ _ _ k _ => out.length - (intOf k).toNat) ⟨⟨Below.refl _ _, 0, [], false, rfl, Nat.zero_le _, rfl, rfl, Own.nil _ _ _ _, by unfold Mor; simp⟩, ?_⟩
  rintro more6 _ _ _ W4 ⟨hb4, k, more, put, rfl, hk, rfl, rfl, hom, hmor⟩
  have ho4 := ho3.below hb4
  have hk34 := (blk_below hb4 (lt_of_blk hk3)).trans hk3
  have hml := mor_len hk hmor
  rw [ho3.len, onSome_some]
  simp only [q_lss, onSome_some]
  refine xif_dec (fun hltk => ?_) (fun hltk => ?_)
  · have hk1 : k < out.length := by omega
    have ek : IntKind.i64.wrap ((k : Int) + 1) = ((k + 1 : Nat) : Int) := by rw [wrap_i64 (by omega) (by omega)]; omega
    have hss := sameD_succ (x := t) hk1
    obtain ⟨ado, hqo, hloado⟩ := tr_load (Rd.of_own ho4) hk1
    have co := fun W' hW' => (hloado W' hW').2
    have lo := fun W' hW' => (hloado W' hW').1
    have etk : out.take (k + 1) = out.take k ++ [out[k]] := by rw [List.take_add_one, List.getElem?_eq_getElem hk1]; rfl
    have hxd : q_load1 (.pointer (some ⟨W.heap.size, 0, none⟩)) W4.drew.drew = some (.int .i64 t.day) := by simp [hk34]
    have hxd1 : q_load1 (.pointer (some ⟨W.heap.size, 0, none⟩)) W4.drew = some (.int .i64 t.day) := by simp [hk34]
    have hxl : loadO 3 (X.blk W4 W.heap.size) 0 = some (.agg #[.int .i64 t.day, .int .i64 t.qty, .int .i64 t.cost]) := by simp [hk34]
    have b4d : Below W4.heap.size W4 W4.drew := (Below.refl _ _).drew
    have b4dd : Below W4.heap.size W4 W4.drew.drew := b4d.drew
    have hb4dd := hb4.drew.drew
    have homdd := hom.drew.drew
    have rest : (joining fun (J : Value → Value → World → Prop) => (onSome (q_un .not (.bool put)) fun t75 => onSome (gateQ true t75 (some (.pointer (some ⟨W.heap.size, 0, none⟩)))) fun t77 => onSome (gateQ true t75 (q_load1 t77 W4.drew.drew)) fun t78 =>
        onSome (gateQ true t75 (some ov)) fun t79 => onSome (gateQ true t75 (some (.int .i64 (k : Int)))) fun t80 => onSome (gateQ true t75 (q_iaddr 3 t79 t80)) fun t81 => onSome (gateQ true t75 (q_faddr 0 t81)) fun t82 =>
        onSome (gateQ true t75 (q_load1 t82 W4.drew.drew)) fun t83 => onSome (gateQ true t75 (q_bin .lss t78 t83)) fun t84 => onSome (q_pick t75 t84 (.bool false)) fun t85 =>
        xif t85
        (onSome (loadO 3 (X.blk W4 W.heap.size) 0) fun t87 => l_lit 56 1 #[.int .i64 0, .int .i64 0, .int .i64 0] [(0, 3, t87)] W4.drew.drew fun t88 W5 => l_append Tryz.prog #[48, 48] 48 more6 t88 W5 fun t89 W6 => J t89 (.bool true) W6)
        (J more6 (.bool put) W4.drew.drew)) ∧
        ∀ (more6_1 put7_1 : Value) (W7 : World), J more6_1 put7_1 W7 → onSome (q_iaddr 3 ov (.int .i64 (k : Int))) fun t93 => onSome (q_loadn 3 t93 W7) fun t94 => l_lit 56 1 #[.int .i64 0, .int .i64 0, .int .i64 0] [(0, 3, t94)] W7 fun t95 W8 =>
        l_append Tryz.prog #[48, 48] 48 more6_1 t95 W8 fun t96 W9 => onSome (q_bin .add (.int .i64 (k : Int)) (.int .i64 1)) fun t62 =>
        MorI w W3 W.heap.size out ov t t96 put7_1 (.bool (sameD out t (k + 1))) t62 W9 ∧ out.length - (intOf t62).toNat < out.length - (intOf (.int .i64 (k : Int))).toNat) := by
      refine joining_i (MorJ W3 out t k) ⟨?_, ?_⟩
      · cases put with
        | true =>
          simp
          refine ⟨hb4dd, more, true, rfl, homdd, by omega, fun _ => ?_⟩
          unfold Mor at hmor ⊢
          simp only [if_true] at hmor ⊢
          obtain ⟨p, hp, rfl, h1, h2⟩ := hmor
          refine ⟨p, by omega, ?_, h1, h2⟩
          rw [etk, List.drop_append_of_le_length (by rw [List.length_take]; omega)]
          simp
        | false =>
          unfold Mor at hmor
          simp only [Bool.false_eq_true, if_false] at hmor
          simp only [q_not, Bool.not_false, onSome_some, gateQ_true, if_true, hxd, hqo, q_faddr_ptr, q_load1_ptr, co _ b4dd, q_lss, q_pick_bool, cond_true]
          refine xif_dec (fun hd => ?_) (fun hd => ?_)
          · rw [hxl, onSome_some]
            refine lit_tr hb4dd homdd (by omega) (fun W6 a6 hb6 ho6 _ => ?_)
            refine ⟨hb6, more ++ [t], true, rfl, ho6, ?_, fun _ => ?_⟩
            · rw [hmor.1]; simp [List.length_take]; omega
            · unfold Mor
              simp only [if_true]
              refine ⟨k, by omega, ?_, hmor.2, fun _ => hd⟩
              rw [etk, hmor.1, List.drop_append_of_le_length (by rw [List.length_take]; omega), List.drop_of_length_le (by rw [List.length_take]; omega)]
              simp
          · refine ⟨hb4dd, more, false, rfl, homdd, by omega, fun _ => ?_⟩
            unfold Mor
            simp only [Bool.false_eq_true, if_false]
            refine ⟨by rw [etk, hmor.1], fun j hj hjk => ?_⟩
            rcases Nat.lt_or_ge j k with h | h
            · exact hmor.2 j hj h
            · have : j = k := by omega
              subst this; omega
      · rintro m1 _ W7 ⟨hb7, more1, put1, rfl, ho7, hl7, hmor1⟩
        have hmor1 := hmor1 hk1
        obtain ⟨ad7, hq7, hload7⟩ := tr_load (Rd.of_own (ho3.below hb7)) hk1
        rw [hq7, onSome_some, (hload7 _ (Below.refl _ _)).1, onSome_some]
        refine lit_tr hb7 ho7 (by omega) (fun W9 a9 hb9 ho9 _ => ?_)
        simp only [q_add, onSome_some, ek]
        exact ⟨⟨hb9, k + 1, more1 ++ [out[k]], put1, rfl, by omega, rfl, rfl, ho9, hmor1⟩, by simp only [intOf]; omega⟩
    cases hsd : sameD out t k with
    | true =>
      rw [hsd] at hss
      simp only [Bool.true_or] at hss
      rw [hss] at rest
      simp only [gateQ_true, Bool.false_eq_true, if_false, onSome_some, q_pick_bool, cond_true]
      exact rest
    | false =>
      rw [hsd] at hss
      simp only [Bool.false_or] at hss
      rw [hss] at rest
      simp only [gateQ_false, Bool.false_eq_true, if_false, onSome_some, q_pick_bool, cond_false, hqo, q_faddr_ptr, q_load1_ptr, co _ b4d]
      simp only [q_load1_ptr] at hxd1
      rw [hxd1, onSome_some, q_eql, onSome_some]
      simpa [hqo] using rest
  · have hke : k = out.length := by omega
    subst hke
    have hxl : loadO 3 (X.blk W4 W.heap.size) 0 = some (.agg #[.int .i64 t.day, .int .i64 t.qty, .int .i64 t.cost]) := by simp [hk34]
    rw [show IntKind.i64.wrap ((i : Int) + 1) = ((i + 1 : Nat) : Int) from e1]
    refine joining_i (MorE W3 out more put t) ⟨?_, ?_⟩
    · cases put with
      | true =>
        simp
        exact ⟨hb4, by simpa using hom⟩
      | false =>
        simp only [q_not, Bool.not_false, onSome_some, xif_true, hxl]
        refine lit_tr hb4 hom (by omega) (fun W6 a6 hb6 ho6 _ => ?_)
        exact ⟨hb6, by simpa using ho6⟩
    · rintro m2 W12 ⟨hb12, ho12⟩
      have hb012 := hb03.then hb12
      cases hsd : sameD out t out.length with
      | true =>
        simp only [q_not, Bool.not_true, onSome_some, xif_false]
        exact ⟨⟨hb012, i + 1, out, rfl, by omega, by omega, ho3.below hb12, by omega, hva, hsr⟩, by simp only [intOf]; omega⟩
      | false =>
        simp only [q_not, Bool.not_false, onSome_some, xif_true]
        obtain ⟨m1, m2', m3⟩ := mor_end hsr hmor hsd
        refine ⟨⟨hb012, i + 1, _, rfl, by omega, by omega, ho12.lower hb03.size, by rw [m2']; omega, fun y hy => ?_, m1⟩, by simp only [intOf]; omega⟩
        rcases m3 y hy with h | h
        · exact hva y h
        · rw [h]; exact hTV
end Go.X
