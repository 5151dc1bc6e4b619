/- Recosting: an engine, Add. -/
import Derived.Test.YtbglbbmlohfemaaGreatDoorC2
import Derived.Test.YtbglbbmlohfemaaGreatDoorC4
section
set_option linter.unusedVariables false
set_option linter.unusedSimpArgs false
namespace Go.X
open Go.Proofs Go.RowKit
attribute [local irreducible] l_append l_copy l_make l_run l_runU q_slice q_eq q_index q_build onSome l_lit q_read
variable {w w' : World} {B x : Nat} {r : Option Nat} {method : Int} {s0 : St} {L : List Mv}
theorem u50 : Tryz.prog.underlying 50 = some (.pointer 109) := by kernel_rfl
theorem nil50 (a : Option Addr) : q_eq Tryz.prog .eql 50 (.pointer a) (.pointer none) = some (.bool a.isNone) ∧ q_eq Tryz.prog .neq 50 (.pointer a) (.pointer none) = some (.bool a.isSome) := q_eq_ptr u50 a
/-- An engine that has accepted these movements. -/
def HasE (w : World) (B x : Nat) (r : Option Nat) (method : Int) (s0 : St) (L : List Mv) : Prop := ∃ mv cv ov kv lv pv ks, cv.ownBlock = r ∧ EX w B x (engV method s0 L) mv cv ov kv lv pv ks
theorem HasE.below (h : HasE w B x r method s0 L) (hb : Below w.heap.size w w') : HasE w' B x r method s0 L := by
  obtain ⟨mv, cv, ov, kv, lv, pv, ks, hrow, h⟩ := h
  exact ⟨mv, cv, ov, kv, lv, pv, ks, hrow, h.below hb⟩
theorem HasE.size (h : HasE w B x r method s0 L) : B ≤ w.heap.size := by
  obtain ⟨mv, cv, ov, kv, lv, pv, ks, hrow, h⟩ := h
  exact h.size
theorem EX.lower {e : Eng} {mv cv ov kv lv pv : Value} {ks : List Kp} {B' : Nat} (h : EX w B x e mv cv ov kv lv pv ks) (hb : B' ≤ B) : EX w B' x e mv cv ov kv lv pv ks :=
  ⟨Nat.le_trans hb h.le, h.blk, h.mv.lower hb, h.co.lower hb, h.ov.lower hb, h.kv.lower hb, ⟨h.ks.1, fun i k s hk hs => by
    have := h.ks.2 i k s hk hs
    exact ⟨this.qty, this.value, this.price, this.ly.lower hb, this.pa.lower hb⟩⟩, h.ly.lower hb, h.pa.lower hb⟩
theorem HasE.lower {B' : Nat} (h : HasE w B x r method s0 L) (hb : B' ≤ B) : HasE w B' x r method s0 L := by
  obtain ⟨mv, cv, ov, kv, lv, pv, ks, hrow, h⟩ := h
  exact ⟨mv, cv, ov, kv, lv, pv, ks, hrow, h.lower hb⟩
/-! ### Variables of a block -/
theorem var_mv {m : Mv} {W : World} {Q : Value → World → Prop} (hQ : ∀ W3, Below W.heap.size W W3 → X.blk W3 W.heap.size = some (.cells m.cs 47 (0, 0)) → W3.heap.size = W.heap.size + 1 → Q (.pointer (some ⟨W.heap.size, 0, none⟩)) W3) :
    l_new 47 #[.int .i64 0, .int .i64 0, .string ⟨#[]⟩, .int .i64 0, .int .i64 0, .int .i64 0, .string ⟨#[]⟩, .int .i64 0] W fun m7 W2 => l_store 8 m7 (.agg #[.int .i64 m.seq, .int .i64 m.value, .string m.item, .int .i64 m.kind, .int .i64 m.qty, .int .i64 m.cost, .string m.lot, .int .i64 m.ref]) W2 fun _ W3 => Q m7 W3 := by
  rw [l_new_eq, l_store_to (by simp), cells_agg]
  exact hQ _ (below_putL ((Below.refl _ _).alloc (Nat.le_refl _) _) (Nat.le_refl _) _ _) (by simp [Mv.cs]) (by simp)
theorem var_co {c : Co} {W : World} {Q : Value → World → Prop} (hQ : ∀ W3, Below W.heap.size W W3 → X.blk W3 W.heap.size = some (.cells #[.int .i64 c.seq, .int .i64 c.qty, .int .i64 c.value, .int .i64 c.var] 43 (0, 0)) → W3.heap.size = W.heap.size + 1 → Q (.pointer (some ⟨W.heap.size, 0, none⟩)) W3) :
    l_new 43 #[.int .i64 0, .int .i64 0, .int .i64 0, .int .i64 0] W fun x W2 => l_store 4 x (.agg #[.int .i64 c.seq, .int .i64 c.qty, .int .i64 c.value, .int .i64 c.var]) W2 fun _ W3 => Q x W3 := by
  rw [l_new_eq, l_store_to (by simp), cells_agg]
  exact hQ _ (below_putL ((Below.refl _ _).alloc (Nat.le_refl _) _) (Nat.le_refl _) _ _) (by simp) (by simp)
theorem co_load {v : Value} {l : List Co} (h : Rd CoE w v l) {i : Nat} (hi : i < l.length) : ∃ ad, q_iaddr 4 v (.int .i64 (i : Int)) = some (.pointer (some ad)) ∧ ∀ w', Below w.heap.size w w' → q_loadn 4 (.pointer (some ad)) w' = some (.agg #[.int .i64 l[i].seq, .int .i64 l[i].qty, .int .i64 l[i].value, .int .i64 l[i].var]) ∧
    w'.cell? (ad.add 1) = some (.int .i64 l[i].qty) ∧ w'.cell? (ad.add 2) = some (.int .i64 l[i].value) ∧ w'.cell? (ad.add 3) = some (.int .i64 l[i].var) := by
  obtain ⟨ad, hq, _, _⟩ := h.elem hi .i64
  refine ⟨ad, hq, fun w' hb => ?_⟩
  obtain ⟨ad', hq', hload', hc⟩ := (h.below hb).elem hi .i64
  rw [hq] at hq'
  injection hq' with hq'
  injection hq' with hq'
  injection hq' with hq'
  rw [← hq'] at hload' hc
  exact ⟨hload', hc 1 _ rfl, hc 2 _ rfl, hc 3 _ rfl⟩
/-! ### What an engine answers -/
/-! ### The sums up to a day -/
def AtI (w0 : World) (L : List Mv) (C : List Co) (day : Int) (a b v : Value) (W : World) : Prop :=
  Below w0.heap.size w0 W ∧ ∃ i : Nat, v = .int .i64 i ∧ i ≤ L.length ∧ a = .int .i64 (IntKind.i64.wrap (atS Co.qty (L.take i) (C.take i) day)) ∧ b = .int .i64 (IntKind.i64.wrap (atS Co.value (L.take i) (C.take i) day))
theorem zip_take_succ {α β : Type} {l : List α} {k : List β} {i : Nat} (h1 : i < l.length) (h2 : i < k.length) : (l.take (i + 1)).zip (k.take (i + 1)) = (l.take i).zip (k.take i) ++ [(l[i], k[i])] := by
  rw [List.take_add_one, List.take_add_one, List.getElem?_eq_getElem h1, List.getElem?_eq_getElem h2]
  simp only [Option.toList_some]
  rw [List.zip_append (by simp; omega)]
  rfl
theorem atS_succ {f : Co → Int} {L : List Mv} {C : List Co} {day : Int} {i : Nat} (h1 : i < L.length) (h2 : i < C.length) : atS f (L.take (i + 1)) (C.take (i + 1)) day = atS f (L.take i) (C.take i) day + (if L[i].value ≤ day then f C[i] else 0) := by
  unfold atS
  rw [zip_take_succ h1 h2, tsum_append]
  simp only [tsum, Int.add_zero]
theorem at_ok (h : HasE w B x r method s0 L) (hl : L.length ≤ 1000000) {day : Int} {K : Value → World → Prop}
    (hK : ∀ w', Below w.heap.size w w' → K (.tuple #[.int .i64 (atV Co.qty method s0 L day), .int .i64 (atV Co.value method s0 L day)]) w') : Ret Tryz.prog 30 [ptr x, .int .i64 day] w K := by
  obtain ⟨mv, cv, ov, kv, lv, pv, ks, hrow, h⟩ := h
  refine lift30 ?_
  unfold L30 ptr
  rw [(nil50 _).1, onSome_some]
  simp only [Option.isNone_some, xif_false]
  have hlen := (Rd.of_own h.mv).len
  have hLe : (engV method s0 L).L = L := rfl
  have hCe : (engV method s0 L).C = cosV method s0 L := rfl
  rw [hLe] at hlen
  simp only [q_nil_ptr, onSome_some, q_faddr_ptr, addr_add, q_load1_ptr, cell_mk, h.blk, cellO_cells, Nat.zero_add, List.getElem?_toArray, List.getElem?_cons_succ, List.getElem?_cons_zero, hlen]
  have hcl := cosV_len method s0 L
  refine looping_i (AtI w L (cosV method s0 L) day) (fun _ _ v _ => L.length - (intOf v).toNat) ⟨⟨Below.refl _ _, 0, rfl, Nat.zero_le _, rfl, rfl⟩, ?_⟩
  rintro _ _ _ W ⟨hbW, i, rfl, hi, rfl, rfl⟩ _
  simp only [q_lss, onSome_some]
  refine xif_dec (fun hlt => ?_) (fun hlt => ?_)
  · have hi1 : i < L.length := by omega
    have hi2 : i < (cosV method s0 L).length := by omega
    have hW := h.below hbW
    obtain ⟨ad, hq, hload⟩ := mv_load (Rd.of_own hW.mv) (i := i) hi1
    rw [hq, onSome_some, hload _ (Below.refl _ _), onSome_some]
    refine var_mv (m := L[i]) (fun W3 hb3 hk3 _ => ?_)
    have hb03 := hbW.then hb3
    have h3 := h.below hb03
    obtain ⟨ad2, hq2, hload2⟩ := co_load (Rd.of_own h3.co) (i := i) hi2
    obtain ⟨_, c1, c2, _⟩ := hload2 _ (Below.refl _ _)
    have e1 : IntKind.i64.wrap ((i : Int) + 1) = ((i + 1 : Nat) : Int) := by rw [wrap_i64 (by omega) (by omega)]; omega
    have sq := atS_succ (f := Co.qty) (day := day) hi1 hi2
    have sv := atS_succ (f := Co.value) (day := day) hi1 hi2
    simp only [Mv.cs] at hk3
    simp [hk3]
    refine xif_dec (fun hd => ?_) (fun hd => ?_)
    · simp only [h3.blk, cellO_cells, List.getElem?_toArray, List.getElem?_cons_succ, List.getElem?_cons_zero, onSome_some]
      rw [hq2, onSome_some, q_faddr_ptr, onSome_some, q_load1_ptr, c1, onSome_some, q_add, onSome_some]
      simp [h3.blk]
      rw [c2, onSome_some, q_add, onSome_some]
      simp only [e1]
      rw [if_pos hd] at sq sv
      refine ⟨⟨hb03, i + 1, rfl, by omega, ?_, ?_⟩, by simp only [intOf]; omega⟩
      · rw [wrap_add, sq]; rfl
      · rw [wrap_add, sv]; rfl
    · simp only [q_add, onSome_some, e1]
      rw [if_neg hd, Int.add_zero] at sq sv
      exact ⟨⟨hb03, i + 1, rfl, by omega, by rw [sq], by rw [sv]⟩, by simp only [intOf]; omega⟩
  · have hie : i = L.length := by omega
    subst hie
    have := hK W hbW
    unfold atV at this
    rw [List.take_length, List.take_of_length_le (by omega)]
    exact this
end Go.X
end
section
set_option linter.unusedVariables false
set_option linter.unusedSimpArgs false
namespace Go.X
open Go.Proofs Go.RowKit
def AdE : Enc Ad := { sz := 3, cells := Ad.cs, len := fun _ => rfl, one := by intro a v hv; simp [Ad.cs] at hv; rcases hv with rfl | rfl | rfl <;> rfl }
theorem adSl : SlT Tryz.prog 68 72 3 24 (.agg #[.int .i64 0, .int .i64 0, .int .i64 0]) := ⟨by kernel_rfl, by kernel_rfl, rfl, by decide⟩
set_option maxRecDepth 20000 in
theorem app_ad {w : World} {B : Nat} {K : Value → World → Prop} {v x : Value} {l m : List Ad} (hs : Own AdE 72 w B v l) (hx : Rd AdE w x m) (hB : B ≤ w.heap.size) (hn : l.length + m.length ≤ 1000000)
    (hK : ∀ v' w', Own AdE 72 w' B v' (l ++ m) → w.grownBy w' v.ownBlock → K v' w') : l_append Tryz.prog #[68, 68] 68 v x w K :=
  append_ok (E := AdE) adSl hs hx hB (small_bytes hn (by decide)) (small_max hn) (fun v' w' h1 h2 _ => hK v' w' h1 h2)
attribute [local irreducible] l_append l_copy l_make l_run l_runU q_slice q_eq q_index q_build onSome l_lit q_read
variable {w w' : World} {B x : Nat} {r : Option Nat} {method : Int} {s0 : St} {L : List Mv}
theorem new_ok {method price : Int} (hp : I64 price) {K : Value → World → Prop}
    (hK1 : (startV method price).2 ≠ 0 → ∀ w', Below w.heap.size w w' → K (.tuple #[.pointer none, .int .i64 (startV method price).2]) w')
    (hK2 : (startV method price).2 = 0 → ∀ w' x, Below w.heap.size w w' → w.heap.size ≤ x → HasE w' w.heap.size x none method (startV method price).1 [] → K (.tuple #[ptr x, .int .i64 0]) w') :
    Ret Tryz.prog 37 [.int .i64 method, .int .i64 price] w K := by
  refine lift37 ?_
  unfold L37
  refine start_ok' _ (fun W1 hb1 => ?_)
  have hly : (startV method price).1.layers = [] ∧ (startV method price).1.past = [] := by
    unfold startV; split; exact ⟨rfl, rfl⟩; split; exact ⟨rfl, rfl⟩; split <;> exact ⟨rfl, rfl⟩
  obtain ⟨S, hS⟩ : ∃ S, S = startV method price := ⟨_, rfl⟩
  unfold startR
  rw [← hS] at hK1 hK2 hly ⊢
  simp only [q_extract_tuple, StV, nilV]
  simp only [List.getElem?_toArray, List.getElem?_cons_succ, List.getElem?_cons_zero, onSome_some]
  rw [l_new_eq]
  have hb2 := hb1.alloc hb1.size (.cells #[.int .i64 0, .int .i64 0, .int .i64 0, .slice none 0 0, .slice none 0 0] 28)
  have hk2 := new_blk W1 (.cells #[.int .i64 0, .int .i64 0, .int .i64 0, .slice none 0 0, .slice none 0 0] 28) _ rfl
  generalize W1.alloc (.cells #[.int .i64 0, .int .i64 0, .int .i64 0, .slice none 0 0, .slice none 0 0] 28) = W2 at *
  rw [l_store_to (by rw [cells_agg, hk2]; simp), cells_agg]
  have hb3 := below_putL hb2 hb1.size [.int .i64 S.1.qty, .int .i64 S.1.value, .int .i64 S.1.price, .slice none 0 0, .slice none 0 0] 0
  have hk3 : X.blk (X.putL W2 W1.heap.size 0 [.int .i64 S.1.qty, .int .i64 S.1.value, .int .i64 S.1.price, .slice none 0 0, .slice none 0 0]) W1.heap.size = some (.cells #[.int .i64 S.1.qty, .int .i64 S.1.value, .int .i64 S.1.price, .slice none 0 0, .slice none 0 0] 28 (0, 0)) := by simp [hk2]
  simp only [Array.toList] at hb3 hk3 ⊢
  generalize X.putL W2 W1.heap.size 0 [.int .i64 S.1.qty, .int .i64 S.1.value, .int .i64 S.1.price, .slice none 0 0, .slice none 0 0] = W3 at *
  simp only [q_neq, onSome_some]
  refine xif_ndec (fun he => hK1 he _ hb3) (fun he => ?_)
  have he' : S.2 = 0 := by simpa using he
  have e5 : q_loadn 5 (.pointer (some ⟨W1.heap.size, 0, none⟩)) W3 = some (.agg #[.int .i64 S.1.qty, .int .i64 S.1.value, .int .i64 S.1.price, .slice none 0 0, .slice none 0 0]) := by simp [hk3]
  rw [e5, onSome_some]
  unfold l_lit
  rw [show fillC #[.int .i64 0, .int .i64 0, .int .i64 0, .slice none 0 0, .slice none 0 0] [(0, 5, .agg #[.int .i64 S.1.qty, .int .i64 S.1.value, .int .i64 S.1.price, .slice none 0 0, .slice none 0 0])] = some #[.int .i64 S.1.qty, .int .i64 S.1.value, .int .i64 S.1.price, .slice none 0 0, .slice none 0 0] by simp, onSome_some]
  have hA := (Below.refl W3.heap.size W3).alloc (Nat.le_refl _) (.cells #[.int .i64 S.1.qty, .int .i64 S.1.value, .int .i64 S.1.price, .slice none 0 0, .slice none 0 0] 28)
  have hkA := new_blk W3 (.cells #[.int .i64 S.1.qty, .int .i64 S.1.value, .int .i64 S.1.price, .slice none 0 0, .slice none 0 0] 28) _ rfl
  have hsA : (W3.alloc (.cells #[.int .i64 S.1.qty, .int .i64 S.1.value, .int .i64 S.1.price, .slice none 0 0, .slice none 0 0] 28)).heap.size = W3.heap.size + 1 := by simp
  generalize W3.alloc (.cells #[.int .i64 S.1.qty, .int .i64 S.1.value, .int .i64 S.1.price, .slice none 0 0, .slice none 0 0] 28) = W4 at *
  have hk4 := (blk_below hA (lt_of_blk hk3)).trans hk3
  have e6 : q_loadn 5 (.pointer (some ⟨W1.heap.size, 0, none⟩)) W4 = some (.agg #[.int .i64 S.1.qty, .int .i64 S.1.value, .int .i64 S.1.price, .slice none 0 0, .slice none 0 0]) := by simp [hk4]
  dsimp only
  rw [e6, onSome_some, build_of (cs := #[.int .i64 method, .slice none 0 0, .slice none 0 0, .slice none 0 0, .slice (some ⟨W3.heap.size, 0, none⟩) 1 1, .int .i64 S.1.qty, .int .i64 S.1.value, .int .i64 S.1.price, .slice none 0 0, .slice none 0 0]) (by simp), onSome_some, l_new_eq]
  have hb4 := hb3.then hA
  have hb5 := hb4.alloc hb4.size (.cells #[.int .i64 method, .slice none 0 0, .slice none 0 0, .slice none 0 0, .slice (some ⟨W3.heap.size, 0, none⟩) 1 1, .int .i64 S.1.qty, .int .i64 S.1.value, .int .i64 S.1.price, .slice none 0 0, .slice none 0 0] 109)
  have hk5 := new_blk W4 (.cells #[.int .i64 method, .slice none 0 0, .slice none 0 0, .slice none 0 0, .slice (some ⟨W3.heap.size, 0, none⟩) 1 1, .int .i64 S.1.qty, .int .i64 S.1.value, .int .i64 S.1.price, .slice none 0 0, .slice none 0 0] 109) _ rfl
  have hkA5 := old_blk W4 (.cells #[.int .i64 method, .slice none 0 0, .slice none 0 0, .slice none 0 0, .slice (some ⟨W3.heap.size, 0, none⟩) 1 1, .int .i64 S.1.qty, .int .i64 S.1.value, .int .i64 S.1.price, .slice none 0 0, .slice none 0 0] 109) _ _ hkA
  simp only [cells_agg]
  generalize W4.alloc (.cells #[.int .i64 method, .slice none 0 0, .slice none 0 0, .slice none 0 0, .slice (some ⟨W3.heap.size, 0, none⟩) 1 1, .int .i64 S.1.qty, .int .i64 S.1.value, .int .i64 S.1.price, .slice none 0 0, .slice none 0 0] 109) = W5 at *
  refine hK2 he' _ W4.heap.size hb5 hb4.size ?_
  have e0 : stAt method S.1 (ordI []) 0 = S.1 := rfl
  have eK : (engV method S.1 []).K = [S.1] := by
    show keptV (stAt method S.1 (ordI [])) 1 = [S.1]
    unfold keptV
    rfl
  have eL : (engV method S.1 []).last = S.1 := rfl
  have eO : (engV method S.1 []).O.map ofN = [] := rfl
  refine ⟨.slice none 0 0, .slice none 0 0, .slice none 0 0, .slice (some ⟨W3.heap.size, 0, none⟩) 1 1, .slice none 0 0, .slice none 0 0, [⟨S.1.qty, S.1.value, S.1.price, none, 0, 0, none, 0, 0⟩], rfl, hb4.size, ?_, Own.nil _ _ _ _, Own.nil _ _ _ _, ?_, ?_, ?_, ?_, ?_⟩
  · rw [eL]; exact hk5
  · rw [eO]; exact Own.nil _ _ _ _
  · refine .inr ⟨W3.heap.size, 1, _, rfl, hb3.size, hkA5, Nat.le_refl _, by decide, by simp [KpE], ?_⟩
    simp [KpE, Enc.flat, Kp.lv, Kp.pv]
  · rw [eK]
    refine ⟨rfl, fun i k s hk hs => ?_⟩
    cases i with
    | zero =>
      simp only [List.getElem?_cons_zero, Option.some.injEq] at hk hs
      subst hk; subst hs
      exact ⟨rfl, rfl, rfl, by rw [hly.1]; exact Own.nil _ _ _ _, by rw [hly.2]; exact Own.nil _ _ _ _⟩
    | succ i => simp at hk
  · rw [eL, hly.1]; exact Own.nil _ _ _ _
  · rw [eL, hly.2]; exact Own.nil _ _ _ _
/-! ### The adjustments -/
theorem adjV_succ {C C' : List Co} {i : Nat} (h1 : i < C.length) {now : Co} (h2 : C'[i]? = some now) : adjV (C.take (i + 1)) (C'.take (i + 1)) = adjV (C.take i) (C'.take i) ++ adjOf C[i] now := by
  induction i generalizing C C' with
  | zero =>
    cases C with
    | nil => simp at h1
    | cons a r =>
      cases C' with
      | nil => simp at h2
      | cons b t => simp at h2; subst h2; simp [adjV]
  | succ i ih =>
    cases C with
    | nil => simp at h1
    | cons a r =>
      cases C' with
      | nil => simp at h2
      | cons b t =>
        simp only [List.take_succ_cons, adjV, List.getElem_cons_succ, List.append_assoc]
        rw [ih (by simpa using h1) (by simpa using h2)]
theorem adjV_len (C C' : List Co) : (adjV C C').length ≤ C.length := by
  induction C generalizing C' with
  | nil => simp [adjV]
  | cons a r ih =>
    cases C' with
    | nil => simp [adjV]
    | cons b t =>
      have := ih t
      simp only [adjV, List.length_append, List.length_cons]
      have h1 : (adjOf a b).length ≤ 1 := by unfold adjOf; split <;> simp
      omega
/-- What a map of costs by index says of the costs before and after. -/
def MapSays (C C' : List Co) (ents : List (Int × Value)) : Prop := ∀ i (hi : i < C.length), ∃ now, C'[i]? = some now ∧ ((keyI (i : Int) ents ≠ none ∧ lookK Co.zero.v (i : Int) ents = now.v) ∨ (keyI (i : Int) ents = none ∧ lookK Co.zero.v (i : Int) ents = Co.zero.v ∧ now = C[i]))
def AdjI (w0 : World) (C C' : List Co) (a v : Value) (W : World) : Prop := Below w0.heap.size w0 W ∧ ∃ i : Nat, v = .int .i64 i ∧ i ≤ C.length ∧ Own AdE 72 W w0.heap.size a (adjV (C.take i) (C'.take i))
theorem lookup_ok {b : Nat} {ents : List (Int × Value)} (hM : MapAt (fun n : Int => .int .i64 n) w b ents) (k : Int) : q_read Tryz.prog (Instr.lookup 143 (.map (some b)) (.int .i64 k) true) w = some (.tuple #[lookK Co.zero.v k ents, .bool (keyI k ents).isSome]) := by
  have := map_look key3 ty143 zero43 hM k true
  rw [if_pos rfl] at this
  exact this
theorem adjust_ok {e : Eng} {mv cv ov kv lv pv : Value} {ks : List Kp} {C' : List Co} {ents : List (Int × Value)} {b : Nat} {a1 a2 a3 a4 a5 a6 : Value} (h : EX w B x e mv cv ov kv lv pv ks) (hM : MapAt (fun n : Int => .int .i64 n) w b ents) (hS : MapSays e.C C' ents) (hn : e.C.length ≤ 100000) {K : Value → World → Prop}
    (hK : ∀ w' v, Own AdE 72 w' w.heap.size v (adjV e.C C') → Below w.heap.size w w' → K v w') : Ret Tryz.prog 92 [ptr x, .agg #[.map (some b), a1, a2, a3, a4, a5, a6]] w K := by
  refine lift92 ?_
  unfold L92 ptr
  rw [l_new_eq, cells_agg]
  have hb1 := (Below.refl w.heap.size w).alloc (Nat.le_refl _) (.cells #[.map (some b), a1, a2, a3, a4, a5, a6] 145)
  have hk1 := new_blk w (.cells #[.map (some b), a1, a2, a3, a4, a5, a6] 145) _ rfl
  generalize w.alloc (.cells #[.map (some b), a1, a2, a3, a4, a5, a6] 145) = W1 at *
  have h1 := h.below hb1
  have hM1 := hM.below hb1
  have hlen := (Rd.of_own h1.co).len
  simp only [q_nil_ptr, onSome_some, q_faddr_ptr, addr_add, q_load1_ptr, cell_mk, h1.blk, cellO_cells, Nat.zero_add, List.getElem?_toArray, List.getElem?_cons_succ, List.getElem?_cons_zero, hlen]
  refine looping_i (AdjI W1 e.C C') (fun _ v _ => e.C.length - (intOf v).toNat) ⟨⟨Below.refl _ _, 0, rfl, Nat.zero_le _, by simpa [adjV] using Own.nil _ _ _ _⟩, ?_⟩
  rintro out5 _ W ⟨hbW, i, rfl, hi, hout⟩ _
  simp only [q_lss, onSome_some]
  refine xif_dec (fun hlt => ?_) (fun hlt => ?_)
  · have hi1 : i < e.C.length := by omega
    have hW := h1.below hbW
    obtain ⟨ad, hq, hload⟩ := co_load (Rd.of_own hW.co) (i := i) hi1
    rw [hq, onSome_some, (hload _ (Below.refl _ _)).1, onSome_some]
    refine var_co (c := e.C[i]) (fun W4 hb4 hk4 hs4 => ?_)
    have hkr := (blk_below (hbW.then hb4) (lt_of_blk hk1)).trans hk1
    have hM4 := hM1.below (hbW.then hb4)
    simp only [hkr, cellO_cells, List.getElem?_toArray, List.getElem?_cons_zero, onSome_some]
    rw [lookup_ok hM4, onSome_some]
    simp only [q_extract_tuple, List.getElem?_toArray, List.getElem?_cons_succ, List.getElem?_cons_zero, onSome_some]
    obtain ⟨now, hnow, hcase⟩ := hS i hi1
    have hsucc := adjV_succ hi1 hnow
    have e1 : IntKind.i64.wrap ((i : Int) + 1) = ((i + 1 : Nat) : Int) := by rw [wrap_i64 (by omega) (by omega)]; omega
    have hlo := adjV_len (e.C.take i) (C'.take i)
    rw [List.length_take] at hlo
    rcases hcase with ⟨hkey, hlook⟩ | ⟨hkey, hlook, heq⟩
    · rw [hlook]
      have hsome : (keyI (i : Int) ents).isSome = true := by cases hk : keyI (i : Int) ents with
        | none => exact absurd hk hkey
        | some j => rfl
      rw [hsome]
      refine var_co (c := now) (fun W6 hb6 hk6 hs6 => ?_)
      have hk46 := (blk_below hb6 (lt_of_blk hk4)).trans hk4
      have hb16 := (hbW.then hb4).then hb6
      have hout6 := (hout.below hb4).below hb6
      by_cases hc : now.value ≠ e.C[i].value ∨ now.var ≠ e.C[i].var
      · have had : adjOf e.C[i] now = [⟨e.C[i].seq, IntKind.i64.wrap (now.value - e.C[i].value), IntKind.i64.wrap (now.var - e.C[i].var)⟩] := by unfold adjOf; rw [if_pos hc]
        rw [had] at hsucc
        have goal : (onSome (q_build #[.int .i64 0, .int .i64 0, .int .i64 0] [(0, 1, .int .i64 e.C[i].seq), (1, 1, .int .i64 (IntKind.i64.wrap (now.value - e.C[i].value))), (2, 1, .int .i64 (IntKind.i64.wrap (now.var - e.C[i].var)))]) fun t55 =>
            l_lit 72 1 #[.int .i64 0, .int .i64 0, .int .i64 0] [(0, 3, t55)] W6 fun t56 W7 => l_append Tryz.prog #[68, 68] 68 out5 t56 W7 fun t57 W8 =>
              AdjI W1 e.C C' t57 (.int .i64 ((i + 1 : Nat) : Int)) W8 ∧ e.C.length - (intOf (.int .i64 ((i + 1 : Nat) : Int))).toNat < e.C.length - (intOf (.int .i64 (i : Int))).toNat) := by
          rw [build_of (cs := #[.int .i64 e.C[i].seq, .int .i64 (IntKind.i64.wrap (now.value - e.C[i].value)), .int .i64 (IntKind.i64.wrap (now.var - e.C[i].var))]) (by simp), onSome_some]
          unfold l_lit
          rw [show fillC #[.int .i64 0, .int .i64 0, .int .i64 0] [(0, 3, .agg #[.int .i64 e.C[i].seq, .int .i64 (IntKind.i64.wrap (now.value - e.C[i].value)), .int .i64 (IntKind.i64.wrap (now.var - e.C[i].var))])] = some (AdE.cells ⟨e.C[i].seq, IntKind.i64.wrap (now.value - e.C[i].value), IntKind.i64.wrap (now.var - e.C[i].var)⟩).toArray by simp [AdE, Ad.cs], onSome_some]
          have hr := Rd.new (E := AdE) (t := 72) (a := ⟨e.C[i].seq, IntKind.i64.wrap (now.value - e.C[i].value), IntKind.i64.wrap (now.var - e.C[i].var)⟩) W6 (by decide)
          have hb7 := hb16.alloc hb16.size (.cells (AdE.cells ⟨e.C[i].seq, IntKind.i64.wrap (now.value - e.C[i].value), IntKind.i64.wrap (now.var - e.C[i].var)⟩).toArray 72)
          have ho7 := hout6.alloc (.cells (AdE.cells ⟨e.C[i].seq, IntKind.i64.wrap (now.value - e.C[i].value), IntKind.i64.wrap (now.var - e.C[i].var)⟩).toArray 72)
          refine app_ad ho7 hr hb7.size (by simp; omega) (fun v8 W8 ho8 hg8 => ?_)
          exact ⟨⟨hb7.grown hg8 hb7.size (fun k hk => (ho7.lt k hk).1), i + 1, rfl, by omega, by rw [hsucc]; exact ho8⟩, by simp only [intOf]; omega⟩
        by_cases h1 : now.value = e.C[i].value
        · have h2 : ¬ now.var = e.C[i].var := by
            rcases hc with hc | hc
            · exact absurd h1 hc
            · exact hc
          rw [h1] at goal
          simp [hk46, hk6, h1, h2, e1]
          simpa using goal
        · simp [hk46, hk6, h1, e1]
          simpa using goal
      · have had : adjOf e.C[i] now = [] := by unfold adjOf; rw [if_neg hc]
        rw [had, List.append_nil] at hsucc
        have h1 : now.value = e.C[i].value := Decidable.byContradiction (fun h => hc (.inl h))
        have h2 : now.var = e.C[i].var := Decidable.byContradiction (fun h => hc (.inr h))
        simp [hk46, hk6, h1, h2, e1]
        exact ⟨⟨hb16, i + 1, rfl, by omega, by rw [hsucc]; exact hout6⟩, by simp only [intOf]; omega⟩
    · rw [hlook]
      have hsome : (keyI (i : Int) ents).isSome = false := by rw [hkey]; rfl
      rw [hsome]
      refine var_co (c := Co.zero) (fun W6 hb6 hk6 hs6 => ?_)
      have hk46 := (blk_below hb6 (lt_of_blk hk4)).trans hk4
      have hb16 := (hbW.then hb4).then hb6
      have hout6 := (hout.below hb4).below hb6
      have had : adjOf e.C[i] now = [] := by unfold adjOf; rw [heq]; simp
      rw [had, List.append_nil] at hsucc
      simp [e1]
      exact ⟨⟨hb16, i + 1, rfl, by omega, by rw [hsucc]; exact hout6⟩, by simp only [intOf]; omega⟩
  · have hie : i = e.C.length := by omega
    subst hie
    have hz : adjV (e.C.take e.C.length) (C'.take e.C.length) = adjV e.C C' := by
      rw [List.take_length]
      have : ∀ (l k : List Co) (n : Nat), l.length ≤ n → adjV l (k.take n) = adjV l k := by
        intro l
        induction l with
        | nil => intro k n _; simp [adjV]
        | cons a t ih =>
          intro k n hn
          cases k with
          | nil => simp
          | cons c u =>
            cases n with
            | zero => simp at hn
            | succ n => simp only [List.take_succ_cons, adjV]; rw [ih u n (by simpa using hn)]
      exact this _ _ _ (Nat.le_refl _)
    rw [hz] at hout
    exact hK _ _ (hout.lower hb1.size) (hb1.then hbW)
end Go.X
end
section
set_option linter.unusedVariables false
set_option linter.unusedSimpArgs false
namespace Go.X
open Go.Proofs Go.RowKit
attribute [local irreducible] l_append l_copy l_make l_run l_runU q_slice q_eq q_index q_build onSome l_lit q_read
variable {w w' w'' : World} {B x : Nat} {r : Option Nat} {method : Int} {s0 : St} {L : List Mv}
/-- Blocks are kept but for those of a set. -/
structure Fr (S : Nat → Prop) (w w' : World) : Prop where
  os : w'.os = w.os
  tape : w'.tape = w.tape
  output : w'.output = w.output
  size : w.heap.size ≤ w'.heap.size
  block : ∀ k, k < w.heap.size → ¬ S k → w'.heap[k]? = w.heap[k]?
namespace Fr
variable {S S' : Nat → Prop}
theorem refl (S : Nat → Prop) (w : World) : Fr S w w := ⟨rfl, rfl, rfl, Nat.le_refl _, fun _ _ _ => rfl⟩
theorem trans (h : Fr S w w') (h' : Fr S' w' w'') (hs : ∀ k, k < w.heap.size → S' k → S k) : Fr S w w'' :=
  ⟨h'.os.trans h.os, h'.tape.trans h.tape, h'.output.trans h.output, Nat.le_trans h.size h'.size, fun k hk hn => (h'.block k (Nat.lt_of_lt_of_le hk h.size) (fun hh => hn (hs k hk hh))).trans (h.block k hk hn)⟩
theorem of_below (h : Below w.heap.size w w') : Fr S w w' := ⟨h.os, h.tape, h.output, h.size, fun k hk _ => h.block k hk⟩
theorem of_grown {row : Option Nat} (h : w.grownBy w' row) (hr : ∀ k, row = some k → S k) : Fr S w w' := ⟨h.os, h.tape, h.output, h.size, fun k hk hn => h.block k hk (fun e => hn (hr k e.symm))⟩
theorem then_below (h : Fr S w w') (h' : Below w'.heap.size w' w'') : Fr S w w'' := h.trans (S' := fun _ => False) (of_below h') (fun _ _ hh => hh.elim)
theorem putL (h : Fr S w w') {g o : Nat} {vs : List Value} (hg : S g) : Fr S w (X.putL w' g o vs) := by
  have hb : Below 0 w' (X.putL w' g o vs) := below_putL (Below.refl 0 w') (Nat.zero_le _) vs o
  refine h.trans (S' := fun k => k = g) ⟨hb.os, hb.tape, hb.output, hb.size, fun k hk hn => ?_⟩ (fun k _ e => e ▸ hg)
  have := blk_putL (w := w') (b := g) (o := o) (b' := k) (vs := vs)
  rw [if_neg (fun e => hn e.symm)] at this
  exact this
theorem alloc (h : Fr S w w') (o : Obj) : Fr S w (w'.alloc o) := h.then_below ((Below.refl _ _).alloc (Nat.le_refl _) o)
theorem drew (h : Fr S w w') : Fr S w w'.drew := ⟨h.os, h.tape, h.output, h.size, h.block⟩
theorem below (h : Fr S w w') (hB : B ≤ w.heap.size) (hs : ∀ k, S k → B ≤ k) : Below B w w' := ⟨h.os, h.tape, h.output, h.size, fun k hk => h.block k (by omega) (fun hh => by have := hs k hh; omega)⟩
theorem blk (h : Fr S w w') {k : Nat} {o : Obj} (hk : X.blk w k = some o) (hn : ¬ S k) : X.blk w' k = some o := (h.block k (lt_of_blk hk) hn).trans hk
theorem own {α : Type} {E : Enc α} {t : TypeId} {v : Value} {l : List α} (h : Fr S w w') (ho : Own E t w B v l) (hn : ∀ k, v.ownBlock = some k → ¬ S k) : Own E t w' B v l :=
  ho.step (fun k hk => h.block k (ho.lt k hk).2 (hn k hk))
theorem mono (h : Fr S w w') (hs : ∀ k, k < w.heap.size → S k → S' k) : Fr S' w w' := ⟨h.os, h.tape, h.output, h.size, fun k hk hn => h.block k hk (fun hh => hn (hs k hk hh))⟩
end Fr
/-- What an engine's call may change. -/
def EngS (x : Nat) (r : Option Nat) (k : Nat) : Prop := k = x ∨ r = some k
/-- Blocks of cells of other types than these are kept. -/
def KeepT (T : List TypeId) (w w' : World) : Prop := ∀ b c t f, X.blk w b = some (.cells c t f) → t ∉ T → X.blk w' b = some (.cells c t f)
theorem KeepT.own {T : List TypeId} {α : Type} {E : Enc α} {t : TypeId} {v : Value} {l : List α} (h : KeepT T w w') (ho : Own E t w B v l) (ht : t ∉ T) : Own E t w' B v l := by
  refine ho.step (fun k hk => ?_)
  obtain ⟨c, hc⟩ := ho.type k hk
  exact (h _ _ _ _ hc ht).trans hc.symm
theorem KeepT.ks {T : List TypeId} {ks : List Kp} {ss : List St} (h : KeepT T w w') (ho : KsOk w B ks ss) (h1 : (103 : TypeId) ∉ T) (h2 : (105 : TypeId) ∉ T) : KsOk w' B ks ss :=
  ho.step (fun t j c ht hc => (h _ _ _ _ hc (by rcases ht with rfl | rfl <;> assumption)).trans hc.symm)
theorem KeepT.of_fr {T : List TypeId} {S : Nat → Prop} (h : Fr S w w') (hs : ∀ k c t f, S k → X.blk w k = some (.cells c t f) → t ∈ T) : KeepT T w w' :=
  fun b c t f hb ht => h.blk hb (fun hh => ht (hs b c t f hh hb))
theorem KeepT.trans {T : List TypeId} (h : KeepT T w w') (h' : KeepT T w' w'') : KeepT T w w'' := fun b c t f hb ht => h' b c t f (h b c t f hb ht) ht
/-- An element of a row of costs is written. -/
theorem co_set {v : Value} {l : List Co} (ho : Own CoE 43 w B v l) {i : Nat} (hi : i < l.length) (c : Co) : ∃ g, v.ownBlock = some g ∧ q_iaddr 4 v (.int .i64 (i : Int)) = some (.pointer (some ⟨g, i * 4, none⟩)) ∧
    ∀ {K : Value → World → Prop}, (Own CoE 43 (X.putL w g (i * 4) (CoE.cells c)) B v (l.set i c) → K undef (X.putL w g (i * 4) (CoE.cells c))) → l_store 4 (.pointer (some ⟨g, i * 4, none⟩)) (.agg #[.int .i64 c.seq, .int .i64 c.qty, .int .i64 c.value, .int .i64 c.var]) w K := by
  obtain ⟨g, cap, cur, hv, hB, hg, h3, h4, h5, h6, hget⟩ := ho.block (by omega)
  refine ⟨g, by rw [hv]; rfl, ?_, ?_⟩
  · rw [hv, q_iaddr_slice, if_pos ⟨by omega, by omega⟩]
    simp
  · intro K hK
    have hsz : i * 4 + 4 ≤ cur.size := by
      have : CoE.sz = 4 := rfl
      rw [this] at h5
      omega
    rw [l_store_to (by rw [cells_agg, hg]; simp; omega), cells_agg]
    refine hK ?_
    -- four cells
    have s0 := ho.store (E := CoE) hv hi (j := 0) (by decide) (u := .int .i64 c.seq) (a := ⟨c.seq, l[i].qty, l[i].value, l[i].var⟩) rfl
    have hv0 : v = .slice (some ⟨g, 0, none⟩) (l.set i ⟨c.seq, l[i].qty, l[i].value, l[i].var⟩).length cap := by rw [List.length_set]; exact hv
    have s1 := s0.store (E := CoE) hv0 (i := i) (j := 1) (by rw [List.length_set]; exact hi) (by decide) (u := .int .i64 c.qty) (a := ⟨c.seq, c.qty, l[i].value, l[i].var⟩) (by rw [List.getElem_set_self]; rfl)
    rw [List.set_set] at s1
    have hv1 : v = .slice (some ⟨g, 0, none⟩) (l.set i ⟨c.seq, c.qty, l[i].value, l[i].var⟩).length cap := by rw [List.length_set]; exact hv
    have s2 := s1.store (E := CoE) hv1 (i := i) (j := 2) (by rw [List.length_set]; exact hi) (by decide) (u := .int .i64 c.value) (a := ⟨c.seq, c.qty, c.value, l[i].var⟩) (by rw [List.getElem_set_self]; rfl)
    rw [List.set_set] at s2
    have hv2 : v = .slice (some ⟨g, 0, none⟩) (l.set i ⟨c.seq, c.qty, c.value, l[i].var⟩).length cap := by rw [List.length_set]; exact hv
    have s3 := s2.store (E := CoE) hv2 (i := i) (j := 3) (by rw [List.length_set]; exact hi) (by decide) (u := .int .i64 c.var) (a := c) (by rw [List.getElem_set_self]; rfl)
    rw [List.set_set] at s3
    exact s3
/-- What the writing of the costs has done, as long as some of the map is left. -/
def WrI (w0 : World) (B it b g : Nat) (cv : Value) (C' : List Co) (W : World) : Prop :=
  ∃ (rest : List (Int × Value)) (cur : List Co), LeftAt (fun n : Int => .int .i64 n) W it b rest ∧ Own CoE 43 W B cv cur ∧ cur.length = C'.length ∧ (∀ p ∈ rest, ∃ (i : Nat) (now : Co), p = ((i : Int), now.v) ∧ C'[i]? = some now) ∧
    (∀ i : Nat, (∀ p ∈ rest, p.1 ≠ (i : Int)) → cur[i]? = C'[i]?) ∧ Fr (fun k => k = it ∨ k = g) w0 W
theorem write_ok {w0 : World} {it b g : Nat} {cv l7 t113 : Value} {C' : List Co} {ents : List (Int × Value)} {cur0 : List Co} {cells : List Value} (hx : X.blk w0 x = some (.cells (cells.take 2 ++ cv :: cells.drop 3).toArray 109 (0, 0))) (h2 : 2 ≤ cells.length) (hl : LeftAt (fun n : Int => .int .i64 n) w0 it b ents) (ho : Own CoE 43 w0 B cv cur0) (hg : cv.ownBlock = some g) (hlen : cur0.length = C'.length)
    (hents : ∀ p ∈ ents, ∃ (i : Nat) (now : Co), p = ((i : Int), now.v) ∧ C'[i]? = some now) (hcur : ∀ i : Nat, (∀ p ∈ ents, p.1 ≠ (i : Int)) → cur0[i]? = C'[i]?) {Q : World → Prop}
    (hQ : ∀ W, Own CoE 43 W B cv C' → Fr (fun k => k = it ∨ k = g) w0 W → Q W) :
    looping fun (I : World → Prop) (μ : World → Nat) => I w0 ∧
      ∀ (W30 : World), I W30 →
      l_run Tryz.prog (Instr.next (.pointer (some ⟨it, 0, none⟩)) false 0) W30 fun t98 W31 =>
      onSome (q_extract t98 0) fun t99 =>
      xif t99
      (onSome (q_read Tryz.prog (Instr.entry (.pointer (some ⟨it, 0, none⟩))) W31) fun t100 =>
      onSome (q_extract t100 0) fun t101 =>
      onSome (q_extract t100 1) fun t102 =>
      l_new 43 #[.int .i64 0, .int .i64 0, .int .i64 0, .int .i64 0] W31 fun x14 W32 =>
      l_store 4 x14 t102 W32 fun _ W33 =>
      onSome (cellO (X.blk W33 x) 2) fun t106 =>
      onSome (q_loadn 4 x14 W33.drew) fun t108 =>
      onSome (q_iaddr 4 t106 t101) fun t109 =>
      l_store 4 t109 t108 W33.drew fun _ W34 =>
      I W34 ∧ μ W34 < μ W30)
      (Q W31) := by
  refine looping_i (WrI w0 B it b g cv C') (fun W => leftN W it b) ⟨⟨ents, cur0, hl, ho, hlen, hents, hcur, Fr.refl _ _⟩, ?_⟩
  rintro W ⟨rest, cur, hL, hO, hcl, hre, hce, hF⟩
  have hnum := hL.num
  have hgne : g ≠ it := by
    intro e
    obtain ⟨c, hc⟩ := hO.type g hg
    obtain ⟨es, clock, since, seen, c0, h1, _⟩ := hL
    rw [e] at hc
    unfold X.blk at hc
    rw [h1] at hc
    cases hc
  have hgb : g ≠ b := by
    intro e
    obtain ⟨c, hc⟩ := hO.type g hg
    obtain ⟨es, clock, since, seen, c0, _, h1, _⟩ := hL
    rw [e] at hc
    unfold X.blk at hc
    rw [h1] at hc
    cases hc
  have hxg : x ≠ g := by
    intro e
    obtain ⟨c, hc⟩ := ho.type g hg
    rw [← e, hx] at hc
    injection hc with hc
    injection hc with _ hc
    cases hc
  have hxit : x ≠ it := by
    intro e
    obtain ⟨es, clock, since, seen, c0, h1, _⟩ := hl
    rw [← e] at h1
    unfold X.blk at hx
    rw [h1] at hx
    cases hx
  refine map_next hL (fun hnil => ?_) (fun W1 k v rest' hmem hlt hL1 hC1 hg1 => ?_)
  · simp only [q_extract_tuple, List.getElem?_toArray, List.getElem?_cons_zero, onSome_some, xif_false]
    subst hnil
    have : cur = C' := List.ext_getElem? (fun i => hce i (by simp))
    subst this
    exact hQ W hO hF
  · simp only [q_extract_tuple, List.getElem?_toArray, List.getElem?_cons_zero, onSome_some, xif_true]
    rw [map_cur hC1, onSome_some]
    simp only [q_extract_tuple, List.getElem?_toArray, List.getElem?_cons_succ, List.getElem?_cons_zero, onSome_some]
    obtain ⟨i, now, hkv, hnow⟩ := hre (k, v) ((hmem _).2 (.inl rfl))
    injection hkv with hk hv
    subst hk; subst hv
    have hF1 : Fr (fun k => k = it ∨ k = g) w0 W1 := hF.trans (S' := fun k => k = it) (Fr.of_grown hg1 (fun k e => by injection e with e; exact e.symm)) (fun k _ e => .inl e)
    have hO1 : Own CoE 43 W1 B cv cur := hO.grown hg1 (.inr (by rw [hg]; intro e; injection e with e; exact hgne e))
    refine var_co (c := now) (fun W3 hb3 hk3 hs3 => ?_)
    have hF3 := hF1.then_below hb3
    have hF3d : Fr (fun k => k = it ∨ k = g) w0 W3.drew := hF3.drew
    have hO3 := (hO1.below hb3).drew
    have hx3 := hF3d.blk hx (fun h => h.elim hxit hxg)
    have hL3 : LeftAt (fun n : Int => .int .i64 n) W3.drew it b rest' := hL1.of (hb3.block it hL1.lt.1) (hb3.block b hL1.lt.2)
    have hlt4 := lt_of_blk hk3
    have hk3d : X.blk W3.drew W1.heap.size = _ := hk3
    have hi : i < cur.length := by rw [hcl]; exact (List.getElem?_eq_some_iff.1 hnow).1
    obtain ⟨g', hg', hia, hst⟩ := co_set hO3 hi now
    rw [hg] at hg'
    injection hg' with hg'
    subst hg'
    have e2 : ((cells.take 2 ++ cv :: cells.drop 3).toArray)[2]? = some cv := by
      rw [List.getElem?_toArray, List.getElem?_append_right (by rw [List.length_take]; omega), List.length_take, Nat.min_eq_left h2]
      rfl
    rw [show X.blk W3 x = _ from hx3, cellO_cells, e2, onSome_some]
    have e4 : q_loadn 4 (.pointer (some ⟨W1.heap.size, 0, none⟩)) W3.drew = some (.agg #[.int .i64 now.seq, .int .i64 now.qty, .int .i64 now.value, .int .i64 now.var]) := by simp [hk3]
    rw [e4, onSome_some, hia, onSome_some]
    refine hst (fun hO4 => ?_)
    have hL4 : LeftAt (fun n : Int => .int .i64 n) (X.putL W3.drew g (i * 4) (CoE.cells now)) it b rest' := by
      refine hL3.of ?_ ?_
      · have := blk_putL (w := W3.drew) (b := g) (o := i * 4) (b' := it) (vs := CoE.cells now)
        rw [if_neg hgne] at this; exact this
      · have := blk_putL (w := W3.drew) (b := g) (o := i * 4) (b' := b) (vs := CoE.cells now)
        rw [if_neg hgb] at this; exact this
    refine ⟨⟨rest', cur.set i now, hL4, hO4, by rw [List.length_set]; exact hcl, fun p hp => hre p ((hmem p).2 (.inr hp)), fun j hj => ?_, hF3d.putL (.inr rfl)⟩, ?_⟩
    · by_cases hji : j = i
      · subst hji
        rw [List.getElem?_set_self hi, hnow]
      · rw [List.getElem?_set_ne (fun e => hji e.symm)]
        refine hce j (fun p hp => ?_)
        rcases (hmem p).1 hp with rfl | hp
        · intro e
          exact hji (by have : (i : Int) = (j : Int) := e; omega)
        · exact hj p hp
    · rw [hL4.num, hnum]; exact hlt
end Go.X
end
section
set_option linter.unusedVariables false
set_option linter.unusedSimpArgs false
namespace Go.X
open Go.Proofs Go.RowKit
variable {w w' w'' : World} {B x : Nat} {r : Option Nat} {method : Int} {s0 : St} {L : List Mv} {m : Mv}
def EngAddJ (W2 : World) (L : List Mv) (m : Mv) (v : Value) (W : World) : Prop := Below W2.heap.size W2 W ∧ Own MvE 47 W W2.heap.size v (L ++ [m])
theorem ord_map (L : List Mv) (m : Mv) : insI ((ordV L).map ofN) (plcV L m) (ofN L.length) = (ordV (L ++ [m])).map ofN := by
  rw [ordV_add]
  simp [insI, List.map_take, List.map_drop]
theorem lit_mv (m : Mv) : fillC #[.int .i64 0, .int .i64 0, .string ⟨#[]⟩, .int .i64 0, .int .i64 0, .int .i64 0, .string ⟨#[]⟩, .int .i64 0] [(0, 8, .agg #[.int .i64 m.seq, .int .i64 m.value, .string m.item, .int .i64 m.kind, .int .i64 m.qty, .int .i64 m.cost, .string m.lot, .int .i64 m.ref])] = some (MvE.cells m).toArray := by
  simp [MvE, Mv.cs]
set_option maxRecDepth 20000 in
theorem app_co3 {w : World} {B : Nat} {K : Value → World → Prop} {v x : Value} {l m : List Co} (hs : Own CoE 43 w B v l) (hx : Rd CoE w x m) (hB : B ≤ w.heap.size) (hn : l.length + m.length ≤ 1000000)
    (hK : ∀ v' w', Own CoE 43 w' B v' (l ++ m) → w.grownBy w' v.ownBlock → (v'.ownBlock = v.ownBlock ∨ v'.ownBlock = some w.heap.size) → K v' w') : l_append Tryz.prog #[34, 34] 34 v x w K :=
  append_ok (E := CoE) coSl hs hx hB (bytes_co hn) (small_max hn) hK
attribute [local irreducible] l_append l_copy l_make l_run l_runU q_slice q_eq q_index q_build onSome l_lit q_read
/-- What the map of the new costs says. -/
theorem ents_mem {O : List Nat} {C : Nat → Co} {a n : Nat} {p : Int × Value} (h : p ∈ entsV O C a n) (hn : a + n ≤ O.length) : ∃ (q : Nat) (hq : q < O.length), a ≤ q ∧ p = ((O[q] : Int), (C q).v) := by
  unfold entsV at h
  obtain ⟨q, hq, rfl⟩ := List.mem_map.1 h
  obtain ⟨i, hi, rfl⟩ := List.mem_range'.1 hq
  have hl : a + 1 * i < O.length := by omega
  refine ⟨a + 1 * i, hl, by omega, ?_⟩
  rw [List.getElem?_eq_getElem hl]
  rfl
theorem ents_has {O : List Nat} {C : Nat → Co} {a n q : Nat} (hq : q < O.length) (h1 : a ≤ q) (h2 : q < a + n) : ((O[q] : Int), (C q).v) ∈ entsV O C a n := by
  unfold entsV
  refine List.mem_map.2 ⟨q, List.mem_range'.2 ⟨q - a, by omega, by omega⟩, ?_⟩
  rw [List.getElem?_eq_getElem hq]
  rfl
theorem key_found {κ : Type} [DecidableEq κ] {k : κ} {l : List (κ × Value)} (h : keyI k l ≠ none) (z : Value) : (k, lookK z k l) ∈ l := by
  unfold lookK
  cases hk : keyI k l with
  | none => exact absurd hk h
  | some i =>
    obtain ⟨hi, e⟩ := keyI_lt hk
    simp only [List.getElem?_eq_getElem hi, Option.map_some, Option.getD_some]
    rw [← e]
    exact List.getElem_mem hi
theorem key_none {κ : Type} [DecidableEq κ] {k : κ} {l : List (κ × Value)} (h : keyI k l = none) : ∀ p ∈ l, p.1 ≠ k := by
  unfold keyI at h
  rw [List.findIdx?_eq_none_iff] at h
  intro p hp e
  have := h p hp
  simp [e] at this
theorem new_ents (hG : GoodL method s0 L) (a : Nat) (ha : 16 * a ≤ plcV L m) :
    (∀ p ∈ entsV (ordV (L ++ [m])) (coAt method s0 (ordI (L ++ [m]))) (16 * a) ((ordV (L ++ [m])).length - 16 * a), ∃ (i : Nat) (now : Co), p = ((i : Int), now.v) ∧ (cosV method s0 (L ++ [m]))[i]? = some now) ∧
    (∀ i : Nat, (∀ p ∈ entsV (ordV (L ++ [m])) (coAt method s0 (ordI (L ++ [m]))) (16 * a) ((ordV (L ++ [m])).length - 16 * a), p.1 ≠ (i : Int)) → (cosV method s0 L ++ [Co.zero])[i]? = (cosV method s0 (L ++ [m]))[i]?) ∧
    MapSays (cosV method s0 L) (cosV method s0 (L ++ [m])) (entsV (ordV (L ++ [m])) (coAt method s0 (ordI (L ++ [m]))) (16 * a) ((ordV (L ++ [m])).length - 16 * a)) := by
  have hp := plc_le L m
  have hlO : (ordV (L ++ [m])).length = L.length + 1 := by rw [ordV_len]; simp
  have hlC := cosV_len method s0 L
  have hlC' : (cosV method s0 (L ++ [m])).length = L.length + 1 := by rw [cosV_len]; simp
  have h1 : ∀ p ∈ entsV (ordV (L ++ [m])) (coAt method s0 (ordI (L ++ [m]))) (16 * a) ((ordV (L ++ [m])).length - 16 * a), ∃ (i : Nat) (now : Co), p = ((i : Int), now.v) ∧ (cosV method s0 (L ++ [m]))[i]? = some now := by
    intro p hpm
    obtain ⟨q, hq, _, rfl⟩ := ents_mem hpm (by omega)
    exact ⟨_, _, rfl, cos_at hq⟩
  have h2 : ∀ i : Nat, (∀ p ∈ entsV (ordV (L ++ [m])) (coAt method s0 (ordI (L ++ [m]))) (16 * a) ((ordV (L ++ [m])).length - 16 * a), p.1 ≠ (i : Int)) → i < L.length + 1 → i < L.length ∧ (cosV method s0 L)[i]? = (cosV method s0 (L ++ [m]))[i]? := by
    intro i hi hil
    obtain ⟨q, hq, hqi⟩ := pos_of (L := L ++ [m]) (i := i) (by simpa using hil)
    have hqa : q < 16 * a := by
      refine Decidable.byContradiction (fun hge => ?_)
      exact hi _ (ents_has hq (by omega) (by omega)) (by rw [hqi])
    obtain ⟨k1, k2⟩ := cos_keep (method := method) (s0 := s0) (show q < plcV L m by omega) hq
    rw [hqi] at k1 k2
    exact ⟨k1, k2.symm⟩
  refine ⟨h1, fun i hi => ?_, fun i hi => ?_⟩
  · rcases Nat.lt_or_ge i (L.length + 1) with hil | hil
    · obtain ⟨k1, k2⟩ := h2 i hi hil
      rw [List.getElem?_append_left (by omega)]
      exact k2
    · rw [List.getElem?_eq_none (by simp; omega), List.getElem?_eq_none (by omega)]
  · have hiL : i < L.length := by omega
    have hi' : i < (cosV method s0 (L ++ [m])).length := by omega
    refine ⟨(cosV method s0 (L ++ [m]))[i], List.getElem?_eq_getElem _, ?_⟩
    cases hk : keyI (i : Int) (entsV (ordV (L ++ [m])) (coAt method s0 (ordI (L ++ [m]))) (16 * a) ((ordV (L ++ [m])).length - 16 * a)) with
    | some j =>
      left
      have hne : keyI (i : Int) (entsV (ordV (L ++ [m])) (coAt method s0 (ordI (L ++ [m]))) (16 * a) ((ordV (L ++ [m])).length - 16 * a)) ≠ none := by rw [hk]; simp
      refine ⟨by simp, ?_⟩
      obtain ⟨i', now, e, hnow⟩ := h1 _ (key_found hne Co.zero.v)
      injection e with e1 e2
      have : i' = i := by omega
      subst this
      rw [e2]
      rw [List.getElem?_eq_getElem hi'] at hnow
      rw [Option.some.inj hnow]
    | none =>
      right
      refine ⟨rfl, ?_, ?_⟩
      · unfold lookK; rw [hk]
      · have := (h2 i (key_none hk) (by omega)).2
        rw [List.getElem?_eq_getElem hi, List.getElem?_eq_getElem hi'] at this
        exact (Option.some.inj this).symm
theorem eng_add (ht : Tab w) (h : HasE w B x r method s0 L) (hG : GoodL method s0 L) (hm : m.Ok) {K : Value → World → Prop}
    (hK1 : errV method s0 (L ++ [m]) ≠ 0 → ∀ w', Below w.heap.size w w' → K (.tuple #[Co.zero.v, .slice none 0 0, .int .i64 (errV method s0 (L ++ [m]))]) w')
    (hK2 : errV method s0 (L ++ [m]) = 0 → ∀ w' r' av, HasE w' B x r' method s0 (L ++ [m]) → (r' = r ∨ ∃ k, r' = some k ∧ w.heap.size ≤ k) → Fr (EngS x r) w w' → Own AdE 72 w' w.heap.size av (adjV (cosV method s0 L) (cosV method s0 (L ++ [m]))) →
      K (.tuple #[(((cosV method s0 (L ++ [m]))[L.length]?).getD Co.zero).v, av, .int .i64 0]) w') : Ret Tryz.prog 41 [ptr x, m.v] w K := by
  obtain ⟨mv, cv, ov, kv, lv, pv, ks, hrow, h⟩ := h
  have hlen := hG.len
  have hxw := lt_of_blk h.blk
  have hmall : ∀ k ∈ L ++ [m], k.Ok := mem_add_ok hG.ok hm
  refine lift41 ?_
  unfold L41 ptr
  rw [l_new_eq, Mv.v_cells]
  have hb1 := (Below.refl w.heap.size w).alloc (Nat.le_refl _) (.cells #[.int .i64 m.seq, .int .i64 m.value, .string m.item, .int .i64 m.kind, .int .i64 m.qty, .int .i64 m.cost, .string m.lot, .int .i64 m.ref] 47)
  have hk1 := new_blk w (.cells #[.int .i64 m.seq, .int .i64 m.value, .string m.item, .int .i64 m.kind, .int .i64 m.qty, .int .i64 m.cost, .string m.lot, .int .i64 m.ref] 47) _ rfl
  generalize w.alloc (.cells #[.int .i64 m.seq, .int .i64 m.value, .string m.item, .int .i64 m.kind, .int .i64 m.qty, .int .i64 m.cost, .string m.lot, .int .i64 m.ref] 47) = W1 at *
  rw [l_new_eq]
  have hb12 := (Below.refl W1.heap.size W1).alloc (Nat.le_refl _) (.cells #[.int .i64 0, .int .i64 0, .int .i64 0, .int .i64 0] 43)
  have hk2 := new_blk W1 (.cells #[.int .i64 0, .int .i64 0, .int .i64 0, .int .i64 0] 43) _ rfl
  generalize W1.alloc (.cells #[.int .i64 0, .int .i64 0, .int .i64 0, .int .i64 0] 43) = W2 at *
  have hb2 := hb1.then hb12
  have hk12 := (blk_below hb12 (lt_of_blk hk1)).trans hk1
  have hcw := hb1.size
  have hcb := lt_of_blk hk2
  have hmb := lt_of_blk hk12
  rw [(nil50 _).1, onSome_some]
  simp only [Option.isNone_some, xif_false]
  -- a failure
  have bad : ∀ (W : World) (e : Int), Below W2.heap.size W2 W → e ≠ 0 → errV method s0 (L ++ [m]) = e →
      (onSome (q_build #[.int .i64 0, .int .i64 0, .int .i64 0, .int .i64 0] []) fun t33 => l_store 4 (.pointer (some ⟨W1.heap.size, 0, none⟩)) t33 W fun _ W12 => onSome (q_loadn 4 (.pointer (some ⟨W1.heap.size, 0, none⟩)) W12) fun c => K (.tuple #[c, .slice none 0 0, .int .i64 e]) W12) := by
    intro W e hb he hee
    rw [hee] at hK1
    have hkW := (blk_below hb hcb).trans hk2
    rw [build_of (cs := #[.int .i64 0, .int .i64 0, .int .i64 0, .int .i64 0]) (by simp), onSome_some, l_store_to (by rw [cells_agg, hkW]; simp), cells_agg]
    have hld : q_loadn 4 (.pointer (some ⟨W1.heap.size, 0, none⟩)) (X.putL W W1.heap.size 0 (#[.int .i64 0, .int .i64 0, .int .i64 0, .int .i64 0] : Array Value).toList) = some Co.zero.v := by simp [hkW, Co.v, Co.zero]
    rw [hld, onSome_some]
    exact hK1 he _ (below_putL (hb2.then hb) hcw _ _)
  refine joining_i (EngAddJ W2 L m) ⟨?_, ?_⟩
  · have h2d := (h.below hb2).below (Below.refl W2.heap.size W2).drew
    have e8 : q_loadn 8 (.pointer (some ⟨w.heap.size, 0, none⟩)) W2.drew = some (.agg #[.int .i64 m.seq, .int .i64 m.value, .string m.item, .int .i64 m.kind, .int .i64 m.qty, .int .i64 m.cost, .string m.lot, .int .i64 m.ref]) := by simp [hk12]
    rw [q_nil_ptr, onSome_some, q_faddr_ptr, onSome_some, addr_add, q_load1_ptr, cell_mk, h2d.blk, cellO_cells]
    simp only [Nat.zero_add, List.getElem?_toArray, List.getElem?_cons_succ, List.getElem?_cons_zero, onSome_some]
    rw [e8, onSome_some]
    refine ⟨?_, ?_⟩
    · refine clone_mv (Rd.of_own h2d.mv) (by simp [engV]; omega) (fun W4 v4 ho4 hb4 => ?_)
      have hk4 := (blk_below hb4 (show w.heap.size < W2.drew.heap.size from hmb)).trans (show X.blk W2.drew w.heap.size = _ from hk12)
      refine ⟨by simp [hk4], ?_⟩
      unfold l_lit
      rw [lit_mv, onSome_some]
      dsimp only
      have hb24 : Below W2.heap.size W2 W4 := (Below.refl W2.heap.size W2).drew.then hb4
      have hbA := hb24.alloc hb24.size (.cells (MvE.cells m).toArray 47)
      have hoA := ho4.alloc (.cells (MvE.cells m).toArray 47)
      refine app_mv hoA (Rd.new (E := MvE) (t := 47) (a := m) W4 (by decide)) hbA.size (by simp [engV]; omega) (fun v' W6 ho6 hg6 => ?_)
      exact ⟨hbA.grown hg6 hbA.size (fun k hk => (hoA.lt k hk).1), ho6⟩
    · unfold l_lit
      rw [lit_mv, onSome_some]
      dsimp only
      have hbL : Below W2.heap.size W2 (W2.drew.alloc (.cells (MvE.cells m).toArray 47)) := (Below.refl W2.heap.size W2).drew.alloc (Nat.le_refl _) _
      have hL7 := (h.below hb2).below hbL
      have hrl := Rd.new (E := MvE) (t := 47) (a := m) W2.drew (by decide)
      refine ⟨by simp [hL7.blk], ?_⟩
      refine clone_mv (Rd.of_own hL7.mv) (by simp [engV]; omega) (fun W8 v8 ho8 hb8 => ?_)
      have hbL8 := hbL.then hb8
      have ho8' := ho8.lower hbL.size
      refine app_mv ho8' (hrl.below hb8) hbL8.size (by simp [engV]; omega) (fun v' W9 ho9 hg9 => ?_)
      exact ⟨hbL8.grown hg9 hbL8.size (fun k hk => (ho8'.lt k hk).1), ho9⟩
  rintro l7 W10 ⟨hb10, ho10⟩ _
  have hb010 := hb2.then hb10
  refine check_ok (ht.below hb010) (Rd.of_own ho10) hmall (fun W11 hb11 => ?_)
  have hb211 := hb10.then hb11
  have hb011 := hb2.then hb211
  simp only [q_extract_tuple, List.getElem?_toArray, List.getElem?_cons_succ, List.getElem?_cons_zero, onSome_some, q_neq]
  refine xif_ndec (fun he => ?_) (fun he => ?_)
  · exact bad W11 _ hb211 he (by unfold errV; rw [if_pos he])
  have hchk : (checkV (L ++ [m])).2 = 0 := by simpa using he
  have herr : errV method s0 (L ++ [m]) = (runFrom method 0 s0 [] (ordI (L ++ [m]))).2.2.2 := by unfold errV; rw [if_neg (by rw [hchk]; simp)]
  have hk11 := (blk_below hb211 hmb).trans hk12
  have h11 := h.below hb011
  have e37 : q_load1 (.pointer (some ⟨w.heap.size, 1, none⟩)) W11 = some (.int .i64 m.value) := by simp [hk11]
  rw [q_faddr_ptr, onSome_some, addr_add, Nat.zero_add, e37, onSome_some]
  have hOL : (engV method s0 L).O = ordV L := rfl
  have hLL : (engV method s0 L).L = L := rfl
  refine place_ok (value := m.value) h11.P (by rw [hOL, hLL]; exact ordV_lt L) (by rw [hOL, ordV_len]; omega) (fun W13 hb13 => ?_)
  rw [hOL, hLL]
  have hb013 := hb011.then hb13
  have hb213 := hb211.then hb13
  have h13 := h.below hb013
  rw [q_nil_ptr, onSome_some, q_faddr_ptr, onSome_some, addr_add, q_load1_ptr, cell_mk, h13.blk, cellO_cells]
  simp only [Nat.zero_add, List.getElem?_toArray, List.getElem?_cons_succ, List.getElem?_cons_zero, onSome_some]
  refine clone_int (Rd.of_own h13.ov) (by rw [hOL]; simp [ordV_len]; omega) (fun W14 v43 ho43 hb14 => ?_)
  have hl7 := (Rd.of_own ho10).len
  rw [hl7, onSome_some]
  have esub : IntKind.i64.wrap (((L ++ [m]).length : Nat) - 1 : Int) = ofN L.length := by
    have : (((L ++ [m]).length : Nat) - 1 : Int) = ((L.length : Nat) : Int) := by simp
    rw [this]; exact wrap_i64 (by omega) (by omega)
  rw [q_sub, onSome_some, esub]
  unfold l_lit
  rw [show fillC #[.int .i64 0] [(0, 1, .int .i64 (ofN L.length))] = some #[.int .i64 (ofN L.length)] by simp, onSome_some]
  dsimp only
  have hb1415 := (Below.refl W14.heap.size W14).alloc (Nat.le_refl _) (.cells #[.int .i64 (ofN L.length)] 3)
  have hk15 := new_blk W14 (.cells #[.int .i64 (ofN L.length)] 3) _ rfl
  have ho15 := ho43.alloc (.cells #[.int .i64 (ofN L.length)] 3)
  generalize W14.alloc (.cells #[.int .i64 (ofN L.length)] 3) = W15 at *
  have hb1315 := hb14.then hb1415
  have hp := plc_le L m
  rw [hOL] at ho15
  refine insert_ok (i := plcV L m) ho15 hb1315.size (by simp [ordV_len]; exact hp) (by simp [ordV_len]; omega) rfl hk15 (fun ee => by
    have := (ho43.lt _ ee).2; omega) (fun W16 t49 ho49 hg16 => ?_)
  rw [ord_map] at ho49
  have hb1316 : Below W13.heap.size W13 W16 := hb1315.grown hg16 hb1315.size (fun k hk => (ho43.lt k hk).1)
  have hb016 := hb013.then hb1316
  have hb216 := hb213.then hb1316
  have h16 := h.below hb016
  have equo : IntKind.i64.wrap (((plcV L m : Nat) : Int).tdiv 16) = ((plcV L m / 16 : Nat) : Int) := by
    rw [Int.tdiv_eq_ediv_of_nonneg (by omega), wrap_i64 (by omega) (by omega)]; omega
  have emul : IntKind.i64.wrap (((plcV L m / 16 : Nat) : Int) * 16) = ((16 * (plcV L m / 16) : Nat) : Int) := by
    rw [wrap_i64 (by omega) (by omega)]; omega
  change onSome (q_bin .quo (.int .i64 ((plcV L m : Nat) : Int)) (.int .i64 16)) _
  rw [q_quo, if_neg (by decide), onSome_some, equo, q_mul, onSome_some, emul]
  have hrd7 := (Rd.of_own ho10).below (hb11.then (hb13.then hb1316))
  have hlO : (ordV (L ++ [m])).length = L.length + 1 := by rw [ordV_len]; simp
  have hkt : ∀ k, k ≤ plcV L m → stAt method s0 (ordI (L ++ [m])) k = stAt method s0 (ordI L) k := by
    intro k hk
    rw [ordI_add, stAt_ins hk (by rw [ordI_len]; exact hp)]
  refine rrun_ok (e := engV method s0 L) (s0 := s0) (L := L ++ [m]) (O := ordV (L ++ [m])) (a := plcV L m / 16) (ht.below hb016) h16 hrd7 (Rd.of_own ho49) (ordV_lt _) (ordV_nodup _) hmall (by omega) (by omega) ?_ ?_ ?_ ?_ (fun W17 hne hnone hb17 => ?_) (fun W17 b kvp ksp slv spv hrunS hb17 hbge hM17 hkv17 hks17 hly17 hpa17 hok17 => ?_)
  · show plcV L m / 16 < (keptV _ (L.length / 16 + 1)).length
    simp [keptV]; omega
  · show (keptV (stAt method s0 (ordI L)) (L.length / 16 + 1)).take (plcV L m / 16 + 1) = keptV (stAt method s0 (ordI (L ++ [m]))) (plcV L m / 16 + 1)
    unfold keptV
    rw [← List.map_take, List.take_range, Nat.min_eq_left (by omega)]
    refine List.map_congr_left (fun k hk => ?_)
    have := List.mem_range.1 hk
    exact (hkt _ (by omega)).symm
  · show ∃ d, runOk method s0 ((ordI (L ++ [m])).take (16 * (plcV L m / 16))) = some (stAt method s0 (ordI (L ++ [m])) (16 * (plcV L m / 16)), d)
    rw [hkt _ (by omega), ordI_add, insI_take (by omega) (by rw [ordI_len]; exact hp)]
    exact hG.take _
  · show (stAt method s0 (ordI (L ++ [m])) (16 * (plcV L m / 16))).Ok _
    rw [hkt _ (by omega)]
    exact hG.stOk (by omega)
  · -- the run fails
    have hb217 := hb216.then hb17
    simp only [q_extract_tuple, List.getElem?_toArray, List.getElem?_cons_succ, List.getElem?_cons_zero, onSome_some, q_neq]
    rw [l_new_eq, l_store_to (by simp [zeroR])]
    have hb18 := below_putL ((Below.refl W17.heap.size W17).alloc (Nat.le_refl _) (.cells #[.map none, .slice none 0 0, .int .i64 0, .int .i64 0, .int .i64 0, .slice none 0 0, .slice none 0 0] 145)) (Nat.le_refl _) zeroR.cells.toList 0
    generalize X.putL (W17.alloc (.cells #[.map none, .slice none 0 0, .int .i64 0, .int .i64 0, .int .i64 0, .slice none 0 0, .slice none 0 0] 145)) W17.heap.size 0 zeroR.cells.toList = W19 at *
    refine xif_ndec (fun _ => ?_) (fun hh => absurd hh hne)
    exact bad W19 _ (hb217.then hb18) hne herr
  · -- the run succeeds
    have hmeth : (engV method s0 L).method = method := rfl
    rw [hmeth] at hrunS hM17 hks17 hly17 hpa17 hok17
    have hms : seqV (L ++ [m]) (ordV (L ++ [m])) = ordI (L ++ [m]) := rfl
    rw [hms] at hrunS hM17 hks17 hly17 hpa17 hok17
    have hE0 : errV method s0 (L ++ [m]) = 0 := by
      obtain ⟨d, hd⟩ := hrunS
      exact errV_of hchk ⟨_, hd⟩
    have hlast : stAt method s0 (ordI (L ++ [m])) (ordV (L ++ [m])).length = lastV method s0 (L ++ [m]) := by unfold lastV; rw [ordV_len]
    rw [hlast] at hrunS hly17 hpa17 hok17
    rw [hms, hmeth, hlast]
    obtain ⟨S, hS⟩ : ∃ S, S = lastV method s0 (L ++ [m]) := ⟨_, rfl⟩
    rw [← hS] at hly17 hpa17 hok17 ⊢
    have hb217 := hb216.then hb17
    have hb017 := hb2.then hb217
    obtain ⟨n1, n2, n3⟩ := new_ents (m := m) hG (plcV L m / 16) (by omega)
    generalize entsV (ordV (L ++ [m])) (coAt method s0 (ordI (L ++ [m]))) (16 * (plcV L m / 16)) ((ordV (L ++ [m])).length - 16 * (plcV L m / 16)) = ents at *
    have dk := own_cells hkv17
    have dl := own_cells hly17
    have dp := own_cells hpa17
    simp only [q_extract_tuple, List.getElem?_toArray, List.getElem?_cons_succ, List.getElem?_cons_zero, onSome_some, q_neq]
    rw [l_new_eq, l_store_to (by rw [cells_agg]; simp [dk.2, dl.2, dp.2]), cells_agg]
    have hb19 := below_putL ((Below.refl W17.heap.size W17).alloc (Nat.le_refl _) (.cells #[.map none, .slice none 0 0, .int .i64 0, .int .i64 0, .int .i64 0, .slice none 0 0, .slice none 0 0] 145)) (Nat.le_refl _) (#[.map (some b), kvp, .int .i64 S.qty, .int .i64 S.value, .int .i64 S.price, slv, spv] : Array Value).toList 0
    have hkr : X.blk (X.putL (W17.alloc (.cells #[.map none, .slice none 0 0, .int .i64 0, .int .i64 0, .int .i64 0, .slice none 0 0, .slice none 0 0] 145)) W17.heap.size 0 (#[.map (some b), kvp, .int .i64 S.qty, .int .i64 S.value, .int .i64 S.price, slv, spv] : Array Value).toList) W17.heap.size = some (.cells #[.map (some b), kvp, .int .i64 S.qty, .int .i64 S.value, .int .i64 S.price, slv, spv] 145 (0, 0)) := by simp
    generalize X.putL (W17.alloc (.cells #[.map none, .slice none 0 0, .int .i64 0, .int .i64 0, .int .i64 0, .slice none 0 0, .slice none 0 0] 145)) W17.heap.size 0 (#[.map (some b), kvp, .int .i64 S.qty, .int .i64 S.value, .int .i64 S.price, slv, spv] : Array Value).toList = W19 at *
    refine xif_ndec (fun hh => absurd trivial hh) (fun _ => ?_)
    have e65 : q_loadn 7 (.pointer (some ⟨W17.heap.size, 0, none⟩)) W19 = some (.agg #[.map (some b), kvp, .int .i64 S.qty, .int .i64 S.value, .int .i64 S.price, slv, spv]) := by simp [hkr]
    rw [e65, onSome_some]
    have hb019 := hb017.then hb19
    have h19 := h.below hb019
    have hM19 := hM17.below hb19
    refine adjust_ok (C' := cosV method s0 (L ++ [m])) h19 hM19 n3 (by show (cosV method s0 L).length ≤ 100000; rw [cosV_len]; omega) (fun W21 av hav hb21 => ?_)
    have hb021 := (hb019.then hb21).drew
    have hb1721 := (hb19.then hb21).drew
    have h21 := h.below hb021
    have hkr21 : X.blk W21.drew W17.heap.size = _ := (blk_below hb21 (lt_of_blk hkr)).trans hkr
    have hM21 := (hM19.below hb21).below (Below.refl W21.heap.size W21).drew
    have hxr : ¬ x = W17.heap.size := by have := hb017.size; omega
    have hrx : ¬ W17.heap.size = x := fun ee => hxr ee.symm
    have o7 := own_cells ho10
    have o49 := own_cells ho49
    have hkc21 : X.blk W21.drew W1.heap.size = _ := (blk_below (hb217.then hb1721) hcb).trans hk2
    have hxc : ¬ x = W1.heap.size := by omega
    have hav'' := hav.drew.lower (B' := w.heap.size) hb019.size
    have hb1021 := hb11.then (hb13.then (hb1316.then (hb17.then hb1721)))
    have hmvD := ho10.below hb1021
    have hovD := ho49.below (hb17.then hb1721)
    have hkvD := hkv17.below hb1721
    have hksD := hks17.below hb1721
    have hlyD := hly17.below hb1721
    have hpaD := hpa17.below hb1721
    have hs1721 := hb1721.size
    generalize W21.drew = W21d at *
    have hkx := h21.blk
    simp [hkr21, hkx, hxr, hrx, o7.1, o7.2, o49.1, o49.2, dk.1, dk.2, dl.1, dl.2, dp.1, dp.2]
    rw [build_of (cs := #[.int .i64 0, .int .i64 0, .int .i64 0, .int .i64 0]) (by simp), onSome_some]
    rw [show (if (Value.agg #[.int .i64 0, .int .i64 0, .int .i64 0, .int .i64 0]).cells.size = 4 ∧ (Value.agg #[.int .i64 0, .int .i64 0, .int .i64 0, .int .i64 0]).cells.size ≤ 4 then some (spl #[.int .i64 0, .int .i64 0, .int .i64 0, .int .i64 0] 0 (Value.agg #[.int .i64 0, .int .i64 0, .int .i64 0, .int .i64 0]).cells.toList) else none) = some (CoE.cells Co.zero).toArray by simp [CoE, Co.cs, Co.zero], onSome_some]
    -- the four stores into the engine
    obtain ⟨WX, hWX⟩ : ∃ WX, X.putL (X.putL (X.putL (X.putL W21d x 1 [l7]) x 3 [t49]) x 4 [kvp]) x 5 [.int .i64 S.qty, .int .i64 S.value, .int .i64 S.price, slv, spv] = WX := ⟨_, rfl⟩
    rw [hWX]
    have hFX : Fr (fun k => k = x) W21d WX := by rw [← hWX]; exact ((((Fr.refl (fun k => k = x) W21d).putL (g := x) rfl).putL (g := x) rfl).putL (g := x) rfl).putL (g := x) rfl
    have hkX : X.blk WX x = some (.cells #[.int .i64 method, l7, cv, t49, kvp, .int .i64 S.qty, .int .i64 S.value, .int .i64 S.price, slv, spv] 109 (0, 0)) := by rw [← hWX]; simp [hkx]; rfl
    have kX : KeepT [109, 43] W21d WX := KeepT.of_fr hFX (fun k c t f hk hc => by rw [hk, hkx] at hc; injection hc with hc; injection hc with _ hc; rw [← hc]; decide)
    have hcoX : Own CoE 43 WX B cv (cosV method s0 L) := hFX.own h21.co (fun k hk e => by
      obtain ⟨c, hc⟩ := h21.co.type k hk
      rw [e, hkx] at hc; injection hc with hc; injection hc with _ hc; cases hc)
    have hBX : B ≤ WX.heap.size := Nat.le_trans h21.size hFX.size
    have hr := Rd.new (E := CoE) (t := 43) (a := Co.zero) WX (by decide)
    have hFA : Fr (fun k => k = x) W21d (WX.alloc (.cells (CoE.cells Co.zero).toArray 43)) := hFX.alloc _
    have hkA := old_blk WX (.cells (CoE.cells Co.zero).toArray 43) _ _ hkX
    have hcoA := hcoX.alloc (.cells (CoE.cells Co.zero).toArray 43)
    have hsA : (WX.alloc (.cells (CoE.cells Co.zero).toArray 43)).heap.size = WX.heap.size + 1 := by simp
    have hsX : W21d.heap.size ≤ WX.heap.size := hFX.size
    have eS : WX.heap.size = W21d.heap.size := by rw [← hWX]; simp
    rw [eS] at hr
    have kA : KeepT [109, 43] W21d (WX.alloc (.cells (CoE.cells Co.zero).toArray 43)) := fun b' c t f hb ht => old_blk _ _ _ _ (kX b' c t f hb ht)
    generalize WX.alloc (.cells (CoE.cells Co.zero).toArray 43) = WA at *
    refine app_co3 hcoA hr (by omega) (by rw [cosV_len]; simp; omega) (fun v' W27 ho27 hg27 hrow27 => ?_)
    have d' := own_cells ho27
    have xcv : ∀ k, cv.ownBlock = some k → x ≠ k := fun k hk e => by
      obtain ⟨c, hc⟩ := hcoA.type k hk
      rw [← e, hkA] at hc; injection hc with hc; injection hc with _ hc; cases hc
    have hk27 : X.blk W27 x = _ := (hg27.block x (lt_of_blk hkA) (fun e => xcv x e.symm rfl)).trans hkA
    have k27 : KeepT [109, 43] W21d W27 := by
      intro b' c t f hb htt
      have h1 := kA b' c t f hb htt
      refine (hg27.block b' (lt_of_blk h1) (fun e => ?_)).trans h1
      obtain ⟨c', hc'⟩ := hcoA.type b' e.symm
      rw [h1] at hc'; injection hc' with hc'; injection hc' with _ hc'; rw [hc'] at htt; exact htt (by decide)
    rw [l_store_to (by rw [hk27]; simp [d'.1, d'.2]), d'.1]
    obtain ⟨W28, hW28⟩ : ∃ W28, X.putL W27 x 2 [v'] = W28 := ⟨_, rfl⟩
    simp only [Array.toList]
    rw [hW28]
    have hk28 : X.blk W28 x = some (.cells #[.int .i64 method, l7, v', t49, kvp, .int .i64 S.qty, .int .i64 S.value, .int .i64 S.price, slv, spv] 109 (0, 0)) := by rw [← hW28]; simp [hk27]
    have k28 : KeepT [109, 43] W21d W28 := by
      intro b' c t f hb htt
      have h1 := k27 b' c t f hb htt
      rw [← hW28, blk_putL, if_neg (fun e => by rw [← e, hk27] at h1; injection h1 with h1; injection h1 with _ h1; rw [← h1] at htt; exact htt (by decide))]
      exact h1
    have xv' : ∀ k, v'.ownBlock = some k → x ≠ k := fun k hk e => by
      obtain ⟨c, hc⟩ := ho27.type k hk
      rw [← e, hk27] at hc; injection hc with hc; injection hc with _ hc; cases hc
    have ho28 : Own CoE 43 W28 B v' (cosV method s0 L ++ [Co.zero]) := by rw [← hW28]; exact ho27.putL hk27 (by decide)
    have hkr28 := k28 _ _ _ _ hkr21 (by decide)
    rw [hkr28, cellO_cells]
    simp only [List.getElem?_toArray, List.getElem?_cons_zero, onSome_some]
    have hM28 : MapAt (fun n : Int => .int .i64 n) W28 b ents := by
      refine hM21.of ?_
      have hbl := hM21.lt
      have hne : ∀ k c t f, X.blk W21d k = some (.cells c t f) → b ≠ k := fun k c t f hk e => by
        obtain ⟨es, clock, h1, _⟩ := hM21
        rw [e] at h1; unfold X.blk at hk; rw [h1] at hk; cases hk
      have e1 : WA.heap[b]? = W21d.heap[b]? := hFA.block b hbl (hne _ _ _ _ hkx)
      have e2 : W27.heap[b]? = WA.heap[b]? := hg27.block b (by have := hFA.size; omega) (fun e => by
        obtain ⟨c, hc⟩ := h21.co.type b e.symm
        exact hne b _ _ _ hc rfl)
      have e3 : W28.heap[b]? = W27.heap[b]? := by
        rw [← hW28]
        have := blk_putL (w := W27) (b := x) (o := 2) (b' := b) (vs := [v'])
        rw [if_neg (fun e => hne _ _ _ _ hkx e.symm)] at this
        exact this
      exact e3.trans (e2.trans e1)
    have hs28 : W21d.heap.size ≤ W28.heap.size := by
      have h1 := hFA.size
      have h2 := hg27.size
      have h3 : W28.heap.size = W27.heap.size := by rw [← hW28]; simp
      omega
    refine map_range ty143 hM28 (fun W29 hL29 hM29 hb29 hs29 => ?_)
    have hk29 := (blk_below hb29 (lt_of_blk hk28)).trans hk28
    have ho29 := ho28.below hb29
    have hgv : ∃ g, v'.ownBlock = some g := by
      obtain ⟨g, cap, cur, hv, _⟩ := ho27.block (by simp)
      exact ⟨g, by rw [hv]; rfl⟩
    obtain ⟨g, hgv⟩ := hgv
    refine write_ok (x := x) (B := B) (cv := v') (l7 := l7) (t113 := l7) (cells := [.int .i64 method, l7, v', t49, kvp, .int .i64 S.qty, .int .i64 S.value, .int .i64 S.price, slv, spv]) hk29 (by simp) hL29 ho29 hgv (by rw [List.length_append, cosV_len, cosV_len]; simp) n1 n2 (fun W31 ho31 hF31 => ?_)
    have hxit : x ≠ W28.heap.size := Nat.ne_of_lt (lt_of_blk hk28)
    have hk31 := hF31.blk hk29 (fun e => e.elim hxit (xv' g hgv))
    rw [hk31, cellO_cells]
    simp only [List.getElem?_toArray, List.getElem?_cons_succ, List.getElem?_cons_zero, onSome_some]
    have hi : L.length < (cosV method s0 (L ++ [m])).length := by rw [cosV_len]; simp
    obtain ⟨ad, hq, hload⟩ := co_load (Rd.of_own ho31) hi
    rw [show IntKind.i64.wrap ((L.length : Nat) : Int) = ((L.length : Nat) : Int) from wrap_i64 (by omega) (by omega), hq, onSome_some, (hload _ (Below.refl _ _)).1, onSome_some]
    -- the result's variable
    have hgn : W1.heap.size ≠ g := by
      intro e
      rcases hrow27 with h1 | h1
      · rw [hgv] at h1
        have := (h.co.lt g h1.symm).2
        omega
      · rw [hgv] at h1
        injection h1 with h1
        have := lt_of_blk hkc21
        have := hFA.size
        omega
    have hkc28 : X.blk W28 W1.heap.size = some (.cells #[.int .i64 0, .int .i64 0, .int .i64 0, .int .i64 0] 43 (0, 0)) := by
      have h1 := hFA.blk hkc21 (fun e => hxc e.symm)
      have h2 := (hg27.block _ (lt_of_blk h1) (fun e => by have := (h.co.lt _ e.symm).2; omega)).trans h1
      rw [← hW28, blk_putL, if_neg hxc]
      exact h2
    have hkc31 := hF31.blk ((blk_below hb29 (lt_of_blk hkc28)).trans hkc28) (fun e => e.elim (Nat.ne_of_lt (lt_of_blk hkc28)) hgn)
    have efin : (((cosV method s0 (L ++ [m]))[L.length]?).getD Co.zero) = (cosV method s0 (L ++ [m]))[L.length] := by rw [List.getElem?_eq_getElem hi]; rfl
    rw [efin] at hK2
    generalize (cosV method s0 (L ++ [m]))[L.length] = cc at *
    rw [l_store_to (by rw [cells_agg, hkc31]; simp), cells_agg]
    obtain ⟨WF, hWF⟩ : ∃ WF, X.putL W31 W1.heap.size 0 [.int .i64 cc.seq, .int .i64 cc.qty, .int .i64 cc.value, .int .i64 cc.var] = WF := ⟨_, rfl⟩
    simp only [Array.toList]
    rw [hWF]
    have eld : loadO 4 (X.blk WF W1.heap.size) 0 = some cc.v := by rw [← hWF]; simp [hkc31, Co.v]
    rw [eld, onSome_some]
    have kF : KeepT [109, 43] W21d WF := by
      intro b' c t f hb htt
      have h1 := k28 b' c t f hb htt
      have h2 := (blk_below hb29 (lt_of_blk h1)).trans h1
      have h3 := hF31.blk h2 (fun e => by
        rcases e with e | e
        · exact absurd (lt_of_blk h1) (by omega)
        · obtain ⟨c', hc'⟩ := ho29.type g hgv
          rw [e, hc'] at h2; injection h2 with h2; injection h2 with _ h2; rw [← h2] at htt; exact htt (by decide))
      rw [← hWF, blk_putL, if_neg (fun e => by rw [← e, hkc31] at h3; injection h3 with h3; injection h3 with _ h3; rw [← h3] at htt; exact htt (by decide))]
      exact h3
    have hFF : Fr (EngS x r) w WF := by
      have f1 : Fr (EngS x r) w W21d := Fr.of_below hb021
      have f2 := f1.trans hFA (fun k _ e => .inl e)
      have f3 := f2.trans (Fr.of_grown (S := fun k => cv.ownBlock = some k) hg27 (fun k e => e)) (fun k _ e => .inr (by rw [← hrow]; exact e))
      have f4 : Fr (EngS x r) w W28 := by rw [← hW28]; exact f3.putL (.inl rfl)
      have f5 := (f4.then_below hb29).trans hF31 (fun k hk e => by
        rcases e with e | e
        · have := hb021.size; omega
        · rcases hrow27 with h1 | h1
          · exact .inr (by rw [← hrow, ← h1, hgv, e])
          · rw [hgv] at h1
            injection h1 with h1
            have := hb021.size
            have := hFA.size
            omega)
      have hb : Below 0 W31 WF := by rw [← hWF]; exact below_putL (Below.refl 0 W31) (Nat.zero_le _) _ _
      refine f5.trans (S' := fun k => k = W1.heap.size) ⟨hb.os, hb.tape, hb.output, hb.size, fun k hk hn => ?_⟩ (fun k hk e => by omega)
      have := blk_putL (w := W31) (b := W1.heap.size) (o := 0) (b' := k) (vs := [.int .i64 cc.seq, .int .i64 cc.qty, .int .i64 cc.value, .int .i64 cc.var])
      rw [if_neg (fun e => hn e.symm), hWF] at this
      exact this
    have hkxF : X.blk WF x = some (.cells #[.int .i64 method, l7, v', t49, kvp, .int .i64 S.qty, .int .i64 S.value, .int .i64 S.price, slv, spv] 109 (0, 0)) := by
      rw [← hWF, blk_putL, if_neg (fun e => hxc e.symm)]
      exact hk31
    have hBw := h.size
    refine hK2 hE0 WF v'.ownBlock av ⟨l7, v', t49, kvp, slv, spv, ksp, rfl, ?_⟩ ?_ hFF (kF.own hav'' (by decide))
    · have hLe : (engV method s0 (L ++ [m])).L = L ++ [m] := rfl
      have hCe : (engV method s0 (L ++ [m])).C = cosV method s0 (L ++ [m]) := rfl
      have hOe : (engV method s0 (L ++ [m])).O = ordV (L ++ [m]) := rfl
      have hSe : (engV method s0 (L ++ [m])).last = S := hS.symm
      have hKe : (engV method s0 (L ++ [m])).K = keptV (stAt method s0 (ordI (L ++ [m]))) ((ordV (L ++ [m])).length / 16 + 1) := by rw [ordV_len]; rfl
      have h2B := hb2.size
      have h13B := hb013.size
      have h16B := hb016.size
      refine ⟨h.le, by rw [hSe]; exact hkxF, ?_, ?_, ?_, ?_, ?_, ?_, ?_⟩
      · rw [hLe]; exact (kF.own hmvD (by decide)).lower (by omega)
      · rw [hCe, ← hWF]
        refine ho31.step (fun k hk => ?_)
        rw [blk_putL, if_neg (fun e => hgn (by rw [hgv] at hk; injection hk with hk; rw [hk]; exact e))]
      · rw [hOe]; exact (kF.own hovD (by decide)).lower (by omega)
      · exact (kF.own hkvD (by decide)).lower (by omega)
      · rw [hKe]; exact kF.ks hksD (by decide) (by decide)
      · rw [hSe]; exact kF.own hlyD (by decide)
      · rw [hSe]; exact kF.own hpaD (by decide)
    · rcases hrow27 with h1 | h1
      · left; rw [h1]; exact hrow
      · right
        refine ⟨_, h1, ?_⟩
        have := hb021.size
        have := hFA.size
        omega
end Go.X
end
