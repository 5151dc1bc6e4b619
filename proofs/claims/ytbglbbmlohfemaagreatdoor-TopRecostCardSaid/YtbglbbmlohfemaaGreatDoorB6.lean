/- Contracts of package lots. -/
import Derived.Test.YtbglbbmlohfemaaGreatDoorTo
import Derived.Test.YtbglbbmlohfemaaGreatDoorB5
section
set_option linter.unusedVariables false
set_option linter.unusedSimpArgs false
namespace Go.X
open Go.Proofs Go.RowKit
set_option maxRecDepth 20000 in
theorem cp_at {w : World} {B : Nat} {K : Value → World → Prop} {v s : Value} {k m : List Ly} {a : Option Addr} {o dn c : Nat}
    (hv : Own LyE 103 w B v k) (hd : dn ≠ 0 → ∃ g, v.ownBlock = some g ∧ a = some ⟨g, o * 4, none⟩) (ho : o + dn ≤ k.length) (hs : Rd LyE w s m) (hm : dn ≤ m.length)
    (hK : ∀ u w', Own LyE 103 w' B v (k.take o ++ m.take dn ++ k.drop (o + dn)) → w.grownBy w' v.ownBlock → K u w') : l_copy Tryz.prog #[25, 25] 3 (.slice a dn c) s w K :=
  copy_at (E := LyE) lySl hv hd ho hs hm hK
attribute [local irreducible] l_append l_copy l_make l_run q_slice q_eq q_index q_build onSome l_lit
variable {w w' : World} {B x : Nat} {s : St} {lv pv : Value} {m : Mv} {c : Co} {ty : TypeId} {r : List Value}
@[simp] theorem q_aft {a b : ByteArray} : q_bin .gtr (.string a) (.string b) = some (.bool (aftB a b)) := rfl
theorem lotAt_step {lot : ByteArray} {l : List Ly} {i : Nat} (hi : i < l.length) (h : lotAt lot l = (i + (lotAt lot (l.drop i)).1, (lotAt lot (l.drop i)).2)) :
    (l[i].lot = lot → lotAt lot l = (i, true)) ∧ (l[i].lot ≠ lot → aftB l[i].lot lot = true → lotAt lot l = (i, false)) ∧
    (l[i].lot ≠ lot → aftB l[i].lot lot = false → lotAt lot l = (i + 1 + (lotAt lot (l.drop (i + 1))).1, (lotAt lot (l.drop (i + 1))).2)) := by
  have hd : l.drop i = l[i] :: l.drop (i + 1) := List.drop_eq_getElem_cons hi
  rw [hd] at h
  refine ⟨fun h1 => ?_, fun h1 h2 => ?_, fun h1 h2 => ?_⟩
  · rw [h, lotAt, if_pos h1]; rfl
  · rw [h, lotAt, if_neg h1, if_pos h2]; rfl
  · rw [h, lotAt, if_neg h1, if_neg (by rw [h2]; exact Bool.false_ne_true)]
    exact Prod.ext (by simp only; omega) rfl
def LotI (lot : ByteArray) (l : List Ly) (w0 : World) (a o t : Value) (W : World) : Prop :=
  Below w0.heap.size w0 W ∧ ∃ i : Nat, a = .int .i64 i ∧ o = .bool false ∧ t = .int .i64 i ∧ i ≤ l.length ∧ lotAt lot l = (i + (lotAt lot (l.drop i)).1, (lotAt lot (l.drop i)).2)
def lotM (n : Nat) (_ _ v : Value) (_ : World) : Nat := n - (intOf v).toNat
@[simp] theorem gateQ_undef {want : Bool} {q : Option Value} : gateQ want undef q = some undef := rfl
def LotJ (lot : ByteArray) (l : List Ly) (w0 : World) (a o : Value) (W : World) : Prop := Below w0.heap.size w0 W ∧ a = .int .i64 ((lotAt lot l).1 : Nat) ∧ o = .bool (lotAt lot l).2
theorem lots_find {lot : ByteArray} (h : SX ty r w B x s lv pv) : Calc 182 [ptr x, .string lot] w (.tuple #[.int .i64 ((lotAt lot s.layers).1 : Nat), .bool (lotAt lot s.layers).2]) := by
  intro K hK
  refine lift182 ?_
  unfold L182
  have hb := h.blk
  unfold scells at hb
  refine joining_i (LotJ lot s.layers w) ⟨?_, ?_⟩
  · simp [ptr, hb]
    rw [h.ly.len, onSome_some]
    refine looping_i (LotI lot s.layers w) (lotM s.layers.length) ⟨⟨Below.refl _ _, 0, rfl, rfl, rfl, Nat.zero_le _, by simp⟩, ?_⟩
    rintro a o t W ⟨hbW, i, rfl, rfl, rfl, hi, hat⟩
    have hmx := h.ly.i64
    have hW := h.called hbW
    simp only [q_lss, onSome_some]
    refine xif_dec (fun hlt => ?_) (fun hlt => ?_)
    · have hlt' : i < s.layers.length := by omega
      have e1 : IntKind.i64.wrap ((i : Int) + 1) = ((i + 1 : Nat) : Int) := by rw [wrap_i64 (by omega) (by omega)]; omega
      obtain ⟨ad, hq, hload⟩ := lyElem (Rd.of_own hW.ly) hlt'
      obtain ⟨s1, s2, s3⟩ := lotAt_step hlt' hat
      rw [hq, onSome_some, hload, onSome_some]
      simp [l_new]
      have hb2 := below_putL (hbW.alloc hbW.size (Obj.cells #[Value.int IntKind.i64 0, Value.string { data := #[] }, Value.int IntKind.i64 0, Value.int IntKind.i64 0] 103)) hbW.size [.int .i64 s.layers[i].seq, .string s.layers[i].lot, .int .i64 s.layers[i].qty, .int .i64 s.layers[i].value] 0
      refine xif_dec (fun h1 => ?_) (fun h1 => ?_)
      · have e := s1 h1
        exact ⟨hb2, by rw [e], by rw [e]⟩
      · refine xif_bool (fun h2 => ?_) (fun h2 => ?_)
        · have e := s2 h1 h2
          exact ⟨hb2, by rw [e], by rw [e]⟩
        · rw [e1]
          exact ⟨⟨hb2, i + 1, rfl, rfl, rfl, by omega, s3 h1 h2⟩, by simp only [lotM, intOf]; omega⟩
    · have hil : i = s.layers.length := by omega
      have e : lotAt lot s.layers = (i, false) := by rw [hat, hil]; simp [lotAt]
      exact ⟨hbW, by rw [e], by rw [e]⟩
  · rintro a o W ⟨hbW, rfl, rfl⟩ _
    exact hK _ hbW
theorem lots_qty {lot : ByteArray} (h : SX ty r w B x s lv pv) : Calc 183 [ptr x, .string lot] w (.int .i64 (lotQty lot s.layers)) := by
  intro K hK
  refine lift183 ?_
  unfold L183
  refine lots_find h _ (fun w1 hb1 => ?_)
  have h1 := h.called hb1
  unfold lotQty at hK
  simp
  refine xif_bool (fun ho => ?_) (fun ho => ?_)
  · have hi := (lotAt_le lot s.layers).2 ho
    rw [if_pos ho, List.getElem?_eq_getElem hi] at hK
    have hb := h1.blk
    unfold scells at hb
    obtain ⟨g, cap, hv, hBg, _, hat⟩ := h1.ly.lyAt hi
    have hi' : ((lotAt lot s.layers).1 : Int) < (s.layers.length : Int) := by omega
    simp [ptr, hb, hv, hi', hat.c2]
    exact hK _ hb1
  · rw [if_neg (by rw [ho]; exact Bool.false_ne_true)] at hK
    exact hK _ hb1
/-- The layers' row itself has been written. -/
theorem SX.grownL {l' : List Ly} (h : SX ty r w B x s lv pv) (hg : w.grownBy w' lv.ownBlock) (ho : Own LyE 103 w' B lv l') : SX ty r w' B x (s.setL l') lv pv ∧ Did (ST ty) B w w' :=
  ⟨⟨h.le, (hg.block x (lt_of_blk h.blk) (own_blk h.ly h.blk h.n1)).trans h.blk, ho, h.pa.grown hg (own_ne h.pa h.ly (by decide)), h.n1, h.n2⟩, (Did.refl (ST ty) B w).grown hg h.size (own_row h.ly ST.b)⟩
/-- A whole layer is written. -/
theorem SX.layer (h : SX ty r w B x s lv pv) {g cap i : Nat} (hv : lv = .slice (some ⟨g, 0, none⟩) s.layers.length cap) (hi : i < s.layers.length) (a : Ly) :
    SX ty r (X.putL w g (i * 4) [.int .i64 a.seq, .string a.lot, .int .i64 a.qty, .int .i64 a.value]) B x (s.setL (s.layers.set i a)) lv pv ∧ Did (ST ty) B w (X.putL w g (i * 4) [.int .i64 a.seq, .string a.lot, .int .i64 a.qty, .int .i64 a.value]) := by
  have h1 := h.cellL (j := 0) (u := .int .i64 a.seq) (a := ⟨a.seq, s.layers[i].lot, s.layers[i].qty, s.layers[i].value⟩) hv hi (by decide) rfl
  have h2 := h1.1.cellL (i := i) (j := 1) (u := .string a.lot) (a := ⟨a.seq, a.lot, s.layers[i].qty, s.layers[i].value⟩) (by simp only [St.setL_l, List.length_set]; exact hv) (by simp only [St.setL_l, List.length_set]; exact hi) (by decide) (by simp [Ly.cs])
  have h3 := h2.1.cellL (i := i) (j := 2) (u := .int .i64 a.qty) (a := ⟨a.seq, a.lot, a.qty, s.layers[i].value⟩) (by simp only [St.setL_l, List.length_set]; exact hv) (by simp only [St.setL_l, List.length_set]; exact hi) (by decide) (by simp [Ly.cs])
  have h4 := h3.1.cellL (i := i) (j := 3) (u := .int .i64 a.value) (a := a) (by simp only [St.setL_l, List.length_set]; exact hv) (by simp only [St.setL_l, List.length_set]; exact hi) (by decide) (by simp [Ly.cs])
  have hf := h4.1
  simp only [St.setL_l, St.setL_L, List.set_set] at hf
  exact ⟨hf, ((h1.2.trans h2.2).trans h3.2).trans h4.2⟩
theorem lots_record {v : Int} (h : SX 135 r w B x s lv pv) (hn : s.past.length < 1000000) {K : Value → World → Prop}
    (hK : ∀ w' pv', SX 135 r w' B x (s.setP (s.past ++ [mkPa m v])) lv pv' → Did (ST 135) B w w' → K (.tuple #[]) w') : Ret Tryz.prog 181 [ptr x, m.v, .int .i64 v] w K := by
  refine lift181 ?_
  unfold L181
  have hb := h.blk
  unfold scells at hb
  have hx1 : ¬ x = w.heap.size := Nat.ne_of_lt (lt_of_blk hb)
  simp [ptr, l_new, hb, hx1]
  rw [build_of (cs := #[.int .i64 m.seq, .int .i64 m.kind, .string m.lot, .int .i64 m.qty, .int .i64 v, .int .i64 0, .int .i64 0]) (by simp), onSome_some]
  have h1 := (h.alloc (.cells #[.int .i64 m.seq, .int .i64 m.value, .string m.item, .int .i64 m.kind, .int .i64 m.qty, .int .i64 m.cost, .string m.lot, .int .i64 m.ref] 47)).drew
  have hd1 := ((Did.refl (ST 135) B w).alloc h.size (.cells #[.int .i64 m.seq, .int .i64 m.value, .string m.item, .int .i64 m.kind, .int .i64 m.qty, .int .i64 m.cost, .string m.lot, .int .i64 m.ref] 47)).drew
  refine h1.past (a := mkPa m v) hn (fun w3 pv3 hx3 hc3 ho3 h3 hd3 _ => ?_)
  rw [l_store_to (by simp [hx3, scells, hc3, ho3]), hc3]
  exact hK _ _ h3 (hd1.trans hd3)
theorem lots_past {k n : Int} (h : SX ty r w B x s lv pv) {K : Value → World → Prop} (hK : K (findR pv (findP k n s.past)) w) : Ret Tryz.prog 81 [ptr x, .int .i64 k, .int .i64 n] w K := by
  refine lift81 ?_
  unfold L81 ptr
  have hb := h.blk
  have hl := h.pa.len
  unfold scells at hb
  simp [hb, hl]
  refine looping_i (PastI s.past k n w) (lenM s.past.length) ⟨⟨rfl, 0, rfl, by omega, by omega⟩, ?_⟩
  rintro v W ⟨rfl, i, rfl, hi, hno⟩
  have hmx' := h.pa.i64
  simp
  refine xif_dec (fun hlt => ?_) (fun hlt => ?_)
  · obtain ⟨g, cap, hv, hBg, _, hat⟩ := h.pa.paAt hlt
    have hlt' : (i : Int) < (s.past.length : Int) := by omega
    have e1 : IntKind.i64.wrap ((i : Int) + 1) = ((i + 1 : Nat) : Int) := by rw [wrap_i64 (by omega) (by omega)]; omega
    have hstep : okP k n s.past[i] = false → PastI s.past k n W (.int .i64 (IntKind.i64.wrap ((i : Int) + 1))) W ∧ lenM s.past.length (.int .i64 (IntKind.i64.wrap ((i : Int) + 1))) W < lenM s.past.length (.int .i64 (i : Int)) W := by
      intro hf
      rw [e1]
      refine ⟨⟨rfl, i + 1, rfl, by omega, fun j hj hji => ?_⟩, by simp only [lenM, intOf]; omega⟩
      rcases Nat.lt_or_ge j i with h1 | h1
      · exact hno j hj h1
      · have : j = i := by omega
        subst this
        exact hf
    have hfound : okP k n s.past[i] = true → K (.pointer (some ⟨g, i * 7, none⟩)) W := by
      intro ht
      have := idxF_some hlt ht hno
      unfold findP at hK
      rw [this] at hK
      simpa [findR, elP, hv] using hK
    simp [hb, hv, hlt', hat.c0]
    by_cases h1 : s.past[i].seq = n
    · by_cases h2 : k = 0
      · simp [h1, h2]
        exact hfound (by simp [okP, h1, h2])
      · by_cases h3 : s.past[i].kind = k
        · simp [h1, h2, h3, hat.c1]
          exact hfound (by simp [okP, h1, h3])
        · simp [h1, h2, h3, hat.c1]
          exact hstep (by simp [okP, h2, h3])
    · simp [h1]
      exact hstep (by simp [okP, h1])
  · have : findP k n s.past = none := idxF_none (fun j hj => hno j hj (by omega))
    rw [this] at hK
    exact hK
theorem lots_far {n : Int} : Calc 136 [.int .i64 n] w (.bool (farV n)) := by
  intro K hK
  refine lift136 ?_
  unfold L136
  refine near_ok _ (fun w1 hb1 => ?_)
  simp only [q_neq, onSome_some]
  rw [farV_near]
  exact hK _ hb1
end Go.X
end
section
set_option linter.unusedVariables false
set_option linter.unusedSimpArgs false
namespace Go.X
open Go.Proofs Go.RowKit
attribute [local irreducible] l_append l_copy l_make l_run q_slice q_eq q_index q_build onSome l_lit
variable {w w' : World} {B x : Nat} {s : St} {lv pv : Value} {m : Mv} {c : Co} {ty : TypeId} {r : List Value}
/-- The layers with a place for a lot. -/
def lotIns (lot : ByteArray) (l : List Ly) : List Ly := if (lotAt lot l).2 then l else l.take (lotAt lot l).1 ++ ⟨0, lot, 0, 0⟩ :: l.drop (lotAt lot l).1
theorem lotIns_lt (lot : ByteArray) (l : List Ly) : (lotAt lot l).1 < (lotIns lot l).length := by
  have h := lotAt_le lot l
  unfold lotIns
  split
  · rename_i h2; exact h.2 h2
  · simp; omega
theorem lotAdd_eq {lot : ByteArray} {q v : Int} {l : List Ly} : lotAdd lot q v l = (lotIns lot l).set (lotAt lot l).1 ((lotIns lot l)[(lotAt lot l).1]'(lotIns_lt lot l) |>.plus q v) := by
  unfold lotAdd
  show (match (lotIns lot l)[(lotAt lot l).1]? with | none => lotIns lot l | some a => (lotIns lot l).set (lotAt lot l).1 (a.plus q v)) = _
  rw [List.getElem?_eq_getElem (lotIns_lt lot l)]
theorem ins_list {l : List Ly} {i : Nat} (hi : i ≤ l.length) (a z : Ly) :
    (((l ++ [z]).take (i + 1) ++ ((l ++ [z]).drop i).take (l.length - i) ++ (l ++ [z]).drop (i + 1 + (l.length - i))).set i a) = l.take i ++ a :: l.drop i := by
  have h1 : (l ++ [z]).drop (i + 1 + (l.length - i)) = [] := List.drop_eq_nil_of_le (by simp; omega)
  have h2 : ((l ++ [z]).drop i).take (l.length - i) = l.drop i := by
    rw [List.drop_append_of_le_length hi, List.take_append_of_le_length (by simp), List.take_of_length_le (by simp)]
  rw [h1, h2, List.append_nil]
  have h3 : ((l ++ [z]).take (i + 1)) = l.take i ++ [((l ++ [z])[i]'(by simp; omega))] := by
    rw [List.take_succ_eq_append_getElem (by simp; omega), List.take_append_of_le_length hi]
  rw [h3, List.append_assoc, List.set_append_right _ _ (by simp; omega)]
  have h4 : i - (l.take i).length = 0 := by simp; omega
  rw [h4]
  rfl
def AddJ (s' : St) (w : World) (B x : Nat) (pv : Value) (W : World) : Prop := ∃ lv', SX 135 [] W B x s' lv' pv ∧ Did (ST 135) B w W
theorem lots_add {lot : ByteArray} {q v : Int} (h : SX 135 [] w B x s lv pv) (hn : s.layers.length < 1000000) {K : Value → World → Prop}
    (hK : ∀ w' lv', SX 135 [] w' B x (s.setL (lotAdd lot q v s.layers)) lv' pv → Did (ST 135) B w w' → K (.tuple #[]) w') : Ret Tryz.prog 180 [ptr x, .string lot, .int .i64 q, .int .i64 v] w K := by
  refine lift180 ?_
  unfold L180
  refine lots_find h _ (fun w1 hb1 => ?_)
  have h1 := h.called hb1
  have hd1 := (Did.refl (ST 135) B w).called hb1 h.size
  have hle := lotAt_le lot s.layers
  have hlt := lotIns_lt lot s.layers
  rw [lotAdd_eq] at hK
  obtain ⟨i, hi⟩ : ∃ i, i = (lotAt lot s.layers).1 := ⟨_, rfl⟩
  simp only [q_extract_tuple]
  simp
  rw [← hi] at hle hlt ⊢
  simp only [← hi] at hK
  refine joining_i (AddJ (s.setL (lotIns lot s.layers)) w B x pv) ⟨?_, ?_⟩
  · refine xif_bool (fun ho => ?_) (fun ho => ?_)
    · have ho' : (lotAt lot s.layers).2 = false := by simpa using ho
      have hb := h1.blk
      unfold scells at hb
      simp [ptr, hb]
      rw [build_of (cs := #[.int .i64 0, .string ⟨#[]⟩, .int .i64 0, .int .i64 0]) (by simp), onSome_some]
      unfold l_lit
      rw [show fillC #[.int .i64 0, .string ⟨#[]⟩, .int .i64 0, .int .i64 0] [(0, 4, .agg #[.int .i64 0, .string ⟨#[]⟩, .int .i64 0, .int .i64 0])] = some (LyE.cells ⟨0, ⟨#[]⟩, 0, 0⟩).toArray by simp [LyE, Ly.cs], onSome_some]
      have h2 := h1.alloc (.cells (LyE.cells ⟨0, ⟨#[]⟩, 0, 0⟩).toArray 103)
      have hd2 := hd1.alloc h1.size (.cells (LyE.cells ⟨0, ⟨#[]⟩, 0, 0⟩).toArray 103)
      have hr2 := Rd.new (E := LyE) (t := 103) (a := ⟨0, ⟨#[]⟩, 0, 0⟩) w1 (by decide)
      generalize (w1.alloc (Obj.cells (LyE.cells ⟨0, ⟨#[]⟩, 0, 0⟩).toArray 103)) = w2 at *
      refine app_ly h2.ly hr2 h2.size (by simp; omega) (fun v3 w3 ho3 hg3 => ?_)
      have hx3 : X.blk w3 x = some (.cells (scells s lv pv []) 135 (0, 0)) := (hg3.block x (lt_of_blk h2.blk) (own_blk h2.ly h2.blk h2.n1)).trans h2.blk
      have hone := own_cells ho3
      rw [l_store_to (by simp [hx3, scells, hone.1, hone.2]), hone.1]
      have h4 := h2.setL hg3 ho3
      have hd4 := hd2.trans h4.2
      have hX4 := h4.1
      rw [show #[v3].toList = [v3] from rfl]
      generalize X.putL w3 x 3 [v3] = w4 at *
      have hb4 := hX4.blk
      unfold scells at hb4
      simp only [St.setL_q, St.setL_v, St.setL_r] at hb4
      have hmx := ho3.i64
      have hlen : (s.layers ++ [(⟨0, ⟨#[]⟩, 0, 0⟩ : Ly)]).length = s.layers.length + 1 := by simp
      have e1 : IntKind.i64.wrap ((i : Int) + 1) = ((i + 1 : Nat) : Int) := by
        rw [hlen] at hmx
        rw [wrap_i64 (by omega) (by omega)]; omega
      simp [hb4]
      rw [e1]
      have hL := hX4.drew.ly
      simp only [St.setL_l] at hL
      obtain ⟨g, cap, hv3, hBg, _, _⟩ := hL.lyAt (i := i) (by rw [hlen]; omega)
      have hL' := hL.slice'
      obtain ⟨_, cap', hv3', _, hcap⟩ := hL'
      rw [hv3] at hv3'
      injection hv3' with _ _ hcc
      subst hcc
      have hsl : q_slice Tryz.prog 25 v3 (some (.int .i64 ((i + 1 : Nat) : Int))) none none = some (.slice (if cap = i + 1 then some ⟨g, 0, none⟩ else some ⟨g, (i + 1) * 4, none⟩) (s.layers.length - i) (cap - (i + 1))) := by
        rw [hv3, q_slice_of (E := LyE) lySl (bounds_rest (by rw [hlen]; omega))]
        rw [hlen]
        congr 2
        · by_cases hc : cap = i + 1
          · simp [hc]
          · simp [hc]; rfl
        · omega
      rw [hsl, onSome_some]
      obtain ⟨v5, hq5, hr5⟩ := rd_rest (E := LyE) (k := .i64) lySl (Rd.of_own hL) (show i ≤ (s.layers ++ [(⟨0, ⟨#[]⟩, 0, 0⟩ : Ly)]).length by rw [hlen]; omega)
      rw [hq5, onSome_some]
      refine cp_at (o := i + 1) hL (fun hdn => ⟨g, by rw [hv3]; rfl, ?_⟩) (by rw [hlen]; omega) hr5 (by rw [List.length_drop, hlen]; omega) (fun u w5 ho5 hg5 => ?_)
      · rw [hlen] at hcap
        rw [if_neg (by omega)]
      have h5 := hX4.drew.grownL hg5 ho5
      have hd5 := hd4.drew.trans h5.2
      have hX5 := h5.1
      have hb5 := hX5.blk
      unfold scells at hb5
      simp only [St.setL_q, St.setL_v, St.setL_r] at hb5
      have hlen5 : ((s.layers ++ [(⟨0, ⟨#[]⟩, 0, 0⟩ : Ly)]).take (i + 1) ++ ((s.layers ++ [(⟨0, ⟨#[]⟩, 0, 0⟩ : Ly)]).drop i).take (s.layers.length - i) ++ (s.layers ++ [(⟨0, ⟨#[]⟩, 0, 0⟩ : Ly)]).drop (i + 1 + (s.layers.length - i))).length = s.layers.length + 1 := by
        simp; omega
      have hI : (i : Int) < ((s.layers.length : Int) + 1) := by omega
      have hv3l : v3 = .slice (some ⟨g, 0, none⟩) (s.layers.length + 1) cap := by rw [hv3, hlen]
      have h6 := hX5.layer (g := g) (cap := cap) (i := i) (by rw [hv3l]; simp only [St.setL_l, hlen5]) (by simp only [St.setL_l, hlen5]; omega) ⟨0, lot, 0, 0⟩
      simp only [St.setL_l, St.setL_L, ins_list hle.1] at h6
      obtain ⟨cur, hcur⟩ := hX5.ly.type g (by rw [hv3]; rfl)
      have hcurk := (hX5.ly.lyAt (i := i) (by simp only [St.setL_l, hlen5]; omega))
      obtain ⟨g', cap', hvv, _, ⟨cur', hcur', hsz'⟩, _⟩ := hcurk
      rw [hv3l] at hvv
      injection hvv with hvv
      injection hvv with hvv
      injection hvv with hvv
      subst hvv
      simp only [St.setL_l, hlen5] at hsz'
      rw [build_of (cs := #[.int .i64 0, .string lot, .int .i64 0, .int .i64 0]) (by simp)]
      simp [hb5, hv3l, hI, hcur', show i * 4 + 4 ≤ cur'.size by omega]
      have hins : lotIns lot s.layers = s.layers.take i ++ ⟨0, lot, 0, 0⟩ :: s.layers.drop i := by
        unfold lotIns; rw [if_neg (by rw [ho']; exact Bool.false_ne_true), ← hi]
      rw [hins]
      exact ⟨_, h6.1, hd5.trans h6.2⟩
    · have ho' : (lotAt lot s.layers).2 = true := by simpa using ho
      have hins : lotIns lot s.layers = s.layers := by unfold lotIns; rw [if_pos ho']
      rw [hins]
      exact ⟨lv, h1, hd1⟩
  · rintro W ⟨lv', hX, hd⟩
    have hb := hX.blk
    unfold scells at hb
    simp only [St.setL_q, St.setL_v, St.setL_r] at hb
    obtain ⟨g, cap, hv, hBg, ⟨cur, hcur, hsz⟩, hat⟩ := hX.ly.lyAt (i := i) (by simp only [St.setL_l]; exact hlt)
    simp only [St.setL_l] at hv hsz hat
    have hi' : (i : Int) < ((lotIns lot s.layers).length : Int) := by omega
    have c2 : cur[i * 4 + 2]? = some (.int .i64 (lotIns lot s.layers)[i].qty) := by have := hat.c2; rwa [hcur, cellO_cells] at this
    have c3 : cur[i * 4 + 3]? = some (.int .i64 (lotIns lot s.layers)[i].value) := by have := hat.c3; rwa [hcur, cellO_cells] at this
    have hne : ¬ g = x := ne_of_type hcur hb (by decide)
    have hne' : ¬ x = g := fun e => hne e.symm
    simp [ptr, hb, hv, hi', hcur, c2, c3, hne, hne', show i * 4 + 2 + 1 ≤ cur.size by omega, show i * 4 + 3 + 1 ≤ cur.size by omega]
    have h2 := hX.cellL (j := 2) (u := .int .i64 (IntKind.i64.wrap ((lotIns lot s.layers)[i].qty + q))) (a := ⟨(lotIns lot s.layers)[i].seq, (lotIns lot s.layers)[i].lot, IntKind.i64.wrap ((lotIns lot s.layers)[i].qty + q), (lotIns lot s.layers)[i].value⟩) hv hlt (by decide) (by simp [Ly.cs])
    have h3 := h2.1.cellL (i := i) (j := 3) (u := .int .i64 (IntKind.i64.wrap ((lotIns lot s.layers)[i].value + v))) (a := (lotIns lot s.layers)[i].plus q v)
      (by simp only [St.setL_l, List.length_set]; exact hv) (by simp only [St.setL_l, List.length_set]; exact hlt) (by decide) (by simp [Ly.cs, Ly.plus])
    have hf := h3.1
    simp only [St.setL_l, St.setL_L, List.set_set] at hf
    exact hK _ _ hf ((hd.trans h2.2).trans h3.2)
end Go.X
end
section
set_option linter.unusedVariables false
set_option linter.unusedSimpArgs false
namespace Go.X
open Go.Proofs Go.RowKit
attribute [local irreducible] l_append l_copy l_make l_run q_slice q_eq q_index q_build onSome l_lit
variable {w w' : World} {B x : Nat} {s : St} {lv pv : Value} {m : Mv} {c : Co} {ty : TypeId} {r : List Value}
theorem lots_part {v q n : Int} (hv : I64 v) (hq : I64 q) (hn : I64 n) : Calc 185 [.int .i64 v, .int .i64 q, .int .i64 n] w (.int .i64 (partV v q n)) := by
  intro K hK
  refine lift185 ?_
  unfold L185
  unfold partV at hK
  simp
  refine xif_dec (fun h => ?_) (fun h => ?_)
  · rw [if_pos h] at hK
    exact hK _ (Below.refl _ _)
  · rw [if_neg h] at hK
    refine md_ok hv hq hn _ (fun w1 hb1 => ?_)
    simp
    exact hK _ hb1
theorem lots_take {lot : ByteArray} {q : Int} (h : SX 135 [] w B x s lv pv) (ho : (lotAt lot s.layers).2 = true) (hn : s.layers.length ≤ 1000000) (hok : ∀ a ∈ s.layers, a.Ok) (hq : I64 q) {K : Value → World → Prop}
    (hK : ∀ w' lv', SX 135 [] w' B x (s.setL (takeV s.layers (lotAt lot s.layers).1 q).1) lv' pv → Did (ST 135) B w w' → K (.int .i64 (takeV s.layers (lotAt lot s.layers).1 q).2) w') : Ret Tryz.prog 184 [ptr x, .string lot, .int .i64 q] w K := by
  refine lift184 ?_
  unfold L184
  refine lots_find h _ (fun w1 hb1 => ?_)
  have h1 := h.called hb1
  have hd1 := (Did.refl (ST 135) B w).called hb1 h.size
  have hlt := (lotAt_le lot s.layers).2 ho
  obtain ⟨i, hi⟩ : ∃ i, i = (lotAt lot s.layers).1 := ⟨_, rfl⟩
  rw [← hi] at hlt hK ⊢
  have hb := h1.blk
  unfold scells at hb
  obtain ⟨g, cap, hv, hBg, ⟨cur, hcur, hsz⟩, hat⟩ := h1.ly.lyAt hlt
  have hi' : (i : Int) < (s.layers.length : Int) := by omega
  have ha := hok _ (List.getElem_mem hlt)
  simp [ptr, hb, hv, hi', hat.c3, hat.c2]
  refine lots_part ha.value hq ha.qty _ (fun w2 hb2 => ?_)
  have h2 := h1.drew.called hb2
  have hd2 := hd1.drew.called hb2 h1.size
  have hcur2 := (blk_below hb2 (lt_of_blk (w := w1.drew) hcur)).trans hcur
  have hb2' := h2.blk
  unfold scells at hb2'
  have c2 : cur[i * 4 + 2]? = some (.int .i64 s.layers[i].qty) := by have := hat.c2; rwa [hcur, cellO_cells] at this
  have c3 : cur[i * 4 + 3]? = some (.int .i64 s.layers[i].value) := by have := hat.c3; rwa [hcur, cellO_cells] at this
  have hne : ¬ g = x := ne_of_type hcur2 hb2' (by decide)
  have hsz2 : i * 4 + 4 ≤ cur.size := by omega
  obtain ⟨v, hvv⟩ : ∃ v, v = partV s.layers[i].value q s.layers[i].qty := ⟨_, rfl⟩
  rw [← hvv]
  have ht : takeV s.layers i q = (if IntKind.i64.wrap (s.layers[i].qty - q) = 0 then s.layers.eraseIdx i else s.layers.set i ⟨s.layers[i].seq, s.layers[i].lot, IntKind.i64.wrap (s.layers[i].qty - q), IntKind.i64.wrap (s.layers[i].value - v)⟩, v) := by
    unfold takeV
    rw [hvv]
    simp only [List.getElem?_eq_getElem hlt]
  rw [ht] at hK
  simp [hcur2, c2, c3, hne, show i * 4 + 2 + 1 ≤ cur.size by omega, show i * 4 + 3 + 1 ≤ cur.size by omega]
  rw [show (cur.setIfInBounds (i * 4 + 2) (Value.int IntKind.i64 (IntKind.i64.wrap (s.layers[i].qty - q))))[i * 4 + 2]? = some (.int .i64 (IntKind.i64.wrap (s.layers[i].qty - q))) by
    rw [Array.getElem?_setIfInBounds_self_of_lt (by omega)], onSome_some]
  have h3 := h2.cellL (j := 2) (u := .int .i64 (IntKind.i64.wrap (s.layers[i].qty - q))) (a := ⟨s.layers[i].seq, s.layers[i].lot, IntKind.i64.wrap (s.layers[i].qty - q), s.layers[i].value⟩) hv hlt (by decide) (by simp [Ly.cs])
  have h4 := h3.1.cellL (i := i) (j := 3) (u := .int .i64 (IntKind.i64.wrap (s.layers[i].value - v))) (a := ⟨s.layers[i].seq, s.layers[i].lot, IntKind.i64.wrap (s.layers[i].qty - q), IntKind.i64.wrap (s.layers[i].value - v)⟩)
    (by simp only [St.setL_l, List.length_set]; exact hv) (by simp only [St.setL_l, List.length_set]; exact hlt) (by decide) (by simp [Ly.cs])
  have hX4 := h4.1
  simp only [St.setL_l, St.setL_L, List.set_set] at hX4
  have hd4 := (hd2.trans h3.2).trans h4.2
  generalize X.putL (X.putL w2 g (i * 4 + 2) [.int .i64 (IntKind.i64.wrap (s.layers[i].qty - q))]) g (i * 4 + 3) [.int .i64 (IntKind.i64.wrap (s.layers[i].value - v))] = w4 at *
  simp only [q_eql, onSome_some]
  refine xif_dec (fun h0 => ?_) (fun h0 => ?_)
  · rw [if_pos h0] at hK
    have hb4 := hX4.blk
    unfold scells at hb4
    simp only [St.setL_q, St.setL_v, St.setL_r] at hb4
    simp [hb4, hb2']
    have hmx := h1.ly.i64
    have e1 : IntKind.i64.wrap ((i : Int) + 1) = ((i + 1 : Nat) : Int) := by rw [wrap_i64 (by omega) (by omega)]; omega
    have hd5 := hX4.drew
    have hL := hd5.ly
    simp only [St.setL_l] at hL
    have hlen : (s.layers.set i ⟨s.layers[i].seq, s.layers[i].lot, IntKind.i64.wrap (s.layers[i].qty - q), IntKind.i64.wrap (s.layers[i].value - v)⟩).length = s.layers.length := by simp
    obtain ⟨v1, hq1, ho1, hbl1⟩ := own_front (E := LyE) (k := .i64) lySl hL (i := i) (by rw [hlen]; omega)
    obtain ⟨v2, hq2, hr2⟩ := rd_rest (E := LyE) (k := .i64) lySl (Rd.of_own hL) (i := i + 1) (by rw [hlen]; omega)
    rw [e1, hq1, onSome_some, hq2, onSome_some]
    refine app_ly ho1 hr2 hd5.size (by simp; omega) (fun v' w5 ho5 hg5 => ?_)
    rw [hbl1] at hg5
    have hx5 : X.blk w5 x = some (.cells (scells (s.setL (s.layers.set i ⟨s.layers[i].seq, s.layers[i].lot, IntKind.i64.wrap (s.layers[i].qty - q), IntKind.i64.wrap (s.layers[i].value - v)⟩)) lv pv []) 135 (0, 0)) :=
      (hg5.block x (lt_of_blk hd5.blk) (own_blk hd5.ly hd5.blk hd5.n1)).trans hd5.blk
    have hone := own_cells ho5
    rw [l_store_to (by simp [hx5, scells, hone.1, hone.2]), hone.1]
    have h6 := hd5.setL hg5 ho5
    have e : (s.layers.set i ⟨s.layers[i].seq, s.layers[i].lot, IntKind.i64.wrap (s.layers[i].qty - q), IntKind.i64.wrap (s.layers[i].value - v)⟩).take i ++ (s.layers.set i ⟨s.layers[i].seq, s.layers[i].lot, IntKind.i64.wrap (s.layers[i].qty - q), IntKind.i64.wrap (s.layers[i].value - v)⟩).drop (i + 1) = s.layers.eraseIdx i := by
      rw [List.eraseIdx_eq_take_drop_succ, List.take_set_of_le (Nat.le_refl _), List.drop_set_of_lt (by omega)]
    simp only [St.setL_L, e] at h6
    exact hK _ _ h6.1 (hd4.drew.trans h6.2)
  · rw [if_neg h0] at hK
    exact hK _ _ hX4 hd4
def LotsOverI (l : List Ly) (w : World) (v : Value) (W : World) : Prop := Below w.heap.size w W ∧ ∃ i : Nat, v = .int .i64 i ∧ i ≤ l.length ∧ ∀ j (hj : j < l.length), j < i → farV l[j].value = false
theorem lots_over {c : Co} (h : SX ty r w B x s lv pv) : Calc 83 [ptr x, c.v] w (.bool (lotOver s c)) := by
  intro K hK
  refine lift83 ?_
  unfold L83 Co.v
  have hb := h.blk
  unfold scells at hb
  have hx1 : ¬ x = w.heap.size := Nat.ne_of_lt (lt_of_blk hb)
  simp [ptr, l_new, hb, hx1]
  have hb1 := (Below.refl w.heap.size w).alloc (Nat.le_refl _) (.cells #[.int .i64 c.seq, .int .i64 c.qty, .int .i64 c.value, .int .i64 c.var] 43)
  have hc1 : X.blk (w.alloc (.cells #[.int .i64 c.seq, .int .i64 c.qty, .int .i64 c.value, .int .i64 c.var] 43)) w.heap.size = some (.cells #[.int .i64 c.seq, .int .i64 c.qty, .int .i64 c.value, .int .i64 c.var] 43 (0, 0)) := by simp
  have h1 := h.called hb1
  generalize w.alloc (.cells #[.int .i64 c.seq, .int .i64 c.qty, .int .i64 c.value, .int .i64 c.var] 43) = w1 at *
  rw [h.ly.len, onSome_some]
  refine looping_i (LotsOverI s.layers w1) (lenM s.layers.length) ⟨⟨Below.refl _ _, 0, rfl, by omega, by omega⟩, ?_⟩
  rintro v W ⟨hd, i, rfl, hi, hno⟩
  have hmx := h.ly.i64
  have hW := h1.called hd
  have hbW := hW.blk
  unfold scells at hbW
  have hb0W := hb1.then hd
  have hcW := (blk_below hd (lt_of_blk hc1)).trans hc1
  simp only [q_lss, onSome_some]
  refine xif_dec (fun hlt => ?_) (fun hlt => ?_)
  · have hlt' : i < s.layers.length := by omega
    have e1 : IntKind.i64.wrap ((i : Int) + 1) = ((i + 1 : Nat) : Int) := by rw [wrap_i64 (by omega) (by omega)]; omega
    obtain ⟨ad, hq, hload⟩ := lyElem (Rd.of_own hW.ly) hlt'
    rw [hq, onSome_some, hload, onSome_some]
    simp [l_new]
    have hd2 := below_putL (hd.alloc hd.size (Obj.cells #[Value.int IntKind.i64 0, Value.string { data := #[] }, Value.int IntKind.i64 0, Value.int IntKind.i64 0] 103)) hd.size [.int .i64 s.layers[i].seq, .string s.layers[i].lot, .int .i64 s.layers[i].qty, .int .i64 s.layers[i].value] 0
    refine lots_far _ (fun w3 hb3 => ?_)
    have hd3 := hd2.then hb3
    refine xif_bool (fun h1 => ?_) (fun h1 => ?_)
    · have e : lotOver s c = true := by
        have : s.layers.any (fun a => farV a.value) = true := List.any_eq_true.mpr ⟨_, List.getElem_mem hlt', h1⟩
        simp [lotOver, this]
      rw [e] at hK
      exact hK _ (hb1.then hd3)
    · rw [e1]
      refine ⟨⟨hd3, i + 1, rfl, by omega, fun j hj hji => ?_⟩, by simp only [lenM, intOf]; omega⟩
      rcases Nat.lt_or_ge j i with h2 | h2
      · exact hno j hj h2
      · have : j = i := by omega
        subst this
        exact h1
  · have hany : s.layers.any (fun a => farV a.value) = false := by
      rw [List.any_eq_false]
      intro a ha
      obtain ⟨j, hj, rfl⟩ := List.getElem_of_mem ha
      rw [hno j hj (by omega)]
      exact Bool.false_ne_true
    have ho : lotOver s c = (decide (1000000000 < s.qty) || farV s.value || farV c.var) := by simp [lotOver, hany]
    rw [ho] at hK
    simp [hbW]
    by_cases h1 : 1000000000 < s.qty
    · simp [h1] at hK ⊢
      exact hK _ hb0W
    · simp [h1, hbW] at hK ⊢
      refine lots_far _ (fun w3 hb3 => ?_)
      have hc3 := (blk_below hb3 (lt_of_blk hcW)).trans hcW
      cases h2 : farV s.value with
      | true =>
        simp [h2] at hK ⊢
        exact hK _ (hb0W.then hb3)
      | false =>
        simp [h2, hc3] at hK ⊢
        refine lots_far _ (fun w4 hb4 => ?_)
        exact hK _ ((hb0W.then hb3).then hb4)
end Go.X
end
section
set_option linter.unusedVariables false
set_option linter.unusedSimpArgs false
namespace Go.X
open Go.Proofs Go.RowKit
attribute [local irreducible] l_append l_copy l_make l_run q_slice q_eq q_index q_build onSome l_lit
variable {w w' : World} {B x : Nat} {s : St} {lv pv : Value} {m : Mv} {c : Co}
theorem v43 : (43 : TypeId) ∉ ST 135 := by decide
/-- What an operation does: the state, its memory, the answer. -/
def LotOk (f : FuncId) (F : St → Mv → St × Co × Int) : Prop :=
  ∀ (w : World) (B x : Nat) (s : St) (lv pv : Value) (m : Mv) (K : Value → World → Prop), SX 135 [] w B x s lv pv → s.Ok 900000 → m.Ok → oneV m = 0 →
    (∀ w' lv' pv', SX 135 [] w' B x (F s m).1 lv' pv' → Did (ST 135) B w w' → K (.tuple #[(F s m).2.1.v, .int .i64 (F s m).2.2]) w') → Ret Tryz.prog f [ptr x, m.v] w K
/-- The end of an operation whose cost is still zero. -/
theorem cost_keep {c5 : Nat} {ty : TypeId} {r : List Value} (h : SX ty r w B x s lv pv) (hc : X.blk w c5 = some (.cells #[.int .i64 0, .int .i64 0, .int .i64 0, .int .i64 0] 43 (0, 0))) (h43 : (43 : TypeId) ∉ ST ty) {K : Value → World → Prop} {w0 : World} (hB : B ≤ c5) (h0 : w0.heap.size ≤ c5) (hd : Did (ST ty) B w0 w)
    (hK : ∀ w', SX ty r w' B x s lv pv → Did (ST ty) B w0 w' → K Co.zero.v w') :
    onSome (loadO 4 (X.blk w c5) 0) fun t => l_store 4 (.pointer (some ⟨c5, 0, none⟩)) t w fun _ W => onSome (loadO 4 (X.blk W c5) 0) fun v => K v W := by
  have hK' := hK _ (h.other (o := 0) (vs := [.int .i64 0, .int .i64 0, .int .i64 0, .int .i64 0]) hc h43) (hd.putNew h0 hB)
  simp [hc]
  exact hK'
theorem lots_receive : LotOk 131 lotReceive := by
  intro w B x s lv pv m K h hs hm h1v hK
  refine lift131 ?_
  unfold L131
  have hsz := h.size
  have nl := hs.nl
  have np := hs.np
  have hb := h.blk
  unfold scells at hb
  have hx1 : ¬ x = w.heap.size := Nat.ne_of_lt (lt_of_blk hb)
  have hx2 : ¬ x = w.heap.size + 1 := by have := lt_of_blk hb; omega
  simp [ptr, l_new, hb, hx1, hx2]
  obtain ⟨w2, e2, h2, hd2, hm2, hc2⟩ := h.locals m
  simp only [e2]
  clear e2
  unfold lotReceive at hK
  unfold Mv.cs at hm2
  refine xif_dec (fun hq => ?_) (fun hq => ?_)
  · rw [if_pos hq] at hK
    exact hK _ _ _ (h2.other (o := 0) (vs := [.int .i64 0, .int .i64 0, .int .i64 0, .int .i64 0]) hc2 v43) (hd2.putNew (by omega) (by omega))
  · rw [if_neg hq] at hK
    refine lots_add (x := x) h2 (by omega) (fun w3 lv3 h3 hd3 => ?_)
    have hm3 := hd3.keeps.blk hm2 (by decide)
    have hc3 := hd3.keeps.blk hc2 (by decide)
    simp [hm3]
    refine lots_record (x := x) (m := m) h3 (by simp; omega) (fun w4 pv4 h4 hd4 => ?_)
    have hm4 := hd4.keeps.blk hm3 (by decide)
    have hc4 := hd4.keeps.blk hc3 (by decide)
    simp [hm4]
    rw [build_of (cs := #[.int .i64 0, .int .i64 m.qty, .int .i64 m.cost, .int .i64 0]) (by simp), onSome_some]
    exact cost_end ⟨0, m.qty, m.cost, 0⟩ h4 hc4 v43 (by omega) (by omega) ((hd2.trans hd3).trans hd4) (K := fun v W => K (.tuple #[v, .int .i64 0]) W) (fun w5 h5 hd5 => hK _ _ _ h5 hd5)
theorem lots_issue : LotOk 132 lotIssue := by
  intro w B x s lv pv m K h hs hm h1v hK
  refine lift132 ?_
  unfold L132
  have hsz := h.size
  have nl := hs.nl
  have np := hs.np
  have hb := h.blk
  unfold scells at hb
  have hx1 : ¬ x = w.heap.size := Nat.ne_of_lt (lt_of_blk hb)
  have hx2 : ¬ x = w.heap.size + 1 := by have := lt_of_blk hb; omega
  simp [ptr, l_new, hb, hx1, hx2]
  obtain ⟨w2, e2, h2, hd2, hm2, hc2⟩ := h.locals m
  simp only [e2]
  clear e2
  unfold lotIssue at hK
  unfold Mv.cs at hm2
  refine lots_find h2 _ (fun w3 hb3 => ?_)
  have h3 := h2.called hb3
  have hd3 := hd2.called hb3 h2.size
  have hm3 := (blk_below hb3 (lt_of_blk hm2)).trans hm2
  have hc3 := (blk_below hb3 (lt_of_blk hc2)).trans hc2
  simp only [q_extract_tuple]
  have hbad : ∀ W, Below w3.heap.size w3 W → ((lotAt m.lot s.layers).2 = false ∨ m.lot = ⟨#[]⟩) →
      (onSome (loadO 4 (X.blk W (w.heap.size + 1)) 0) fun t => l_store 4 (.pointer (some ⟨w.heap.size + 1, 0, none⟩)) t W fun _ W4 => onSome (loadO 4 (X.blk W4 (w.heap.size + 1)) 0) fun v => K (.tuple #[v, .int .i64 22]) W4) := by
    intro W hbW hor
    rw [if_pos hor] at hK
    exact cost_keep (h3.called hbW) ((blk_below hbW (lt_of_blk hc3)).trans hc3) v43 (by omega) (by omega) (hd3.called hbW h3.size) (K := fun v W => K (.tuple #[v, .int .i64 22]) W) (fun w5 h5 hd5 => hK _ _ _ h5 hd5)
  cases ho : (lotAt m.lot s.layers).2 with
  | false =>
    simp [ho, hm3]
    exact hbad w3 (Below.refl _ _) (Or.inl ho)
  | true =>
    simp [ho, hm3]
    refine xif_dec (fun he => ?_) (fun he => ?_)
    · exact hbad w3 (Below.refl _ _) (Or.inr he)
    rw [if_neg (by rw [ho]; simp [he])] at hK
    refine lots_qty h3.drew _ (fun w4 hb4 => ?_)
    have h4 := h3.drew.called hb4
    have hd4 := hd3.drew.called hb4 h3.size
    have hm4 := (blk_below hb4 (lt_of_blk (w := w3.drew) hm3)).trans hm3
    have hc4 := (blk_below hb4 (lt_of_blk (w := w3.drew) hc3)).trans hc3
    simp [hm4]
    refine xif_dec (fun hq => ?_) (fun hq => ?_)
    · rw [if_pos hq] at hK
      exact cost_keep h4 hc4 v43 (by omega) (by omega) hd4 (K := fun v W => K (.tuple #[v, .int .i64 21]) W) (fun w5 h5 hd5 => hK _ _ _ h5 hd5)
    rw [if_neg hq] at hK
    refine lots_take (x := x) h4 ho (by omega) hs.layers hm.qty (fun w5 lv5 h5 hd5 => ?_)
    have hm5 := hd5.keeps.blk hm4 (by decide)
    have hc5 := hd5.keeps.blk hc4 (by decide)
    simp [hm5]
    refine lots_record (x := x) (m := m) h5 (by simp; omega) (fun w6 pv6 h6 hd6 => ?_)
    have hm6 := hd6.keeps.blk hm5 (by decide)
    have hc6 := hd6.keeps.blk hc5 (by decide)
    simp [hm6]
    rw [build_of (cs := #[.int .i64 0, .int .i64 (IntKind.i64.wrap (0 - m.qty)), .int .i64 (IntKind.i64.wrap (0 - (takeV s.layers (lotAt m.lot s.layers).1 m.qty).2)), .int .i64 0]) (by simp), onSome_some]
    exact cost_end ⟨0, IntKind.i64.wrap (0 - m.qty), IntKind.i64.wrap (0 - (takeV s.layers (lotAt m.lot s.layers).1 m.qty).2), 0⟩ h6 hc6 v43 (by omega) (by omega) ((hd4.trans hd5).trans hd6) (K := fun v W => K (.tuple #[v, .int .i64 0]) W) (fun w7 h7 hd7 => hK _ _ _ h7 hd7)
/-- An operation on a past movement. -/
def LotOn (f : FuncId) (G : St → Mv → Nat → Pa → St × Co × Int) : Prop :=
  ∀ (w : World) (B x : Nat) (s : St) (lv pv : Value) (m : Mv) (i : Nat) (hi : i < s.past.length) (K : Value → World → Prop), SX 135 [] w B x s lv pv → s.Ok 900000 → m.Ok → oneV m = 0 →
    (∀ w' lv' pv', SX 135 [] w' B x (G s m i s.past[i]).1 lv' pv' → Did (ST 135) B w w' → K (.tuple #[(G s m i s.past[i]).2.1.v, .int .i64 (G s m i s.past[i]).2.2]) w') → Ret Tryz.prog f [ptr x, m.v, elP 7 pv i] w K
def onBack (s : St) (m : Mv) (i : Nat) (p : Pa) : St × Co × Int :=
  let v := partV (IntKind.i64.wrap (p.value - p.usedV)) m.qty (IntKind.i64.wrap (p.qty - p.used))
  ((s.setP (s.past.set i ⟨p.seq, p.kind, p.lot, p.qty, p.value, IntKind.i64.wrap (p.used + m.qty), IntKind.i64.wrap (p.usedV + v)⟩)).setL (lotAdd p.lot m.qty v s.layers), ⟨0, m.qty, v, 0⟩, 0)
def onSend (s : St) (m : Mv) (i : Nat) (p : Pa) : St × Co × Int :=
  if lotQty p.lot s.layers < m.qty then (s, Co.zero, 21) else
  let r := takeV s.layers (lotAt p.lot s.layers).1 m.qty
  ((s.setP (s.past.set i ⟨p.seq, p.kind, p.lot, p.qty, p.value, IntKind.i64.wrap (p.used + m.qty), p.usedV⟩)).setL r.1, ⟨0, IntKind.i64.wrap (0 - m.qty), IntKind.i64.wrap (0 - r.2), IntKind.i64.wrap (r.2 - m.cost)⟩, 0)
def onLand (s : St) (m : Mv) (i : Nat) (p : Pa) : St × Co × Int :=
  let q := if lotQty p.lot s.layers < p.qty then lotQty p.lot s.layers else p.qty
  if q = 0 then (s, ⟨0, 0, 0, m.cost⟩, 0) else
  let v := partV m.cost q p.qty
  (s.setL (lotAdd p.lot 0 v s.layers), ⟨0, 0, v, IntKind.i64.wrap (m.cost - v)⟩, 0)
theorem lots_back : LotOn 133 onBack := by
  intro w B x s lv pv m i hi K h hs hm h1v hK
  refine lift133 ?_
  unfold L133
  have hsz := h.size
  have nl := hs.nl
  have np := hs.np
  have hb := h.blk
  unfold scells at hb
  have hx1 : ¬ x = w.heap.size := Nat.ne_of_lt (lt_of_blk hb)
  have hx2 : ¬ x = w.heap.size + 1 := by have := lt_of_blk hb; omega
  simp [ptr, l_new, hb, hx1, hx2]
  obtain ⟨w2, e2, h2, hd2, hm2, hc2⟩ := h.locals m
  simp only [e2]
  clear e2
  unfold Mv.cs at hm2
  obtain ⟨g, cap, hpv, hBg, ⟨cur, hcur, hszc⟩, hat⟩ := h2.pa.paAt hi
  have pk := hs.past _ (List.getElem_mem hi)
  have c2 : cur[i * 7 + 2]? = some (.string s.past[i].lot) := by have := hat.c2; rwa [hcur, cellO_cells] at this
  have c3 : cur[i * 7 + 3]? = some (.int .i64 s.past[i].qty) := by have := hat.c3; rwa [hcur, cellO_cells] at this
  have c4 : cur[i * 7 + 4]? = some (.int .i64 s.past[i].value) := by have := hat.c4; rwa [hcur, cellO_cells] at this
  have c5 : cur[i * 7 + 5]? = some (.int .i64 s.past[i].used) := by have := hat.c5; rwa [hcur, cellO_cells] at this
  have c6 : cur[i * 7 + 6]? = some (.int .i64 s.past[i].usedV) := by have := hat.c6; rwa [hcur, cellO_cells] at this
  have hg1 : ¬ g = w.heap.size := ne_of_type hcur hm2 (by decide)
  have hg2 : ¬ g = w.heap.size + 1 := ne_of_type hcur hc2 (by decide)
  have hszi : i * 7 + 7 ≤ cur.size := by omega
  simp [elP, hpv, hcur, c3, c4, c5, c6, hm2]
  refine lots_part (I64.wrap _) hm.qty (I64.wrap _) _ (fun w3 hb3 => ?_)
  obtain ⟨v, hv⟩ : ∃ v, v = partV (IntKind.i64.wrap (s.past[i].value - s.past[i].usedV)) m.qty (IntKind.i64.wrap (s.past[i].qty - s.past[i].used)) := ⟨_, rfl⟩
  have e : onBack s m i s.past[i] = ((s.setP (s.past.set i ⟨s.past[i].seq, s.past[i].kind, s.past[i].lot, s.past[i].qty, s.past[i].value, IntKind.i64.wrap (s.past[i].used + m.qty), IntKind.i64.wrap (s.past[i].usedV + v)⟩)).setL (lotAdd s.past[i].lot m.qty v s.layers), ⟨0, m.qty, v, 0⟩, 0) := by rw [hv]; rfl
  rw [e] at hK
  rw [← hv]
  clear e hv
  have h3 := h2.drew.called hb3
  have hd3 := hd2.drew.called hb3 h2.size
  have hm3 := (blk_below hb3 (lt_of_blk (w := w2.drew) hm2)).trans hm2
  have hc3 := (blk_below hb3 (lt_of_blk (w := w2.drew) hc2)).trans hc2
  have hcur3 := (blk_below hb3 (lt_of_blk (w := w2.drew) hcur)).trans hcur
  simp [hm3, hcur3, hg1, hg2, c2, c5, c6, show i * 7 + 5 + 1 ≤ cur.size by omega, show i * 7 + 6 + 1 ≤ cur.size by omega]
  have h5 := h3.drew.cellP (j := 5) (u := .int .i64 (IntKind.i64.wrap (s.past[i].used + m.qty))) (a := ⟨s.past[i].seq, s.past[i].kind, s.past[i].lot, s.past[i].qty, s.past[i].value, IntKind.i64.wrap (s.past[i].used + m.qty), s.past[i].usedV⟩) hpv hi (by decide) rfl
  have h6 := h5.1.cellP (i := i) (j := 6) (u := .int .i64 (IntKind.i64.wrap (s.past[i].usedV + v))) (a := ⟨s.past[i].seq, s.past[i].kind, s.past[i].lot, s.past[i].qty, s.past[i].value, IntKind.i64.wrap (s.past[i].used + m.qty), IntKind.i64.wrap (s.past[i].usedV + v)⟩)
    (by simp only [St.setP_p, List.length_set]; exact hpv) (by simp only [St.setP_p, List.length_set]; exact hi) (by decide) (by simp [Pa.cs])
  have h6' := h6.1
  simp only [St.setP_p, St.setP_P, List.set_set] at h6'
  have hd6 := ((hd3.drew.trans h5.2).trans h6.2).drew
  have hm6 : X.blk (X.putL (X.putL w3.drew g (i * 7 + 5) [.int .i64 (IntKind.i64.wrap (s.past[i].used + m.qty))]) g (i * 7 + 6) [.int .i64 (IntKind.i64.wrap (s.past[i].usedV + v))]).drew w.heap.size = some (.cells #[.int .i64 m.seq, .int .i64 m.value, .string m.item, .int .i64 m.kind, .int .i64 m.qty, .int .i64 m.cost, .string m.lot, .int .i64 m.ref] 47 (0, 0)) := by
    simp [hg1, hm3]
  have hc6 : X.blk (X.putL (X.putL w3.drew g (i * 7 + 5) [.int .i64 (IntKind.i64.wrap (s.past[i].used + m.qty))]) g (i * 7 + 6) [.int .i64 (IntKind.i64.wrap (s.past[i].usedV + v))]).drew (w.heap.size + 1) = some (.cells #[.int .i64 0, .int .i64 0, .int .i64 0, .int .i64 0] 43 (0, 0)) := by
    simp [hg2, hc3]
  refine lots_add (x := x) h6'.drew (by simp; omega) (fun w7 lv7 h7 hd7 => ?_)
  have hm7 := hd7.keeps.blk hm6 (by decide)
  have hc7 := hd7.keeps.blk hc6 (by decide)
  simp [hm7]
  rw [build_of (cs := #[.int .i64 0, .int .i64 m.qty, .int .i64 v, .int .i64 0]) (by simp), onSome_some]
  exact cost_end ⟨0, m.qty, v, 0⟩ h7 hc7 v43 (by omega) (by omega) (hd6.trans hd7) (K := fun v W => K (.tuple #[v, .int .i64 0]) W) (fun w7 h7 hd7 => hK _ _ _ h7 hd7)
theorem lotQty_there {lot : ByteArray} {l : List Ly} (h : lotQty lot l ≠ 0) : (lotAt lot l).2 = true := by
  unfold lotQty at h
  cases ho : (lotAt lot l).2 with
  | true => rfl
  | false => rw [if_neg (by rw [ho]; exact Bool.false_ne_true)] at h; exact absurd rfl h
theorem one_qty {m : Mv} (h : oneV m = 0) (hk : m.kind ≠ 5 ∧ m.kind ≠ 6) : 1 ≤ m.qty := by
  unfold oneV at h
  split at h
  · cases h
  split at h
  · cases h
  split at h
  · cases h
  split at h
  · cases h
  · rename_i hq
    have hq' : quantityV m = true := by
      cases hv : quantityV m with
      | true => rfl
      | false => exact absurd (Or.inl hv) hq
    unfold quantityV at hq'
    rw [if_neg (by intro ho; rcases ho with ho | ho; exact hk.1 ho; exact hk.2 ho)] at hq'
    exact (of_decide_eq_true hq').1
theorem lots_send (hk : True) : ∀ (w : World) (B x : Nat) (s : St) (lv pv : Value) (m : Mv) (i : Nat) (hi : i < s.past.length) (K : Value → World → Prop), m.kind = 4 → SX 135 [] w B x s lv pv → s.Ok 900000 → m.Ok → oneV m = 0 →
    (∀ w' lv' pv', SX 135 [] w' B x (onSend s m i s.past[i]).1 lv' pv' → Did (ST 135) B w w' → K (.tuple #[(onSend s m i s.past[i]).2.1.v, .int .i64 (onSend s m i s.past[i]).2.2]) w') → Ret Tryz.prog 134 [ptr x, m.v, elP 7 pv i] w K := by
  intro w B x s lv pv m i hi K hk4 h hs hm h1v hK
  have hq1 := one_qty h1v (by omega)
  refine lift134 ?_
  unfold L134
  have hsz := h.size
  have nl := hs.nl
  have np := hs.np
  have hb := h.blk
  unfold scells at hb
  have hx1 : ¬ x = w.heap.size := Nat.ne_of_lt (lt_of_blk hb)
  have hx2 : ¬ x = w.heap.size + 1 := by have := lt_of_blk hb; omega
  simp [ptr, l_new, hb, hx1, hx2]
  obtain ⟨w2, e2, h2, hd2, hm2, hc2⟩ := h.locals m
  simp only [e2]
  clear e2
  unfold Mv.cs at hm2
  obtain ⟨g, cap, hpv, hBg, ⟨cur, hcur, hszc⟩, hat⟩ := h2.pa.paAt hi
  have pk := hs.past _ (List.getElem_mem hi)
  have c2 : cur[i * 7 + 2]? = some (.string s.past[i].lot) := by have := hat.c2; rwa [hcur, cellO_cells] at this
  have c3 : cur[i * 7 + 3]? = some (.int .i64 s.past[i].qty) := by have := hat.c3; rwa [hcur, cellO_cells] at this
  have c4 : cur[i * 7 + 4]? = some (.int .i64 s.past[i].value) := by have := hat.c4; rwa [hcur, cellO_cells] at this
  have c5 : cur[i * 7 + 5]? = some (.int .i64 s.past[i].used) := by have := hat.c5; rwa [hcur, cellO_cells] at this
  have c6 : cur[i * 7 + 6]? = some (.int .i64 s.past[i].usedV) := by have := hat.c6; rwa [hcur, cellO_cells] at this
  have hg1 : ¬ g = w.heap.size := ne_of_type hcur hm2 (by decide)
  have hg2 : ¬ g = w.heap.size + 1 := ne_of_type hcur hc2 (by decide)
  have hszi : i * 7 + 7 ≤ cur.size := by omega
  simp [elP, hpv, hcur, c2, hm2]
  refine lots_qty h2.drew _ (fun w3 hb3 => ?_)
  have h3 := h2.drew.called hb3
  have hd3 := hd2.drew.called hb3 h2.size
  have hm3 := (blk_below hb3 (lt_of_blk (w := w2.drew) hm2)).trans hm2
  have hc3 := (blk_below hb3 (lt_of_blk (w := w2.drew) hc2)).trans hc2
  have hcur3 := (blk_below hb3 (lt_of_blk (w := w2.drew) hcur)).trans hcur
  unfold onSend at hK
  simp [hm3]
  refine xif_dec (fun hq => ?_) (fun hq => ?_)
  · rw [if_pos hq] at hK
    exact cost_keep h3 hc3 v43 (by omega) (by omega) hd3 (K := fun v W => K (.tuple #[v, .int .i64 21]) W) (fun w5 h5 hd5 => hK _ _ _ h5 hd5)
  rw [if_neg hq] at hK
  have ho : (lotAt s.past[i].lot s.layers).2 = true := lotQty_there (by omega)
  simp [hcur3, hm3, hg1, hg2, c2, c5, show i * 7 + 5 + 1 ≤ cur.size by omega]
  have h5 := h3.drew.cellP (j := 5) (u := .int .i64 (IntKind.i64.wrap (s.past[i].used + m.qty))) (a := ⟨s.past[i].seq, s.past[i].kind, s.past[i].lot, s.past[i].qty, s.past[i].value, IntKind.i64.wrap (s.past[i].used + m.qty), s.past[i].usedV⟩) hpv hi (by decide) rfl
  have hd5 := (hd3.drew.trans h5.2).drew
  have hm5 : X.blk (X.putL w3.drew g (i * 7 + 5) [.int .i64 (IntKind.i64.wrap (s.past[i].used + m.qty))]).drew w.heap.size = some (.cells #[.int .i64 m.seq, .int .i64 m.value, .string m.item, .int .i64 m.kind, .int .i64 m.qty, .int .i64 m.cost, .string m.lot, .int .i64 m.ref] 47 (0, 0)) := by
    simp [hg1, hm3]
  have hc5 : X.blk (X.putL w3.drew g (i * 7 + 5) [.int .i64 (IntKind.i64.wrap (s.past[i].used + m.qty))]).drew (w.heap.size + 1) = some (.cells #[.int .i64 0, .int .i64 0, .int .i64 0, .int .i64 0] 43 (0, 0)) := by
    simp [hg2, hc3]
  refine lots_take (x := x) h5.1.drew (by simpa using ho) (by simp; omega) (by simpa using hs.layers) hm.qty (fun w7 lv7 h7 hd7 => ?_)
  have hm7 := hd7.keeps.blk hm5 (by decide)
  have hc7 := hd7.keeps.blk hc5 (by decide)
  simp only [St.setP_l] at h7 ⊢
  obtain ⟨R, hR⟩ : ∃ R, R = takeV s.layers (lotAt s.past[i].lot s.layers).1 m.qty := ⟨_, rfl⟩
  rw [← hR] at h7 hK ⊢
  simp [hm7]
  rw [build_of (cs := #[.int .i64 0, .int .i64 (IntKind.i64.wrap (0 - m.qty)), .int .i64 (IntKind.i64.wrap (0 - R.2)), .int .i64 (IntKind.i64.wrap (R.2 - m.cost))]) (by simp), onSome_some]
  exact cost_end ⟨0, IntKind.i64.wrap (0 - m.qty), IntKind.i64.wrap (0 - R.2), IntKind.i64.wrap (R.2 - m.cost)⟩ h7 hc7 v43 (by omega) (by omega) (hd5.trans hd7) (K := fun v W => K (.tuple #[v, .int .i64 0]) W) (fun w7 h7 hd7 => hK _ _ _ h7 hd7)
theorem lots_land : LotOn 135 onLand := by
  intro w B x s lv pv m i hi K h hs hm h1v hK
  refine lift135 ?_
  unfold L135
  have hsz := h.size
  have nl := hs.nl
  have np := hs.np
  have hb := h.blk
  unfold scells at hb
  have hx1 : ¬ x = w.heap.size := Nat.ne_of_lt (lt_of_blk hb)
  have hx2 : ¬ x = w.heap.size + 1 := by have := lt_of_blk hb; omega
  simp [ptr, l_new, hb, hx1, hx2]
  obtain ⟨w2, e2, h2, hd2, hm2, hc2⟩ := h.locals m
  simp only [e2]
  clear e2
  unfold Mv.cs at hm2
  obtain ⟨g, cap, hpv, hBg, ⟨cur, hcur, hszc⟩, hat⟩ := h2.pa.paAt hi
  have pk := hs.past _ (List.getElem_mem hi)
  have c2 : cur[i * 7 + 2]? = some (.string s.past[i].lot) := by have := hat.c2; rwa [hcur, cellO_cells] at this
  have c3 : cur[i * 7 + 3]? = some (.int .i64 s.past[i].qty) := by have := hat.c3; rwa [hcur, cellO_cells] at this
  have c4 : cur[i * 7 + 4]? = some (.int .i64 s.past[i].value) := by have := hat.c4; rwa [hcur, cellO_cells] at this
  have c5 : cur[i * 7 + 5]? = some (.int .i64 s.past[i].used) := by have := hat.c5; rwa [hcur, cellO_cells] at this
  have c6 : cur[i * 7 + 6]? = some (.int .i64 s.past[i].usedV) := by have := hat.c6; rwa [hcur, cellO_cells] at this
  have hg1 : ¬ g = w.heap.size := ne_of_type hcur hm2 (by decide)
  have hg2 : ¬ g = w.heap.size + 1 := ne_of_type hcur hc2 (by decide)
  have hszi : i * 7 + 7 ≤ cur.size := by omega
  simp [elP, hpv, hcur, c2, c3, hm2]
  refine lots_qty h2.drew _ (fun w3 hb3 => ?_)
  have h3 := h2.drew.called hb3
  have hd3 := hd2.drew.called hb3 h2.size
  have hm3 := (blk_below hb3 (lt_of_blk (w := w2.drew) hm2)).trans hm2
  have hc3 := (blk_below hb3 (lt_of_blk (w := w2.drew) hc2)).trans hc2
  have hcur3 := (blk_below hb3 (lt_of_blk (w := w2.drew) hcur)).trans hcur
  obtain ⟨q, hq⟩ : ∃ q, q = (if lotQty s.past[i].lot s.layers < s.past[i].qty then lotQty s.past[i].lot s.layers else s.past[i].qty) := ⟨_, rfl⟩
  have hqI : I64 q := by
    rw [hq]
    split
    · unfold lotQty
      split
      · cases hl : s.layers[(lotAt s.past[i].lot s.layers).1]? with
        | none => exact I64.zero
        | some a => exact (get_ok hs.layers hl).qty
      · exact I64.zero
    · exact pk.qty
  have e : onLand s m i s.past[i] = if q = 0 then (s, ⟨0, 0, 0, m.cost⟩, 0) else (s.setL (lotAdd s.past[i].lot 0 (partV m.cost q s.past[i].qty) s.layers), ⟨0, 0, partV m.cost q s.past[i].qty, IntKind.i64.wrap (m.cost - partV m.cost q s.past[i].qty)⟩, 0) := by
    rw [hq]; rfl
  rw [e] at hK
  clear e
  simp [hcur3, c3]
  rw [← hq]
  refine xif_dec (fun h0 => ?_) (fun h0 => ?_)
  · rw [if_pos h0] at hK
    simp [hm3]
    rw [build_of (cs := #[.int .i64 0, .int .i64 0, .int .i64 0, .int .i64 m.cost]) (by simp), onSome_some]
    exact cost_end ⟨0, 0, 0, m.cost⟩ h3 hc3 v43 (by omega) (by omega) hd3 (K := fun v W => K (.tuple #[v, .int .i64 0]) W) (fun w5 h5 hd5 => hK _ _ _ h5 hd5)
  · rw [if_neg h0] at hK
    simp [hm3, hcur3, c3]
    refine lots_part hm.cost hqI pk.qty _ (fun w4 hb4 => ?_)
    have h4 := h3.drew.called hb4
    have hd4 := hd3.drew.called hb4 h3.size
    have hm4 := (blk_below hb4 (lt_of_blk (w := w3.drew) hm3)).trans hm3
    have hc4 := (blk_below hb4 (lt_of_blk (w := w3.drew) hc3)).trans hc3
    have hcur4 := (blk_below hb4 (lt_of_blk (w := w3.drew) hcur3)).trans hcur3
    simp [hcur4, c2]
    refine lots_add (x := x) h4 (by omega) (fun w5 lv5 h5 hd5 => ?_)
    have hm5 := hd5.keeps.blk hm4 (by decide)
    have hc5 := hd5.keeps.blk hc4 (by decide)
    simp [hm5]
    rw [build_of (cs := #[.int .i64 0, .int .i64 0, .int .i64 (partV m.cost q s.past[i].qty), .int .i64 (IntKind.i64.wrap (m.cost - partV m.cost q s.past[i].qty))]) (by simp), onSome_some]
    exact cost_end ⟨0, 0, partV m.cost q s.past[i].qty, IntKind.i64.wrap (m.cost - partV m.cost q s.past[i].qty)⟩ h5 hc5 v43 (by omega) (by omega) (hd4.trans hd5) (K := fun v W => K (.tuple #[v, .int .i64 0]) W) (fun w7 h7 hd7 => hK _ _ _ h7 hd7)
end Go.X
end
section
set_option linter.unusedVariables false
set_option linter.unusedSimpArgs false
namespace Go.X
open Go.Proofs Go.RowKit
attribute [local irreducible] l_append l_copy l_make l_run q_slice q_eq q_index q_build onSome l_lit
variable {w w' : World} {B x : Nat} {s : St} {lv pv : Value} {m : Mv} {c : Co}
/-- A movement on a movement that it refers to. -/
def refDo (k : Int) (G : St → Mv → Nat → Pa → St × Co × Int) (s : St) (m : Mv) : St × Co × Int :=
  match (refS k s m).1 with
  | none => (s, Co.zero, (refS k s m).2)
  | some i => match s.past[i]? with
    | none => (s, Co.zero, 28)
    | some p => G s m i p
theorem bod130 : bodied Tryz.prog 130 = true := by kernel_rfl
theorem bod133 : bodied Tryz.prog 133 = true := by kernel_rfl
theorem bod134 : bodied Tryz.prog 134 = true := by kernel_rfl
theorem bod135 : bodied Tryz.prog 135 = true := by kernel_rfl
theorem lots_refer {k : Int} {f : FuncId} {G : St → Mv → Nat → Pa → St × Co × Int} {b2 m3 : Nat} (h0 : k ≠ 0) (hf : bodied Tryz.prog f = true) (h : SX 135 [] w B x s lv pv)
    (hb2 : X.blk w b2 = some (.cells #[ptr x] 131 (0, 0))) (hm3 : X.blk w m3 = some (.cells m.cs 47 (0, 0)))
    (hG : ∀ (w' : World) (i : Nat) (hi : i < s.past.length) (K : Value → World → Prop), SX 135 [] w' B x s lv pv →
      (∀ w'' lv' pv', SX 135 [] w'' B x (G s m i s.past[i]).1 lv' pv' → Did (ST 135) B w' w'' → K (.tuple #[(G s m i s.past[i]).2.1.v, .int .i64 (G s m i s.past[i]).2.2]) w'') → Ret Tryz.prog f [ptr x, m.v, elP 7 pv i] w' K)
    {K : Value → World → Prop}
    (hK : ∀ w' lv' pv', SX 135 [] w' B x (refDo k G s m).1 lv' pv' → Did (ST 135) B w w' → K (.tuple #[(refDo k G s m).2.1.v, .int .i64 (refDo k G s m).2.2]) w') :
    l_callv Tryz.prog (.func (.func 130) #[] #[ptr b2, ptr m3]) [.int .i64 k, .func (.func f) #[ptr x] #[]] w K := by
  refine ⟨bod130, lift130 ?_⟩
  unfold L130
  have hsz := h.size
  have n1 : ¬ b2 = w.heap.size := Nat.ne_of_lt (lt_of_blk hb2)
  have n2 : ¬ m3 = w.heap.size := Nat.ne_of_lt (lt_of_blk hm3)
  have hm3' := hm3
  unfold Mv.cs at hm3'
  simp only [ptr, l_new]
  have h1 := h.alloc (.cells #[.int .i64 0, .int .i64 0, .int .i64 0, .int .i64 0] 43)
  have hd1 := (Did.refl (ST 135) B w).alloc hsz (.cells #[.int .i64 0, .int .i64 0, .int .i64 0, .int .i64 0] 43)
  have hc1 : X.blk (w.alloc (.cells #[.int .i64 0, .int .i64 0, .int .i64 0, .int .i64 0] 43)) w.heap.size = some (.cells #[.int .i64 0, .int .i64 0, .int .i64 0, .int .i64 0] 43 (0, 0)) := by simp
  have hb21 : X.blk (w.alloc (.cells #[.int .i64 0, .int .i64 0, .int .i64 0, .int .i64 0] 43)) b2 = some (.cells #[ptr x] 131 (0, 0)) := by rw [blk_alloc, if_neg n1]; exact hb2
  have hm31 := hd1.keeps.blk hm3' (by decide)
  generalize w.alloc (.cells #[.int .i64 0, .int .i64 0, .int .i64 0, .int .i64 0] 43) = w1 at *
  unfold ptr at hb21
  simp [hb21, hm31]
  refine lots_past (x := x) h1 ?_
  unfold refDo refS at hK
  cases hf' : findP k m.ref s.past with
  | none =>
    simp only [hf'] at hK
    simp only [findR, (nil114 _).1, onSome_some, Option.isNone, xif_true]
    rw [build_of (cs := #[.int .i64 0, .int .i64 0, .int .i64 0, .int .i64 0]) (by simp), onSome_some]
    exact cost_end Co.zero h1 hc1 v43 (by omega) (by omega) hd1 (K := fun v W => K (.tuple #[v, .int .i64 28]) W) (fun w5 h5 hd5 => hK _ _ _ h5 hd5)
  | some i =>
    obtain ⟨hi, _⟩ := idxF_lt hf'
    simp only [hf', List.getElem?_eq_getElem hi] at hK
    obtain ⟨g, cap, hpv, hBg, _, hat⟩ := h1.pa.paAt hi
    have hel : elP 7 pv i = .pointer (some ⟨g, i * 7, none⟩) := by rw [hpv]; simp [elP]
    simp only [findR, hel, (nil114 _).1, onSome_some, Option.isNone, xif_false]
    simp [hm31, hat.c3, hat.c5]
    refine xif_dec (fun hq => ?_) (fun hq => ?_)
    · rw [if_pos hq] at hK
      rw [build_of (cs := #[.int .i64 0, .int .i64 0, .int .i64 0, .int .i64 0]) (by simp), onSome_some]
      exact cost_end Co.zero h1.drew (w := w1.drew) hc1 v43 (by omega) (by omega) hd1.drew (K := fun v W => K (.tuple #[v, .int .i64 21]) W) (fun w5 h5 hd5 => hK _ _ _ h5 hd5)
    · rw [if_neg hq] at hK
      simp only [List.getElem?_eq_getElem hi] at hK
      refine ⟨hf, ?_⟩
      have hg := hG w1.drew i hi (fun t35 W5 => onSome (q_extract t35 0) fun t36 => onSome (q_extract t35 1) fun t37 => l_store 4 (.pointer (some ⟨w.heap.size, 0, none⟩)) t36 W5 fun _ W6 => onSome (loadO 4 (X.blk W6 w.heap.size) 0) fun t6 => K (.tuple #[t6, t37]) W6) h1.drew (fun w2 lv2 pv2 h2 hd2 => ?_)
      · rw [hel] at hg
        exact hg
      · simp only [q_extract_tuple]
        simp
        exact cost_end (G s m i s.past[i]).2.1 h2 (hd2.keeps.blk (a := w1.drew) hc1 (by decide)) v43 (by omega) (by omega) (hd1.drew.trans hd2) (K := fun v W => K (.tuple #[v, .int .i64 (G s m i s.past[i]).2.2]) W) (fun w5 h5 hd5 => hK _ _ _ h5 hd5)
theorem lots_do : LotOk 82 lotDo := by
  intro w B x s lv pv m K h hs hm h1v hK
  refine lift82 ?_
  unfold L82
  have hsz := h.size
  simp only [ptr, l_new, cells_ptr]
  have a1 : ¬ w.heap.size = w.heap.size + 1 + 1 := by omega
  have a2 : ¬ w.heap.size + 1 = w.heap.size + 1 + 1 := by omega
  obtain ⟨w3, hw3⟩ : ∃ w3, ((w.alloc (.cells #[.pointer (some ⟨x, 0, none⟩)] 131)).alloc (.cells m.v.cells 47)).alloc (.cells #[.int .i64 0, .int .i64 0, .int .i64 0, .int .i64 0] 43) = w3 := ⟨_, rfl⟩
  have h3 : SX 135 [] w3 B x s lv pv := by rw [← hw3]; exact ((h.alloc _).alloc _).alloc _
  have hd3 : Did (ST 135) B w w3 := by rw [← hw3]; exact ((((Did.refl _ _ _).alloc hsz _).alloc (Nat.le_trans hsz (by simp)) _).alloc (Nat.le_trans hsz (by simp; omega)) _)
  have hb3 : X.blk w3 w.heap.size = some (.cells #[ptr x] 131 (0, 0)) := by rw [← hw3]; simp [a1, a2]; rfl
  have hm3 : X.blk w3 (w.heap.size + 1) = some (.cells m.cs 47 (0, 0)) := by rw [← hw3]; simp [a1, a2, Mv.cs]
  have hc3 : X.blk w3 (w.heap.size + 1 + 1) = some (.cells #[.int .i64 0, .int .i64 0, .int .i64 0, .int .i64 0] 43 (0, 0)) := by rw [← hw3]; simp
  simp only [World.size_alloc] at hw3 ⊢
  rw [hw3]
  clear hw3
  have hm3' := hm3
  have hb3' := hb3
  unfold Mv.cs at hm3'
  unfold ptr at hb3'
  have fin : ∀ (k : FuncId) (F : St → Mv → St × Co × Int), LotOk k F → lotDo s m = F s m →
      Ret Tryz.prog k [.pointer (some ⟨x, 0, none⟩), .agg #[.int .i64 m.seq, .int .i64 m.value, .string m.item, .int .i64 m.kind, .int .i64 m.qty, .int .i64 m.cost, .string m.lot, .int .i64 m.ref]] w3 fun t W =>
        onSome (q_extract t 0) fun t18 => onSome (q_extract t 1) fun t19 => l_store 4 (.pointer (some ⟨w.heap.size + 1 + 1, 0, none⟩)) t18 W fun _ W6 =>
        onSome (loadO 4 (X.blk W6 (w.heap.size + 1 + 1)) 0) fun c => K (.tuple #[c, t19]) W6 := by
    intro k F hF e
    rw [e] at hK
    refine hF w3 B x s lv pv m _ h3 hs hm h1v (fun w4 lv4 pv4 h4 hd4 => ?_)
    simp only [q_extract_tuple]
    simp
    exact cost_end (F s m).2.1 h4 (hd4.keeps.blk hc3 (by decide)) v43 (by omega) (by omega) (hd3.trans hd4) (K := fun v W => K (.tuple #[v, .int .i64 (F s m).2.2]) W) (fun w5 h5 hd5 => hK _ _ _ h5 hd5)
  have fin2 : ∀ (k : Int) (f : FuncId) (G : St → Mv → Nat → Pa → St × Co × Int), k ≠ 0 → bodied Tryz.prog f = true → lotDo s m = refDo k G s m →
      (∀ (w' : World) (i : Nat) (hi : i < s.past.length) (K : Value → World → Prop), SX 135 [] w' B x s lv pv →
      (∀ w'' lv' pv', SX 135 [] w'' B x (G s m i s.past[i]).1 lv' pv' → Did (ST 135) B w' w'' → K (.tuple #[(G s m i s.past[i]).2.1.v, .int .i64 (G s m i s.past[i]).2.2]) w'') → Ret Tryz.prog f [ptr x, m.v, elP 7 pv i] w' K) →
      l_callv Tryz.prog (.func (.func 130) #[] #[.pointer (some ⟨w.heap.size, 0, none⟩), .pointer (some ⟨w.heap.size + 1, 0, none⟩)]) [.int .i64 k, .func (.func f) #[.pointer (some ⟨x, 0, none⟩)] #[]] w3 fun t W =>
        onSome (q_extract t 0) fun t18 => onSome (q_extract t 1) fun t19 => l_store 4 (.pointer (some ⟨w.heap.size + 1 + 1, 0, none⟩)) t18 W fun _ W6 =>
        onSome (loadO 4 (X.blk W6 (w.heap.size + 1 + 1)) 0) fun c => K (.tuple #[c, t19]) W6 := by
    intro k f G hk0 hbod e hG
    rw [e] at hK
    refine lots_refer (b2 := w.heap.size) (m3 := w.heap.size + 1) (x := x) hk0 hbod h3 hb3 hm3 hG (fun w4 lv4 pv4 h4 hd4 => ?_)
    simp only [q_extract_tuple]
    simp
    exact cost_end (refDo k G s m).2.1 h4 (hd4.keeps.blk hc3 (by decide)) v43 (by omega) (by omega) (hd3.trans hd4) (K := fun v W => K (.tuple #[v, .int .i64 (refDo k G s m).2.2]) W) (fun w5 h5 hd5 => hK _ _ _ h5 hd5)
  by_cases k1 : m.kind = 1
  · have f := fin 131 _ lots_receive (by unfold lotDo; rw [if_pos k1])
    simp [k1, hm3', hb3'] at f ⊢
    exact f
  by_cases k2 : m.kind = 2
  · have f := fin 132 _ lots_issue (by unfold lotDo; rw [if_neg k1, if_pos k2])
    simp [k2, hm3', hb3'] at f ⊢
    exact f
  by_cases k3 : m.kind = 3
  · have f := fin2 2 133 onBack (by decide) bod133 (by unfold lotDo; rw [if_neg k1, if_neg k2, if_pos k3]; rfl) (fun w' i hi K' h' hk' => lots_back w' B x s lv pv m i hi K' h' hs hm h1v hk')
    simp [k3, hm3', hb3'] at f ⊢
    exact f
  by_cases k4 : m.kind = 4
  · have f := fin2 1 134 onSend (by decide) bod134 (by unfold lotDo; rw [if_neg k1, if_neg k2, if_neg k3, if_pos k4]; rfl) (fun w' i hi K' h' hk' => lots_send trivial w' B x s lv pv m i hi K' k4 h' hs hm h1v hk')
    simp [k4, hm3', hb3'] at f ⊢
    exact f
  by_cases k5 : m.kind = 5
  · have f := fin2 1 135 onLand (by decide) bod135 (by unfold lotDo; rw [if_neg k1, if_neg k2, if_neg k3, if_neg k4, if_pos k5]; rfl) (fun w' i hi K' h' hk' => lots_land w' B x s lv pv m i hi K' h' hs hm h1v hk')
    simp [k5, hm3', hb3'] at f ⊢
    exact f
  · have e : lotDo s m = (s, Co.zero, 10) := by unfold lotDo; rw [if_neg k1, if_neg k2, if_neg k3, if_neg k4, if_neg k5]
    rw [e] at hK
    simp [k1, k2, k3, k4, k5, hm3', hb3']
    exact cost_keep h3 hc3 v43 (by omega) (by omega) hd3 (K := fun v W => K (.tuple #[v, .int .i64 10]) W) (fun w5 h5 hd5 => hK _ _ _ h5 hd5)
end Go.X
end
section
set_option linter.unusedVariables false
set_option linter.unusedSimpArgs false
namespace Go.X
open Go.Proofs Go.RowKit
attribute [local irreducible] l_append l_copy l_make l_run q_slice q_eq q_index q_build onSome l_lit
variable {w w' : World} {B x : Nat} {s : St} {lv pv : Value} {m : Mv} {c : Co}
/-- Behind the two makes: rows of the right lengths in the book, and the argument's block. -/
def OpJ (w : World) (s : St) (lv pv : Value) (W : World) : Prop :=
  Below w.heap.size w W ∧ ∃ a b la lb, la.length = s.layers.length ∧ Own LyE 103 W w.heap.size a la ∧ lb.length = s.past.length ∧ Own PaE 105 W w.heap.size b lb ∧
    X.blk W w.heap.size = some (.cells #[.int .i64 s.qty, .int .i64 s.value, .int .i64 s.price, lv, pv] 28 (0, 0)) ∧
    X.blk W (w.heap.size + 1) = some (.cells #[.int .i64 s.qty, .int .i64 s.value, .int .i64 s.price, a, b] 135 (0, 0))
theorem lots_open (hl : Rd LyE w lv s.layers) (hp : Rd PaE w pv s.past) (hnl : s.layers.length ≤ 1000000) (hnp : s.past.length ≤ 1000000) {K : Value → World → Prop}
    (hK : ∀ w' x lv' pv', SX 135 [] w' w.heap.size x s lv' pv' → Below w.heap.size w w' → K (ptr x) w') : Ret Tryz.prog 80 [StV s lv pv] w K := by
  refine lift80 ?_
  unfold L80 StV
  have c1 : lv.cells = #[lv] ∧ lv.oneCell' = true := by obtain ⟨_, _, hv, _⟩ := hl.slice; rw [hv]; exact ⟨rfl, rfl⟩
  have c2 : pv.cells = #[pv] ∧ pv.oneCell' = true := by obtain ⟨_, _, hv, _⟩ := hp.slice; rw [hv]; exact ⟨rfl, rfl⟩
  simp [l_new]
  rw [build_of (cs := #[.int .i64 s.qty, .int .i64 s.value, .int .i64 s.price, lv, pv]) (by simp [c1.1]), onSome_some]
  simp [l_new]
  obtain ⟨w2, hw2⟩ : ∃ w2, ((w.alloc (Obj.cells #[Value.int IntKind.i64 s.qty, Value.int IntKind.i64 s.value, Value.int IntKind.i64 s.price, lv, pv] 28)).alloc
                  (Obj.cells #[Value.int IntKind.i64 s.qty, Value.int IntKind.i64 s.value, Value.int IntKind.i64 s.price, lv, pv] 135)).drew = w2 := ⟨_, rfl⟩
  have hb2 : Below w.heap.size w w2 := by rw [← hw2]; exact (((Below.refl _ _).alloc (Nat.le_refl _) _).alloc (by simp) _).drew
  have hk0 : X.blk w2 w.heap.size = some (.cells #[.int .i64 s.qty, .int .i64 s.value, .int .i64 s.price, lv, pv] 28 (0, 0)) := by rw [← hw2]; simp
  have hk1 : X.blk w2 (w.heap.size + 1) = some (.cells #[.int .i64 s.qty, .int .i64 s.value, .int .i64 s.price, lv, pv] 135 (0, 0)) := by rw [← hw2]; simp
  rw [hw2]
  clear hw2
  refine joining_i (OpJ w s lv pv) ⟨?_, ?_⟩
  · rw [hl.len, onSome_some, hp.len, onSome_some]
    refine ⟨?_, ?_⟩
    · refine mk_ly (B := w.heap.size) hb2.size hnl (fun w3 v3 ho3 hb3 => ?_)
      have hk03 := (blk_below hb3 (lt_of_blk hk0)).trans hk0
      have hk13 := (blk_below hb3 (lt_of_blk hk1)).trans hk1
      have hb03 := hb2.then hb3
      have d3 := own_cells ho3
      rw [show (cellO (X.blk w3 w.heap.size) 4 = some pv) = True by simp [hk03], ob_true]
      refine ⟨?_, ?_⟩
      · refine mk_pa (B := w.heap.size) hb03.size hnp (fun w4 v4 ho4 hb4 => ?_)
        have hk04 := (blk_below hb4 (lt_of_blk hk03)).trans hk03
        have hk14 := (blk_below hb4 (lt_of_blk hk13)).trans hk13
        have hb04 := hb03.then hb4
        have d4 := own_cells ho4
        simp [hk14, hk04, d3.1, d3.2, d4.1, d4.2]
        have p1 := (ho3.below hb4).putL (o := 3) (vs := [v3]) hk14 (by decide)
        have q1 := ho4.putL (o := 3) (vs := [v3]) hk14 (by decide)
        have k1 : X.blk (X.putL w4 (w.heap.size + 1) 3 [v3]) (w.heap.size + 1) = some (.cells #[.int .i64 s.qty, .int .i64 s.value, .int .i64 s.price, v3, pv] 135 (0, 0)) := by simp [hk14]
        exact ⟨below_putL (below_putL hb04 (by omega) _ _) (by omega) _ _, v3, v4, _, _, by simp, p1.putL k1 (by decide), by simp, q1.putL k1 (by decide), by simp [hk04], by simp [hk14]⟩
      · simp [hk13, hk03, d3.1, d3.2]
        have p1 := ho3.putL (o := 3) (vs := [v3]) hk13 (by decide)
        have k1 : X.blk (X.putL w3 (w.heap.size + 1) 3 [v3]) (w.heap.size + 1) = some (.cells #[.int .i64 s.qty, .int .i64 s.value, .int .i64 s.price, v3, pv] 135 (0, 0)) := by simp [hk13]
        have k0 : X.blk (X.putL w3 (w.heap.size + 1) 3 [v3]) w.heap.size = some (.cells #[.int .i64 s.qty, .int .i64 s.value, .int .i64 s.price, lv, pv] 28 (0, 0)) := by simp [hk03]
        have hb04 := below_putL hb03 (b := w.heap.size + 1) (by omega) [v3] 3
        refine mk_pa (B := w.heap.size) hb04.size hnp (fun w5 v5 ho5 hb5 => ?_)
        have d5 := own_cells ho5
        have k05 := (blk_below hb5 (lt_of_blk k0)).trans k0
        have k15 := (blk_below hb5 (lt_of_blk k1)).trans k1
        simp [k15, d5.1, d5.2]
        exact ⟨below_putL (hb04.then hb5) (by omega) _ _, v3, v5, _, _, by simp, (p1.below hb5).putL k15 (by decide), by simp, ho5.putL k15 (by decide), by simp [k05], by simp [k15]⟩
    · refine mk_pa (B := w.heap.size) hb2.size hnp (fun w3 v3 ho3 hb3 => ?_)
      have hk03 := (blk_below hb3 (lt_of_blk hk0)).trans hk0
      have hk13 := (blk_below hb3 (lt_of_blk hk1)).trans hk1
      have hb03 := hb2.then hb3
      rw [show (cellO (X.blk w3 w.heap.size) 3 = some lv) = True by simp [hk03], ob_true]
      refine mk_ly (B := w.heap.size) hb03.size hnl (fun w4 v4 ho4 hb4 => ?_)
      have hk04 := (blk_below hb4 (lt_of_blk hk03)).trans hk03
      have hk14 := (blk_below hb4 (lt_of_blk hk13)).trans hk13
      have hb04 := hb03.then hb4
      have d3 := own_cells ho3
      have d4 := own_cells ho4
      simp [hk14, hk04, d3.1, d3.2, d4.1, d4.2]
      have p1 := (ho3.below hb4).putL (o := 3) (vs := [v4]) hk14 (by decide)
      have q1 := ho4.putL (o := 3) (vs := [v4]) hk14 (by decide)
      have k1 : X.blk (X.putL w4 (w.heap.size + 1) 3 [v4]) (w.heap.size + 1) = some (.cells #[.int .i64 s.qty, .int .i64 s.value, .int .i64 s.price, v4, pv] 135 (0, 0)) := by simp [hk14]
      exact ⟨below_putL (below_putL hb04 (by omega) _ _) (by omega) _ _, v4, v3, _, _, by simp, q1.putL k1 (by decide), by simp, p1.putL k1 (by decide), by simp [hk04], by simp [hk14]⟩
  · rintro W ⟨hb, a, b, la, lb, hla, hoa, hlb, hob, k0, k1⟩
    simp [k0, k1]
    have hbd := hb.drew
    refine cp_ly hoa.drew (hl.below hbd) hla (fun u w8 ho8 hg8 => ?_)
    have hb8 : Below w.heap.size w w8 := hbd.grown hg8 hb.size (fun k hk => (hoa.lt k hk).1)
    have k08 : X.blk w8 w.heap.size = _ := (hg8.block _ (lt_of_blk (w := W.drew) k0) (own_blk hoa k0 (by decide))).trans k0
    have k18 : X.blk w8 (w.heap.size + 1) = _ := (hg8.block _ (lt_of_blk (w := W.drew) k1) (own_blk hoa k1 (by decide))).trans k1
    have hob8 := hob.drew.grown hg8 (own_ne hob.drew hoa.drew (by decide))
    simp [k08, k18]
    refine cp_pa hob8.drew (hp.below hb8.drew) hlb (fun u w9 ho9 hg9 => ?_)
    have hb9 : Below w.heap.size w w9 := hb8.drew.grown hg9 hb8.size (fun k hk => (hob8.lt k hk).1)
    have k19 : X.blk w9 (w.heap.size + 1) = _ := (hg9.block _ (lt_of_blk (w := w8.drew) k18) (own_blk hob8 k18 (by decide))).trans k18
    have ho89 := ho8.drew.grown hg9 (own_ne ho8.drew hob8.drew (by decide))
    exact hK _ (w.heap.size + 1) a b ⟨by omega, k19, ho89, ho9, by decide, by decide⟩ hb9
theorem lots_step : StepOk 35 lotsV := by
  intro w s m lv pv K ht hm hs hlv hpv hK
  refine lift35 ?_
  unfold L35 StV
  have nl := hs.nl
  have np := hs.np
  have a1 : ¬ w.heap.size = w.heap.size + 1 + 1 + 1 := by omega
  have a2 : ¬ w.heap.size = w.heap.size + 1 + 1 := by omega
  have a3 : ¬ w.heap.size + 1 = w.heap.size + 1 + 1 + 1 := by omega
  have a4 : ¬ w.heap.size + 1 = w.heap.size + 1 + 1 := by omega
  simp [l_new, a1, a2, a3, a4]
  obtain ⟨w4, hw4⟩ : ∃ w4, ((((w.alloc (Obj.cells #[Value.int IntKind.i64 s.qty, Value.int IntKind.i64 s.value, Value.int IntKind.i64 s.price, lv, pv] 28)).alloc
      (Obj.cells #[Value.int IntKind.i64 m.seq, Value.int IntKind.i64 m.value, Value.string m.item, Value.int IntKind.i64 m.kind, Value.int IntKind.i64 m.qty, Value.int IntKind.i64 m.cost, Value.string m.lot, Value.int IntKind.i64 m.ref] 47)).alloc
      (Obj.cells #[Value.int IntKind.i64 0, Value.int IntKind.i64 0, Value.int IntKind.i64 0, Value.slice none 0 0, Value.slice none 0 0] 28)).alloc
      (Obj.cells #[Value.int IntKind.i64 0, Value.int IntKind.i64 0, Value.int IntKind.i64 0, Value.int IntKind.i64 0] 43)) = w4 := ⟨_, rfl⟩
  have hb4 : Below w.heap.size w w4 := by
    rw [← hw4]
    exact (((((Below.refl _ _).alloc (Nat.le_refl _) _).alloc (by simp) _).alloc (by simp; omega) _).alloc (by simp; omega) _)
  have hkm : X.blk w4 (w.heap.size + 1) = some (.cells #[.int .i64 m.seq, .int .i64 m.value, .string m.item, .int .i64 m.kind, .int .i64 m.qty, .int .i64 m.cost, .string m.lot, .int .i64 m.ref] 47 (0, 0)) := by
    rw [← hw4]; simp [a3, a4]
  have hkt : X.blk w4 (w.heap.size + 1 + 1) = some (.cells #[.int .i64 0, .int .i64 0, .int .i64 0, .slice none 0 0, .slice none 0 0] 28 (0, 0)) := by
    rw [← hw4]; simp
  have hkc : X.blk w4 (w.heap.size + 1 + 1 + 1) = some (.cells #[.int .i64 0, .int .i64 0, .int .i64 0, .int .i64 0] 43 (0, 0)) := by
    rw [← hw4]; simp
  rw [hw4]
  clear hw4
  refine lots_open (s := s) (hlv.below hb4) (hpv.below hb4) (by omega) (by omega) (fun w5 x lv5 pv5 hX5 hb5 => ?_)
  have hxge := hX5.le
  have hs4 : w.heap.size + 4 ≤ w4.heap.size := by have := lt_of_blk hkc; omega
  have hb05 := hb4.then hb5
  have hkm5 := (blk_below hb5 (lt_of_blk hkm)).trans hkm
  have hkt5 := (blk_below hb5 (lt_of_blk hkt)).trans hkt
  have hkc5 := (blk_below hb5 (lt_of_blk hkc)).trans hkc
  have hX : SX 135 [] w5 w.heap.size x s lv5 pv5 := ⟨by omega, hX5.blk, hX5.ly.lower hb4.size, hX5.pa.lower hb4.size, hX5.n1, hX5.n2⟩
  simp [ptr, hkm5]
  refine one_ok (m := m) (ht.below hb05) hm _ (fun w6 hb6 => ?_)
  have hX6 := hX.called hb6
  have hb06 := hb05.then hb6
  have hkm6 := (blk_below hb6 (lt_of_blk hkm5)).trans hkm5
  have hkt6 := (blk_below hb6 (lt_of_blk hkt5)).trans hkt5
  have hkc6 := (blk_below hb6 (lt_of_blk hkc5)).trans hkc5
  simp only [q_neq, onSome_some]
  refine xif_ndec (fun h1 => ?_) (fun h1 => ?_)
  · have hF : lotsV s m = (St.zero, Co.zero, oneV m) := by unfold lotsV; rw [if_pos h1]
    exact step_fail hF hK hb06 (by omega) (by omega) hkt6 hkc6
  simp [hkm6]
  refine lots_past (x := x) hX6 ?_
  cases hf : findP 0 m.seq s.past with
  | some i =>
    obtain ⟨hi, _⟩ := idxF_lt hf
    obtain ⟨g, cap, hv, _⟩ := hX6.pa.paAt hi
    have hF : lotsV s m = (St.zero, Co.zero, 8) := by unfold lotsV; rw [if_neg (by simpa using h1), if_pos (by rw [hf]; rfl)]
    simp only [findR, elP, hv, (nil114 _).2, onSome_some, Option.isSome, xif_true]
    exact step_fail hF hK hb06 (by omega) (by omega) hkt6 hkc6
  | none =>
    simp only [findR, (nil114 _).2, onSome_some, Option.isSome, xif_false]
    simp [hkm6]
    obtain ⟨R, hR⟩ : ∃ R, R = lotDo s m := ⟨_, rfl⟩
    have hFV : lotsV s m = (if R.2.2 ≠ 0 then (St.zero, Co.zero, R.2.2) else
        if lotOver (R.1.add ⟨m.seq, R.2.1.qty, R.2.1.value, R.2.1.var⟩) ⟨m.seq, R.2.1.qty, R.2.1.value, R.2.1.var⟩ then (St.zero, Co.zero, 4) else (R.1.add ⟨m.seq, R.2.1.qty, R.2.1.value, R.2.1.var⟩, ⟨m.seq, R.2.1.qty, R.2.1.value, R.2.1.var⟩, 0)) := by
      rw [hR]
      unfold lotsV
      rw [if_neg (by simpa using h1), if_neg (by rw [hf]; simp)]
    refine lots_do w6 w.heap.size x s lv5 pv5 m _ hX6 hs hm (by simpa using h1) (fun w7 lv7 pv7 hX7 hd7 => ?_)
    rw [← hR] at hX7 ⊢
    have hb07 := hb06.trans hd7.below
    have hkm7 := hd7.keeps.blk hkm6 (by decide)
    have hkt7 := hd7.keeps.blk hkt6 (by decide)
    have hkc7 := hd7.keeps.blk hkc6 (by decide)
    simp only [q_extract_tuple, Co.v]
    simp [hkc7]
    have hX8 := hX7.other (o := 0) (vs := [.int .i64 R.2.1.seq, .int .i64 R.2.1.qty, .int .i64 R.2.1.value, .int .i64 R.2.1.var]) hkc7 (by decide)
    have hb08 := below_putL hb07 (b := w.heap.size + 1 + 1 + 1) (by omega) [.int .i64 R.2.1.seq, .int .i64 R.2.1.qty, .int .i64 R.2.1.value, .int .i64 R.2.1.var] 0
    have n1 : ¬ w.heap.size + 1 + 1 + 1 = w.heap.size + 1 := by omega
    have n2 : ¬ w.heap.size + 1 + 1 + 1 = w.heap.size + 1 + 1 := by omega
    have hkm8 : X.blk (X.putL w7 (w.heap.size + 1 + 1 + 1) 0 [.int .i64 R.2.1.seq, .int .i64 R.2.1.qty, .int .i64 R.2.1.value, .int .i64 R.2.1.var]) (w.heap.size + 1) = some (.cells #[.int .i64 m.seq, .int .i64 m.value, .string m.item, .int .i64 m.kind, .int .i64 m.qty, .int .i64 m.cost, .string m.lot, .int .i64 m.ref] 47 (0, 0)) := by rw [blk_putL, if_neg n1]; exact hkm7
    have hkt8 : X.blk (X.putL w7 (w.heap.size + 1 + 1 + 1) 0 [.int .i64 R.2.1.seq, .int .i64 R.2.1.qty, .int .i64 R.2.1.value, .int .i64 R.2.1.var]) (w.heap.size + 1 + 1) = some (.cells #[.int .i64 0, .int .i64 0, .int .i64 0, .slice none 0 0, .slice none 0 0] 28 (0, 0)) := by rw [blk_putL, if_neg n2]; exact hkt7
    have hkc8 : X.blk (X.putL w7 (w.heap.size + 1 + 1 + 1) 0 [.int .i64 R.2.1.seq, .int .i64 R.2.1.qty, .int .i64 R.2.1.value, .int .i64 R.2.1.var]) (w.heap.size + 1 + 1 + 1) = some (.cells #[.int .i64 R.2.1.seq, .int .i64 R.2.1.qty, .int .i64 R.2.1.value, .int .i64 R.2.1.var] 43 (0, 0)) := by simp [hkc7]
    generalize X.putL w7 (w.heap.size + 1 + 1 + 1) 0 [.int .i64 R.2.1.seq, .int .i64 R.2.1.qty, .int .i64 R.2.1.value, .int .i64 R.2.1.var] = w8 at *
    refine xif_ndec (fun he => ?_) (fun he => ?_)
    · rw [if_pos he] at hFV
      exact step_fail hFV hK hb08 (by omega) (by omega) hkt8 hkc8
    rw [if_neg (by simpa using he)] at hFV
    have hbx8 := hX8.blk
    unfold scells at hbx8
    have hbx7 := hX7.blk
    unfold scells at hbx7
    have nx : ¬ x = w.heap.size + 1 + 1 + 1 := by omega
    have nx' : ¬ w.heap.size + 1 + 1 + 1 = x := by omega
    have n3 : ¬ w.heap.size + 1 + 1 = w.heap.size := by omega
    simp [hkm8, hkc8, hkm7, hbx8, hbx7, n1, n3, nx, nx']
    obtain ⟨cc, hcc⟩ : ∃ cc : Co, cc = ⟨m.seq, R.2.1.qty, R.2.1.value, R.2.1.var⟩ := ⟨_, rfl⟩
    rw [← hcc] at hFV
    have hX9 := hX8.other (o := 0) (vs := [.int .i64 m.seq]) hkc8 (by decide)
    have hb09 := below_putL hb08 (b := w.heap.size + 1 + 1 + 1) (by omega) [.int .i64 m.seq] 0
    have hkt9 : X.blk (X.putL w8 (w.heap.size + 1 + 1 + 1) 0 [.int .i64 m.seq]) (w.heap.size + 1 + 1) = some (.cells #[.int .i64 0, .int .i64 0, .int .i64 0, .slice none 0 0, .slice none 0 0] 28 (0, 0)) := by rw [blk_putL, if_neg n2]; exact hkt8
    have hkc9 : X.blk (X.putL w8 (w.heap.size + 1 + 1 + 1) 0 [.int .i64 m.seq]) (w.heap.size + 1 + 1 + 1) = some (.cells #[.int .i64 cc.seq, .int .i64 cc.qty, .int .i64 cc.value, .int .i64 cc.var] 43 (0, 0)) := by rw [hcc]; simp [hkc8]
    have h10 := hX9.drew.put (s' := ⟨IntKind.i64.wrap (R.1.qty + R.2.1.qty), R.1.value, R.1.price, R.1.layers, R.1.past⟩) (r' := []) (o := 0) (vs := [.int .i64 (IntKind.i64.wrap (R.1.qty + R.2.1.qty))]) (by simp [scells]) rfl rfl
    have h11 := h10.1.drew.put (s' := R.1.add cc) (r' := []) (o := 1) (vs := [.int .i64 (IntKind.i64.wrap (R.1.value + R.2.1.value))]) (by rw [hcc]; simp [scells, St.add]) rfl rfl
    have hd11 : Did (ST 135) w.heap.size (X.putL w8 (w.heap.size + 1 + 1 + 1) 0 [.int .i64 m.seq]) _ := (((Did.refl _ _ _).drew.trans h10.2).drew).trans h11.2
    have hX11 := h11.1
    have hkt11 := hd11.keeps.blk hkt9 (by decide)
    have hkc11 := hd11.keeps.blk hkc9 (by decide)
    have hb011 := hb09.trans hd11.below
    generalize X.putL (X.putL (X.putL w8 (w.heap.size + 1 + 1 + 1) 0 [.int .i64 m.seq]).drew x 0 [.int .i64 (IntKind.i64.wrap (R.1.qty + R.2.1.qty))]).drew x 1 [.int .i64 (IntKind.i64.wrap (R.1.value + R.2.1.value))] = w11 at *
    have hcv : Value.agg #[.int .i64 m.seq, .int .i64 R.2.1.qty, .int .i64 R.2.1.value, .int .i64 R.2.1.var] = cc.v := by rw [hcc]; rfl
    rw [hcv]
    refine lots_over (x := x) hX11 _ (fun w12 hb12 => ?_)
    have hX12 := hX11.called hb12
    have hkt12 := (blk_below hb12 (lt_of_blk hkt11)).trans hkt11
    have hkc12 := (blk_below hb12 (lt_of_blk hkc11)).trans hkc11
    have hb012 := hb011.then hb12
    refine xif_bool (fun ho => ?_) (fun ho => ?_)
    · rw [if_pos ho] at hFV
      exact step_fail hFV hK hb012 (by omega) (by omega) hkt12 hkc12
    · rw [if_neg (by rw [ho]; exact Bool.false_ne_true)] at hFV
      rw [hFV] at hK
      have hbx12 := hX12.blk
      unfold scells at hbx12
      have d1 := own_cells hX12.ly
      have d2 := own_cells hX12.pa
      have n4 : ¬ w.heap.size + 1 + 1 = x := by omega
      have n5 : ¬ x = w.heap.size + 1 + 1 := by omega
      have n6 : ¬ w.heap.size + 1 + 1 = w.heap.size + 1 + 1 + 1 := by omega
      simp [hbx12, hkt12, hkc12, d1.1, d1.2, d2.1, d2.2, n2, n4, n5, n6, nx, nx']
      have p1 := hX12.ly.drew.putL (w := w12.drew) (o := 0) (vs := [.int .i64 (R.1.add cc).qty, .int .i64 (R.1.add cc).value, .int .i64 (R.1.add cc).price, lv7, pv7]) hkt12 (by decide)
      have q1 := hX12.pa.drew.putL (w := w12.drew) (o := 0) (vs := [.int .i64 (R.1.add cc).qty, .int .i64 (R.1.add cc).value, .int .i64 (R.1.add cc).price, lv7, pv7]) hkt12 (by decide)
      have hkc13 : X.blk (X.putL w12.drew (w.heap.size + 1 + 1) 0 [.int .i64 (R.1.add cc).qty, .int .i64 (R.1.add cc).value, .int .i64 (R.1.add cc).price, lv7, pv7]) (w.heap.size + 1 + 1 + 1) = some (.cells #[.int .i64 cc.seq, .int .i64 cc.qty, .int .i64 cc.value, .int .i64 cc.var] 43 (0, 0)) := by
        rw [blk_putL, if_neg n6]; exact hkc12
      have p2 := p1.putL (o := 0) (vs := [.int .i64 cc.seq, .int .i64 cc.qty, .int .i64 cc.value, .int .i64 cc.var]) hkc13 (by decide)
      have q2 := q1.putL (o := 0) (vs := [.int .i64 cc.seq, .int .i64 cc.qty, .int .i64 cc.value, .int .i64 cc.var]) hkc13 (by decide)
      exact hK _ lv7 pv7 p2 q2 (below_putL (below_putL hb012.drew (by omega) _ _) (by omega) _ _)
end Go.X
end
