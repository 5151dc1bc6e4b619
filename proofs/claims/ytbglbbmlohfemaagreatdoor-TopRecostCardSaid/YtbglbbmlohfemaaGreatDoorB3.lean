/- Plain steps of costing, what they keep; the step of fifo. -/
import Derived.Test.YtbglbbmlohfemaaGreatDoorB2
section
set_option linter.unusedVariables false
set_option linter.unusedSimpArgs false
namespace Go.X
open Go.Proofs Go.RowKit
attribute [local irreducible] l_append l_copy l_make l_run q_slice q_eq q_index
variable {w w' : World} {B x : Nat} {ty : TypeId} {r : List Value} {s : St} {lv pv : Value}
def St.setL (s : St) (l : List Ly) : St := ⟨s.qty, s.value, s.price, l, s.past⟩
def St.setP (s : St) (l : List Pa) : St := ⟨s.qty, s.value, s.price, s.layers, l⟩
@[simp] theorem St.setL_q {l : List Ly} : (s.setL l).qty = s.qty := rfl
@[simp] theorem St.setL_v {l : List Ly} : (s.setL l).value = s.value := rfl
@[simp] theorem St.setL_r {l : List Ly} : (s.setL l).price = s.price := rfl
@[simp] theorem St.setL_l {l : List Ly} : (s.setL l).layers = l := rfl
@[simp] theorem St.setL_p {l : List Ly} : (s.setL l).past = s.past := rfl
@[simp] theorem St.setP_q {l : List Pa} : (s.setP l).qty = s.qty := rfl
@[simp] theorem St.setP_v {l : List Pa} : (s.setP l).value = s.value := rfl
@[simp] theorem St.setP_r {l : List Pa} : (s.setP l).price = s.price := rfl
@[simp] theorem St.setP_l {l : List Pa} : (s.setP l).layers = s.layers := rfl
@[simp] theorem St.setP_p {l : List Pa} : (s.setP l).past = l := rfl
@[simp] theorem St.setL_L {l l' : List Ly} : (s.setL l).setL l' = s.setL l' := rfl
@[simp] theorem St.setP_P {l l' : List Pa} : (s.setP l).setP l' = s.setP l' := rfl
@[simp] theorem St.setL_self : s.setL s.layers = s := rfl
@[simp] theorem St.setP_self : s.setP s.past = s := rfl
def scells (s : St) (lv pv : Value) (r : List Value) : Array Value := (.int .i64 s.qty :: .int .i64 s.value :: .int .i64 s.price :: lv :: pv :: r).toArray
structure SX (ty : TypeId) (r : List Value) (w : World) (B x : Nat) (s : St) (lv pv : Value) : Prop where
  le : B ≤ x
  blk : X.blk w x = some (.cells (scells s lv pv r) ty (0, 0))
  ly : Own LyE 103 w B lv s.layers
  pa : Own PaE 105 w B pv s.past
  n1 : ty ≠ 103
  n2 : ty ≠ 105
def ST (ty : TypeId) : List TypeId := [ty, 103, 105]
theorem ST.a : ty ∈ ST ty := by simp [ST]
theorem ST.b : (103 : TypeId) ∈ ST ty := by simp [ST]
theorem ST.c : (105 : TypeId) ∈ ST ty := by simp [ST]
namespace SX
theorem size (h : SX ty r w B x s lv pv) : B ≤ w.heap.size := Nat.le_trans h.le (Nat.le_of_lt (lt_of_blk h.blk))
theorem drew (h : SX ty r w B x s lv pv) : SX ty r w.drew B x s lv pv := ⟨h.le, h.blk, h.ly.drew, h.pa.drew, h.n1, h.n2⟩
theorem called (h : SX ty r w B x s lv pv) (hb : Below w.heap.size w w') : SX ty r w' B x s lv pv := ⟨h.le, (blk_below hb (lt_of_blk h.blk)).trans h.blk, h.ly.below hb, h.pa.below hb, h.n1, h.n2⟩
theorem alloc (h : SX ty r w B x s lv pv) (o : Obj) : SX ty r (w.alloc o) B x s lv pv :=
  ⟨h.le, by rw [blk_alloc, if_neg (Nat.ne_of_lt (lt_of_blk h.blk))]; exact h.blk, h.ly.alloc _, h.pa.alloc _, h.n1, h.n2⟩
/-- A store into a block of another type. -/
theorem other (h : SX ty r w B x s lv pv) {g o : Nat} {vs : List Value} {cs : Array Value} {t : TypeId} {f : Nat × Nat} (hg : X.blk w g = some (.cells cs t f)) (ht : t ∉ ST ty) : SX ty r (X.putL w g o vs) B x s lv pv := by
  have h1 : t ≠ ty := fun e => ht (by rw [e]; exact ST.a)
  have h2 : t ≠ 103 := fun e => ht (by rw [e]; exact ST.b)
  have h3 : t ≠ 105 := fun e => ht (by rw [e]; exact ST.c)
  exact ⟨h.le, by rw [blk_putL, if_neg (ne_of_type hg h.blk h1)]; exact h.blk, h.ly.putL hg h2, h.pa.putL hg h3, h.n1, h.n2⟩
/-- A store into a block of a number that is not the stock's, above its rows. -/
theorem setL {lv' : Value} {l' : List Ly} (h : SX ty r w B x s lv pv) (hg : w.grownBy w' lv.ownBlock) (ho : Own LyE 103 w' B lv' l') :
    SX ty r (X.putL w' x 3 [lv']) B x (s.setL l') lv' pv ∧ Did (ST ty) B w (X.putL w' x 3 [lv']) := by
  have hx : X.blk w' x = some (.cells (scells s lv pv r) ty (0, 0)) := (hg.block x (lt_of_blk h.blk) (own_blk h.ly h.blk h.n1)).trans h.blk
  have hd := (Did.refl (ST ty) B w).grown hg h.size (own_row h.ly ST.b)
  exact ⟨⟨h.le, by simp [hx, scells], ho.putL hx h.n1, (h.pa.grown hg (own_ne h.pa h.ly (by decide))).putL hx h.n2, h.n1, h.n2⟩, hd.putL hx ST.a h.le⟩
theorem setP {pv' : Value} {l' : List Pa} (h : SX ty r w B x s lv pv) (hg : w.grownBy w' pv.ownBlock) (ho : Own PaE 105 w' B pv' l') :
    SX ty r (X.putL w' x 4 [pv']) B x (s.setP l') lv pv' ∧ Did (ST ty) B w (X.putL w' x 4 [pv']) := by
  have hx : X.blk w' x = some (.cells (scells s lv pv r) ty (0, 0)) := (hg.block x (lt_of_blk h.blk) (own_blk h.pa h.blk h.n2)).trans h.blk
  have hd := (Did.refl (ST ty) B w).grown hg h.size (own_row h.pa ST.c)
  exact ⟨⟨h.le, by simp [hx, scells], (h.ly.grown hg (own_ne h.ly h.pa (by decide))).putL hx h.n1, ho.putL hx h.n2, h.n1, h.n2⟩, hd.putL hx ST.a h.le⟩
theorem cellL (h : SX ty r w B x s lv pv) {g cap i j : Nat} (hv : lv = .slice (some ⟨g, 0, none⟩) s.layers.length cap) (hi : i < s.layers.length) (hj : j < 4) {u : Value} {a : Ly} (ha : a.cs = (s.layers[i].cs).set j u) :
    SX ty r (X.putL w g (i * 4 + j) [u]) B x (s.setL (s.layers.set i a)) lv pv ∧ Did (ST ty) B w (X.putL w g (i * 4 + j) [u]) := by
  have hb : lv.ownBlock = some g := by rw [hv]; rfl
  have hg := h.ly.type g hb
  refine hg.elim fun cur hcur => ?_
  have hne : ¬ g = x := fun e => by
    rw [e] at hcur
    exact own_blk h.ly h.blk h.n1 (by rw [hb, e])
  have ho : Own LyE 103 (X.putL w g (i * 4 + j) [u]) B lv (s.layers.set i a) := h.ly.store (i := i) (j := j) hv hi hj ha
  exact ⟨⟨h.le, by rw [blk_putL, if_neg hne]; exact h.blk, ho, h.pa.putL hcur (by decide), h.n1, h.n2⟩, (Did.refl (ST ty) B w).putL hcur ST.b (h.ly.lt g hb).1⟩
theorem cellP (h : SX ty r w B x s lv pv) {g cap i j : Nat} (hv : pv = .slice (some ⟨g, 0, none⟩) s.past.length cap) (hi : i < s.past.length) (hj : j < 7) {u : Value} {a : Pa} (ha : a.cs = (s.past[i].cs).set j u) :
    SX ty r (X.putL w g (i * 7 + j) [u]) B x (s.setP (s.past.set i a)) lv pv ∧ Did (ST ty) B w (X.putL w g (i * 7 + j) [u]) := by
  have hb : pv.ownBlock = some g := by rw [hv]; rfl
  have hg := h.pa.type g hb
  refine hg.elim fun cur hcur => ?_
  have hne : ¬ g = x := fun e => by
    rw [e] at hcur
    exact own_blk h.pa h.blk h.n2 (by rw [hb, e])
  have ho : Own PaE 105 (X.putL w g (i * 7 + j) [u]) B pv (s.past.set i a) := h.pa.store (i := i) (j := j) hv hi hj ha
  exact ⟨⟨h.le, by rw [blk_putL, if_neg hne]; exact h.blk, h.ly.putL hcur (by decide), ho, h.n1, h.n2⟩, (Did.refl (ST ty) B w).putL hcur ST.c (h.pa.lt g hb).1⟩
/-- Cells of the block itself are written. -/
theorem put {s' : St} {r' : List Value} (h : SX ty r w B x s lv pv) {o : Nat} {vs : List Value} (hc : spl (scells s lv pv r) o vs = scells s' lv pv r') (hl : s'.layers = s.layers) (hp : s'.past = s.past) :
    SX ty r' (X.putL w x o vs) B x s' lv pv ∧ Did (ST ty) B w (X.putL w x o vs) := by
  refine ⟨⟨h.le, by simp [h.blk, hc], ?_, ?_, h.n1, h.n2⟩, (Did.refl (ST ty) B w).putL h.blk ST.a h.le⟩
  · rw [hl]; exact h.ly.putL h.blk h.n1
  · rw [hp]; exact h.pa.putL h.blk h.n2
/-- A past movement is appended to the stock's row: behind the literal. -/
theorem past {a : Pa} (h : SX ty r w B x s lv pv) (hn : s.past.length < 1000000) {K : Value → World → Prop}
    (hK : ∀ w' v', X.blk w' x = some (.cells (scells s lv pv r) ty (0, 0)) → v'.cells = #[v'] → v'.oneCell' = true →
      SX ty r (X.putL w' x 4 [v']) B x (s.setP (s.past ++ [a])) lv v' → Did (ST ty) B w (X.putL w' x 4 [v']) → Did (ST ty) B w w' → K v' w') :
    l_lit 105 1 #[.int .i64 0, .int .i64 0, .string ⟨#[]⟩, .int .i64 0, .int .i64 0, .int .i64 0, .int .i64 0] [(0, 7, .agg #[.int .i64 a.seq, .int .i64 a.kind, .string a.lot, .int .i64 a.qty, .int .i64 a.value, .int .i64 a.used, .int .i64 a.usedV])] w fun t W => ob (cellO (X.blk W x) 4 = some pv) (l_append Tryz.prog #[26, 26] 26 pv t W K) := by
  unfold l_lit
  rw [show fillC #[.int .i64 0, .int .i64 0, .string ⟨#[]⟩, .int .i64 0, .int .i64 0, .int .i64 0, .int .i64 0] [(0, 7, .agg #[.int .i64 a.seq, .int .i64 a.kind, .string a.lot, .int .i64 a.qty, .int .i64 a.value, .int .i64 a.used, .int .i64 a.usedV])] = some (PaE.cells a).toArray by simp [PaE, Pa.cs], onSome_some]
  have h2 := h.alloc (.cells (PaE.cells a).toArray 105)
  have hd2 := (Did.refl (ST ty) B w).alloc h.size (.cells (PaE.cells a).toArray 105)
  have hr2 := Rd.new (E := PaE) (t := 105) (a := a) w (by decide)
  generalize (w.alloc (Obj.cells (PaE.cells a).toArray 105)) = w2 at *
  have hb2 := h2.blk
  unfold scells at hb2
  dsimp only
  rw [show (cellO (X.blk w2 x) 4 = some pv) = True by simp [hb2], ob_true]
  refine app_pa h2.pa hr2 h2.size (by simp; omega) (fun v' w3 ho hg => ?_)
  have h4 := h2.setP hg ho
  have hx3 : X.blk w3 x = some (.cells (scells s lv pv r) ty (0, 0)) := (hg.block x (lt_of_blk h2.blk) (own_blk h2.pa h2.blk h.n2)).trans h2.blk
  have hone := own_cells ho
  exact hK _ _ hx3 hone.1 hone.2 h4.1 (hd2.trans h4.2) (hd2.trans ((Did.refl (ST ty) B w2).grown hg h2.size (own_row h2.pa ST.c)))
end SX
end Go.X
end
section
set_option linter.unusedVariables false
set_option linter.unusedSimpArgs false
namespace Go.X
open Go.Proofs Go.RowKit
def St.zero : St := ⟨0, 0, 0, [], []⟩
def Co.zero : Co := ⟨0, 0, 0, 0⟩
/-- A movement referred to: its index, or an error. -/
def refS (k : Int) (s : St) (m : Mv) : Option Nat × Int :=
  match findP k m.ref s.past with
  | none => (none, 28)
  | some i => match s.past[i]? with
    | none => (none, 28)
    | some p => if IntKind.i64.wrap (p.qty - p.used) < m.qty then (none, 21) else (some i, 0)
theorem refS_lt {k : Int} {s : St} {m : Mv} {i : Nat} (h : (refS k s m).1 = some i) : ∃ hi : i < s.past.length, (refS k s m).2 = 0 ∧ ¬ IntKind.i64.wrap (s.past[i].qty - s.past[i].used) < m.qty := by
  unfold refS at h ⊢
  cases hf : findP k m.ref s.past with
  | none => simp only [hf] at h; cases h
  | some j =>
    obtain ⟨hj, _⟩ := idxF_lt hf
    simp only [hf, List.getElem?_eq_getElem hj] at h ⊢
    split at h
    · cases h
    · rename_i hn
      cases h
      rw [if_neg hn]
      exact ⟨hj, rfl, hn⟩
theorem refS_none {k : Int} {s : St} {m : Mv} (h : (refS k s m).1 = none) : (refS k s m).2 ≠ 0 := by
  unfold refS at h ⊢
  cases hf : findP k m.ref s.past with
  | none => simp
  | some j =>
    obtain ⟨hj, _⟩ := idxF_lt hf
    simp only [hf, List.getElem?_eq_getElem hj] at h ⊢
    split at h
    · rename_i hn
      rw [if_pos hn]
      decide
    · cases h
def mkPa (m : Mv) (v : Int) : Pa := ⟨m.seq, m.kind, m.lot, m.qty, v, 0, 0⟩
/-! ### First in, first out -/
/-- One operation, by the movement's kind: what the step holds then, and an error. -/
def fifoDo (s : Fx) : Fx × Int :=
  if s.m.kind = 1 then (receiveV s, 0) else
  if s.m.kind = 2 then (if s.t.qty < s.m.qty then (s, 21) else (issueV s, 0)) else
  if s.m.kind = 3 then backV s else
  if s.m.kind = 4 then sendV s else
  if s.m.kind = 5 then landV s else (s, 10)
def Fx.sum (s : Fx) : Fx := ⟨⟨IntKind.i64.wrap (s.t.qty + s.c.qty), IntKind.i64.wrap (s.t.value + s.c.value), s.t.price, s.t.layers, s.t.past⟩, s.m, s.c⟩
def fifoV (s : St) (m : Mv) : St × Co × Int :=
  if oneV m ≠ 0 then (St.zero, Co.zero, oneV m) else
  if (findP 0 m.seq s.past).isSome then (St.zero, Co.zero, 8) else
  let r := fifoDo ⟨s, m, ⟨m.seq, 0, 0, 0⟩⟩
  if r.2 ≠ 0 then (St.zero, Co.zero, r.2) else
  if overV r.1.sum then (St.zero, Co.zero, 4) else (r.1.sum.t, r.1.sum.c, 0)
/-- The sums of a stock with a cost. -/
def St.add (s : St) (c : Co) : St := ⟨IntKind.i64.wrap (s.qty + c.qty), IntKind.i64.wrap (s.value + c.value), s.price, s.layers, s.past⟩
/-! ### Moving average -/
def avgReceive (s : St) (m : Mv) : St × Co × Int := (s.setP (s.past ++ [mkPa m m.cost]), ⟨m.seq, m.qty, m.cost, 0⟩, 0)
def avgIssue (s : St) (m : Mv) : St × Co × Int :=
  if s.qty < m.qty then (s, Co.zero, 21) else
  let v := partV s.value m.qty s.qty
  (s.setP (s.past ++ [mkPa m v]), ⟨m.seq, IntKind.i64.wrap (0 - m.qty), IntKind.i64.wrap (0 - v), 0⟩, 0)
def avgBack (s : St) (m : Mv) : St × Co × Int :=
  match (refS 2 s m).1 with
  | none => (s, Co.zero, (refS 2 s m).2)
  | some i => match s.past[i]? with
    | none => (s, Co.zero, 28)
    | some p =>
      let v := partV (IntKind.i64.wrap (p.value - p.usedV)) m.qty (IntKind.i64.wrap (p.qty - p.used))
      (s.setP (s.past.set i ⟨p.seq, p.kind, p.lot, p.qty, p.value, IntKind.i64.wrap (p.used + m.qty), IntKind.i64.wrap (p.usedV + v)⟩), ⟨m.seq, m.qty, v, 0⟩, 0)
def avgSend (s : St) (m : Mv) : St × Co × Int :=
  match (refS 1 s m).1 with
  | none => (s, Co.zero, (refS 1 s m).2)
  | some i => match s.past[i]? with
    | none => (s, Co.zero, 28)
    | some p =>
      if s.qty < m.qty then (s, Co.zero, 21) else
      let v := partV s.value m.qty s.qty
      (s.setP (s.past.set i ⟨p.seq, p.kind, p.lot, p.qty, p.value, IntKind.i64.wrap (p.used + m.qty), p.usedV⟩), ⟨m.seq, IntKind.i64.wrap (0 - m.qty), IntKind.i64.wrap (0 - v), IntKind.i64.wrap (v - m.cost)⟩, 0)
def avgLand (s : St) (m : Mv) : St × Co × Int :=
  match (refS 1 s m).1 with
  | none => (s, Co.zero, (refS 1 s m).2)
  | some i => match s.past[i]? with
    | none => (s, Co.zero, 28)
    | some p =>
      let v := partV m.cost (if s.qty < p.qty then s.qty else p.qty) p.qty
      (s, ⟨m.seq, 0, v, IntKind.i64.wrap (m.cost - v)⟩, 0)
def avgDo (s : St) (m : Mv) : St × Co × Int :=
  if m.kind = 1 then avgReceive s m else
  if m.kind = 2 then avgIssue s m else
  if m.kind = 3 then avgBack s m else
  if m.kind = 4 then avgSend s m else
  if m.kind = 5 then avgLand s m else (s, Co.zero, 10)
def avgV (s : St) (m : Mv) : St × Co × Int :=
  if oneV m ≠ 0 then (St.zero, Co.zero, oneV m) else
  if (findP 0 m.seq s.past).isSome then (St.zero, Co.zero, 8) else
  let r := avgDo s m
  if r.2.2 ≠ 0 then (St.zero, Co.zero, r.2.2) else
  if decide (1000000000 < (r.1.add r.2.1).qty) || farV (r.1.add r.2.1).value || farV r.2.1.var then (St.zero, Co.zero, 4) else (r.1.add r.2.1, r.2.1, 0)
/-! ### Standard price -/
def stdReceipt (s : St) (m : Mv) : St × Co × Int :=
  if (fitV (m.qty * s.price)).2 = false then (s, Co.zero, 4) else
  let v := m.qty * s.price
  (s.setP (s.past ++ [mkPa m m.cost]), ⟨0, m.qty, v, IntKind.i64.wrap (m.cost - v)⟩, 0)
def stdIssue (s : St) (m : Mv) : St × Co × Int :=
  if s.qty < m.qty then (s, Co.zero, 21) else
  if (fitV (m.qty * s.price)).2 = false then (s, Co.zero, 4) else
  let v := m.qty * s.price
  (s.setP (s.past ++ [mkPa m v]), ⟨0, IntKind.i64.wrap (0 - m.qty), IntKind.i64.wrap (0 - v), 0⟩, 0)
def stdCustomer (s : St) (m : Mv) : St × Co × Int :=
  match (refS 2 s m).1 with
  | none => (s, Co.zero, (refS 2 s m).2)
  | some i => match s.past[i]? with
    | none => (s, Co.zero, 28)
    | some p =>
      if (fitV (m.qty * s.price)).2 = false then (s, Co.zero, 4) else
      let v := m.qty * s.price
      let n := partV (IntKind.i64.wrap (p.value - p.usedV)) m.qty (IntKind.i64.wrap (p.qty - p.used))
      (s.setP (s.past.set i ⟨p.seq, p.kind, p.lot, p.qty, p.value, IntKind.i64.wrap (p.used + m.qty), IntKind.i64.wrap (p.usedV + n)⟩), ⟨0, m.qty, v, IntKind.i64.wrap (n - v)⟩, 0)
def stdSupplier (s : St) (m : Mv) : St × Co × Int :=
  match (refS 1 s m).1 with
  | none => (s, Co.zero, (refS 1 s m).2)
  | some i => match s.past[i]? with
    | none => (s, Co.zero, 28)
    | some p =>
      if s.qty < m.qty then (s, Co.zero, 21) else
      if (fitV (m.qty * s.price)).2 = false then (s, Co.zero, 4) else
      let v := m.qty * s.price
      (s.setP (s.past.set i ⟨p.seq, p.kind, p.lot, p.qty, p.value, IntKind.i64.wrap (p.used + m.qty), p.usedV⟩), ⟨0, IntKind.i64.wrap (0 - m.qty), IntKind.i64.wrap (0 - v), IntKind.i64.wrap (v - m.cost)⟩, 0)
def stdLanded (s : St) (m : Mv) : St × Co × Int :=
  match (refS 1 s m).1 with
  | none => (s, Co.zero, (refS 1 s m).2)
  | some _ => (s, ⟨0, 0, 0, m.cost⟩, 0)
def stdReprice (s : St) (m : Mv) : St × Co × Int :=
  let d := fitV (m.cost - s.price)
  let v := fitV (s.qty * d.1)
  if d.2 = false ∨ v.2 = false ∨ farV v.1 = true then (s, Co.zero, 4) else (⟨s.qty, s.value, m.cost, s.layers, s.past⟩, ⟨0, 0, v.1, IntKind.i64.wrap (0 - v.1)⟩, 0)
def stdDo (s : St) (m : Mv) : St × Co × Int :=
  if m.kind = 1 then stdReceipt s m else
  if m.kind = 2 then stdIssue s m else
  if m.kind = 3 then stdCustomer s m else
  if m.kind = 4 then stdSupplier s m else
  if m.kind = 5 then stdLanded s m else stdReprice s m
def stdV (s : St) (m : Mv) : St × Co × Int :=
  if oneV m ≠ 0 then (St.zero, Co.zero, oneV m) else
  if (findP 1 m.seq s.past).isSome ∨ (findP 2 m.seq s.past).isSome then (St.zero, Co.zero, 8) else
  let r := stdDo s m
  if r.2.2 ≠ 0 then (St.zero, Co.zero, r.2.2) else
  let v := fitV (s.value + r.2.1.value)
  let q := IntKind.i64.wrap (s.qty + r.2.1.qty)
  if v.2 = false ∨ 1000000000 < q ∨ farV v.1 = true ∨ farV r.2.1.var = true then (St.zero, Co.zero, 4) else (⟨q, v.1, r.1.price, r.1.layers, r.1.past⟩, ⟨m.seq, r.2.1.qty, r.2.1.value, r.2.1.var⟩, 0)
/-! ### Lots -/
/-- Whether a text is after another one. -/
def aftB (a b : ByteArray) : Bool := !(Op.bytesLess a.toList b.toList || a.toList == b.toList)
/-- The place of a lot among the layers, and whether it is there. -/
def lotAt (lot : ByteArray) : List Ly → Nat × Bool
  | [] => (0, false)
  | a :: r => if a.lot = lot then (0, true) else if aftB a.lot lot then (0, false) else ((lotAt lot r).1 + 1, (lotAt lot r).2)
def Ly.plus (a : Ly) (q v : Int) : Ly := ⟨a.seq, a.lot, IntKind.i64.wrap (a.qty + q), IntKind.i64.wrap (a.value + v)⟩
def lotAdd (lot : ByteArray) (q v : Int) (l : List Ly) : List Ly :=
  let r := lotAt lot l
  let k := if r.2 then l else l.take r.1 ++ ⟨0, lot, 0, 0⟩ :: l.drop r.1
  match k[r.1]? with
  | none => k
  | some a => k.set r.1 (a.plus q v)
def lotQty (lot : ByteArray) (l : List Ly) : Int :=
  if (lotAt lot l).2 then (match l[(lotAt lot l).1]? with | none => 0 | some a => a.qty) else 0
def lotReceive (s : St) (m : Mv) : St × Co × Int :=
  if m.lot = ⟨#[]⟩ then (s, Co.zero, 22) else
  ((s.setL (lotAdd m.lot m.qty m.cost s.layers)).setP (s.past ++ [mkPa m m.cost]), ⟨0, m.qty, m.cost, 0⟩, 0)
def lotIssue (s : St) (m : Mv) : St × Co × Int :=
  if (lotAt m.lot s.layers).2 = false ∨ m.lot = ⟨#[]⟩ then (s, Co.zero, 22) else
  if lotQty m.lot s.layers < m.qty then (s, Co.zero, 21) else
  let r := takeV s.layers (lotAt m.lot s.layers).1 m.qty
  ((s.setL r.1).setP (s.past ++ [mkPa m r.2]), ⟨0, IntKind.i64.wrap (0 - m.qty), IntKind.i64.wrap (0 - r.2), 0⟩, 0)
def lotBack (s : St) (m : Mv) : St × Co × Int :=
  match (refS 2 s m).1 with
  | none => (s, Co.zero, (refS 2 s m).2)
  | some i => match s.past[i]? with
    | none => (s, Co.zero, 28)
    | some p =>
      let v := partV (IntKind.i64.wrap (p.value - p.usedV)) m.qty (IntKind.i64.wrap (p.qty - p.used))
      ((s.setP (s.past.set i ⟨p.seq, p.kind, p.lot, p.qty, p.value, IntKind.i64.wrap (p.used + m.qty), IntKind.i64.wrap (p.usedV + v)⟩)).setL (lotAdd p.lot m.qty v s.layers), ⟨0, m.qty, v, 0⟩, 0)
def lotSend (s : St) (m : Mv) : St × Co × Int :=
  match (refS 1 s m).1 with
  | none => (s, Co.zero, (refS 1 s m).2)
  | some i => match s.past[i]? with
    | none => (s, Co.zero, 28)
    | some p =>
      if lotQty p.lot s.layers < m.qty then (s, Co.zero, 21) else
      let r := takeV s.layers (lotAt p.lot s.layers).1 m.qty
      ((s.setP (s.past.set i ⟨p.seq, p.kind, p.lot, p.qty, p.value, IntKind.i64.wrap (p.used + m.qty), p.usedV⟩)).setL r.1, ⟨0, IntKind.i64.wrap (0 - m.qty), IntKind.i64.wrap (0 - r.2), IntKind.i64.wrap (r.2 - m.cost)⟩, 0)
def lotLand (s : St) (m : Mv) : St × Co × Int :=
  match (refS 1 s m).1 with
  | none => (s, Co.zero, (refS 1 s m).2)
  | some i => match s.past[i]? with
    | none => (s, Co.zero, 28)
    | some p =>
      let q := if lotQty p.lot s.layers < p.qty then lotQty p.lot s.layers else p.qty
      if q = 0 then (s, ⟨0, 0, 0, m.cost⟩, 0) else
      let v := partV m.cost q p.qty
      (s.setL (lotAdd p.lot 0 v s.layers), ⟨0, 0, v, IntKind.i64.wrap (m.cost - v)⟩, 0)
def lotDo (s : St) (m : Mv) : St × Co × Int :=
  if m.kind = 1 then lotReceive s m else
  if m.kind = 2 then lotIssue s m else
  if m.kind = 3 then lotBack s m else
  if m.kind = 4 then lotSend s m else
  if m.kind = 5 then lotLand s m else (s, Co.zero, 10)
def lotOver (s : St) (c : Co) : Bool := s.layers.any (fun a => farV a.value) || decide (1000000000 < s.qty) || farV s.value || farV c.var
def lotsV (s : St) (m : Mv) : St × Co × Int :=
  if oneV m ≠ 0 then (St.zero, Co.zero, oneV m) else
  if (findP 0 m.seq s.past).isSome then (St.zero, Co.zero, 8) else
  let r := lotDo s m
  if r.2.2 ≠ 0 then (St.zero, Co.zero, r.2.2) else
  let c : Co := ⟨m.seq, r.2.1.qty, r.2.1.value, r.2.1.var⟩
  if lotOver (r.1.add c) c then (St.zero, Co.zero, 4) else (r.1.add c, c, 0)
end Go.X
end
section
set_option linter.unusedVariables false
set_option linter.unusedSimpArgs false
namespace Go.X
open Go.Proofs Go.RowKit
def startV (method price : Int) : St × Int :=
  if method < 1 ∨ 4 < method then (St.zero, 10) else
  if price < 0 ∨ 1000000000000 < price then (St.zero, 3) else
  if method = 3 then (⟨0, 0, price, [], []⟩, 0) else (St.zero, 0)
def stepV (method : Int) (s : St) (m : Mv) : St × Co × Int :=
  if method = 1 then fifoV s m else
  if method = 2 then avgV s m else
  if method = 3 then stdV s m else
  if method = 4 then lotsV s m else (St.zero, Co.zero, 10)
/-- All movements from a state on: the state, the costs, the index of the first error, the error. -/
def runFrom (method : Int) : Nat → St → List Co → List Mv → St × List Co × Int × Int
  | _, s, cs, [] => (s, cs, -1, 0)
  | i, s, cs, m :: r => if (stepV method s m).2.2 ≠ 0 then (St.zero, [], i, (stepV method s m).2.2) else runFrom method (i + 1) (stepV method s m).1 (cs ++ [(stepV method s m).2.1]) r
theorem I64.zero : I64 0 := by decide
theorem St.zero_ok (n : Nat) : St.zero.Ok n := ⟨I64.zero, I64.zero, I64.zero, by simp [St.zero], by simp [St.zero], Nat.zero_le _, Nat.zero_le _⟩
theorem Co.zero_ok : Co.zero.Ok := ⟨I64.zero, I64.zero, I64.zero, I64.zero⟩
theorem start_ok {method price : Int} (n : Nat) (hp : I64 price) : (startV method price).1.Ok n := by
  unfold startV
  split
  · exact St.zero_ok n
  · split
    · exact St.zero_ok n
    · split
      · exact ⟨I64.zero, I64.zero, hp, by simp, by simp, Nat.zero_le _, Nat.zero_le _⟩
      · exact St.zero_ok n
theorem mem_set_ok {α : Type} {Q : α → Prop} {l : List α} {i : Nat} {a : α} (h : ∀ b ∈ l, Q b) (ha : Q a) : ∀ b ∈ l.set i a, Q b := by
  intro b hb
  rcases List.mem_or_eq_of_mem_set hb with hb | rfl
  · exact h b hb
  · exact ha
theorem mem_add_ok {α : Type} {Q : α → Prop} {l : List α} {a : α} (h : ∀ b ∈ l, Q b) (ha : Q a) : ∀ b ∈ l ++ [a], Q b := by
  intro b hb
  rcases List.mem_append.mp hb with hb | hb
  · exact h b hb
  · rw [List.mem_singleton.mp hb]; exact ha
theorem get_ok {α : Type} {Q : α → Prop} {l : List α} {i : Nat} {a : α} (h : ∀ b ∈ l, Q b) (ha : l[i]? = some a) : Q a := h a (List.mem_of_getElem? ha)
theorem mkPa_ok {m : Mv} {v : Int} (hm : m.Ok) (hv : I64 v) : (mkPa m v).Ok := ⟨hm.seq, hm.kind, hm.qty, hv, I64.zero, I64.zero⟩
theorem St.Ok.up {n k : Nat} {s : St} (h : s.Ok n) (hk : n ≤ k) : s.Ok k := ⟨h.qty, h.value, h.price, h.layers, h.past, Nat.le_trans h.nl hk, Nat.le_trans h.np hk⟩
theorem St.Ok.addP {n : Nat} {s : St} {a : Pa} (h : s.Ok n) (ha : a.Ok) : (s.setP (s.past ++ [a])).Ok (n + 1) :=
  ⟨h.qty, h.value, h.price, h.layers, mem_add_ok h.past ha, Nat.le_succ_of_le h.nl, by simp; exact h.np⟩
theorem St.Ok.setsP {n : Nat} {s : St} {i : Nat} {a : Pa} (h : s.Ok n) (ha : a.Ok) : (s.setP (s.past.set i a)).Ok n :=
  ⟨h.qty, h.value, h.price, h.layers, mem_set_ok h.past ha, h.nl, by simp; exact h.np⟩
theorem St.Ok.add {n : Nat} {s : St} (c : Co) (h : s.Ok n) : (s.add c).Ok n := ⟨I64.wrap _, I64.wrap _, h.price, h.layers, h.past, h.nl, h.np⟩
theorem take_ok {l : List Ly} {i : Nat} {q : Int} (h : ∀ a ∈ l, a.Ok) : (∀ a ∈ (takeV l i q).1, a.Ok) ∧ (takeV l i q).1.length ≤ l.length ∧ I64 (takeV l i q).2 := by
  unfold takeV
  cases hi : l[i]? with
  | none => exact ⟨h, Nat.le_refl _, I64.zero⟩
  | some a =>
    have ha : a.Ok := get_ok h hi
    refine ⟨?_, ?_, partV_I64 ha.value⟩
    · simp only
      split
      · exact fun b hb => h b (List.mem_of_mem_eraseIdx hb)
      · exact mem_set_ok h ⟨ha.seq, I64.wrap _, I64.wrap _⟩
    · simp only
      split
      · exact List.length_eraseIdx_le l i
      · simp
/-! ### First in, first out -/
structure Fx.Ok (n : Nat) (s : Fx) : Prop where
  t : s.t.Ok n
  m : s.m.Ok
  c : s.c.Ok
theorem issueL_ok : ∀ (l : List Ly) (left v : Int), (∀ a ∈ l, a.Ok) → I64 v → (∀ a ∈ (issueL l left v).1, a.Ok) ∧ (issueL l left v).1.length ≤ l.length ∧ I64 (issueL l left v).2 := by
  intro l
  induction l with
  | nil => intro left v _ hv; exact ⟨by simp [issueL], Nat.le_refl _, hv⟩
  | cons a r ih =>
    intro left v h hv
    unfold issueL
    split
    · exact ⟨h, Nat.le_refl _, hv⟩
    · split
      · obtain ⟨h1, h2, h3⟩ := ih (IntKind.i64.wrap (left - a.qty)) (IntKind.i64.wrap (v + partV a.value a.qty a.qty)) (fun b hb => h b (List.mem_cons_of_mem _ hb)) (I64.wrap _)
        exact ⟨h1, Nat.le_succ_of_le h2, h3⟩
      · have ha := h a (List.mem_cons_self ..)
        refine ⟨?_, ?_, I64.wrap _⟩
        · simp only
          split
          · exact fun b hb => h b (List.mem_cons_of_mem _ hb)
          · intro b hb
            rcases List.mem_cons.mp hb with rfl | hb
            · exact ⟨ha.seq, I64.wrap _, I64.wrap _⟩
            · exact h b (List.mem_cons_of_mem _ hb)
        · simp only
          split <;> simp
theorem fifoDo_ok {n : Nat} {s : Fx} (h : s.Ok n) : (fifoDo s).1.Ok (n + 1) := by
  have up : s.Ok (n + 1) := ⟨h.t.up (Nat.le_succ _), h.m, h.c⟩
  have hm := h.m
  unfold fifoDo
  split
  · refine ⟨⟨h.t.qty, h.t.value, h.t.price, mem_add_ok h.t.layers ⟨hm.seq, hm.qty, hm.cost⟩, mem_add_ok h.t.past ⟨hm.seq, hm.kind, hm.qty, hm.cost, I64.zero, I64.zero⟩, ?_, ?_⟩, hm, ⟨h.c.seq, hm.qty, hm.cost, h.c.var⟩⟩
    · have := h.t.nl; simp [receiveV]; omega
    · have := h.t.np; simp [receiveV]; omega
  split
  · split
    · exact up
    · obtain ⟨h1, h2, h3⟩ := issueL_ok s.t.layers s.m.qty 0 h.t.layers I64.zero
      refine ⟨⟨h.t.qty, h.t.value, h.t.price, h1, mem_add_ok h.t.past ⟨hm.seq, hm.kind, hm.qty, h3, I64.zero, I64.zero⟩, ?_, ?_⟩, hm, ⟨h.c.seq, I64.wrap _, I64.wrap _, h.c.var⟩⟩
      · have := h.t.nl; simp [issueV]; omega
      · have := h.t.np; simp [issueV]; omega
  split
  · unfold backV
    cases (refV 2 s).1 with
    | none => exact up
    | some i =>
      simp only
      cases hp : s.t.past[i]? with
      | none => exact up
      | some p =>
        have pk := get_ok h.t.past hp
        refine ⟨⟨h.t.qty, h.t.value, h.t.price, mem_add_ok h.t.layers ⟨hm.seq, hm.qty, partV_I64 (I64.wrap _)⟩, mem_set_ok h.t.past ⟨pk.seq, pk.kind, pk.qty, pk.value, I64.wrap _, I64.wrap _⟩, ?_, ?_⟩, hm, ⟨h.c.seq, hm.qty, partV_I64 (I64.wrap _), h.c.var⟩⟩
        · have := h.t.nl; simp; omega
        · have := h.t.np; simp; omega
  split
  · unfold sendV
    cases (refV 1 s).1 with
    | none => exact up
    | some i =>
      simp only
      cases hp : s.t.past[i]? with
      | none => exact up
      | some p =>
        have pk := get_ok h.t.past hp
        simp only
        cases idxF (fun a : Ly => decide (a.seq = s.m.ref)) s.t.layers with
        | none => exact up
        | some j =>
          simp only
          cases hl : s.t.layers[j]? with
          | none => exact up
          | some a =>
            simp only
            split
            · exact up
            · obtain ⟨h1, h2, h3⟩ := take_ok (i := j) (q := s.m.qty) h.t.layers
              refine ⟨⟨h.t.qty, h.t.value, h.t.price, h1, mem_set_ok h.t.past ⟨pk.seq, pk.kind, pk.qty, pk.value, I64.wrap _, pk.usedV⟩, ?_, ?_⟩, hm, ⟨h.c.seq, I64.wrap _, I64.wrap _, I64.wrap _⟩⟩
              · have := h.t.nl; simp; omega
              · have := h.t.np; simp; omega
  split
  · unfold landV
    cases (refV 1 s).1 with
    | none => exact up
    | some i =>
      simp only
      cases hp : s.t.past[i]? with
      | none => exact up
      | some p =>
        simp only
        cases idxF (fun a : Ly => decide (a.seq = s.m.ref)) s.t.layers with
        | none => exact ⟨up.t, hm, ⟨h.c.seq, h.c.qty, h.c.value, I64.wrap _⟩⟩
        | some j =>
          simp only
          cases hl : s.t.layers[j]? with
          | none => exact up
          | some a =>
            have ha := get_ok h.t.layers hl
            simp only
            split
            · exact up
            · refine ⟨⟨h.t.qty, h.t.value, h.t.price, mem_set_ok h.t.layers ⟨ha.seq, ha.qty, I64.wrap _⟩, h.t.past, ?_, ?_⟩, hm, ⟨h.c.seq, h.c.qty, ?_, I64.wrap _⟩⟩
              · have := h.t.nl; simp; omega
              · have := h.t.np; simp; omega
              · unfold landShare
                split
                · exact hm.cost
                · exact mdV_I64
  exact up
theorem fifoDo_keep (s : Fx) : (fifoDo s).1.t.qty = s.t.qty ∧ (fifoDo s).1.t.value = s.t.value ∧ (fifoDo s).1.t.price = s.t.price ∧ (fifoDo s).1.c.seq = s.c.seq := by
  unfold fifoDo
  split
  · exact ⟨rfl, rfl, rfl, rfl⟩
  split
  · split <;> exact ⟨rfl, rfl, rfl, rfl⟩
  split
  · unfold backV
    split
    · exact ⟨rfl, rfl, rfl, rfl⟩
    · split <;> exact ⟨rfl, rfl, rfl, rfl⟩
  split
  · unfold sendV
    split
    · exact ⟨rfl, rfl, rfl, rfl⟩
    split
    · exact ⟨rfl, rfl, rfl, rfl⟩
    split
    · exact ⟨rfl, rfl, rfl, rfl⟩
    split
    · exact ⟨rfl, rfl, rfl, rfl⟩
    split <;> exact ⟨rfl, rfl, rfl, rfl⟩
  split
  · unfold landV
    split
    · exact ⟨rfl, rfl, rfl, rfl⟩
    split
    · exact ⟨rfl, rfl, rfl, rfl⟩
    split
    · exact ⟨rfl, rfl, rfl, rfl⟩
    split
    · exact ⟨rfl, rfl, rfl, rfl⟩
    simp only
    split <;> exact ⟨rfl, rfl, rfl, rfl⟩
  exact ⟨rfl, rfl, rfl, rfl⟩
/-- What every step keeps. -/
structure StepP (F : St → Mv → St × Co × Int) : Prop where
  ok : ∀ {n s m}, s.Ok n → m.Ok → (F s m).1.Ok (n + 1) ∧ (F s m).2.1.Ok
  sum : ∀ {s m}, (F s m).2.2 = 0 → (F s m).1.qty = IntKind.i64.wrap (s.qty + (F s m).2.1.qty) ∧ (F s m).1.value = IntKind.i64.wrap (s.value + (F s m).2.1.value) ∧ (F s m).2.1.seq = m.seq
  bad : ∀ {s m}, (F s m).2.2 ≠ 0 → (F s m).1 = St.zero ∧ (F s m).2.1 = Co.zero
theorem fifo_p : StepP fifoV := by
  constructor
  · intro n s m hs hm
    unfold fifoV
    split
    · exact ⟨St.zero_ok _, Co.zero_ok⟩
    split
    · exact ⟨St.zero_ok _, Co.zero_ok⟩
    simp only
    split
    · exact ⟨St.zero_ok _, Co.zero_ok⟩
    split
    · exact ⟨St.zero_ok _, Co.zero_ok⟩
    have h := fifoDo_ok (s := ⟨s, m, ⟨m.seq, 0, 0, 0⟩⟩) ⟨hs, hm, ⟨hm.seq, I64.zero, I64.zero, I64.zero⟩⟩
    exact ⟨⟨I64.wrap _, I64.wrap _, h.t.price, h.t.layers, h.t.past, h.t.nl, h.t.np⟩, h.c⟩
  · intro s m
    have hk := fifoDo_keep ⟨s, m, ⟨m.seq, 0, 0, 0⟩⟩
    unfold fifoV
    split
    · intro h; contradiction
    split
    · intro h; cases h
    simp only
    split
    · intro h; contradiction
    split
    · intro h; cases h
    intro _
    refine ⟨?_, ?_, ?_⟩
    · show IntKind.i64.wrap (_ + _) = _; rw [hk.1]; rfl
    · show IntKind.i64.wrap (_ + _) = _; rw [hk.2.1]; rfl
    · exact hk.2.2.2
  · intro s m
    unfold fifoV
    split
    · intro _; exact ⟨rfl, rfl⟩
    split
    · intro _; exact ⟨rfl, rfl⟩
    simp only
    split
    · intro _; exact ⟨rfl, rfl⟩
    split
    · intro _; exact ⟨rfl, rfl⟩
    intro h; exact absurd rfl h
end Go.X
end
section
set_option linter.unusedVariables false
set_option linter.unusedSimpArgs false
namespace Go.X
open Go.Proofs Go.RowKit
/-- What an operation keeps: ranges; the stock's own numbers. -/
structure DoP (F : St → Mv → St × Co × Int) : Prop where
  ok : ∀ {n s m}, s.Ok n → m.Ok → (F s m).1.Ok (n + 1) ∧ (F s m).2.1.Ok
  keep : ∀ {s m}, (F s m).1.qty = s.qty ∧ (F s m).1.value = s.value
theorem DoP.of {s : St} {m : Mv} (e : Int) : ∀ {n}, s.Ok n → m.Ok → (s, Co.zero, e).1.Ok (n + 1) ∧ (s, Co.zero, e).2.1.Ok := fun hs _ => ⟨hs.up (Nat.le_succ _), Co.zero_ok⟩
theorem avgDo_p : DoP avgDo := by
  constructor
  · intro n s m hs hm
    have up : s.Ok (n + 1) := hs.up (Nat.le_succ _)
    unfold avgDo
    split
    · exact ⟨hs.addP (mkPa_ok hm hm.cost), ⟨hm.seq, hm.qty, hm.cost, I64.zero⟩⟩
    split
    · unfold avgIssue
      split
      · exact ⟨up, Co.zero_ok⟩
      · exact ⟨hs.addP (mkPa_ok hm (partV_I64 hs.value)), ⟨hm.seq, I64.wrap _, I64.wrap _, I64.zero⟩⟩
    split
    · unfold avgBack
      split
      · exact ⟨up, Co.zero_ok⟩
      · split
        · exact ⟨up, Co.zero_ok⟩
        · rename_i p hp
          have pk := get_ok hs.past hp
          exact ⟨up.setsP ⟨pk.seq, pk.kind, pk.qty, pk.value, I64.wrap _, I64.wrap _⟩, ⟨hm.seq, hm.qty, partV_I64 (I64.wrap _), I64.zero⟩⟩
    split
    · unfold avgSend
      split
      · exact ⟨up, Co.zero_ok⟩
      · split
        · exact ⟨up, Co.zero_ok⟩
        · rename_i p hp
          have pk := get_ok hs.past hp
          split
          · exact ⟨up, Co.zero_ok⟩
          · exact ⟨up.setsP ⟨pk.seq, pk.kind, pk.qty, pk.value, I64.wrap _, pk.usedV⟩, ⟨hm.seq, I64.wrap _, I64.wrap _, I64.wrap _⟩⟩
    split
    · unfold avgLand
      split
      · exact ⟨up, Co.zero_ok⟩
      · split
        · exact ⟨up, Co.zero_ok⟩
        · exact ⟨up, ⟨hm.seq, I64.zero, partV_I64 hm.cost, I64.wrap _⟩⟩
    exact ⟨up, Co.zero_ok⟩
  · intro s m
    unfold avgDo
    split
    · exact ⟨rfl, rfl⟩
    split
    · unfold avgIssue; split <;> exact ⟨rfl, rfl⟩
    split
    · unfold avgBack
      split
      · exact ⟨rfl, rfl⟩
      · split <;> exact ⟨rfl, rfl⟩
    split
    · unfold avgSend
      split
      · exact ⟨rfl, rfl⟩
      · split
        · exact ⟨rfl, rfl⟩
        · split <;> exact ⟨rfl, rfl⟩
    split
    · unfold avgLand
      split
      · exact ⟨rfl, rfl⟩
      · split <;> exact ⟨rfl, rfl⟩
    exact ⟨rfl, rfl⟩
theorem avgDo_seq {s : St} {m : Mv} (h : (avgDo s m).2.2 = 0) : (avgDo s m).2.1.seq = m.seq := by
  revert h
  unfold avgDo
  split
  · intro _; rfl
  split
  · unfold avgIssue
    split
    · intro h; cases h
    · intro _; rfl
  split
  · unfold avgBack
    split
    · rename_i hr; intro h; exact absurd h (refS_none hr)
    · split
      · intro h; cases h
      · intro _; rfl
  split
  · unfold avgSend
    split
    · rename_i hr; intro h; exact absurd h (refS_none hr)
    · split
      · intro h; cases h
      · split
        · intro h; cases h
        · intro _; rfl
  split
  · unfold avgLand
    split
    · rename_i hr; intro h; exact absurd h (refS_none hr)
    · split
      · intro h; cases h
      · intro _; rfl
  intro h; cases h
theorem avg_p : StepP avgV := by
  constructor
  · intro n s m hs hm
    unfold avgV
    split
    · exact ⟨St.zero_ok _, Co.zero_ok⟩
    split
    · exact ⟨St.zero_ok _, Co.zero_ok⟩
    simp only
    split
    · exact ⟨St.zero_ok _, Co.zero_ok⟩
    split
    · exact ⟨St.zero_ok _, Co.zero_ok⟩
    have h := avgDo_p.ok hs hm
    exact ⟨h.1.add _, h.2⟩
  · intro s m
    have hk := avgDo_p.keep (s := s) (m := m)
    unfold avgV
    split
    · intro h; contradiction
    split
    · intro h; cases h
    simp only
    split
    · intro h; contradiction
    rename_i h0
    split
    · intro h; cases h
    intro _
    refine ⟨?_, ?_, avgDo_seq (by simpa using h0)⟩
    · simp only [St.add]; rw [hk.1]
    · simp only [St.add]; rw [hk.2]
  · intro s m
    unfold avgV
    split
    · intro _; exact ⟨rfl, rfl⟩
    split
    · intro _; exact ⟨rfl, rfl⟩
    simp only
    split
    · intro _; exact ⟨rfl, rfl⟩
    split
    · intro _; exact ⟨rfl, rfl⟩
    intro h; exact absurd rfl h
theorem fitV_ok (n : Int) : I64 (fitV n).1 ∧ ((fitV n).2 = true → (fitV n).1 = n ∧ I64 n) := by
  unfold fitV
  split
  · rename_i h; exact ⟨h, fun _ => ⟨rfl, h⟩⟩
  · exact ⟨I64.zero, fun h => by cases h⟩
theorem stdDo_p : ∀ {n s m}, s.Ok n → m.Ok → (stdDo s m).1.Ok (n + 1) ∧ (stdDo s m).2.1.Ok := by
  intro n s m hs hm
  have up : s.Ok (n + 1) := hs.up (Nat.le_succ _)
  have hf : ¬ (fitV (m.qty * s.price)).2 = false → I64 (m.qty * s.price) := fun h => ((fitV_ok _).2 (by simpa using h)).2
  unfold stdDo
  split
  · unfold stdReceipt
    split
    · exact ⟨up, Co.zero_ok⟩
    · rename_i h
      exact ⟨hs.addP (mkPa_ok hm hm.cost), ⟨I64.zero, hm.qty, hf h, I64.wrap _⟩⟩
  split
  · unfold stdIssue
    split
    · exact ⟨up, Co.zero_ok⟩
    split
    · exact ⟨up, Co.zero_ok⟩
    · rename_i h
      exact ⟨hs.addP (mkPa_ok hm (hf h)), ⟨I64.zero, I64.wrap _, I64.wrap _, I64.zero⟩⟩
  split
  · unfold stdCustomer
    split
    · exact ⟨up, Co.zero_ok⟩
    · split
      · exact ⟨up, Co.zero_ok⟩
      · rename_i p hp
        have pk := get_ok hs.past hp
        split
        · exact ⟨up, Co.zero_ok⟩
        · rename_i h
          exact ⟨up.setsP ⟨pk.seq, pk.kind, pk.qty, pk.value, I64.wrap _, I64.wrap _⟩, ⟨I64.zero, hm.qty, hf h, I64.wrap _⟩⟩
  split
  · unfold stdSupplier
    split
    · exact ⟨up, Co.zero_ok⟩
    · split
      · exact ⟨up, Co.zero_ok⟩
      · rename_i p hp
        have pk := get_ok hs.past hp
        split
        · exact ⟨up, Co.zero_ok⟩
        split
        · exact ⟨up, Co.zero_ok⟩
        · exact ⟨up.setsP ⟨pk.seq, pk.kind, pk.qty, pk.value, I64.wrap _, pk.usedV⟩, ⟨I64.zero, I64.wrap _, I64.wrap _, I64.wrap _⟩⟩
  split
  · unfold stdLanded
    split
    · exact ⟨up, Co.zero_ok⟩
    · exact ⟨up, ⟨I64.zero, I64.zero, I64.zero, hm.cost⟩⟩
  · unfold stdReprice
    simp only
    split
    · exact ⟨up, Co.zero_ok⟩
    · exact ⟨⟨up.qty, up.value, hm.cost, up.layers, up.past, up.nl, up.np⟩, ⟨I64.zero, I64.zero, (fitV_ok _).1, I64.wrap _⟩⟩
theorem std_p : StepP stdV := by
  constructor
  · intro n s m hs hm
    unfold stdV
    split
    · exact ⟨St.zero_ok _, Co.zero_ok⟩
    split
    · exact ⟨St.zero_ok _, Co.zero_ok⟩
    simp only
    split
    · exact ⟨St.zero_ok _, Co.zero_ok⟩
    split
    · exact ⟨St.zero_ok _, Co.zero_ok⟩
    have h := stdDo_p hs hm
    exact ⟨⟨I64.wrap _, (fitV_ok _).1, h.1.price, h.1.layers, h.1.past, h.1.nl, h.1.np⟩, ⟨hm.seq, h.2.qty, h.2.value, h.2.var⟩⟩
  · intro s m
    unfold stdV
    split
    · intro h; contradiction
    split
    · intro h; cases h
    simp only
    split
    · intro h; contradiction
    split
    · intro h; cases h
    rename_i h
    intro _
    refine ⟨rfl, ?_, rfl⟩
    have h2 : (fitV (s.value + (stdDo s m).2.1.value)).2 = true := by
      cases hb : (fitV (s.value + (stdDo s m).2.1.value)).2 with
      | true => rfl
      | false => exact absurd (Or.inl hb) h
    have h3 := (fitV_ok _).2 h2
    show (fitV _).1 = _
    rw [h3.1, I64.same h3.2]
  · intro s m
    unfold stdV
    split
    · intro _; exact ⟨rfl, rfl⟩
    split
    · intro _; exact ⟨rfl, rfl⟩
    simp only
    split
    · intro _; exact ⟨rfl, rfl⟩
    split
    · intro _; exact ⟨rfl, rfl⟩
    intro h; exact absurd rfl h
theorem lotAt_le (lot : ByteArray) : ∀ l : List Ly, (lotAt lot l).1 ≤ l.length ∧ ((lotAt lot l).2 = true → (lotAt lot l).1 < l.length) := by
  intro l
  induction l with
  | nil => exact ⟨Nat.le_refl _, fun h => by cases h⟩
  | cons a r ih =>
    unfold lotAt
    split
    · exact ⟨by simp, fun _ => by simp⟩
    · split
      · exact ⟨by simp, fun h => by cases h⟩
      · exact ⟨by simp; exact ih.1, fun h => by simpa using ih.2 h⟩
theorem lotAdd_ok {lot : ByteArray} {q v : Int} {l : List Ly} (h : ∀ a ∈ l, a.Ok) : (∀ a ∈ lotAdd lot q v l, a.Ok) ∧ (lotAdd lot q v l).length ≤ l.length + 1 := by
  unfold lotAdd
  have hk : (∀ a ∈ (if (lotAt lot l).2 then l else l.take (lotAt lot l).1 ++ ⟨0, lot, 0, 0⟩ :: l.drop (lotAt lot l).1), a.Ok) ∧ (if (lotAt lot l).2 then l else l.take (lotAt lot l).1 ++ ⟨0, lot, 0, 0⟩ :: l.drop (lotAt lot l).1).length ≤ l.length + 1 := by
    split
    · exact ⟨h, by omega⟩
    · refine ⟨fun a ha => ?_, ?_⟩
      · rcases List.mem_append.mp ha with ha | ha
        · exact h a (List.mem_of_mem_take ha)
        · rcases List.mem_cons.mp ha with rfl | ha
          · exact ⟨I64.zero, I64.zero, I64.zero⟩
          · exact h a (List.mem_of_mem_drop ha)
      · have := (lotAt_le lot l).1
        simp; omega
  simp only
  generalize (if (lotAt lot l).2 then l else l.take (lotAt lot l).1 ++ ⟨0, lot, 0, 0⟩ :: l.drop (lotAt lot l).1) = k at *
  cases hi : k[(lotAt lot l).1]? with
  | none => exact hk
  | some a => exact ⟨mem_set_ok hk.1 ⟨(get_ok hk.1 hi).seq, I64.wrap _, I64.wrap _⟩, by simpa using hk.2⟩
theorem lotDo_p : DoP lotDo := by
  constructor
  · intro n s m hs hm
    have up : s.Ok (n + 1) := hs.up (Nat.le_succ _)
    have nl := hs.nl
    have np := hs.np
    unfold lotDo
    split
    · unfold lotReceive
      split
      · exact ⟨up, Co.zero_ok⟩
      · obtain ⟨h1, h2⟩ := lotAdd_ok (lot := m.lot) (q := m.qty) (v := m.cost) hs.layers
        exact ⟨⟨hs.qty, hs.value, hs.price, h1, mem_add_ok hs.past (mkPa_ok hm hm.cost), by simp; omega, by simp; omega⟩, ⟨I64.zero, hm.qty, hm.cost, I64.zero⟩⟩
    split
    · unfold lotIssue
      split
      · exact ⟨up, Co.zero_ok⟩
      split
      · exact ⟨up, Co.zero_ok⟩
      · obtain ⟨h1, h2, h3⟩ := take_ok (i := (lotAt m.lot s.layers).1) (q := m.qty) hs.layers
        exact ⟨⟨hs.qty, hs.value, hs.price, h1, mem_add_ok hs.past (mkPa_ok hm h3), by simp; omega, by simp; omega⟩, ⟨I64.zero, I64.wrap _, I64.wrap _, I64.zero⟩⟩
    split
    · unfold lotBack
      split
      · exact ⟨up, Co.zero_ok⟩
      · split
        · exact ⟨up, Co.zero_ok⟩
        · rename_i p hp
          have pk := get_ok hs.past hp
          obtain ⟨h1, h2⟩ := lotAdd_ok (lot := p.lot) (q := m.qty) (v := partV (IntKind.i64.wrap (p.value - p.usedV)) m.qty (IntKind.i64.wrap (p.qty - p.used))) hs.layers
          exact ⟨⟨hs.qty, hs.value, hs.price, h1, mem_set_ok hs.past ⟨pk.seq, pk.kind, pk.qty, pk.value, I64.wrap _, I64.wrap _⟩, by simp; omega, by simp; omega⟩, ⟨I64.zero, hm.qty, partV_I64 (I64.wrap _), I64.zero⟩⟩
    split
    · unfold lotSend
      split
      · exact ⟨up, Co.zero_ok⟩
      · split
        · exact ⟨up, Co.zero_ok⟩
        · rename_i p hp
          have pk := get_ok hs.past hp
          split
          · exact ⟨up, Co.zero_ok⟩
          · obtain ⟨h1, h2, h3⟩ := take_ok (i := (lotAt p.lot s.layers).1) (q := m.qty) hs.layers
            exact ⟨⟨hs.qty, hs.value, hs.price, h1, mem_set_ok hs.past ⟨pk.seq, pk.kind, pk.qty, pk.value, I64.wrap _, pk.usedV⟩, by simp; omega, by simp; omega⟩, ⟨I64.zero, I64.wrap _, I64.wrap _, I64.wrap _⟩⟩
    split
    · unfold lotLand
      split
      · exact ⟨up, Co.zero_ok⟩
      · split
        · exact ⟨up, Co.zero_ok⟩
        · rename_i p hp
          simp only
          generalize (if lotQty p.lot s.layers < p.qty then lotQty p.lot s.layers else p.qty) = q
          split
          · exact ⟨up, ⟨I64.zero, I64.zero, I64.zero, hm.cost⟩⟩
          · obtain ⟨h1, h2⟩ := lotAdd_ok (lot := p.lot) (q := 0) (v := partV m.cost q p.qty) hs.layers
            exact ⟨⟨hs.qty, hs.value, hs.price, h1, hs.past, by simp; omega, by simp; omega⟩, ⟨I64.zero, I64.zero, partV_I64 hm.cost, I64.wrap _⟩⟩
    exact ⟨up, Co.zero_ok⟩
  · intro s m
    unfold lotDo
    split
    · unfold lotReceive; split <;> exact ⟨rfl, rfl⟩
    split
    · unfold lotIssue
      split
      · exact ⟨rfl, rfl⟩
      · split <;> exact ⟨rfl, rfl⟩
    split
    · unfold lotBack
      split
      · exact ⟨rfl, rfl⟩
      · split <;> exact ⟨rfl, rfl⟩
    split
    · unfold lotSend
      split
      · exact ⟨rfl, rfl⟩
      · split
        · exact ⟨rfl, rfl⟩
        · split <;> exact ⟨rfl, rfl⟩
    split
    · unfold lotLand
      split
      · exact ⟨rfl, rfl⟩
      · split
        · exact ⟨rfl, rfl⟩
        · rename_i p _
          simp only
          generalize (if lotQty p.lot s.layers < p.qty then lotQty p.lot s.layers else p.qty) = q
          split <;> exact ⟨rfl, rfl⟩
    exact ⟨rfl, rfl⟩
theorem lots_p : StepP lotsV := by
  constructor
  · intro n s m hs hm
    unfold lotsV
    split
    · exact ⟨St.zero_ok _, Co.zero_ok⟩
    split
    · exact ⟨St.zero_ok _, Co.zero_ok⟩
    simp only
    split
    · exact ⟨St.zero_ok _, Co.zero_ok⟩
    split
    · exact ⟨St.zero_ok _, Co.zero_ok⟩
    have h := lotDo_p.ok hs hm
    exact ⟨h.1.add _, ⟨hm.seq, h.2.qty, h.2.value, h.2.var⟩⟩
  · intro s m
    have hk := lotDo_p.keep (s := s) (m := m)
    unfold lotsV
    split
    · intro h; contradiction
    split
    · intro h; cases h
    simp only
    split
    · intro h; contradiction
    split
    · intro h; cases h
    intro _
    refine ⟨?_, ?_, rfl⟩
    · simp only [St.add]; rw [hk.1]
    · simp only [St.add]; rw [hk.2]
  · intro s m
    unfold lotsV
    split
    · intro _; exact ⟨rfl, rfl⟩
    split
    · intro _; exact ⟨rfl, rfl⟩
    simp only
    split
    · intro _; exact ⟨rfl, rfl⟩
    split
    · intro _; exact ⟨rfl, rfl⟩
    intro h; exact absurd rfl h
theorem none_p : StepP (fun _ _ => (St.zero, Co.zero, 10)) := ⟨fun _ _ => ⟨St.zero_ok _, Co.zero_ok⟩, (fun h => by cases h), fun _ => ⟨rfl, rfl⟩⟩
theorem step_p (method : Int) : StepP (stepV method) := by
  by_cases h1 : method = 1
  · subst h1; exact fifo_p
  by_cases h2 : method = 2
  · subst h2; exact avg_p
  by_cases h3 : method = 3
  · subst h3; exact std_p
  by_cases h4 : method = 4
  · subst h4; exact lots_p
  have e : stepV method = fun _ _ => (St.zero, Co.zero, 10) := by funext s m; unfold stepV; rw [if_neg h1, if_neg h2, if_neg h3, if_neg h4]
  rw [e]; exact none_p
/-! ### A run -/
/-- A run without an error: all costs, the last state. -/
def runOk (method : Int) : St → List Mv → Option (St × List Co)
  | s, [] => some (s, [])
  | s, m :: r => if (stepV method s m).2.2 ≠ 0 then none else (runOk method (stepV method s m).1 r).map fun x => (x.1, (stepV method s m).2.1 :: x.2)
theorem runFrom_ok {method : Int} : ∀ (ms : List Mv) (i : Nat) (s : St) (cs : List Co) (t : St) (d : List Co), runOk method s ms = some (t, d) → runFrom method i s cs ms = (t, cs ++ d, -1, 0) := by
  intro ms
  induction ms with
  | nil => intro i s cs t d h; simp [runOk] at h; simp [runFrom, h]
  | cons m r ih =>
    intro i s cs t d h
    unfold runOk at h
    split at h
    · cases h
    · rename_i h0
      obtain ⟨x, hx, he⟩ := Option.map_eq_some_iff.mp h
      obtain ⟨h1, h2⟩ := Prod.mk.inj he
      unfold runFrom
      rw [if_neg h0, ih (i + 1) _ _ x.1 x.2 hx, ← h1, ← h2]
      simp
theorem runFrom_bad {method : Int} : ∀ (ms : List Mv) (i : Nat) (s : St) (cs : List Co), runOk method s ms = none → ∃ (k : Nat) (e : Int), e ≠ 0 ∧ k < ms.length ∧ runFrom method i s cs ms = (St.zero, [], ((i + k : Nat) : Int), e) ∧ ∃ t d, runOk method s (ms.take k) = some (t, d) ∧ ∃ hk : k < ms.length, (stepV method t ms[k]).2.2 = e := by
  intro ms
  induction ms with
  | nil => intro i s cs h; simp [runOk] at h
  | cons m r ih =>
    intro i s cs h
    unfold runOk at h
    unfold runFrom
    split at h
    · rename_i h0
      rw [if_pos h0]
      exact ⟨0, _, h0, by simp, rfl, s, [], rfl, by simp, rfl⟩
    · rename_i h0
      rw [if_neg h0]
      have h1 : runOk method (stepV method s m).1 r = none := by simpa using h
      obtain ⟨k, e, he, hk, hr, t, d, ht, hk', hs⟩ := ih (i + 1) _ (cs ++ [(stepV method s m).2.1]) h1
      refine ⟨k + 1, e, he, by simp; omega, ?_, t, (stepV method s m).2.1 :: d, ?_, by simp; omega, by simpa using hs⟩
      · rw [hr, show i + 1 + k = i + (k + 1) by omega]
      · simp only [List.take_succ_cons, runOk, if_neg h0, ht]
        rfl
/-- The sum of a cost's number, as int64 has it. -/
def wsum (f : Co → Int) (a : Int) (l : List Co) : Int := l.foldl (fun x c => IntKind.i64.wrap (x + f c)) a
theorem runOk_sums {method : Int} : ∀ (ms : List Mv) (s t : St) (d : List Co), runOk method s ms = some (t, d) → t.qty = wsum Co.qty s.qty d ∧ t.value = wsum Co.value s.value d ∧ d.length = ms.length := by
  intro ms
  induction ms with
  | nil => intro s t d h; simp [runOk] at h; obtain ⟨rfl, rfl⟩ := h; exact ⟨rfl, rfl, rfl⟩
  | cons m r ih =>
    intro s t d h
    unfold runOk at h
    split at h
    · cases h
    · rename_i h0
      obtain ⟨x, hx, he⟩ := Option.map_eq_some_iff.mp h
      obtain ⟨h1, h2⟩ := Prod.mk.inj he
      obtain ⟨i1, i2, i3⟩ := ih _ _ _ hx
      have hs := (step_p method).sum (s := s) (m := m) (by simpa using h0)
      subst h1
      subst h2
      rw [hs.1] at i1
      rw [hs.2.1] at i2
      exact ⟨i1, i2, by simp [i3]⟩
theorem runOk_ok {method : Int} : ∀ (ms : List Mv) (n : Nat) (s t : St) (d : List Co), s.Ok n → (∀ m ∈ ms, m.Ok) → runOk method s ms = some (t, d) → t.Ok (n + ms.length) ∧ ∀ c ∈ d, c.Ok := by
  intro ms
  induction ms with
  | nil => intro n s t d hs _ h; simp [runOk] at h; obtain ⟨rfl, rfl⟩ := h; exact ⟨hs, by simp⟩
  | cons m r ih =>
    intro n s t d hs hm h
    unfold runOk at h
    split at h
    · cases h
    · obtain ⟨x, hx, he⟩ := Option.map_eq_some_iff.mp h
      obtain ⟨h1, h2⟩ := Prod.mk.inj he
      have hk := (step_p method).ok hs (hm m (List.mem_cons_self ..))
      obtain ⟨i1, i2⟩ := ih (n + 1) _ _ _ hk.1 (fun b hb => hm b (List.mem_cons_of_mem _ hb)) hx
      subst h1
      subst h2
      refine ⟨by have e : n + (m :: r).length = n + 1 + r.length := by simp; omega
                 rw [e]; exact i1, fun c hc => ?_⟩
      rcases List.mem_cons.mp hc with rfl | hc
      · exact hk.2
      · exact i2 c hc
end Go.X
end
section
set_option linter.unusedVariables false
set_option linter.unusedSimpArgs false
namespace Go.X
open Go.Proofs Go.RowKit
attribute [local irreducible] l_append l_copy l_make l_run q_slice q_eq q_index
variable {w w' : World} {B : Nat}
/-- What a step answers: a stock's value on rows of its own, a cost, an error. -/
def stepR (r : St × Co × Int) (lv pv : Value) : Value := .tuple #[StV r.1 lv pv, .agg #[.int .i64 r.2.1.seq, .int .i64 r.2.1.qty, .int .i64 r.2.1.value, .int .i64 r.2.1.var], .int .i64 r.2.2]
/-- A step's contract: it reads a stock, writes nothing that was there, and answers what the plain function says. -/
def StepOk (f : FuncId) (F : St → Mv → St × Co × Int) : Prop :=
  ∀ (w : World) (s : St) (m : Mv) (lv pv : Value) (K : Value → World → Prop), Tab w → m.Ok → s.Ok 900000 → Rd LyE w lv s.layers → Rd PaE w pv s.past →
    (∀ w' lv' pv', Own LyE 103 w' w.heap.size lv' (F s m).1.layers → Own PaE 105 w' w.heap.size pv' (F s m).1.past → Below w.heap.size w w' → K (stepR (F s m) lv' pv') w') →
    Ret Tryz.prog f [StV s lv pv, m.v] w K
/-- The operation that the step calls. -/
def doFn (k : Int) (x : Nat) : Value :=
  if k = 1 then .func (.func 64) #[ptr x] #[] else
  if k = 2 then .func (.func 65) #[ptr x] #[] else
  if k = 3 then .func (.func 66) #[ptr x] #[] else
  if k = 4 then .func (.func 67) #[ptr x] #[] else
  if k = 5 then .func (.func 68) #[ptr x] #[] else .func (.func 63) #[] #[]
theorem bod63 : bodied Tryz.prog 63 = true := by kernel_rfl
theorem bod64 : bodied Tryz.prog 64 = true := by kernel_rfl
theorem bod65 : bodied Tryz.prog 65 = true := by kernel_rfl
theorem bod66 : bodied Tryz.prog 66 = true := by kernel_rfl
theorem bod67 : bodied Tryz.prog 67 = true := by kernel_rfl
theorem bod68 : bodied Tryz.prog 68 = true := by kernel_rfl
theorem fifo_do {x : Nat} {s : Fx} {lv pv : Value} (h : FX w B x s lv pv) (hs : s.t.Ok 900000) (hm : s.m.Ok) {K : Value → World → Prop}
    (hK1 : (fifoDo s).2 ≠ 0 → ∀ w', Did FT B w w' → K (.int .i64 (fifoDo s).2) w')
    (hK2 : (fifoDo s).2 = 0 → ∀ w' lv' pv', FX w' B x (fifoDo s).1 lv' pv' → Did FT B w w' → K (.int .i64 0) w') : l_callv Tryz.prog (doFn s.m.kind x) [] w K := by
  have nl := hs.nl
  have np := hs.np
  have both : ∀ {w' lv' pv'} , FX w' B x (fifoDo s).1 lv' pv' → Did FT B w w' → K (.int .i64 (fifoDo s).2) w' := by
    intro w' lv' pv' h1 h2
    by_cases h0 : (fifoDo s).2 = 0
    · rw [h0]; exact hK2 h0 _ _ _ h1 h2
    · exact hK1 h0 _ h2
  unfold doFn
  by_cases h1 : s.m.kind = 1
  · rw [if_pos h1]
    have e : fifoDo s = (receiveV s, 0) := by unfold fifoDo; rw [if_pos h1]
    rw [e] at both
    exact ⟨bod64, fifo_receive (x := x) h (by omega) (by omega) (fun _ _ _ h1 h2 => both h1 h2)⟩
  rw [if_neg h1]
  by_cases h2 : s.m.kind = 2
  · rw [if_pos h2]
    refine ⟨bod65, fifo_issue (x := x) h (by omega) (by omega) hs.layers hm (fun hq w' hd => ?_) (fun hq w' lv' pv' hf hd => ?_)⟩
    · have e : fifoDo s = (s, 21) := by unfold fifoDo; rw [if_neg h1, if_pos h2, if_pos hq]
      rw [e] at hK1
      exact hK1 (by simp) _ hd
    · have e : fifoDo s = (issueV s, 0) := by unfold fifoDo; rw [if_neg h1, if_pos h2, if_neg hq]
      rw [e] at both
      exact both hf hd
  rw [if_neg h2]
  by_cases h3 : s.m.kind = 3
  · rw [if_pos h3]
    have e : fifoDo s = backV s := by unfold fifoDo; rw [if_neg h1, if_neg h2, if_pos h3]
    rw [e] at both
    exact ⟨bod66, fifo_back (x := x) h (by omega) hs.past hm (fun _ _ _ h1 h2 => both h1 h2)⟩
  rw [if_neg h3]
  by_cases h4 : s.m.kind = 4
  · rw [if_pos h4]
    have e : fifoDo s = sendV s := by unfold fifoDo; rw [if_neg h1, if_neg h2, if_neg h3, if_pos h4]
    rw [e] at both
    exact ⟨bod67, fifo_send (x := x) h (by omega) hs.layers hm (fun _ _ _ h1 h2 => both h1 h2)⟩
  rw [if_neg h4]
  by_cases h5 : s.m.kind = 5
  · rw [if_pos h5]
    have e : fifoDo s = landV s := by unfold fifoDo; rw [if_neg h1, if_neg h2, if_neg h3, if_neg h4, if_pos h5]
    rw [e] at both
    exact ⟨bod68, fifo_land (x := x) h hs.layers hs.past hm (fun _ _ _ h1 h2 => both h1 h2)⟩
  rw [if_neg h5]
  have e : fifoDo s = (s, 10) := by unfold fifoDo; rw [if_neg h1, if_neg h2, if_neg h3, if_neg h4, if_neg h5]
  rw [e] at both
  exact ⟨bod63, lift63 (both h (Did.refl _ _ _))⟩
theorem fifo_step : StepOk 32 fifoV := by
  intro w s m lv pv K ht hm hs hlv hpv hK
  refine lift32 ?_
  unfold L32 StV
  have a1 : ¬ w.heap.size = w.heap.size + 1 + 1 + 1 := by omega
  have a2 : ¬ w.heap.size = w.heap.size + 1 + 1 := by omega
  have a3 : ¬ w.heap.size + 1 = w.heap.size + 1 + 1 + 1 := by omega
  have a4 : ¬ w.heap.size + 1 = w.heap.size + 1 + 1 := by omega
  simp [l_new, a1, a2, a3, a4]
  obtain ⟨w4, hw4⟩ : ∃ w4, ((((w.alloc (Obj.cells #[Value.int IntKind.i64 s.qty, Value.int IntKind.i64 s.value, Value.int IntKind.i64 s.price, lv, pv] 28)).alloc
      (Obj.cells #[Value.int IntKind.i64 m.seq, Value.int IntKind.i64 m.value, Value.string m.item, Value.int IntKind.i64 m.kind, Value.int IntKind.i64 m.qty, Value.int IntKind.i64 m.cost, Value.string m.lot, Value.int IntKind.i64 m.ref] 47)).alloc
      (Obj.cells #[Value.int IntKind.i64 0, Value.int IntKind.i64 0, Value.int IntKind.i64 0, Value.slice none 0 0, Value.slice none 0 0] 28)).alloc
      (Obj.cells #[Value.int IntKind.i64 0, Value.int IntKind.i64 0, Value.int IntKind.i64 0, Value.int IntKind.i64 0] 43)).drew = w4 := ⟨_, rfl⟩
  have hb4 : Below w.heap.size w w4 := by
    rw [← hw4]
    exact (((((Below.refl _ _).alloc (Nat.le_refl _) _).alloc (by simp) _).alloc (by simp; omega) _).alloc (by simp; omega) _).drew
  have hkm : X.blk w4 (w.heap.size + 1) = some (.cells #[.int .i64 m.seq, .int .i64 m.value, .string m.item, .int .i64 m.kind, .int .i64 m.qty, .int .i64 m.cost, .string m.lot, .int .i64 m.ref] 47 (0, 0)) := by
    rw [← hw4]; simp [a3, a4]
  have hkt : X.blk w4 (w.heap.size + 1 + 1) = some (.cells #[.int .i64 0, .int .i64 0, .int .i64 0, .slice none 0 0, .slice none 0 0] 28 (0, 0)) := by
    rw [← hw4]; simp
  have hkc : X.blk w4 (w.heap.size + 1 + 1 + 1) = some (.cells #[.int .i64 0, .int .i64 0, .int .i64 0, .int .i64 0] 43 (0, 0)) := by
    rw [← hw4]; simp
  have hs4 : w4.heap.size = w.heap.size + 4 := by rw [← hw4]; show ((((w.alloc _).alloc _).alloc _).alloc _).heap.size = _; simp
  rw [hw4]
  clear hw4
  have zst : StV St.zero (.slice none 0 0) (.slice none 0 0) = .agg #[.int .i64 0, .int .i64 0, .int .i64 0, .slice none 0 0, .slice none 0 0] := rfl
  have bz5 : q_build #[.int .i64 0, .int .i64 0, .int .i64 0, .slice none 0 0, .slice none 0 0] [] = some (.agg #[.int .i64 0, .int .i64 0, .int .i64 0, .slice none 0 0, .slice none 0 0]) := rfl
  have bz4 : q_build #[.int .i64 0, .int .i64 0, .int .i64 0, .int .i64 0] [] = some (.agg #[.int .i64 0, .int .i64 0, .int .i64 0, .int .i64 0]) := rfl
  -- an error: both results are zero
  have hfail : ∀ (e : Int) (W : World), fifoV s m = (St.zero, Co.zero, e) → Below w.heap.size w W →
      X.blk W (w.heap.size + 1 + 1) = some (.cells #[.int .i64 0, .int .i64 0, .int .i64 0, .slice none 0 0, .slice none 0 0] 28 (0, 0)) →
      X.blk W (w.heap.size + 1 + 1 + 1) = some (.cells #[.int .i64 0, .int .i64 0, .int .i64 0, .int .i64 0] 43 (0, 0)) →
      (onSome (q_build #[.int .i64 0, .int .i64 0, .int .i64 0, .slice none 0 0, .slice none 0 0] []) fun t23 =>
        onSome (q_build #[.int .i64 0, .int .i64 0, .int .i64 0, .int .i64 0] []) fun t24 =>
        l_store 5 (Value.pointer (some { block := w.heap.size + 1 + 1, off := 0 })) t23 W fun x W8 =>
        l_store 4 (Value.pointer (some { block := w.heap.size + 1 + 1 + 1, off := 0 })) t24 W8 fun x W9 =>
        onSome (loadO 5 (X.blk W9 (w.heap.size + 1 + 1)) 0) fun t4_1 =>
        onSome (loadO 4 (X.blk W9 (w.heap.size + 1 + 1 + 1)) 0) fun c5_1 => K (Value.tuple #[t4_1, c5_1, .int .i64 e]) W9) := by
    intro e W he hb h2 h3
    rw [bz5, bz4]
    simp [h2, h3]
    rw [he] at hK
    exact hK _ (.slice none 0 0) (.slice none 0 0) (Own.nil _ _ _ _) (Own.nil _ _ _ _) (below_putL (below_putL hb (by omega) _ _) (by omega) _ _)
  rw [build_of (cs := #[.int .i64 m.seq, .int .i64 0, .int .i64 0, .int .i64 0]) (by simp), onSome_some]
  refine fifo_cloned (s := s) (hlv.below hb4) (hpv.below hb4) (by have := hs.nl; omega) (by have := hs.np; omega) (fun w5 lv5 pv5 hl5 hp5 hb5 => ?_)
  have hb05 := hb4.then hb5
  have hkm5 := (blk_below hb5 (lt_of_blk hkm)).trans hkm
  have hkt5 := (blk_below hb5 (lt_of_blk hkt)).trans hkt
  have hkc5 := (blk_below hb5 (lt_of_blk hkc)).trans hkc
  have a5 : ¬ w.heap.size + 1 = w5.heap.size := by have := hb5.size; omega
  simp [hkm5, a5]
  rw [build_of (cs := fxCells ⟨s, m, ⟨m.seq, 0, 0, 0⟩⟩ lv5 pv5) (by simp [StV, fxCells]), onSome_some]
  simp only [cells_agg]
  have hX6 : FX (w5.alloc (Obj.cells (fxCells ⟨s, m, ⟨m.seq, 0, 0, 0⟩⟩ lv5 pv5) 113)) w.heap.size w5.heap.size ⟨s, m, ⟨m.seq, 0, 0, 0⟩⟩ lv5 pv5 :=
    ⟨hb05.size, by rw [blk_alloc, if_pos rfl], (hl5.lower hb4.size).alloc _, (hp5.lower hb4.size).alloc _⟩
  have hb06 := hb05.alloc hb05.size (Obj.cells (fxCells ⟨s, m, ⟨m.seq, 0, 0, 0⟩⟩ lv5 pv5) 113)
  have hD6 := (Did.refl FT w.heap.size w5).alloc hb05.size (Obj.cells (fxCells ⟨s, m, ⟨m.seq, 0, 0, 0⟩⟩ lv5 pv5) 113)
  generalize w5.alloc (Obj.cells (fxCells ⟨s, m, ⟨m.seq, 0, 0, 0⟩⟩ lv5 pv5) 113) = w6 at *
  generalize w5.heap.size = x at *
  have ht6 := ht.below hb06
  have hkm6 := hD6.keeps.blk hkm5 (by decide)
  have hkt6 := hD6.keeps.blk hkt5 (by decide)
  have hkc6 := hD6.keeps.blk hkc5 (by decide)
  refine one_ok (m := m) ht6 hm _ (fun w7 hb7 => ?_)
  have hX7 := hX6.called hb7
  have hb07 := hb06.then hb7
  have hkm7 := (blk_below hb7 (lt_of_blk hkm6)).trans hkm6
  have hkt7 := (blk_below hb7 (lt_of_blk hkt6)).trans hkt6
  have hkc7 := (blk_below hb7 (lt_of_blk hkc6)).trans hkc6
  simp only [q_neq, onSome_some]
  refine xif_ndec (fun h1 => ?_) (fun h1 => ?_)
  · have hF : fifoV s m = (St.zero, Co.zero, oneV m) := by unfold fifoV; rw [if_pos h1]
    exact hfail _ w7 hF hb07 hkt7 hkc7
  simp only [hkm7, cellO_cells]
  simp
  refine fifo_past (x := x) hX7 ?_
  cases hf : findP 0 m.seq s.past with
  | some i =>
    obtain ⟨hi, _⟩ := idxF_lt hf
    obtain ⟨g, cap, hv, _⟩ := hX7.pa.paAt hi
    have hF : fifoV s m = (St.zero, Co.zero, 8) := by unfold fifoV; rw [if_neg (by simpa using h1), if_pos (by rw [hf]; rfl)]
    simp only [findR, elP, hv, (nil114 _).2, onSome_some, Option.isSome, xif_true]
    exact hfail _ w7 hF hb07 hkt7 hkc7
  | none =>
    simp only [findR, (nil114 _).2, onSome_some, Option.isSome, xif_false]
    obtain ⟨s0, hs0⟩ : ∃ s0 : Fx, s0 = ⟨s, m, ⟨m.seq, 0, 0, 0⟩⟩ := ⟨_, rfl⟩
    have hFV : fifoV s m = (if (fifoDo s0).2 ≠ 0 then (St.zero, Co.zero, (fifoDo s0).2) else
        if overV (fifoDo s0).1.sum then (St.zero, Co.zero, 4) else ((fifoDo s0).1.sum.t, (fifoDo s0).1.sum.c, 0)) := by
      rw [hs0]
      unfold fifoV
      rw [if_neg (by simpa using h1), if_neg (by rw [hf]; simp)]
    rw [← hs0] at hX7
    have hs0m : s0.m = m := by rw [hs0]
    have hs0t : s0.t = s := by rw [hs0]
    refine joining_i (fun v W => v = doFn m.kind x ∧ W = w7) ⟨?_, ?_⟩
    · simp only [hkm7, cellO_cells]
      unfold doFn
      by_cases k1 : m.kind = 1
      · simp [k1]; rfl
      by_cases k2 : m.kind = 2
      · simp [k2]; rfl
      by_cases k3 : m.kind = 3
      · simp [k3]; rfl
      by_cases k4 : m.kind = 4
      · simp [k4]; rfl
      by_cases k5 : m.kind = 5
      · simp [k5]; rfl
      · simp [k1, k2, k3, k4, k5]
    · rintro v W ⟨rfl, rfl⟩
      rw [← hs0m]
      refine fifo_do (x := x) hX7 (by rw [hs0t]; exact hs) (by rw [hs0m]; exact hm) (fun he w8 hd8 => ?_) (fun he w8 lv8 pv8 hX8 hd8 => ?_)
      · simp only [q_neq, onSome_some]
        refine xif_ndec (fun _ => ?_) (fun h => absurd h he)
        have hF : fifoV s m = (St.zero, Co.zero, (fifoDo s0).2) := by rw [hFV, if_pos he]
        exact hfail _ w8 hF (hb07.trans hd8.below) (hd8.keeps.blk hkt7 (by decide)) (hd8.keeps.blk hkc7 (by decide))
      · rw [if_neg (by simpa using he)] at hFV
        have hb8 := hX8.blk
        unfold fxCells at hb8
        have hb08 := hb07.trans hd8.below
        have hkt8 := hd8.keeps.blk hkt7 (by decide)
        have hkc8 := hd8.keeps.blk hkc7 (by decide)
        simp [hb8]
        obtain ⟨r, hr⟩ : ∃ r, r = (fifoDo s0).1 := ⟨_, rfl⟩
        rw [← hr] at hX8 hFV ⊢
        clear hb8
        have h9 := hX8.drew.put (s' := ⟨⟨IntKind.i64.wrap (r.t.qty + r.c.qty), r.t.value, r.t.price, r.t.layers, r.t.past⟩, r.m, r.c⟩) (o := 0) (vs := [.int .i64 (IntKind.i64.wrap (r.t.qty + r.c.qty))]) (by simp [fxCells]) rfl rfl
        have h10 := h9.1.drew.put (s' := r.sum) (o := 1) (vs := [.int .i64 (IntKind.i64.wrap (r.t.value + r.c.value))]) (by simp [fxCells, Fx.sum]) rfl rfl
        have hd10 := ((hd8.drew.trans h9.2).drew).trans h10.2
        generalize X.putL (X.putL w8.drew x 0 [.int .i64 (IntKind.i64.wrap (r.t.qty + r.c.qty))]).drew x 1 [.int .i64 (IntKind.i64.wrap (r.t.value + r.c.value))] = w10 at *
        refine fifo_over (x := x) h10.1 _ (fun w11 hb11 => ?_)
        have hX11 := h10.1.called hb11
        have hd11 := hd10.called hb11 h10.1.size
        have hb011 := hb07.trans hd11.below
        have hkt11 := hd11.keeps.blk hkt7 (by decide)
        have hkc11 := hd11.keeps.blk hkc7 (by decide)
        refine xif_bool (fun ho => ?_) (fun ho => ?_)
        · rw [if_pos ho] at hFV
          exact hfail _ w11 hFV hb011 hkt11 hkc11
        · rw [if_neg (by rw [ho]; exact Bool.false_ne_true)] at hFV
          have hb12 := hX11.blk
          unfold fxCells at hb12
          have ca := own_cells hX11.ly
          have cb := own_cells hX11.pa
          have n1 := ne_of_type hkt11 hX11.blk (by decide)
          have n2 := ne_of_type hkt11 hkc11 (by decide)
          have n3 := ne_of_type hkc11 hX11.blk (by decide)
          rw [hFV] at hK
          have hL := hX11.ly
          have hP := hX11.pa
          simp [hb12, hkt11, hkc11, ca.1, ca.2, cb.1, cb.2, n1, n2, n3, n2.symm]
          have p1 := hL.drew.putL (o := 0) (vs := [.int .i64 r.sum.t.qty, .int .i64 r.sum.t.value, .int .i64 r.sum.t.price, lv8, pv8]) (w := w11.drew) hkt11 (by decide)
          have q1 := hP.drew.putL (o := 0) (vs := [.int .i64 r.sum.t.qty, .int .i64 r.sum.t.value, .int .i64 r.sum.t.price, lv8, pv8]) (w := w11.drew) hkt11 (by decide)
          have hkc12 : X.blk (X.putL w11.drew (w.heap.size + 1 + 1) 0 [.int .i64 r.sum.t.qty, .int .i64 r.sum.t.value, .int .i64 r.sum.t.price, lv8, pv8]) (w.heap.size + 1 + 1 + 1) = some (.cells #[.int .i64 0, .int .i64 0, .int .i64 0, .int .i64 0] 43 (0, 0)) := by
            rw [blk_putL, if_neg n2]
            exact hkc11
          have p2 := p1.putL (o := 0) (vs := [.int .i64 r.sum.c.seq, .int .i64 r.sum.c.qty, .int .i64 r.sum.c.value, .int .i64 r.sum.c.var]) hkc12 (by decide)
          have q2 := q1.putL (o := 0) (vs := [.int .i64 r.sum.c.seq, .int .i64 r.sum.c.qty, .int .i64 r.sum.c.value, .int .i64 r.sum.c.var]) hkc12 (by decide)
          exact hK _ lv8 pv8 p2 q2 (below_putL (below_putL hb011.drew (by omega) _ _) (by omega) _ _)
end Go.X
end
