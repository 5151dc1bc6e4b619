/- Rules by which the words are carried out; rows of memory. -/
import Derived.Test.YtbglbbmlohfemaaGreatDoorXh
import Derived.Test.YtbglbbmlohfemaaGreatDoorProg
import Derived.KernelRfl
import Derived.Below
import Derived.Laws.MakeOwn
import Derived.Laws.OwnMore
import Derived.Maps.AppendAt
import Derived.Laws.CopyOwn
import Derived.Laws.CopyRow
section
namespace Go.X
open Go.Proofs
theorem mixed : Tryz.prog.follows .mixedOrders = true := by kernel_rfl
end Go.X
end
section
set_option linter.unusedVariables false
set_option linter.unusedSimpArgs false
namespace Go.X
open Go.RowKit
variable {P : Program}

/-! ### 'simp' doesn't look into what comes after -/
@[congr] theorem onSome_congr {α : Type} {o o' : Option α} {K : α → Prop} (h : o = o') : onSome o K = onSome o' K := by rw [h]
@[congr] theorem xif_congr {v v' : Value} {A B : Prop} (h : v = v') : xif v A B = xif v' A B := by rw [h]
@[congr] theorem l_new_congr {t : TypeId} {c c' : Array Value} {w w' : World} {K : Value → World → Prop} (h : c = c') (h2 : w = w') : l_new t c w K = l_new t c' w' K := by rw [h, h2]
@[congr] theorem l_store_congr {n : Nat} {a a' v v' : Value} {w w' : World} {K : Value → World → Prop} (h : a = a') (h2 : v = v') (h3 : w = w') : l_store n a v w K = l_store n a' v' w' K := by rw [h, h2, h3]
@[congr] theorem l_lit_congr {t : TypeId} {n : Nat} {z : Array Value} {ps ps' : List (Nat × Nat × Value)} {w w' : World} {K : Value → World → Prop} (h : ps = ps') (h2 : w = w') : l_lit t n z ps w K = l_lit t n z ps' w' K := by rw [h, h2]
@[congr] theorem Ret_congr {f : FuncId} {xs xs' : List Value} {w w' : World} {K : Value → World → Prop} (h : xs = xs') (h2 : w = w') : Ret P f xs w K = Ret P f xs' w' K := by rw [h, h2]
@[congr] theorem l_callv_congr {v v' : Value} {xs xs' : List Value} {w w' : World} {K : Value → World → Prop} (h0 : v = v') (h : xs = xs') (h2 : w = w') : l_callv P v xs w K = l_callv P v' xs' w' K := by rw [h0, h, h2]
@[congr] theorem l_append_congr {ts : Array TypeId} {ty : TypeId} {s s' x x' : Value} {w w' : World} {K : Value → World → Prop} (h : s = s') (h2 : x = x') (h3 : w = w') : l_append P ts ty s x w K = l_append P ts ty s' x' w' K := by rw [h, h2, h3]
@[congr] theorem l_copy_congr {ts : Array TypeId} {ty : TypeId} {s s' x x' : Value} {w w' : World} {K : Value → World → Prop} (h : s = s') (h2 : x = x') (h3 : w = w') : l_copy P ts ty s x w K = l_copy P ts ty s' x' w' K := by rw [h, h2, h3]
@[congr] theorem l_make_congr {t : TypeId} {l l' c c' : Value} {w w' : World} {K : Value → World → Prop} (h : l = l') (h2 : c = c') (h3 : w = w') : l_make P t l c w K = l_make P t l' c' w' K := by rw [h, h2, h3]
@[congr] theorem gateL_congr {b : Bool} {g g' : Value} {L : (Value → World → Prop) → Prop} {w : World} {K : Value → World → Prop} (h : g = g') : gateL b g L w K = gateL b g' L w K := by rw [h]
@[congr] theorem ob_congr {A A' B : Prop} (h : A = A') : ob A B = ob A' B := by rw [h]

/-! ### Control -/
@[simp] theorem onSome_some {α : Type} {v : α} {K : α → Prop} : onSome (some v) K = K v := propext Iff.rfl
@[simp] theorem onSome_none {α : Type} {K : α → Prop} : onSome none K = False := rfl
@[simp] theorem xif_true {A B : Prop} : xif (.bool true) A B = A := propext Iff.rfl
@[simp] theorem xif_false {A B : Prop} : xif (.bool false) A B = B := propext Iff.rfl
@[simp] theorem ob_true {B : Prop} : ob True B = B := by simp [ob]
theorem xif_dec {c : Prop} [Decidable c] {A B : Prop} (h1 : c → A) (h2 : ¬ c → B) : xif (.bool (decide c)) A B := by
  by_cases h : c
  · rw [decide_eq_true h]; exact h1 h
  · rw [decide_eq_false h]; exact h2 h
theorem xif_ndec {c : Prop} [Decidable c] {A B : Prop} (h1 : ¬ c → A) (h2 : c → B) : xif (.bool (!decide c)) A B := by
  by_cases h : c
  · rw [decide_eq_true h]; exact h2 h
  · rw [decide_eq_false h]; exact h1 h
theorem xif_bool {b : Bool} {A B : Prop} (h1 : b = true → A) (h2 : b = false → B) : xif (.bool b) A B := by
  cases b
  · exact h2 rfl
  · exact h1 rfl

/-! ### Values -/
@[simp] theorem q_nil_ptr {a : Addr} : q_nil (.pointer (some a)) = some (.pointer (some a)) := rfl
@[simp] theorem q_nil_func {f : FuncId} {a c : Array Value} : q_nil (.func (.func f) a c) = some (.func (.func f) a c) := rfl
@[simp] theorem q_pick_bool {t : Bool} {a b : Value} : q_pick (.bool t) a b = some (bif t then a else b) := rfl
@[simp] theorem q_faddr_ptr {n : Nat} {a : Addr} : q_faddr n (.pointer (some a)) = some (.pointer (some (a.add n))) := rfl
@[simp] theorem addr_add {b o n : Nat} : (⟨b, o, none⟩ : Addr).add n = ⟨b, o + n, none⟩ := by
  unfold Addr.add
  split
  · rename_i h; subst h; rfl
  · rfl
@[simp] theorem q_iaddr_slice {sz len cap : Nat} {a : Addr} {k : IntKind} {n : Int} : q_iaddr sz (.slice (some a) len cap) (.int k n) = if 0 ≤ n ∧ n < (len : Int) then some (.pointer (some (a.add (n.toNat * sz)))) else none := rfl
@[simp] theorem q_iaddra_ptr {sz len : Nat} {a : Addr} {k : IntKind} {n : Int} : q_iaddra len sz (.pointer (some a)) (.int k n) = if 0 ≤ n ∧ n < (len : Int) then some (.pointer (some (a.add (n.toNat * sz)))) else none := rfl
@[simp] theorem q_load1_ptr {a : Addr} {w : World} : q_load1 (.pointer (some a)) w = w.cell? a := rfl
@[simp] theorem q_extract_tuple {vs : Array Value} {i : Nat} : q_extract (.tuple vs) i = vs[i]? := rfl
@[simp] theorem q_func_some {fn : Fn} {a c : List Value} : q_func fn a c = some (.func fn a.toArray c.toArray) := rfl
@[simp] theorem q_len_slice {a : Option Addr} {n c : Nat} : q_len (.slice a n c) = some (.int .i64 n) := rfl
@[simp] theorem q_slen_string {s : ByteArray} : q_slen (.string s) = some (.int .i64 s.size) := rfl
@[simp] theorem q_cap_slice {a : Option Addr} {n c : Nat} : q_cap (.slice a n c) = some (.int .i64 c) := rfl
@[simp] theorem q_min_int {k k' : IntKind} {x y : Int} : q_min (.int k x) (.int k' y) = some (.int k (if y < x then y else x)) := rfl
@[simp] theorem q_toint_int {k k' : IntKind} {x : Int} : q_toint k (.int k' x) = some (.int k (k.wrap x)) := rfl
@[simp] theorem gateQ_true {want : Bool} {q : Option Value} : gateQ want (.bool true) q = if want = true then q else some undef := by cases want <;> rfl
@[simp] theorem gateQ_false {want : Bool} {q : Option Value} : gateQ want (.bool false) q = if want = true then some undef else q := by cases want <;> rfl
@[simp] theorem gateL_true {want : Bool} {L : (Value → World → Prop) → Prop} {w : World} {K : Value → World → Prop} : gateL want (.bool true) L w K = if want = true then L K else K undef w := by cases want <;> rfl
@[simp] theorem gateL_false {want : Bool} {L : (Value → World → Prop) → Prop} {w : World} {K : Value → World → Prop} : gateL want (.bool false) L w K = if want = true then K undef w else L K := by cases want <;> rfl
section
variable {k : IntKind} {x y : Int} {s t : ByteArray}
@[simp] theorem q_add : q_bin .add (.int k x) (.int k y) = some (.int k (k.wrap (x + y))) := by simp [q_bin, vint]
@[simp] theorem q_sub : q_bin .sub (.int k x) (.int k y) = some (.int k (k.wrap (x - y))) := by simp [q_bin, vint]
@[simp] theorem q_mul : q_bin .mul (.int k x) (.int k y) = some (.int k (k.wrap (x * y))) := by simp [q_bin, vint]
@[simp] theorem q_quo : q_bin .quo (.int k x) (.int k y) = if y = 0 then none else some (.int k (k.wrap (x.tdiv y))) := by simp [q_bin, vint]
@[simp] theorem q_rem : q_bin .rem (.int k x) (.int k y) = if y = 0 then none else some (.int k (x.tmod y)) := by simp [q_bin, vint]
@[simp] theorem q_eql : q_bin .eql (.int k x) (.int k y) = some (.bool (decide (x = y))) := by simp [q_bin, vint]
@[simp] theorem q_neq : q_bin .neq (.int k x) (.int k y) = some (.bool (!decide (x = y))) := by simp [q_bin, vint]
@[simp] theorem q_lss : q_bin .lss (.int k x) (.int k y) = some (.bool (decide (x < y))) := by simp [q_bin, vint]
@[simp] theorem q_leq : q_bin .leq (.int k x) (.int k y) = some (.bool (decide (x ≤ y))) := by simp [q_bin, vint]
@[simp] theorem q_gtr : q_bin .gtr (.int k x) (.int k y) = some (.bool (decide (y < x))) := by simp [q_bin, vint]
@[simp] theorem q_geq : q_bin .geq (.int k x) (.int k y) = some (.bool (decide (y ≤ x))) := by simp [q_bin, vint]
@[simp] theorem q_neg : q_un .neg (.int k x) = some (.int k (k.wrap (0 - x))) := rfl
@[simp] theorem q_not {b : Bool} : q_un .not (.bool b) = some (.bool (!b)) := rfl
theorem toList_data (s : ByteArray) : s.toList = s.data.toList := by
  have key : ∀ (n i : Nat) (r : List UInt8), s.size - i = n → ByteArray.toList.loop s i r = r.reverse ++ s.data.toList.drop i := by
    intro n
    have hsz : s.data.toList.length = s.size := by rw [Array.length_toList]; rfl
    induction n with
    | zero =>
      intro i r h
      unfold ByteArray.toList.loop
      rw [if_neg (by omega), List.drop_of_length_le (by omega)]
      simp
    | succ n ih =>
      intro i r h
      unfold ByteArray.toList.loop
      rw [if_pos (by omega), ih (i + 1) _ (by omega)]
      have hl : i < s.data.toList.length := by omega
      have hl' : i < s.data.size := by simpa using hl
      rw [List.drop_eq_getElem_cons hl]
      have : s.get! i = s.data.toList[i] := by
        rw [Array.getElem_toList]
        exact getElem!_pos s.data i hl'
      rw [this]
      simp
  unfold ByteArray.toList
  rw [key (s.size - 0) 0 [] rfl]
  simp
theorem bytes_eq (s t : ByteArray) : (s.toList == t.toList) = decide (s = t) := by
  rw [toList_data, toList_data]
  by_cases h : s = t
  · simp [h]
  · have : s.data.toList ≠ t.data.toList := by
      intro e
      apply h
      cases s; cases t
      simp at e
      simp [e]
    rw [decide_eq_false h]
    exact beq_eq_false_iff_ne.2 this
@[simp] theorem q_seql : q_bin .eql (.string s) (.string t) = some (.bool (decide (s = t))) := by simp only [q_bin, vstr, bytes_eq]
@[simp] theorem q_sneq : q_bin .neq (.string s) (.string t) = some (.bool (!decide (s = t))) := by simp only [q_bin, vstr, bytes_eq]
end

/-! ### The world, by its blocks -/
/-- What lies at a block's number. -/
def blk (w : World) (b : Nat) : Option Obj := w.heap[b]?
def cellO (o : Option Obj) (i : Nat) : Option Value :=
  match o with
  | some (.cells c _ _) => c[i]?
  | _ => none
def setO (o : Option Obj) (i : Nat) (v : Value) : Option Obj :=
  match o with
  | some (.cells c t f) => some (.cells (c.setIfInBounds i v) t f)
  | o => o
@[simp] theorem cellO_cells {c : Array Value} {t : TypeId} {f : Nat × Nat} {i : Nat} : cellO (some (.cells c t f)) i = c[i]? := rfl
@[simp] theorem setO_cells {c : Array Value} {t : TypeId} {f : Nat × Nat} {i : Nat} {v : Value} : setO (some (.cells c t f)) i v = some (.cells (c.setIfInBounds i v) t f) := rfl
@[simp] theorem cell_mk {w : World} {b o : Nat} : w.cell? ⟨b, o, none⟩ = cellO (blk w b) o := by
  unfold World.cell? cellO blk
  simp only
  cases w.heap[b]? with
  | none => rfl
  | some x => cases x <;> rfl
theorem frozen_mk {w : World} {b o : Nat} {c : Array Value} {t : TypeId} (h : blk w b = some (.cells c t (0, 0))) : w.frozen? ⟨b, o, none⟩ = false := by
  unfold blk at h
  simp [World.frozen?, h]
@[simp] theorem blk_set {w : World} {b o b' : Nat} {v : Value} : blk (w.setCell ⟨b, o, none⟩ v) b' = if b = b' then setO (blk w b') o v else blk w b' := by
  unfold blk
  simp only [World.setCell, Array.getElem?_modify]
  split
  · cases w.heap[b']? with
    | none => rfl
    | some x => cases x <;> rfl
  · rfl
@[simp] theorem blk_alloc {w : World} {x : Obj} {b : Nat} : blk (w.alloc x) b = if b = w.heap.size then some x else blk w b := by
  unfold blk
  simp only [World.alloc, Array.getElem?_push]
@[simp] theorem blk_drew {w : World} {b : Nat} : blk w.drew b = blk w b := rfl
/-! Whole values: cells one behind the other. -/
def putL (w : World) (b o : Nat) : List Value → World
  | [] => w
  | v :: r => putL (w.setCell ⟨b, o, none⟩ v) b (o + 1) r
def spl (c : Array Value) (o : Nat) : List Value → Array Value
  | [] => c
  | v :: r => spl (c.setIfInBounds o v) (o + 1) r
def putO (x : Option Obj) (o : Nat) (vs : List Value) : Option Obj :=
  match x with
  | some (.cells c t f) => some (.cells (spl c o vs) t f)
  | x => x
def loadO (n : Nat) (x : Option Obj) (o : Nat) : Option Value :=
  match x with
  | some (.cells c _ _) => if o + n ≤ c.size then some (.agg (c.toList.drop o |>.take n).toArray) else none
  | _ => none
def storeOk (n : Nat) (cs : Array Value) (x : Option Obj) (o : Nat) : Bool :=
  match x with
  | some (.cells c _ f) => decide (cs.size = n ∧ o + n ≤ c.size ∧ f = (0, 0)) && cs.toList.all Value.oneCell'
  | _ => false
@[simp] theorem putO_cells {c : Array Value} {t : TypeId} {f : Nat × Nat} {o : Nat} {vs : List Value} : putO (some (.cells c t f)) o vs = some (.cells (spl c o vs) t f) := rfl
@[simp] theorem loadO_cells {n : Nat} {c : Array Value} {t : TypeId} {f : Nat × Nat} {o : Nat} : loadO n (some (.cells c t f)) o = if o + n ≤ c.size then some (.agg (c.toList.drop o |>.take n).toArray) else none := rfl
@[simp] theorem storeOk_cells {n : Nat} {cs c : Array Value} {t : TypeId} {f : Nat × Nat} {o : Nat} : storeOk n cs (some (.cells c t f)) o = (decide (cs.size = n ∧ o + n ≤ c.size ∧ f = (0, 0)) && cs.toList.all Value.oneCell') := rfl
@[simp] theorem spl_nil {c : Array Value} {o : Nat} : spl c o [] = c := rfl
@[simp] theorem spl_cons {c : Array Value} {o : Nat} {v : Value} {r : List Value} : spl c o (v :: r) = spl (c.setIfInBounds o v) (o + 1) r := rfl
theorem spl_size {c : Array Value} {o : Nat} {vs : List Value} : (spl c o vs).size = c.size := by
  induction vs generalizing c o with
  | nil => rfl
  | cons v r ih => rw [spl_cons, ih]; simp
@[simp] theorem blk_putL {w : World} {b o b' : Nat} {vs : List Value} : blk (putL w b o vs) b' = if b = b' then putO (blk w b') o vs else blk w b' := by
  induction vs generalizing w o with
  | nil =>
    simp only [putL]
    split
    · cases blk w b' with
      | none => rfl
      | some x => cases x <;> rfl
    · rfl
  | cons v r ih =>
    simp only [putL, ih, blk_set]
    by_cases h : b = b'
    · simp only [if_pos h]
      cases blk w b' with
      | none => rfl
      | some x => cases x <;> rfl
    · simp only [if_neg h]
@[simp] theorem size_putL {w : World} {b o : Nat} {vs : List Value} : (putL w b o vs).heap.size = w.heap.size := by
  induction vs generalizing w o with
  | nil => rfl
  | cons v r ih => simp only [putL, ih, World.size_setCell]
theorem loadL_of {w : World} {b : Nat} {c : Array Value} {t : TypeId} {f : Nat × Nat} (h : blk w b = some (.cells c t f)) (o : Nat) : ∀ (n i : Nat), o + i + n ≤ c.size → loadL w ⟨b, o, none⟩ i n = some ((c.toList.drop (o + i)).take n) := by
  intro n
  induction n with
  | zero => intro i _; simp [loadL]
  | succ n ih =>
    intro i hn
    have hlt : o + i < c.toList.length := by simp; omega
    simp only [loadL, addr_add, cell_mk, h, cellO_cells]
    have e : c[o + i]? = some (c.toList[o + i]) := by
      rw [← Array.getElem?_toList]; exact List.getElem?_eq_getElem hlt
    rw [e]
    simp only
    rw [ih (i + 1) (by omega), List.drop_eq_getElem_cons hlt]
    simp [Nat.add_assoc]
theorem loadL_none {w : World} {b : Nat} {c : Array Value} {t : TypeId} {f : Nat × Nat} (h : blk w b = some (.cells c t f)) (o : Nat) : ∀ (n i : Nat), ¬ o + i + n ≤ c.size → 0 < n → loadL w ⟨b, o, none⟩ i n = none := by
  intro n
  induction n with
  | zero => intro i _ h0; omega
  | succ n ih =>
    intro i hn _
    simp only [loadL, addr_add, cell_mk, h, cellO_cells]
    cases e : c[o + i]? with
    | none => rfl
    | some v =>
      have hlt := (Array.getElem?_eq_some_iff.1 e).1
      simp only
      rw [ih (i + 1) (by omega) (by omega)]
@[simp] theorem loadn_mk {n b o : Nat} {w : World} : q_loadn (n + 1) (.pointer (some ⟨b, o, none⟩)) w = loadO (n + 1) (blk w b) o := by
  simp only [q_loadn]
  cases h : blk w b with
  | none => simp [loadL, h, loadO, cellO]
  | some x =>
    cases x with
    | cells c t f =>
      by_cases hn : o + (n + 1) ≤ c.size
      · rw [loadL_of h o (n + 1) 0 (by omega), loadO_cells, if_pos hn]; simp
      · rw [loadL_none h o (n + 1) 0 (by omega) (by omega), loadO_cells, if_neg hn]
    | _ => simp [loadL, h, loadO, cellO]
theorem storeL_of {b : Nat} {t : TypeId} : ∀ (vs : List Value) (w : World) (c : Array Value) (o i : Nat), blk w b = some (.cells c t (0, 0)) → o + i + vs.length ≤ c.size → (∀ v ∈ vs, v.oneCell' = true) → storeL w ⟨b, o, none⟩ i vs = some (putL w b (o + i) vs) := by
  intro vs
  induction vs with
  | nil => intro w c o i _ _ _; rfl
  | cons v r ih =>
    intro w c o i h hn h1
    simp only [List.length_cons] at hn
    have hlt : o + i < c.size := by omega
    simp only [storeL, putL, addr_add]
    rw [if_pos ⟨h1 v (by simp), by simp [h, hlt], frozen_mk h⟩]
    rw [ih (w.setCell ⟨b, o + i, none⟩ v) (c.setIfInBounds (o + i) v) o (i + 1) (by simp [h]) (by simp; omega) (fun u hu => h1 u (by simp [hu]))]
    rw [Nat.add_assoc]
@[simp] theorem l_store_to {n b o : Nat} {v : Value} {w : World} {K : Value → World → Prop} (h : storeOk n v.cells (blk w b) o = true) : l_store n (.pointer (some ⟨b, o, none⟩)) v w K = K undef (putL w b o v.cells.toList) := by
  unfold storeOk at h
  split at h
  · rename_i c t f hb
    simp only [Bool.and_eq_true, decide_eq_true_eq, List.all_eq_true] at h
    obtain ⟨⟨h1, h2, rfl⟩, h3⟩ := h
    unfold l_store q_store
    simp only [h1, if_true]
    rw [storeL_of v.cells.toList w c o 0 hb (by simp; omega) h3]
    simp
  · cases h
theorem below_putL {B : Nat} {a w : World} (h : Below B a w) {b : Nat} (hb : B ≤ b) : ∀ (vs : List Value) (o : Nat), Below B a (putL w b o vs) := by
  intro vs
  induction vs generalizing w with
  | nil => intro o; exact h
  | cons v r ih => intro o; exact ih (h.setCell (p := ⟨b, o, none⟩) hb v) (o + 1)
theorem ne_of_type {w : World} {a b : Nat} {c c' : Array Value} {t t' : TypeId} {f f' : Nat × Nat} (h1 : blk w a = some (.cells c t f)) (h2 : blk w b = some (.cells c' t' f')) (ht : t ≠ t') : a ≠ b := by
  intro e
  subst e
  rw [h1] at h2
  injection h2 with h2
  injection h2 with _ h2
  exact ht h2
theorem lt_of_blk {w : World} {a : Nat} {o : Obj} (h : blk w a = some o) : a < w.heap.size := (Array.getElem?_eq_some_iff.1 h).1
theorem blk_below {B b : Nat} {w w' : World} (h : Below B w w') (hb : b < B) : blk w' b = blk w b := h.block b hb
/-- The cells of a value, whatever it is. -/
@[simp] theorem cells_int {k : IntKind} {n : Int} : (Value.int k n).cells = #[.int k n] := rfl
@[simp] theorem cells_bool {b : Bool} : (Value.bool b).cells = #[.bool b] := rfl
@[simp] theorem cells_string {s : ByteArray} : (Value.string s).cells = #[.string s] := rfl
@[simp] theorem cells_ptr {a : Option Addr} : (Value.pointer a).cells = #[.pointer a] := rfl
@[simp] theorem cells_slice {a : Option Addr} {n c : Nat} : (Value.slice a n c).cells = #[.slice a n c] := rfl
@[simp] theorem cells_map {a : Option Nat} : (Value.map a).cells = #[.map a] := rfl
@[simp] theorem cells_func {f : Fn} {a c : Array Value} : (Value.func f a c).cells = #[.func f a c] := rfl
@[simp] theorem cells_nilFunc : (Value.nilFunc).cells = #[.nilFunc] := rfl
@[simp] theorem cells_agg {a : Array Value} : (Value.agg a).cells = a := rfl
@[simp] theorem one_int {k : IntKind} {n : Int} : (Value.int k n).oneCell' = true := rfl
@[simp] theorem one_bool {b : Bool} : (Value.bool b).oneCell' = true := rfl
@[simp] theorem one_string {s : ByteArray} : (Value.string s).oneCell' = true := rfl
@[simp] theorem one_ptr {a : Option Addr} : (Value.pointer a).oneCell' = true := rfl
@[simp] theorem one_slice {a : Option Addr} {n c : Nat} : (Value.slice a n c).oneCell' = true := rfl
@[simp] theorem one_map {a : Option Nat} : (Value.map a).oneCell' = true := rfl
@[simp] theorem one_func {f : Fn} {a c : Array Value} : (Value.func f a c).oneCell' = true := rfl
@[simp] theorem one_nilFunc : (Value.nilFunc).oneCell' = true := rfl
end Go.X
end
section
set_option linter.unusedVariables false
set_option linter.unusedSimpArgs false
namespace Go.X
open Go.RowKit

/-- How a value of some kind lies in cells. -/
structure Enc (α : Type) where
  sz : Nat
  cells : α → List Value
  len : ∀ a, (cells a).length = sz
  one : ∀ a, ∀ v ∈ cells a, v.oneCell' = true
variable {α : Type}
def Enc.flat (E : Enc α) : List α → List Value
  | [] => []
  | x :: r => E.cells x ++ E.flat r
theorem Enc.flat_length (E : Enc α) (l : List α) : (E.flat l).length = l.length * E.sz := by
  induction l with
  | nil => simp [Enc.flat]
  | cons x r ih => simp [Enc.flat, E.len, ih, Nat.succ_mul, Nat.add_comm]
theorem Enc.flat_append (E : Enc α) (l k : List α) : E.flat (l ++ k) = E.flat l ++ E.flat k := by
  induction l with
  | nil => simp [Enc.flat]
  | cons x r ih => simp [Enc.flat, ih]
theorem Enc.flat_get (E : Enc α) : ∀ (l : List α) (i j : Nat) (hi : i < l.length), j < E.sz → (E.flat l)[i * E.sz + j]? = (E.cells l[i])[j]? := by
  intro l
  induction l with
  | nil => intro i j hi; simp at hi
  | cons x r ih =>
    intro i j hi hj
    simp only [Enc.flat]
    cases i with
    | zero => rw [Nat.zero_mul, Nat.zero_add, List.getElem?_append_left (by rw [E.len]; exact hj)]; rfl
    | succ i =>
      have h1 : (E.cells x).length ≤ (i + 1) * E.sz + j := by rw [E.len, Nat.add_mul]; omega
      rw [List.getElem?_append_right h1, E.len]
      have h2 : (i + 1) * E.sz + j - E.sz = i * E.sz + j := by rw [Nat.add_mul]; omega
      rw [h2]
      exact ih i j (by simpa using hi) hj
theorem Enc.flat_take (E : Enc α) (l : List α) (n : Nat) : (E.flat l).take (n * E.sz) = E.flat (l.take n) := by
  induction l generalizing n with
  | nil => simp [Enc.flat]
  | cons x r ih =>
    cases n with
    | zero => simp [Enc.flat]
    | succ n =>
      simp only [Enc.flat, List.take_succ_cons]
      rw [List.take_append, E.len]
      have h2 : (n + 1) * E.sz - E.sz = n * E.sz := by rw [Nat.add_mul]; omega
      rw [h2, ih, List.take_of_length_le (by rw [E.len, Nat.add_mul]; omega)]
theorem Enc.flat_drop (E : Enc α) (l : List α) (n : Nat) : (E.flat l).drop (n * E.sz) = E.flat (l.drop n) := by
  induction l generalizing n with
  | nil => simp [Enc.flat]
  | cons x r ih =>
    cases n with
    | zero => simp [Enc.flat]
    | succ n =>
      simp only [Enc.flat, List.drop_succ_cons]
      rw [List.drop_append, E.len]
      have h2 : (n + 1) * E.sz - E.sz = n * E.sz := by rw [Nat.add_mul]; omega
      rw [h2, ih, List.drop_of_length_le (by rw [E.len, Nat.add_mul]; omega)]
      simp
theorem Enc.flat_one (E : Enc α) (l : List α) : ∀ v ∈ E.flat l, v.oneCell' = true := by
  induction l with
  | nil => intro v hv; simp [Enc.flat] at hv
  | cons x r ih =>
    intro v hv
    simp only [Enc.flat, List.mem_append] at hv
    rcases hv with hv | hv
    · exact E.one x v hv
    · exact ih v hv
theorem Enc.flat_set (E : Enc α) (l : List α) (i j : Nat) (hi : i < l.length) (hj : j < E.sz) (u : Value) (a : α) (ha : E.cells a = (E.cells l[i]).set j u) : (E.flat l).set (i * E.sz + j) u = E.flat (l.set i a) := by
  induction l generalizing i with
  | nil => simp at hi
  | cons x r ih =>
    cases i with
    | zero =>
      simp only [Enc.flat, List.set_cons_zero, Nat.zero_mul, Nat.zero_add]
      rw [List.set_append_left _ _ (by rw [E.len]; exact hj), ha]
      rfl
    | succ i =>
      simp only [Enc.flat, List.set_cons_succ]
      have h1 : (E.cells x).length ≤ (i + 1) * E.sz + j := by rw [E.len, Nat.add_mul]; omega
      rw [List.set_append_right _ _ h1, E.len]
      have h2 : (i + 1) * E.sz + j - E.sz = i * E.sz + j := by rw [Nat.add_mul]; omega
      rw [h2, ih i (by simpa using hi) (by simpa using ha)]

/-- A row (elements of type t) of the call's own, from block B on, that holds a list. -/
def Own (E : Enc α) (t : TypeId) (w : World) (B : Nat) (v : Value) (l : List α) : Prop :=
  (v = .slice none 0 0 ∧ l = []) ∨ ∃ g cap cur, v = .slice (some ⟨g, 0, none⟩) l.length cap ∧ B ≤ g ∧ blk w g = some (.cells cur t (0, 0)) ∧ l.length ≤ cap ∧ cap ≤ maxLen ∧ cap * E.sz ≤ cur.size ∧ cur.toList.take (l.length * E.sz) = E.flat l
/-- A slice that reads as a list. -/
def Rd (E : Enc α) (w : World) (v : Value) (l : List α) : Prop :=
  ∃ a cap, v = .slice a l.length cap ∧ (l.length ≤ maxLen ∧ l.length ≤ cap) ∧ ∀ (i : Nat) (hi : i < l.length), ∃ ad, a = some ad ∧ ∀ j u, (E.cells l[i])[j]? = some u → w.cell? (ad.add (i * E.sz + j)) = some u

variable {E : Enc α} {t : TypeId} {w w' : World} {B : Nat} {v : Value} {l : List α}
theorem Own.nil (E : Enc α) (t : TypeId) (w : World) (B : Nat) : Own E t w B (.slice none 0 0) [] := .inl ⟨rfl, rfl⟩
theorem Own.slice' (h : Own E t w B v l) : ∃ a cap, v = .slice a l.length cap ∧ l.length ≤ maxLen ∧ l.length ≤ cap := by
  rcases h with ⟨h1, h2⟩ | ⟨g, cap, cur, hv, _, _, h3, h4, _⟩
  · exact ⟨none, 0, by rw [h1, h2]; rfl, by rw [h2]; exact Nat.zero_le _, by rw [h2]; exact Nat.zero_le _⟩
  · exact ⟨_, _, hv, Nat.le_trans h3 h4, h3⟩
theorem Own.slice (h : Own E t w B v l) : ∃ a cap, v = .slice a l.length cap ∧ l.length ≤ maxLen := by
  rcases h with ⟨h1, h2⟩ | ⟨g, cap, cur, hv, _, _, h3, h4, _⟩
  · exact ⟨none, 0, by rw [h1, h2]; rfl, by rw [h2]; exact Nat.zero_le _⟩
  · exact ⟨_, _, hv, Nat.le_trans h3 h4⟩
theorem Own.lt (h : Own E t w B v l) : ∀ k, v.ownBlock = some k → B ≤ k ∧ k < w.heap.size := by
  intro k hk
  rcases h with ⟨h1, h2⟩ | ⟨g, cap, cur, hv, h1, h2, _⟩
  · rw [h1] at hk; cases hk
  · rw [hv] at hk
    simp only [Value.ownBlock, Option.some.injEq] at hk
    subst hk
    exact ⟨h1, lt_of_blk h2⟩
/-- The block behind a row that is not nil. -/
theorem Own.block (h : Own E t w B v l) (hne : 0 < l.length) : ∃ g cap cur, v = .slice (some ⟨g, 0, none⟩) l.length cap ∧ B ≤ g ∧ blk w g = some (.cells cur t (0, 0)) ∧ l.length ≤ cap ∧ cap ≤ maxLen ∧ cap * E.sz ≤ cur.size ∧ cur.toList.take (l.length * E.sz) = E.flat l ∧
    ∀ (i : Nat) (hi : i < l.length) (j : Nat), j < E.sz → cur[i * E.sz + j]? = (E.cells l[i])[j]? := by
  rcases h with ⟨_, h2⟩ | ⟨g, cap, cur, hv, h1, h2, h3, h4, h5, h6⟩
  · rw [h2] at hne; simp at hne
  · refine ⟨g, cap, cur, hv, h1, h2, h3, h4, h5, h6, fun i hi j hj => ?_⟩
    rw [← E.flat_get l i j hi hj, ← h6, List.getElem?_take]
    have : i * E.sz + j < l.length * E.sz := by
      calc i * E.sz + j < i * E.sz + E.sz := by omega
        _ = (i + 1) * E.sz := by rw [Nat.add_mul]; omega
        _ ≤ l.length * E.sz := Nat.mul_le_mul_right _ hi
    rw [if_pos this]
    simp
theorem Own.step (h : Own E t w B v l) (hm : ∀ k, v.ownBlock = some k → blk w' k = blk w k) : Own E t w' B v l := by
  rcases h with h2 | ⟨g, cap, cur, hv, h1, h2, h3⟩
  · exact .inl h2
  · exact .inr ⟨g, cap, cur, hv, h1, (hm g (by rw [hv]; rfl)).trans h2, h3⟩
theorem Own.type (h : Own E t w B v l) : ∀ k, v.ownBlock = some k → ∃ cur, blk w k = some (.cells cur t (0, 0)) := by
  intro k hk
  rcases h with ⟨rfl, _⟩ | ⟨g, cap, cur, hv, h1, h2, h3⟩
  · simp [Value.ownBlock] at hk
  · rw [hv] at hk
    simp only [Value.ownBlock, Option.some.injEq] at hk
    subst hk
    exact ⟨cur, h2⟩
/-- A store into a block of another type. -/
theorem Own.set (h : Own E t w B v l) {b o : Nat} {u : Value} {c : Array Value} {t' : TypeId} {f : Nat × Nat} (hb : blk w b = some (.cells c t' f)) (ht : t' ≠ t) : Own E t (w.setCell ⟨b, o, none⟩ u) B v l := by
  refine h.step fun k hk => ?_
  obtain ⟨cur, hc⟩ := h.type k hk
  rw [blk_set, if_neg (ne_of_type hb hc ht)]
theorem Own.alloc (h : Own E t w B v l) (o : Obj) : Own E t (w.alloc o) B v l :=
  h.step fun k hk => by rw [blk_alloc, if_neg (Nat.ne_of_lt (h.lt k hk).2)]
theorem Own.drew (h : Own E t w B v l) : Own E t w.drew B v l := h.step fun k hk => rfl
theorem Own.below (h : Own E t w B v l) (hb : Below w.heap.size w w') : Own E t w' B v l := h.step fun k hk => hb.block k (h.lt k hk).2
theorem Own.grown (h : Own E t w B v l) {row : Option Nat} (hg : w.grownBy w' row) (hne : v.ownBlock = none ∨ v.ownBlock ≠ row) : Own E t w' B v l :=
  h.step fun k hk => hg.block k (h.lt k hk).2 (by rcases hne with h | h <;> simp_all)
theorem Own.lower {B' : Nat} (h : Own E t w B v l) (hb : B' ≤ B) : Own E t w B' v l := by
  rcases h with h2 | ⟨g, cap, cur, hv, h1, h3⟩
  · exact .inl h2
  · exact .inr ⟨g, cap, cur, hv, Nat.le_trans hb h1, h3⟩
/-- An element's cell is written. -/
theorem Own.store (h : Own E t w B v l) {g cap : Nat} (hv : v = .slice (some ⟨g, 0, none⟩) l.length cap) {i j : Nat} (hi : i < l.length) (hj : j < E.sz) {u : Value} {a : α} (ha : E.cells a = (E.cells l[i]).set j u) : Own E t (w.setCell ⟨g, i * E.sz + j, none⟩ u) B v (l.set i a) := by
  have hs : (E.flat (l.set i a)) = (E.flat l).set (i * E.sz + j) u := (E.flat_set l i j hi hj u a ha).symm
  rcases h with ⟨_, h2⟩ | ⟨g', cap', cur, hv', h1, h2, h3, h4, h5, h6⟩
  · rw [h2] at hi; simp at hi
  · rw [hv] at hv'
    injection hv' with e1 e2 e3
    injection e1 with e1
    injection e1 with e1
    subst e1
    subst e3
    refine .inr ⟨g, cap, cur.setIfInBounds (i * E.sz + j) u, by rw [List.length_set]; exact hv, h1, (blk_set.trans (by rw [if_pos rfl, h2]; rfl)), by rw [List.length_set]; exact h3, h4, by simpa using h5, ?_⟩
    rw [List.length_set, hs, Array.toList_setIfInBounds, ← h6, List.take_set]
theorem Rd.of_own (h : Own E t w B v l) : Rd E w v l := by
  obtain ⟨a, cap, hv, hm⟩ := h.slice'
  refine ⟨a, cap, hv, hm, fun i hi => ?_⟩
  obtain ⟨g, cap', cur, hv', hB, hg, h3, h4, h5, h6, hget⟩ := h.block (by omega)
  rw [hv] at hv'
  injection hv' with e1 e2 e3
  refine ⟨_, e1, fun j u hu => ?_⟩
  have hj : j < E.sz := by rw [← E.len l[i]]; exact (List.getElem?_eq_some_iff.1 hu).1
  rw [addr_add, cell_mk, hg, cellO_cells, Nat.zero_add, hget i hi j hj]
  exact hu
theorem Rd.step (h : Rd E w v l) (hm : ∀ a u, w.cell? a = some u → w'.cell? a = some u) : Rd E w' v l := by
  obtain ⟨a, cap, hv, hl, hi⟩ := h
  refine ⟨a, cap, hv, hl, fun i h1 => ?_⟩
  obtain ⟨ad, ha, hc⟩ := hi i h1
  exact ⟨ad, ha, fun j u hu => hm _ _ (hc j u hu)⟩
theorem Rd.below (h : Rd E w v l) (hb : Below w.heap.size w w') : Rd E w' v l := h.step fun a u hu => (hb.cell (World.block_lt_of_cell? w a hu)).trans hu
theorem Rd.slice (h : Rd E w v l) : ∃ a cap, v = .slice a l.length cap ∧ l.length ≤ maxLen := by
  obtain ⟨a, cap, hv, hl, _⟩ := h
  exact ⟨a, cap, hv, hl.1⟩
theorem loadL_some {w : World} {p : Addr} : ∀ (n i : Nat) (cs : List Value), cs.length = n → (∀ j u, cs[j]? = some u → w.cell? (p.add (i + j)) = some u) → loadL w p i n = some cs := by
  intro n
  induction n with
  | zero => intro i cs h _; cases cs with
    | nil => rfl
    | cons => simp at h
  | succ n ih =>
    intro i cs h hc
    cases cs with
    | nil => simp at h
    | cons c r =>
      simp only [loadL]
      rw [show w.cell? (p.add i) = some c from hc 0 c rfl, ih (i + 1) r (by simpa using h) fun j u hu => by
        have := hc (j + 1) u (by simpa using hu)
        rwa [show i + (j + 1) = i + 1 + j by omega] at this]
theorem Addr.add_add' (a : Addr) (i j : Nat) : (a.add i).add j = a.add (i + j) := by
  unfold Addr.add
  by_cases hi : i = 0
  · subst hi; simp
  · by_cases hj : j = 0
    · subst hj; simp [hi]
    · have : ¬ i + j = 0 := by omega
      simp [hi, hj, this, Nat.add_assoc]
/-- The address of an element, and what lies there. -/
theorem Rd.elem (h : Rd E w v l) {i : Nat} (hi : i < l.length) (k : IntKind) : ∃ ad, q_iaddr E.sz v (.int k i) = some (.pointer (some ad)) ∧ q_loadn E.sz (.pointer (some ad)) w = some (.agg (E.cells l[i]).toArray) ∧ ∀ j u, (E.cells l[i])[j]? = some u → w.cell? (ad.add j) = some u := by
  obtain ⟨a, cap, hv, hl, hget⟩ := h
  obtain ⟨ad, ha, hc⟩ := hget i hi
  subst ha
  subst hv
  have hc' : ∀ j u, (E.cells l[i])[j]? = some u → w.cell? ((ad.add (i * E.sz)).add j) = some u := fun j u hu => by rw [Addr.add_add']; exact hc j u hu
  refine ⟨ad.add (i * E.sz), ?_, ?_, hc'⟩
  · rw [q_iaddr_slice, if_pos ⟨by omega, by omega⟩]
    simp
  · simp only [q_loadn]
    rw [loadL_some E.sz 0 (E.cells l[i]) (E.len _) fun j u hu => by rw [Nat.zero_add]; exact hc' j u hu]
end Go.X
end
section
set_option linter.unusedVariables false
set_option linter.unusedSimpArgs false
namespace Go.X
open Go.RowKit
variable {P : Program} {α : Type} {E : Enc α} {w w' : World} {B : Nat} {v s x : Value} {l m : List α}

/-- A slice type t of elements e: cells and bytes an element, and its zero value. -/
structure SlT (P : Program) (t e : TypeId) (sz bytes : Nat) (z : Value) : Prop where
  ht : P.underlying t = some (.slice e)
  hi : (P.info? e).map (fun i => (i.zero, i.size, i.bytes)) = some (some z, sz, bytes)
  hz : z.cells.size = sz
  h0 : 0 < sz
theorem SlT.info {t e : TypeId} {sz bytes : Nat} {z : Value} (h : SlT P t e sz bytes z) : ∃ i, P.info? e = some i ∧ i.zero = some z ∧ i.size = sz ∧ i.bytes = bytes := by
  obtain ⟨i, hi, he⟩ := Option.map_eq_some_iff.1 h.hi
  simp only [Prod.mk.injEq] at he
  exact ⟨i, hi, he.1, he.2.1, he.2.2⟩
theorem l_run_of {sm : Sem Value} {K : Value → World → Prop} (hr : sm.run P w = .ok v w') (hk : K v w') : l_run P sm w K := by
  unfold l_run; rw [hr]; exact hk
/-- append(s, x...): s a row of the call's own, x any slice that reads. -/
theorem append_ok {t e ty : TypeId} {bytes : Nat} {z : Value} (T : SlT P t e E.sz bytes z) {K : Value → World → Prop} (hs : Own E e w B s l) (hx : Rd E w x m) (hB : B ≤ w.heap.size)
    (hn : (l.length + m.length) * bytes ≤ 140737488355328) (hm : l.length + m.length ≤ maxLen)
    (hK : ∀ v' w', Own E e w' B v' (l ++ m) → w.grownBy w' s.ownBlock → (v'.ownBlock = s.ownBlock ∨ v'.ownBlock = some w.heap.size) → K v' w') : l_append P #[t, t] ty s x w K := by
  obtain ⟨i, hi, hz, hsz, hby⟩ := T.info
  obtain ⟨a, cap, rfl, hl, hget⟩ := hx
  unfold l_append
  cases a with
  | none =>
    have hm0 : m = [] := by
      cases m with
      | nil => rfl
      | cons y r => obtain ⟨ad, ha, _⟩ := hget 0 (by simp); cases ha
    subst hm0
    obtain ⟨a', cap', hs', _⟩ := hs.slice
    have hr : (Builtin.append_ #[t, t] ty #[s, .slice none ([] : List α).length cap]).run P w = .ok s w := by
      rcases hs with ⟨h1, h2⟩ | ⟨g, cp, cur, h1, _, _, hnc, _⟩ <;> subst h1
      · simp [Builtin.append_, run_underlying T.ht, sizeOf, typeInfo, hi, Builtin.lenOf, Builtin.firstCells]
      · have : l.length + 0 ≤ cp := by omega
        simp [Builtin.append_, run_underlying T.ht, sizeOf, typeInfo, hi, Builtin.lenOf, Builtin.firstCells, hnc, storeCells]
    exact l_run_of hr (hK _ _ (by simpa using hs) ⟨rfl, rfl, rfl, Nat.le_refl _, fun _ _ _ => rfl⟩ (.inl rfl))
  | some ad =>
    have hnews : ∀ j u, (E.flat m)[j]? = some u → w.cell? (ad.add j) = some u := by
      intro j u hu
      have hj : j < m.length * E.sz := by rw [← E.flat_length]; exact (List.getElem?_eq_some_iff.1 hu).1
      have h0 := T.h0
      have hq : j / E.sz < m.length := Nat.div_lt_of_lt_mul (by rw [Nat.mul_comm]; exact hj)
      have hr : j % E.sz < E.sz := Nat.mod_lt _ h0
      have hjj : j = j / E.sz * E.sz + j % E.sz := by rw [Nat.mul_comm]; exact (Nat.div_add_mod j E.sz).symm
      rw [hjj, E.flat_get m _ _ hq hr] at hu
      obtain ⟨ad', ha, hc⟩ := hget _ hq
      injection ha with ha
      subst ha
      rw [hjj]
      exact hc _ u hu
    have h63 : ((l.length + m.length : Nat) : Int) ≤ 9223372036854775807 := by simp only [maxLen] at hm; omega
    have hflen : (E.flat l ++ E.flat m).length = (l.length + m.length) * E.sz := by rw [List.length_append, E.flat_length, E.flat_length, Nat.add_mul]
    -- the new block, where there was no room
    have grown : ∀ (old : Nat), old < l.length + m.length →
        Own E e (w.drew.alloc (.cells ((E.flat l).toArray ++ (E.flat m).toArray ++ Builtin.zeroCells z.cells (grownCap w (l.length + m.length) old e - (l.length + m.length))) e)) B
          (.slice (some ⟨w.heap.size, 0, none⟩) (l.length + m.length) (grownCap w (l.length + m.length) old e)) (l ++ m) := by
      intro old ho
      have hge := grownCap_ge w (l.length + m.length) old e
      have hcm : grownCap w (l.length + m.length) old e ≤ maxLen := grownCap_le_maxLen w (l.length + m.length) old e hm
      refine .inr ⟨w.heap.size, _, _, by rw [List.length_append], hB, blk_alloc.trans (if_pos rfl), by rw [List.length_append]; exact hge, hcm, ?_, ?_⟩
      · simp only [Array.size_append, List.size_toArray, size_zeroCells, T.hz, E.flat_length, ← Nat.add_mul]
        exact Nat.le_of_eq (congrArg (· * E.sz) (by omega))
      · simp only [Array.toList_append, List.append_assoc]
        rw [← List.append_assoc, List.length_append, ← hflen, E.flat_append]
        exact List.take_left
    rcases hs with ⟨rfl, rfl⟩ | ⟨g, cp, cur, rfl, hbg, hg, hnc, hcm, hcs, htake⟩
    · by_cases hm0 : m.length = 0
      · have hn : m = [] := List.eq_nil_of_length_eq_zero hm0
        subst hn
        have hr : (Builtin.append_ #[t, t] ty #[.slice none 0 0, .slice (some ad) ([] : List α).length cap]).run P w = .ok (.slice none 0 0) w := by
          simp [Builtin.append_, run_underlying T.ht, sizeOf, typeInfo, hi, Builtin.lenOf, Builtin.firstCells, loadCells, loadCellsFrom]
        exact l_run_of hr (hK _ _ (Own.nil E e w B) ⟨rfl, rfl, rfl, Nat.le_refl _, fun _ _ _ => rfl⟩ (.inl rfl))
      · have hb0 : m.length * i.bytes ≤ 281474976710656 := by rw [hby]; simp only [List.length_nil, Nat.zero_add] at hn; omega
        have h63' : (m.length : Int) ≤ 9223372036854775807 := by simp only [List.length_nil, Nat.zero_add] at h63; exact h63
        have hr := run_append_nil (P := P) w t ty e i z T.ht hi hz ad m.length cap (E.flat m) (by rw [hsz]; exact E.flat_length m) hnews (by omega) h63' hb0
        have hgr := grown 0 (by simp; omega)
        simp only [List.length_nil, Nat.zero_add, Enc.flat, List.nil_append] at hgr
        simp only [List.nil_append] at hK
        refine l_run_of hr (hK _ _ ?_ ⟨rfl, rfl, rfl, by simp, fun k hk _ => heap_alloc_old w.drew _ k hk⟩ (.inr rfl))
        simpa using hgr
    · by_cases hroom : l.length + m.length ≤ cp
      · have hfit : l.length * i.size + (E.flat m).length ≤ cur.size := by
          rw [hsz, E.flat_length, ← Nat.add_mul]
          exact Nat.le_trans (Nat.mul_le_mul_right _ hroom) hcs
        have hr := run_append_room (P := P) w t ty e i T.ht hi g l.length cp cur hg ad m.length cap (E.flat m) (by rw [hsz]; exact E.flat_length m) hnews (E.flat_one m) hroom hfit
        rw [hsz] at hr hfit
        refine l_run_of hr (hK _ _ (.inr ⟨g, cp, _, by rw [List.length_append], hbg, setRow_heap w g cur _ e _ hg, by rw [List.length_append]; exact hroom, hcm, ?_, ?_⟩) ⟨rfl, rfl, rfl, by simp, fun k _ hk => setRow_other w g k _ (fun e => hk (by simp [Value.ownBlock, e]))⟩ (.inl rfl))
        · simp only [List.size_toArray, List.length_append, List.length_take, List.length_drop, Array.length_toList]
          omega
        · rw [htake, List.length_append, ← hflen, E.flat_append]
          exact List.take_left
      · have holds : ∀ j u, (E.flat l)[j]? = some u → w.cell? ((⟨g, 0, none⟩ : Addr).add j) = some u := by
          intro j u hu
          rw [addr_add, cell_mk, hg, cellO_cells, Nat.zero_add]
          rw [← htake, List.getElem?_take] at hu
          split at hu
          · simpa using hu
          · cases hu
        have hr := run_append_grow (P := P) w t ty e i z T.ht hi hz ⟨g, 0, none⟩ l.length cp (E.flat l) (by rw [hsz]; exact E.flat_length l) holds ad m.length cap (E.flat m) (by rw [hsz]; exact E.flat_length m) hnews (by omega) h63 (growslice_fits (by omega) (by rw [hby]; exact hn))
        refine l_run_of hr (hK _ _ (grown cp (by omega)) ⟨rfl, rfl, rfl, by simp, fun k hk _ => heap_alloc_old w.drew _ k hk⟩ (.inr rfl))
/-- A literal of one element, appended. -/
theorem Rd.new {t : TypeId} {a : α} (w : World) (hm : 1 ≤ maxLen) : Rd E (w.alloc (.cells (E.cells a).toArray t)) (.slice (some ⟨w.heap.size, 0, none⟩) 1 1) [a] := by
  refine ⟨_, 1, rfl, ⟨hm, Nat.le_refl _⟩, fun i hi => ⟨_, rfl, fun j u hu => ?_⟩⟩
  have : i = 0 := by simpa using hi
  subst this
  rw [addr_add, cell_mk, blk_alloc, if_pos rfl, cellO_cells]
  simpa using hu
theorem flat_replicate (E : Enc α) (a : α) (n : Nat) : E.flat (List.replicate n a) = repC (E.cells a) n := by
  induction n with
  | zero => rfl
  | succ n ih => simp [List.replicate_succ, Enc.flat, repC, ih]
/-- make([]T, n). -/
theorem make_ok {t e : TypeId} {bytes : Nat} {z : Value} (T : SlT P t e E.sz bytes z) {K : Value → World → Prop} {n : Nat} {k k' : IntKind} {a : α} (ha : E.cells a = z.cells.toList) (hB : B ≤ w.heap.size)
    (hn : bytes * n ≤ 281474976710656) (hm : n ≤ maxLen)
    (hK : ∀ w', Own E e w' B (.slice (some ⟨w.heap.size, 0, none⟩) n n) (List.replicate n a) → Below w.heap.size w w' → w'.heap.size = w.heap.size + 1 → K (.slice (some ⟨w.heap.size, 0, none⟩) n n) w') : l_make P t (.int k n) (.int k' n) w K := by
  obtain ⟨i, hi, hz, hsz, hby⟩ := T.info
  have h63 : (n : Int) ≤ 9223372036854775807 := by simp only [maxLen] at hm; omega
  have hb' : (i.bytes : Int) * (n : Int) ≤ 281474976710656 := by
    rw [hby]
    have h : ((bytes * n : Nat) : Int) ≤ 281474976710656 := by omega
    rwa [Int.natCast_mul] at h
  have hr := run_make (P := P) w t e i z T.ht hi hz k k' n n (by omega) (by omega) hb' h63
  simp only [Int.toNat_natCast] at hr
  have hc : madeCells z.cells (n * i.size) = ⟨repC z.cells.toList n⟩ := by
    unfold madeCells
    rw [hsz]
    exact zeros_eq z.cells n E.sz T.hz T.h0
  rw [hc] at hr
  refine l_run_of hr (hK _ ?_ ((Below.refl _ _).alloc (Nat.le_refl _) _) (by simp))
  refine .inr ⟨w.heap.size, n, ⟨repC z.cells.toList n⟩, by simp, hB, blk_alloc.trans (if_pos rfl), by simp, hm, ?_, ?_⟩
  · have := repC_length z.cells.toList n
    simp only [Array.length_toList, T.hz] at this
    exact Nat.le_of_eq (by simpa using this.symm)
  · rw [flat_replicate, ha]
    have := repC_length z.cells.toList n
    simp only [Array.length_toList, T.hz] at this
    exact List.take_of_length_le (by simp [this])
theorem blk_setRow {w : World} {g b : Nat} {cs : Array Value} : blk (w.setRow g cs) b = if g = b then (match blk w b with | some (.cells _ t f) => some (.cells cs t f) | o => o) else blk w b := by
  unfold blk
  simp only [World.setRow, Array.getElem?_modify]
  split
  · cases w.heap[b]? with
    | none => rfl
    | some x => cases x <;> rfl
  · rfl
/-- What a slice that reads as l holds, cell by cell. -/
theorem Rd.cells (hx : Rd E w x m) (h0 : 0 < E.sz) (hne : 0 < m.length) : ∃ ad cap, x = .slice (some ad) m.length cap ∧ ∀ j u, (E.flat m)[j]? = some u → w.cell? (ad.add j) = some u := by
  obtain ⟨a, cap, rfl, hl, hget⟩ := hx
  obtain ⟨ad, ha, _⟩ := hget 0 hne
  subst ha
  refine ⟨ad, cap, rfl, fun j u hu => ?_⟩
  have hj : j < m.length * E.sz := by rw [← E.flat_length]; exact (List.getElem?_eq_some_iff.1 hu).1
  have hq : j / E.sz < m.length := Nat.div_lt_of_lt_mul (by rw [Nat.mul_comm]; exact hj)
  have hr : j % E.sz < E.sz := Nat.mod_lt _ h0
  have hjj : j = j / E.sz * E.sz + j % E.sz := by rw [Nat.mul_comm]; exact (Nat.div_add_mod j E.sz).symm
  rw [hjj, E.flat_get m _ _ hq hr] at hu
  obtain ⟨ad', ha, hc⟩ := hget _ hq
  injection ha with ha
  subst ha
  rw [hjj]
  exact hc _ u hu
/-- copy(d, s), d a row of the call's own of the same length. -/
theorem copy_ok {t t' e ty : TypeId} {bytes : Nat} {z : Value} (T : SlT P t e E.sz bytes z) {K : Value → World → Prop} {d : Value} {k : List α} (hd : Own E e w B d k) (hs : Rd E w s l) (hl : k.length = l.length)
    (hK : ∀ u w', Own E e w' B d l → w.grownBy w' d.ownBlock → K u w') : l_copy P #[t, t'] ty d s w K := by
  obtain ⟨i, hi, hz, hsz, hby⟩ := T.info
  unfold l_copy
  rcases Nat.eq_zero_or_pos l.length with h0 | h0
  · have hl0 : l = [] := List.eq_nil_of_length_eq_zero h0
    have hk0 : k = [] := List.eq_nil_of_length_eq_zero (by omega)
    subst hl0
    subst hk0
    obtain ⟨a, cap, hv, _⟩ := hs.slice
    obtain ⟨a', cap', hv', _⟩ := hd.slice
    have hr : (Builtin.copy_ #[t, t'] ty #[d, s]).run P w = .ok (goInt 0) w := by
      rw [hv, hv']
      cases a' <;> cases a <;> simp [Builtin.copy_, run_underlying T.ht, Builtin.lenOf, Builtin.firstCells, sizeOf, typeInfo, hi, loadCells, loadCellsFrom, storeCells]
    exact l_run_of hr (hK _ _ hd ⟨rfl, rfl, rfl, Nat.le_refl _, fun _ _ _ => rfl⟩)
  · obtain ⟨ad, cap, hv, hcells⟩ := hs.cells T.h0 h0
    obtain ⟨g, cap', cur, hv', hBg, hg, hlc, hcm, hcs, htake, hget⟩ := hd.block (by omega)
    have hlen : (E.flat l).length = l.length * E.sz := E.flat_length l
    have hfit : (E.flat l).length ≤ cur.size := by rw [hlen, ← hl]; exact Nat.le_trans (Nat.mul_le_mul_right _ hlc) hcs
    have hload := run_loadCells_list (P := P) w ad (E.flat l) hcells
    have hst := run_storeCells_at P g 0 e (E.flat l) 0 cur w hg (by simpa using hfit) (E.flat_one l)
    rw [hlen] at hload
    have hr : (Builtin.copy_ #[t, t'] ty #[d, s]).run P w = .ok (goInt l.length) (w.setRow g (cur.toList.take 0 ++ E.flat l ++ cur.toList.drop (0 + (E.flat l).length)).toArray) := by
      rw [hv, hv']
      simp [Builtin.copy_, run_underlying T.ht, Builtin.lenOf, Builtin.firstCells, sizeOf, typeInfo, hi, hsz, hl, hload]
      simp at hst
      simp [hst]
    refine l_run_of hr (hK _ _ ?_ ⟨rfl, rfl, rfl, by simp [World.setRow], fun b hb hne => ?_⟩)
    · refine .inr ⟨g, cap', _, by rw [hv', hl], hBg, blk_setRow.trans (by rw [if_pos rfl, hg]), by omega, hcm, ?_, ?_⟩
      · simp only [List.take_zero, List.nil_append, List.size_toArray, List.length_append, List.length_drop, Array.length_toList]
        omega
      · simp only [List.take_zero, List.nil_append]
        rw [← hlen]
        exact List.take_left
    · refine blk_setRow.trans ?_
      rw [if_neg]
      · rfl
      intro e
      subst e
      exact hne (by rw [hv']; rfl)
end Go.X
end
section
set_option linter.unusedVariables false
set_option linter.unusedSimpArgs false
namespace Go.X
open Go.Proofs Go.RowKit
variable {P : Program}
theorem prb {α β : Type} {s : Sem α} {f : α → Sem β} {a : α} (h : pr P s = some a) : pr P (s >>= f) = pr P (f a) := by
  change pr P (s.bind f) = _
  induction s with
  | pure b => simp only [pr, Option.some.injEq] at h; subst h; rfl
  | program k ih => exact ih P h
  | _ => simp [pr] at h
theorem pr_program : pr P program = some P := rfl
theorem pr_pure {α : Type} {a : α} : pr P (pure a) = some a := rfl
theorem pr_underlying {t : TypeId} {d : TypeDesc} (h : P.underlying t = some d) : pr P (underlying t) = some d := by
  simp [underlying, program, pr, Bind.bind, Sem.bind, Pure.pure, h]
/-- Of one cell, and of whole numbers. -/
def intTy (P : Program) (t : TypeId) : Bool :=
  (match P.info? t with | some i => decide (i.size = 1) | none => false) && (match P.underlying t with | some (.int _) => true | _ => false)
theorem part_int {t : TypeId} (h : intTy P t = true) {cs : Array Value} {o : Nat} {v : Value} (hv : cs[o]? = some v) : pr P (part t cs o) = some v := by
  unfold intTy at h
  rw [Bool.and_eq_true] at h
  obtain ⟨_, h2⟩ := h
  split at h2
  · rename_i k hk
    have h4 : pr P (isAgg t) = some false := by simp [isAgg, underlying, program, pr, Bind.bind, Sem.bind, Pure.pure, hk]
    unfold part
    rw [prb h4]
    simp only [hv, Bool.false_eq_true, if_false]
    rfl
  · cases h2
theorem equalIn_int {t : TypeId} (h : intTy P t = true) (d : Nat) (k : IntKind) (a b : Int) : pr P (Op.equalIn (d + 1) t (.int k a) (.int k b)) = some (a == b) := by
  unfold intTy at h
  rw [Bool.and_eq_true] at h
  obtain ⟨_, h2⟩ := h
  split at h2
  · rename_i k' hk
    unfold Op.equalIn
    rw [prb (pr_underlying hk)]
    simp
    rfl
  · cases h2
def flatInts (P : Program) : List Field → Nat → Nat → Bool
  | [], _, n => n == 0
  | f :: fs, o, n => f.name != "_" && f.offset == o && intTy P f.type && n != 0 && flatInts P fs (o + 1) (n - 1)
theorem equalIn_struct {t : TypeId} {fs : Array Field} (hu : P.underlying t = some (.struct fs)) (hp : P.stoodInHeld t = false) (d : Nat) (k : IntKind) (xs ys : List Int)
    (hl : xs.length = ys.length) (hf : flatInts P fs.toList 0 xs.length = true) :
    pr P (Op.equalIn (d + 2) t (.agg (xs.map (Value.int k)).toArray) (.agg (ys.map (Value.int k)).toArray)) = some (xs == ys) := by
  unfold Op.equalIn
  rw [prb (pr_underlying hu)]
  simp only
  rw [prb pr_program]
  simp only [hp, Bool.false_eq_true, if_false]
  rw [← Array.forIn_toList]
  generalize fs.toList = fl at *
  have key : ∀ (fl : List Field) (o n : Nat), o + n = xs.length → flatInts P fl o n = true →
      pr P (forIn (m := Sem) fl ((none : Option Bool), ()) (fun f __s =>
            if f.name ≠ "_" then do
              let __do_lift ← part f.type (List.map (Value.int k) xs).toArray f.offset
              let __do_lift_1 ← part f.type (List.map (Value.int k) ys).toArray f.offset
              let __do_lift ← Op.equalIn (d + 1) f.type __do_lift __do_lift_1
              if (!__do_lift) = true then pure (ForInStep.done (some false, ())) else pure (ForInStep.yield (none, ()))
            else pure (ForInStep.yield (none, ())))) = some (if xs.drop o = ys.drop o then (none, ()) else (some false, ())) := by
    intro fl
    induction fl with
    | nil =>
      intro o n hn h
      simp only [flatInts, beq_iff_eq] at h
      rw [List.drop_of_length_le (by omega), List.drop_of_length_le (by omega), if_pos rfl]
      rfl
    | cons f fl ih =>
      intro o n hn h
      simp only [flatInts, Bool.and_eq_true, bne_iff_ne, beq_iff_eq] at h
      obtain ⟨⟨⟨⟨h1, h2⟩, h3⟩, h4⟩, h5⟩ := h
      have hox : o < xs.length := by omega
      have hoy : o < ys.length := by omega
      rw [List.forIn_cons, if_pos h1, h2]
      have px := part_int h3 (cs := (List.map (Value.int k) xs).toArray) (o := o) (v := .int k xs[o]) (by simp [hox])
      have py := part_int h3 (cs := (List.map (Value.int k) ys).toArray) (o := o) (v := .int k ys[o]) (by simp [hoy])
      have hb : pr P (do
              let __do_lift ← part f.type (List.map (Value.int k) xs).toArray o
              let __do_lift_1 ← part f.type (List.map (Value.int k) ys).toArray o
              let __do_lift ← Op.equalIn (d + 1) f.type __do_lift __do_lift_1
              if (!__do_lift) = true then pure (ForInStep.done (some false, ())) else pure (ForInStep.yield ((none : Option Bool), ()))) =
          some (if xs[o] = ys[o] then ForInStep.yield (none, ()) else ForInStep.done (some false, ())) := by
        rw [prb px, prb py, prb (equalIn_int h3 d k _ _)]
        by_cases he : xs[o] = ys[o]
        · simp [he, pr_pure]
        · simp [he, pr_pure]
      rw [prb hb, List.drop_eq_getElem_cons hox, List.drop_eq_getElem_cons hoy]
      by_cases he : xs[o] = ys[o]
      · simp only [he, if_true, List.cons.injEq, true_and]
        exact ih (o + 1) (n - 1) (by omega) h5
      · simp only [he, if_false, List.cons.injEq, false_and, pr_pure]
  have h0 := key fl 0 xs.length (by omega) hf
  rw [prb h0]
  simp only [List.drop_zero]
  by_cases he : xs = ys
  · simp [he, pr_pure]
  · simp [he, pr_pure]
/-- An array of whole numbers. -/
theorem equalIn_arr2 {t e : TypeId} (hu : P.underlying t = some (.array 2 e)) (he : intTy P e = true) (d : Nat) (k : IntKind) (a b a' b' : Int) :
    pr P (Op.equalIn (d + 2) t (.agg #[.int k a, .int k b]) (.agg #[.int k a', .int k b'])) = some (decide (a = a' ∧ b = b')) := by
  have hs : pr P (sizeOf e) = some 1 := by
    have h := he
    unfold intTy at h
    rw [Bool.and_eq_true] at h
    obtain ⟨h, _⟩ := h
    split at h
    · rename_i inf hi
      simp [sizeOf, typeInfo, program, pr, Bind.bind, Sem.bind, Pure.pure, hi]
      simpa using h
    · cases h
  unfold Op.equalIn
  rw [prb (pr_underlying hu)]
  simp only
  rw [prb hs]
  have p0 := part_int he (cs := #[.int k a, .int k b]) (o := 0) (v := .int k a) rfl
  have p1 := part_int he (cs := #[.int k a, .int k b]) (o := 1) (v := .int k b) rfl
  have p0' := part_int he (cs := #[.int k a', .int k b']) (o := 0) (v := .int k a') rfl
  have p1' := part_int he (cs := #[.int k a', .int k b']) (o := 1) (v := .int k b') rfl
  simp only [Std.Legacy.Range.forIn_eq_forIn_range', Std.Legacy.Range.size]
  rw [show List.range' 0 ((2 - 0 + 1 - 1) / 1) = [0, 1] from rfl, List.forIn_cons]
  have st : ∀ (i : Nat) (x y : Int), pr P (part e #[Value.int k a, Value.int k b] (i * 1)) = some (.int k x) → pr P (part e #[Value.int k a', Value.int k b'] (i * 1)) = some (.int k y) →
      pr P (do
            let __do_lift ← part e #[Value.int k a, Value.int k b] (i * 1)
            let __do_lift_1 ← part e #[Value.int k a', Value.int k b'] (i * 1)
            let __do_lift ← Op.equalIn (d + 1) e __do_lift __do_lift_1
            if (!__do_lift) = true then pure (ForInStep.done (some false, ())) else pure (ForInStep.yield ((none : Option Bool), ()))) =
        some (if x = y then ForInStep.yield (none, ()) else ForInStep.done (some false, ())) := by
    intro i x y px py
    rw [prb px, prb py, prb (equalIn_int he d k _ _)]
    by_cases he : x = y
    · simp [he, pr_pure]
    · simp [he, pr_pure]
  by_cases h0 : a = a'
  · by_cases h1 : b = b'
    · have hh : pr P (forIn (m := Sem) [0, 1] ((none : Option Bool), ()) (fun i __s => do
            let __do_lift ← part e #[Value.int k a, Value.int k b] (i * 1)
            let __do_lift_1 ← part e #[Value.int k a', Value.int k b'] (i * 1)
            let __do_lift ← Op.equalIn (d + 1) e __do_lift __do_lift_1
            if (!__do_lift) = true then pure (ForInStep.done (some false, ())) else pure (ForInStep.yield (none, ())))) = some (none, ()) := by
        rw [List.forIn_cons, prb (st 0 a a' p0 p0'), if_pos h0]
        simp only
        rw [List.forIn_cons, prb (st 1 b b' p1 p1'), if_pos h1]
        rfl
      rw [List.forIn_cons] at hh
      rw [prb hh]
      simp [h0, h1, pr_pure]
    · have hh : pr P (forIn (m := Sem) [0, 1] ((none : Option Bool), ()) (fun i __s => do
            let __do_lift ← part e #[Value.int k a, Value.int k b] (i * 1)
            let __do_lift_1 ← part e #[Value.int k a', Value.int k b'] (i * 1)
            let __do_lift ← Op.equalIn (d + 1) e __do_lift __do_lift_1
            if (!__do_lift) = true then pure (ForInStep.done (some false, ())) else pure (ForInStep.yield (none, ())))) = some (some false, ()) := by
        rw [List.forIn_cons, prb (st 0 a a' p0 p0'), if_pos h0]
        simp only
        rw [List.forIn_cons, prb (st 1 b b' p1 p1'), if_neg h1]
        rfl
      rw [List.forIn_cons] at hh
      rw [prb hh]
      simp [h0, h1, pr_pure]
  · have hh : pr P (forIn (m := Sem) [0, 1] ((none : Option Bool), ()) (fun i __s => do
            let __do_lift ← part e #[Value.int k a, Value.int k b] (i * 1)
            let __do_lift_1 ← part e #[Value.int k a', Value.int k b'] (i * 1)
            let __do_lift ← Op.equalIn (d + 1) e __do_lift __do_lift_1
            if (!__do_lift) = true then pure (ForInStep.done (some false, ())) else pure (ForInStep.yield (none, ())))) = some (some false, ()) := by
      rw [List.forIn_cons, prb (st 0 a a' p0 p0'), if_neg h0]
      rfl
    rw [List.forIn_cons] at hh
    rw [prb hh]
    simp [h0, pr_pure]
theorem q_neq_arr2 {t e : TypeId} (hu : P.underlying t = some (.array 2 e)) (he : intTy P e = true) (hg : P.eqGuardType P.depth t = false) (k : IntKind) (a b a' b' : Int) :
    q_eq P .neq t (.agg #[.int k a, .int k b]) (.agg #[.int k a', .int k b']) = some (.bool (!decide (a = a' ∧ b = b'))) := by
  unfold q_eq
  have hgd : pr P (eqGuard .neq t (.tmp 0) (.tmp 0) (.agg #[.int k a, .int k b]) (.agg #[.int k a', .int k b'])) = some () := by
    simp [eqGuard, hg, program, pr, Bind.bind, Sem.bind, Pure.pure]
  rw [prb hgd]
  show pr P (do pure (Value.bool (!(← Op.equalIn (9998 + 2) t _ _)))) = _
  rw [prb (equalIn_arr2 hu he 9998 k a b a' b')]
  rfl
theorem q_eq_bool {t : TypeId} (hu : P.underlying t = some .bool) (a b : Bool) : q_eq P .eql t (.bool a) (.bool b) = some (.bool (a == b)) ∧ q_eq P .neq t (.bool a) (.bool b) = some (.bool (a != b)) := by
  have h : pr P (Op.equalIn (9999 + 1) t (.bool a) (.bool b)) = some (a == b) := by
    unfold Op.equalIn
    rw [prb (pr_underlying hu)]
    rfl
  constructor
  · unfold q_eq
    rw [prb (show pr P (eqGuard .eql t (.tmp 0) (.tmp 0) (.bool a) (.bool b)) = some () from rfl)]
    show pr P (do pure (Value.bool (← Op.equalIn (9999 + 1) t _ _))) = _
    rw [prb h]
    rfl
  · unfold q_eq
    rw [prb (show pr P (eqGuard .neq t (.tmp 0) (.tmp 0) (.bool a) (.bool b)) = some () from rfl)]
    show pr P (do pure (Value.bool (!(← Op.equalIn (9999 + 1) t _ _)))) = _
    rw [prb h]
    rfl
/-- '==' and '!=' of structs of whole numbers. -/
theorem q_eq_struct {t : TypeId} {fs : Array Field} (hu : P.underlying t = some (.struct fs)) (hp : P.stoodInHeld t = false) (hg : P.eqGuardType P.depth t = false) (k : IntKind) (xs ys : List Int)
    (hl : xs.length = ys.length) (hf : flatInts P fs.toList 0 xs.length = true) :
    q_eq P .eql t (.agg (xs.map (Value.int k)).toArray) (.agg (ys.map (Value.int k)).toArray) = some (.bool (decide (xs = ys))) ∧
    q_eq P .neq t (.agg (xs.map (Value.int k)).toArray) (.agg (ys.map (Value.int k)).toArray) = some (.bool (!decide (xs = ys))) := by
  have h := equalIn_struct hu hp 9998 k xs ys hl hf
  have e : (xs == ys) = decide (xs = ys) := by by_cases h : xs = ys <;> simp [h]
  constructor
  · unfold q_eq
    have hgd : pr P (eqGuard .eql t (.tmp 0) (.tmp 0) (.agg (xs.map (Value.int k)).toArray) (.agg (ys.map (Value.int k)).toArray)) = some () := by
      simp [eqGuard, hg, program, pr, Bind.bind, Sem.bind, Pure.pure]
    rw [prb hgd]
    show pr P (do pure (Value.bool (← Op.equalIn (9998 + 2) t _ _))) = _
    rw [prb h, e]
    rfl
  · unfold q_eq
    have hgd : pr P (eqGuard .neq t (.tmp 0) (.tmp 0) (.agg (xs.map (Value.int k)).toArray) (.agg (ys.map (Value.int k)).toArray)) = some () := by
      simp [eqGuard, hg, program, pr, Bind.bind, Sem.bind, Pure.pure]
    rw [prb hgd]
    show pr P (do pure (Value.bool (!(← Op.equalIn (9998 + 2) t _ _)))) = _
    rw [prb h, e]
    rfl
/-- A pointer and nil. -/
theorem q_eq_ptr {t e : TypeId} (hu : P.underlying t = some (.pointer e)) (a : Option Addr) :
    q_eq P .eql t (.pointer a) (.pointer none) = some (.bool a.isNone) ∧ q_eq P .neq t (.pointer a) (.pointer none) = some (.bool a.isSome) := by
  have h : pr P (Op.equalIn (9999 + 1) t (.pointer a) (.pointer none)) = some a.isNone := by
    unfold Op.equalIn
    rw [prb (pr_underlying hu)]
    cases a <;> rfl
  constructor
  · unfold q_eq
    rw [prb (show pr P (eqGuard .eql t (.tmp 0) (.tmp 0) (.pointer a) (.pointer none)) = some () from rfl)]
    show pr P (do pure (Value.bool (← Op.equalIn (9999 + 1) t _ _))) = _
    rw [prb h]
    rfl
  · unfold q_eq
    rw [prb (show pr P (eqGuard .neq t (.tmp 0) (.tmp 0) (.pointer a) (.pointer none)) = some () from rfl)]
    show pr P (do pure (Value.bool (!(← Op.equalIn (9999 + 1) t _ _)))) = _
    rw [prb h]
    cases a <;> rfl
end Go.X
end
section
set_option linter.unusedVariables false
set_option linter.unusedSimpArgs false
namespace Go.X
open Go.RowKit
variable {P : Program} {α : Type} {E : Enc α} {w w' : World} {B : Nat} {v s x : Value} {l m : List α} {t e : TypeId} {bytes : Nat} {z : Value}
theorem SlT.size (T : SlT P t e E.sz bytes z) : pr P (sizeOf e) = some E.sz := by
  obtain ⟨i, hi, _, hs, _⟩ := T.info
  simp [sizeOf, typeInfo, program, pr, Bind.bind, Sem.bind, Pure.pure, hi, hs]
theorem bound_ok {k : IntKind} {i n : Nat} {c : BoundsCode} (h : i ≤ n) : pr P (Instr.sliceBound (.int k (i : Int)) n c) = some i := by
  unfold Instr.sliceBound
  rw [prb (show pr P (asIntOf (.int k (i : Int))) = some (k, (i : Int)) from rfl)]
  simp only
  rw [if_pos (by omega)]
  simp [pr_pure]
theorem q_slice_of (T : SlT P t e E.sz bytes z) {a : Option Addr} {n cap i j c : Nat} {lo hi mx : Option Value} (hb : pr P (Instr.sliceBounds true n cap lo hi mx) = some (i, j, c)) :
    q_slice P t (.slice a n cap) lo hi mx = some (.slice (if c = i then a else a.map (·.add (i * E.sz))) (j - i) (c - i)) := by
  unfold q_slice Instr.sliceAt
  rw [prb (pr_underlying T.ht)]
  simp only
  unfold Instr.slice
  rw [prb (pr_underlying T.ht)]
  simp only
  rw [prb hb]
  simp only
  rw [prb T.size]
  rfl
theorem bounds_front3 {n cap i : Nat} {k k' : IntKind} (h : i ≤ cap) : pr P (Instr.sliceBounds true n cap none (some (.int k (i : Int))) (some (.int k' (i : Int)))) = some (0, i, i) := by
  unfold Instr.sliceBounds
  simp only [if_true]
  rw [prb (bound_ok h)]
  rw [prb (bound_ok (Nat.le_refl i))]
  rfl
theorem bounds_front {n cap i : Nat} {k : IntKind} (h : i ≤ cap) : pr P (Instr.sliceBounds true n cap none (some (.int k (i : Int))) none) = some (0, i, cap) := by
  unfold Instr.sliceBounds
  simp only [if_true]
  rw [prb (show pr P (pure cap) = some cap from rfl)]
  rw [prb (bound_ok h)]
  rfl
theorem bounds_rest {n cap i : Nat} {k : IntKind} (h : i ≤ n) : pr P (Instr.sliceBounds true n cap (some (.int k (i : Int))) none none) = some (i, n, cap) := by
  unfold Instr.sliceBounds
  simp only [if_true]
  rw [prb (show pr P (pure cap) = some cap from rfl)]
  rw [prb (show pr P (pure n) = some n from rfl)]
  rw [prb (bound_ok h)]
  rfl
theorem flat_take_len (E : Enc α) (l : List α) (i : Nat) (h : i ≤ l.length) {cur : List Value} (hc : cur.take (l.length * E.sz) = E.flat l) : cur.take (i * E.sz) = E.flat (l.take i) := by
  rw [← E.flat_take, ← hc, List.take_take]
  congr 1
  have := Nat.mul_le_mul_right E.sz h
  omega
/-- s[:i:i] of a row of the call's own: it, cut, and without room. -/
theorem own_front3 (T : SlT P t e E.sz bytes z) (h : Own E e w B v l) {i : Nat} {k k' : IntKind} (hi : i ≤ l.length) :
    ∃ v', q_slice P t v none (some (.int k (i : Int))) (some (.int k' (i : Int))) = some v' ∧ Own E e w B v' (l.take i) ∧ v'.ownBlock = v.ownBlock := by
  rcases h with ⟨rfl, rfl⟩ | ⟨g, cap, cur, rfl, h1, h2, h3, h4, h5, h6⟩
  · have h0 : i = 0 := by simpa using hi
    subst h0
    refine ⟨.slice none 0 0, ?_, by simpa using Own.nil E e w B, rfl⟩
    rw [q_slice_of T (bounds_front3 (Nat.le_refl 0))]
    rfl
  · refine ⟨.slice (some ⟨g, 0, none⟩) i i, ?_, .inr ⟨g, i, cur, by rw [List.length_take, Nat.min_eq_left hi], h1, h2, by simp; omega, by omega, Nat.le_trans (Nat.mul_le_mul_right _ (by omega)) h5, ?_⟩, rfl⟩
    · rw [q_slice_of T (bounds_front3 (by omega))]
      by_cases h0 : i = 0
      · simp [h0]
      · simp [h0]
    · rw [List.length_take, Nat.min_eq_left hi]
      exact flat_take_len E l i hi h6
/-- s[:i] of a row of the call's own. -/
theorem own_front (T : SlT P t e E.sz bytes z) (h : Own E e w B v l) {i : Nat} {k : IntKind} (hi : i ≤ l.length) :
    ∃ v', q_slice P t v none (some (.int k (i : Int))) none = some v' ∧ Own E e w B v' (l.take i) ∧ v'.ownBlock = v.ownBlock := by
  rcases h with ⟨rfl, rfl⟩ | ⟨g, cap, cur, rfl, h1, h2, h3, h4, h5, h6⟩
  · have h0 : i = 0 := by simpa using hi
    subst h0
    refine ⟨.slice none 0 0, ?_, by simpa using Own.nil E e w B, rfl⟩
    rw [q_slice_of T (bounds_front (Nat.le_refl 0))]
    rfl
  · refine ⟨.slice (some ⟨g, 0, none⟩) i cap, ?_, .inr ⟨g, cap, cur, by rw [List.length_take, Nat.min_eq_left hi], h1, h2, by simp; omega, h4, h5, ?_⟩, rfl⟩
    · rw [q_slice_of T (bounds_front (by omega))]
      by_cases h0 : cap = 0
      · simp [h0]
      · simp [h0]
    · rw [List.length_take, Nat.min_eq_left hi]
      exact flat_take_len E l i hi h6
theorem addr_zero (a : Addr) : a.add 0 = a := by simp [Addr.add]
/-- s[i:] of a slice that reads. -/
theorem rd_rest (T : SlT P t e E.sz bytes z) (h : Rd E w v l) {i : Nat} {k : IntKind} (hi : i ≤ l.length) :
    ∃ v', q_slice P t v (some (.int k (i : Int))) none none = some v' ∧ Rd E w v' (l.drop i) := by
  obtain ⟨a, cap, rfl, hm, hget⟩ := h
  refine ⟨_, q_slice_of T (bounds_rest hi), _, cap - i, by rw [List.length_drop], by rw [List.length_drop]; omega, fun j hj => ?_⟩
  rw [List.length_drop] at hj
  obtain ⟨ad, ha, hc⟩ := hget (i + j) (by omega)
  subst ha
  by_cases h0 : cap = i
  · omega
  · refine ⟨_, by rw [if_neg h0]; rfl, fun p u hu => ?_⟩
    rw [Addr.add_add', show i * E.sz + (j * E.sz + p) = (i + j) * E.sz + p by rw [Nat.add_mul]; omega]
    refine hc p u ?_
    rw [List.getElem_drop] at hu
    exact hu
/-- s[:i] of a slice that reads. -/
theorem rd_front (T : SlT P t e E.sz bytes z) (h : Rd E w v l) {i : Nat} {k : IntKind} (hi : i ≤ l.length) :
    ∃ v', q_slice P t v none (some (.int k (i : Int))) none = some v' ∧ Rd E w v' (l.take i) := by
  obtain ⟨a, cap, rfl, hm, hget⟩ := h
  refine ⟨_, q_slice_of T (bounds_front (by omega)), _, cap - 0, by rw [List.length_take, Nat.min_eq_left hi]; rfl, by rw [List.length_take]; omega, fun j hj => ?_⟩
  rw [List.length_take, Nat.min_eq_left hi] at hj
  obtain ⟨ad, ha, hc⟩ := hget j (by omega)
  subst ha
  refine ⟨ad, by by_cases h0 : cap = 0 <;> simp [h0, addr_zero], fun p u hu => hc p u ?_⟩
  rw [List.getElem_take] at hu
  exact hu
theorem foldl_spl (off : Nat) : ∀ (l : List Value) (k : Nat) (cells : Array Value), (l.zipIdx k).foldl (fun cs (p : Value × Nat) => cs.setIfInBounds (off + p.2) p.1) cells = spl cells (off + k) l := by
  intro l
  induction l with
  | nil => intro k cells; rfl
  | cons v r ih =>
    intro k cells
    rw [List.zipIdx_cons, List.foldl_cons, ih, spl_cons, Nat.add_assoc]
@[simp] theorem fillC_nil {cells : Array Value} : fillC cells [] = some cells := rfl
@[simp] theorem fillC_cons {cells : Array Value} {off size : Nat} {v : Value} {rest : List (Nat × Nat × Value)} :
    fillC cells ((off, size, v) :: rest) = if v.cells.size = size ∧ off + v.cells.size ≤ cells.size then fillC (spl cells off v.cells.toList) rest else none := by
  have h := foldl_spl off v.cells.toList 0 cells
  rw [Nat.add_zero] at h
  rw [← h, fillC, ← Array.foldl_toList, Array.toList_zipIdx]
theorem q_build_eq (zero : Array Value) (ps : List (Nat × Nat × Value)) : q_build zero ps = (fillC zero ps).map .agg := by
  unfold q_build
  cases fillC zero ps <;> rfl
theorem build_of {zero cs : Array Value} {ps : List (Nat × Nat × Value)} (h : fillC zero ps = some cs) : q_build zero ps = some (.agg cs) := by
  rw [q_build_eq, h]; rfl
end Go.X
end
section
set_option linter.unusedVariables false
set_option linter.unusedSimpArgs false
namespace Go.X
open Go.RowKit
variable {P : Program} {α : Type} {E : Enc α} {w w' : World} {B : Nat}
theorem mid_take {β : Type} (C F : List β) (a n : Nat) (h : a + F.length ≤ n) (hn : n ≤ C.length) :
    (C.take a ++ F ++ C.drop (a + F.length)).take n = (C.take n).take a ++ F ++ (C.take n).drop (a + F.length) := by
  have h1 : (C.take a ++ F).length = a + F.length := by simp; omega
  rw [List.take_append, List.take_of_length_le (by rw [h1]; exact h), h1, List.take_take, Nat.min_eq_left (by omega), List.drop_take]
theorem copy_at {t t' e ty : TypeId} {bytes : Nat} {z : Value} (T : SlT P t e E.sz bytes z) {K : Value → World → Prop} {v s : Value} {k m : List α} {a : Option Addr} {o dn c : Nat}
    (hv : Own E e w B v k) (hd : dn ≠ 0 → ∃ g, v.ownBlock = some g ∧ a = some ⟨g, o * E.sz, none⟩) (ho : o + dn ≤ k.length) (hs : Rd E w s m) (hm : dn ≤ m.length)
    (hK : ∀ u w', Own E e w' B v (k.take o ++ m.take dn ++ k.drop (o + dn)) → w.grownBy w' v.ownBlock → K u w') : l_copy P #[t, t'] ty (.slice a dn c) s w K := by
  obtain ⟨i, hi, hz, hsz, hby⟩ := T.info
  unfold l_copy
  rcases Nat.eq_zero_or_pos dn with h0 | h0
  · subst h0
    obtain ⟨a', cap', hv', _⟩ := hs.slice
    have hr : (Builtin.copy_ #[t, t'] ty #[.slice a 0 c, s]).run P w = .ok (goInt 0) w := by
      rw [hv']
      cases a' <;> cases a <;> simp [Builtin.copy_, run_underlying T.ht, Builtin.lenOf, Builtin.firstCells, sizeOf, typeInfo, hi, loadCells, loadCellsFrom, storeCells]
    exact l_run_of hr (hK _ _ (by simpa using hv) ⟨rfl, rfl, rfl, Nat.le_refl _, fun _ _ _ => rfl⟩)
  · obtain ⟨g, hg, ha⟩ := hd (by omega)
    obtain ⟨ad, cap, hs', hcells⟩ := hs.cells T.h0 (by omega)
    obtain ⟨g', cap', cur, hv', hBg, hgb, hlc, hcm, hcs, htake, hget⟩ := hv.block (by omega)
    rw [hv'] at hg
    simp only [Value.ownBlock, Option.some.injEq] at hg
    subst hg
    have hlen : (E.flat (m.take dn)).length = dn * E.sz := by rw [E.flat_length, List.length_take, Nat.min_eq_left hm]
    have hfit0 : k.length * E.sz ≤ cur.size := Nat.le_trans (Nat.mul_le_mul_right _ hlc) hcs
    have hfit1 : o * E.sz + dn * E.sz ≤ k.length * E.sz := by rw [← Nat.add_mul]; exact Nat.mul_le_mul_right _ ho
    have hc' : ∀ j u, (E.flat (m.take dn))[j]? = some u → w.cell? (ad.add j) = some u := by
      intro j u hu
      rw [← E.flat_take, List.getElem?_take] at hu
      split at hu
      · exact hcells j u hu
      · cases hu
    have hload := run_loadCells_list (P := P) w ad (E.flat (m.take dn)) hc'
    have hst := run_storeCells_at P g' (o * E.sz) e (E.flat (m.take dn)) 0 cur w hgb (by rw [hlen]; omega) (E.flat_one _)
    rw [hlen] at hload
    have hmin : Nat.min m.length dn = dn := Nat.min_eq_right hm
    have hr : (Builtin.copy_ #[t, t'] ty #[.slice a dn c, s]).run P w = .ok (goInt dn) (w.setRow g' (cur.toList.take (o * E.sz) ++ E.flat (m.take dn) ++ cur.toList.drop (o * E.sz + (E.flat (m.take dn)).length)).toArray) := by
      rw [hs', ha]
      simp only [Nat.add_zero] at hst
      simp [Builtin.copy_, run_underlying T.ht, Builtin.lenOf, Builtin.firstCells, sizeOf, typeInfo, hi, hsz, hm, hload]
      simp at hst
      simp [hst]
    refine l_run_of hr (hK _ _ ?_ ⟨rfl, rfl, rfl, by simp [World.setRow], fun b hb hne => ?_⟩)
    · have hlen2 : (k.take o ++ m.take dn ++ k.drop (o + dn)).length = k.length := by simp; omega
      refine .inr ⟨g', cap', _, by rw [hlen2]; exact hv', hBg, blk_setRow.trans (by rw [if_pos rfl, hgb]), by rw [hlen2]; exact hlc, hcm, ?_, ?_⟩
      · simp only [List.size_toArray, List.length_append, List.length_take, List.length_drop, Array.length_toList, hlen]
        omega
      · rw [hlen2]
        show (cur.toList.take (o * E.sz) ++ E.flat (m.take dn) ++ cur.toList.drop (o * E.sz + (E.flat (m.take dn)).length)).take (k.length * E.sz) = _
        rw [mid_take _ _ _ _ (by rw [hlen]; exact hfit1) (by simpa using hfit0), htake, hlen, ← Nat.add_mul, E.flat_append, E.flat_append, E.flat_take, E.flat_drop]
    · refine blk_setRow.trans ?_
      rw [if_neg]
      · rfl
      intro e
      subst e
      exact hne (by rw [hv']; rfl)
/-- A slice and nil. -/
theorem q_eq_slice {t e : TypeId} (hu : P.underlying t = some (.slice e)) (a : Option Addr) (n c : Nat) :
    q_eq P .eql t (.slice a n c) (.slice none 0 0) = some (.bool a.isNone) ∧ q_eq P .neq t (.slice a n c) (.slice none 0 0) = some (.bool a.isSome) := by
  have h : pr P (Op.equalIn (9999 + 1) t (.slice a n c) (.slice none 0 0)) = some a.isNone := by
    unfold Op.equalIn
    rw [prb (pr_underlying hu)]
    cases a <;> rfl
  constructor
  · unfold q_eq
    rw [prb (show pr P (eqGuard .eql t (.tmp 0) (.tmp 0) (.slice a n c) (.slice none 0 0)) = some () from rfl)]
    show pr P (do pure (Value.bool (← Op.equalIn (9999 + 1) t _ _))) = _
    rw [prb h]
    rfl
  · unfold q_eq
    rw [prb (show pr P (eqGuard .neq t (.tmp 0) (.tmp 0) (.slice a n c) (.slice none 0 0)) = some () from rfl)]
    show pr P (do pure (Value.bool (!(← Op.equalIn (9999 + 1) t _ _)))) = _
    rw [prb h]
    cases a <;> rfl
/-- A struct type whose fields are whole numbers, n of them. -/
def intStruct (P : Program) (t : TypeId) (n : Nat) : Bool :=
  match P.underlying t with
  | some (.struct fs) => flatInts P fs.toList 0 n && !P.stoodInHeld t && !P.eqGuardType P.depth t
  | _ => false
theorem q_eq_ints {t : TypeId} {n : Nat} (h : intStruct P t n = true) (k : IntKind) (xs ys : List Int) (hx : xs.length = n) (hy : ys.length = n) :
    q_eq P .eql t (.agg (xs.map (Value.int k)).toArray) (.agg (ys.map (Value.int k)).toArray) = some (.bool (decide (xs = ys))) ∧
    q_eq P .neq t (.agg (xs.map (Value.int k)).toArray) (.agg (ys.map (Value.int k)).toArray) = some (.bool (!decide (xs = ys))) := by
  unfold intStruct at h
  split at h
  · rename_i fs hu
    simp only [Bool.and_eq_true, Bool.not_eq_true'] at h
    exact q_eq_struct hu h.1.2 h.2 k xs ys (by omega) (by rw [hx]; exact h.1.1)
  · cases h
end Go.X
end
section
set_option linter.unusedVariables false
set_option linter.unusedSimpArgs false
namespace Go.X
open Go.Proofs Go.RowKit
variable {P : Program}
inductive Sc where
  | n (i : Int)
  | s (b : ByteArray)
deriving DecidableEq
def Sc.v : Sc → Value
  | .n i => .int .i64 i
  | .s b => .string b
end Go.X
end
