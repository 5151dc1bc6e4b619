/- Maps; moves.Check; slices.Insert. -/
import Derived.Test.YtbglbbmlohfemaaGreatDoorA2
import Derived.Maps.RangeRun
import Derived.Test.YtbglbbmlohfemaaGreatDoorTr
import Derived.Test.YtbglbbmlohfemaaGreatDoorB3
import Derived.Test.YtbglbbmlohfemaaGreatDoorB7
import Derived.Shelf.Spec.SlicesInsertGrow
section
set_option linter.unusedVariables false
set_option linter.unusedSimpArgs false
set_option linter.unusedSectionVars false
namespace Go.X
open Go.RowKit
variable {P : Program} {w w' : World} {b : Nat}
theorem rrb {α β : Type} {s : Sem α} {f : α → Sem β} {a : α} (h : rr P s w = some a) : rr P (s >>= f) w = rr P (f a) w := by
  change rr P (Sem.bind s f) w = _
  induction s with
  | pure b => simp only [rr, Option.some.injEq] at h; subst h; rfl
  | load m b k ih =>
    simp only [rr, Sem.bind] at h ⊢
    cases hc : w.cell? b with
    | none => rw [hc] at h; cases h
    | some v => rw [hc] at h; simp only; exact ih v h
  | shape r k ih => simp only [rr, Sem.bind] at h ⊢; exact ih _ h
  | frozen b k ih => simp only [rr, Sem.bind] at h ⊢; exact ih _ h
  | getObj r k ih =>
    simp only [rr, Sem.bind] at h ⊢
    cases hc : w.heap[r]? with
    | none => rw [hc] at h; cases h
    | some o => rw [hc] at h; cases o <;> first | cases h | exact ih _ h
  | program k ih => simp only [rr, Sem.bind] at h ⊢; exact ih _ h
  | _ => cases h
theorem rr_getMap {es : Array MapEntry} {clock : Nat} (h : w.heap[b]? = some (.map es clock)) : rr P (getObj b) w = some (.map es clock) := by
  unfold getObj; simp only [rr, h]
theorem runb {α β : Type} {s : Sem α} {f : α → Sem β} {a : α} (h : s.run P w = .ok a w') : (s >>= f).run P w = (f a).run P w' := by
  rw [Sem.run_bind, h]; rfl
/-- What a map's key type has to offer. -/
structure KeyK {κ : Type} [DecidableEq κ] (P : Program) (kt : TypeId) (kE : κ → Value) : Prop where
  find : ∀ (k : κ) (ks : List κ) (es : List MapEntry), es.map (·.key) = ks.map kE → pr P (Instr.findKey kt (kE k) es) = some ((ks.findIdx? (fun x => decide (x = k))).bind fun i => es[i]?.map fun e => (i, e.val))
  chk : ∀ e k, pr P (Instr.checkKey e 10000 kt (kE k)) = some ()
  stay : ∀ k, pr P (Instr.keyThatStays (kE k) (kE k)) = some (kE k)
/-- Block b is a map that holds these keys and values, in the order in which they came. -/
def MapAt {κ : Type} (kE : κ → Value) (w : World) (b : Nat) (l : List (κ × Value)) : Prop :=
  ∃ es clock, w.heap[b]? = some (.map es clock) ∧ es.toList.map (fun e => (e.key, e.val)) = l.map (fun p => (kE p.1, p.2)) ∧ (es.toList.map (·.born)).Nodup ∧ ∀ e ∈ es.toList, e.born < clock
variable {κ : Type} [DecidableEq κ] {kE : κ → Value} {kt mt et : TypeId} {l : List (κ × Value)} {z : Value}
theorem MapAt.lt {l : List (κ × Value)} (h : MapAt kE w b l) : b < w.heap.size := by
  obtain ⟨es, clock, hb, _⟩ := h
  exact (Array.getElem?_eq_some_iff.1 hb).1
theorem MapAt.of {l : List (κ × Value)} (h : MapAt kE w b l) (hb : w'.heap[b]? = w.heap[b]?) : MapAt kE w' b l := by
  obtain ⟨es, clock, h1, h2⟩ := h
  exact ⟨es, clock, hb.trans h1, h2⟩
theorem MapAt.below {l : List (κ × Value)} (h : MapAt kE w b l) (hb : Below w.heap.size w w') : MapAt kE w' b l := h.of (hb.block b h.lt)
theorem MapAt.new (w : World) : MapAt kE (w.alloc (.map #[] 0)) w.heap.size [] := ⟨#[], 0, blk_alloc.trans (if_pos rfl), rfl, by simp, by simp⟩
/-- The index of a key. -/
def keyI (k : κ) (l : List (κ × Value)) : Option Nat := l.findIdx? (fun p => decide (p.1 = k))
def lookK (z : Value) (k : κ) (l : List (κ × Value)) : Value := match keyI k l with | none => z | some i => (l[i]?.map (·.2)).getD z
theorem keyI_map (k : κ) (l : List (κ × Value)) : (l.map (·.1)).findIdx? (fun x => decide (x = k)) = keyI k l := by
  unfold keyI; rw [List.findIdx?_map]; rfl
theorem find_map (K : KeyK P kt kE) {es : List MapEntry} (h : es.map (fun e => (e.key, e.val)) = l.map (fun p => (kE p.1, p.2))) (k : κ) :
    pr P (Instr.findKey kt (kE k) es) = some ((keyI k l).bind fun i => es[i]?.map fun e => (i, e.val)) := by
  have h1 : es.map (·.key) = (l.map (·.1)).map kE := by
    have := congrArg (List.map Prod.fst) h
    simpa [List.map_map, Function.comp_def] using this
  rw [K.find k _ es h1, keyI_map]
theorem val_at {es : List MapEntry} (h : es.map (fun e => (e.key, e.val)) = l.map (fun p => (kE p.1, p.2))) {i : Nat} (hi : i < l.length) : ∃ e, es[i]? = some e ∧ e.key = kE l[i].1 ∧ e.val = l[i].2 := by
  have hl : es.length = l.length := by simpa using congrArg List.length h
  have := congrArg (fun x => x[i]?) h
  simp only [List.getElem?_map, List.getElem?_eq_getElem hi, List.getElem?_eq_getElem (show i < es.length by omega), Option.map_some, Option.some.injEq, Prod.mk.injEq] at this
  exact ⟨es[i], List.getElem?_eq_getElem _, this.1, this.2⟩
theorem keyI_lt {k : κ} {i : Nat} (h : keyI k l = some i) : ∃ hi : i < l.length, l[i].1 = k := by
  unfold keyI at h
  rw [List.findIdx?_eq_some_iff_getElem] at h
  obtain ⟨hi, h1, _⟩ := h
  exact ⟨hi, by simpa using h1⟩
/-- m[k], with whether it is there. -/
theorem map_look (K : KeyK P kt kE) (ht : P.underlying mt = some (.map kt et)) (hz : pr P (zeroValue et) = some z) (h : MapAt kE w b l) (k : κ) (ok : Bool) :
    q_read P (Instr.lookup mt (.map (some b)) (kE k) ok) w = some (if ok = true then .tuple #[lookK z k l, .bool (keyI k l).isSome] else lookK z k l) := by
  obtain ⟨es, clock, hb, hm, _, _⟩ := h
  unfold q_read Instr.lookup
  rw [rrb (pr_rr (pr_underlying ht) w)]
  simp only
  rw [rrb (rr_getMap hb)]
  simp only
  rw [rrb (show rr P (pure es) w = some es from rfl)]
  rw [rrb (pr_rr (K.chk _ k) w)]
  have hf := find_map K hm k
  unfold lookK
  cases hk : keyI k l with
  | none =>
    rw [hk] at hf
    rw [rrb (pr_rr hf w)]
    simp only [Option.bind_none]
    rw [rrb (pr_rr hz w)]
    cases ok <;> rfl
  | some i =>
    obtain ⟨hi, _⟩ := keyI_lt hk
    obtain ⟨e, he, _, hv⟩ := val_at hm hi
    rw [hk] at hf
    simp only [Option.bind_some, he, Option.map_some] at hf
    rw [rrb (pr_rr hf w)]
    simp only [hv]
    simp only [List.getElem?_eq_getElem hi, Option.map_some, Option.getD_some]
    cases ok <;> rfl
theorem set_map {o : Obj} {es : Array MapEntry} {clock : Nat} (hb : w.heap[b]? = some (.map es clock)) : ∃ W, (setObj b o).run P w = .ok () W ∧ W.heap[b]? = some o ∧ w.grownBy W (some b) := by
  refine ⟨_, MapKept.run_setObj_map o hb, (MapKept.heap_set hb).1, rfl, rfl, rfl, by simp, fun k hk hne => (MapKept.heap_set (o' := o) hb).2 k (fun e => hne (by rw [e]))⟩
theorem push_ok {es : Array MapEntry} {clock : Nat} (h1 : es.toList.map (fun e => (e.key, e.val)) = l.map (fun p => (kE p.1, p.2))) (h2 : (es.toList.map (·.born)).Nodup) (h3 : ∀ e ∈ es.toList, e.born < clock) (k : κ) (v : Value) :
    (es.push ⟨kE k, v, clock⟩).toList.map (fun e => (e.key, e.val)) = (l ++ [(k, v)]).map (fun p => (kE p.1, p.2)) ∧ ((es.push ⟨kE k, v, clock⟩).toList.map (·.born)).Nodup ∧ ∀ e ∈ (es.push ⟨kE k, v, clock⟩).toList, e.born < clock + 1 := by
  simp only [Array.toList_push, List.map_append, h1, List.map_cons, List.map_nil]
  refine ⟨trivial, ?_, ?_⟩
  · rw [List.nodup_append]
    refine ⟨h2, by simp, ?_⟩
    intro a ha c hc
    obtain ⟨e, he, rfl⟩ := List.mem_map.1 ha
    have := h3 e he
    simp at hc
    omega
  · intro e he
    rcases List.mem_append.1 he with he | he
    · have := h3 e he; omega
    · simp at he; subst he; simp
/-- m[k] = v, where k is new. -/
theorem map_put (K : KeyK P kt kE) (ht : P.underlying mt = some (.map kt et)) (h : MapAt kE w b l) {k : κ} (hk : keyI k l = none) (v : Value) {Q : Value → World → Prop}
    (hQ : ∀ W, MapAt kE W b (l ++ [(k, v)]) → w.grownBy W (some b) → Q undef W) : l_runU P (Instr.mapUpdate mt (.map (some b)) (kE k) v) w Q := by
  obtain ⟨es, clock, hb, hm, hn, hc⟩ := h
  obtain ⟨W, hW, hW2, hg⟩ := set_map (P := P) (o := .map (es.push ⟨kE k, v, clock⟩) (clock + 1)) hb
  have hr : (Instr.mapUpdate mt (.map (some b)) (kE k) v).run P w = .ok () W := by
    unfold Instr.mapUpdate
    rw [runb (pr_run (pr_underlying ht) w)]
    simp only
    rw [runb (rr_run (rr_getMap hb))]
    simp only
    rw [runb (pr_run (K.chk _ k) w)]
    have hf := find_map K hm k
    rw [hk] at hf
    rw [runb (pr_run hf w)]
    exact hW
  unfold l_runU
  rw [hr]
  exact hQ W ⟨_, _, hW2, push_ok hm hn hc k v⟩ hg
/-- The value of a key, changed; or the key, appended. -/
def putK (k : κ) (v : Value) (l : List (κ × Value)) : List (κ × Value) := match keyI k l with | none => l ++ [(k, v)] | some i => l.set i (k, v)
theorem born_idx {es : List MapEntry} (hn : (es.map (·.born)).Nodup) {i : Nat} {e : MapEntry} (he : es[i]? = some e) : es.findIdx? (fun x => (x.born : Int) == (e.born : Int)) = some i := by
  obtain ⟨hi, rfl⟩ := List.getElem?_eq_some_iff.1 he
  rw [List.findIdx?_eq_some_iff_getElem]
  refine ⟨hi, by simp, fun j hj hh => ?_⟩
  have hjl : j < es.length := by omega
  have h0 : es[j].born = es[i].born := by have h9 := eq_of_beq hh; omega
  have := List.pairwise_iff_getElem.1 hn j i (by simpa using hjl) (by simpa using hi) hj
  simp at this
  exact this h0
theorem modify_same {es : Array MapEntry} {i : Nat} {e : MapEntry} {f : MapEntry → MapEntry} (he : es[i]? = some e) (hf : f e = e) : es.modify i f = es := by
  apply Array.ext_getElem?
  intro j
  rw [Array.getElem?_modify]
  split
  · rename_i h; subst h; rw [he]; simp [hf]
  · rfl
theorem map_entry (K : KeyK P kt kE) (ht : P.underlying mt = some (.map kt et)) (hz : pr P (zeroValue et) = some z) (h : MapAt kE w b l) (k : κ) {Q : Value → World → Prop}
    (hQ : ∀ W (n : Int), MapAt kE W b (match keyI k l with | none => l ++ [(k, z)] | some _ => l) → w.grownBy W (some b) →
      (∀ (v : Value) (mt' : TypeId) (Q' : Value → World → Prop), (∀ W2, MapAt kE W2 b (putK k v l) → W.grownBy W2 (some b) → Q' undef W2) → l_runU P (Instr.entryStore mt' (.map (some b)) (.int .i64 n) v) W Q') →
      Q (.tuple #[lookK z k l, .int .i64 n]) W) : l_run P (Instr.mapEntry mt (.map (some b)) (kE k)) w Q := by
  obtain ⟨es, clock, hb, hm, hn, hc⟩ := h
  have hlen : es.size = l.length := by simpa using congrArg List.length hm
  have hf := find_map K hm k
  have store : ∀ (W : World) (es' : Array MapEntry) (clock' : Nat) (i : Nat) (e : MapEntry), W.heap[b]? = some (.map es' clock') → (es'.toList.map (·.born)).Nodup → (∀ e ∈ es'.toList, e.born < clock') → es'[i]? = some e →
      ∀ (l' : List (κ × Value)), es'.toList.map (fun e => (e.key, e.val)) = l'.map (fun p => (kE p.1, p.2)) → ∀ (v : Value) (mt' : TypeId) (Q' : Value → World → Prop), (∀ W2 (hi : i < l'.length), MapAt kE W2 b (l'.set i (l'[i].1, v)) → W.grownBy W2 (some b) → Q' undef W2) →
      l_runU P (Instr.entryStore mt' (.map (some b)) (.int .i64 (e.born : Int)) v) W Q' := by
    intro W es' clock' i e hb' hn' hc' he l' hm' v mt' Q' hQ'
    have hi : i < es'.size := (Array.getElem?_eq_some_iff.1 he).1
    have hil : i < l'.length := by
      have : es'.size = l'.length := by simpa using congrArg List.length hm'
      omega
    obtain ⟨W2, hW, hW2, hg⟩ := set_map (P := P) (o := .map (es'.modify i fun e => { e with val := v }) clock') hb'
    have hidx : es'.findIdx? (fun x => (x.born : Int) == (e.born : Int)) = some i := by
      have := born_idx hn' (i := i) (e := e) (by rw [Array.getElem?_toList]; exact he)
      have e2 : es'.findIdx? (fun x => (x.born : Int) == (e.born : Int)) = es'.toList.findIdx? (fun x => (x.born : Int) == (e.born : Int)) := by cases es'; simp
      rw [e2]; exact this
    have hr : (Instr.entryStore mt' (.map (some b)) (.int .i64 (e.born : Int)) v).run P W = .ok () W2 := by
      unfold Instr.entryStore
      simp only
      rw [runb (rr_run (rr_getMap hb'))]
      simp only
      rw [runb (pr_run (show pr P (asInt (.int .i64 (e.born : Int))) = some (e.born : Int) from rfl) W)]
      simp only [hidx]
      exact hW
    unfold l_runU
    rw [hr]
    have hml : (es'.modify i fun e => { e with val := v }).toList = es'.toList.set i { e with val := v } := by
      apply List.ext_getElem?
      intro j
      rw [Array.getElem?_toList, Array.getElem?_modify, List.getElem?_set]
      by_cases hj : i = j
      · subst hj; rw [if_pos rfl, if_pos rfl, if_pos (by simpa using hi), he]; rfl
      · rw [if_neg hj, if_neg hj, Array.getElem?_toList]
    have hel : es'.toList[i]? = some e := by rw [Array.getElem?_toList]; exact he
    have hkey : e.key = kE l'[i].1 := by
      obtain ⟨e2, h1, h2, _⟩ := val_at hm' hil
      rw [hel] at h1; cases h1; exact h2
    refine hQ' W2 hil ⟨_, _, hW2, ?_, ?_, ?_⟩ hg
    · rw [hml, List.map_set, hm', List.map_set, hkey]
    · rw [hml, List.map_set]
      have : (es'.toList.map (·.born)).set i e.born = es'.toList.map (·.born) := by
        apply List.ext_getElem?
        intro j
        rw [List.getElem?_set]
        split
        · rename_i hj; subst hj; simp [he, hi, ← (Array.getElem?_eq_some_iff.1 he).2]
        · rfl
      rw [this]; exact hn'
    · intro x hx
      rw [hml] at hx
      rcases List.mem_or_eq_of_mem_set hx with hx | rfl
      · exact hc' x hx
      · exact hc' e (List.mem_of_getElem? hel)
  cases hk : keyI k l with
  | none =>
    rw [hk] at hf
    obtain ⟨W, hW, hW2, hg⟩ := set_map (P := P) (o := .map (es.push ⟨kE k, z, clock⟩) (clock + 1)) hb
    obtain ⟨p1, p2, p3⟩ := push_ok hm hn hc k z
    have hr : (Instr.mapEntry mt (.map (some b)) (kE k)).run P w = .ok (.tuple #[z, .int .i64 (clock : Int)]) W := by
      unfold Instr.mapEntry
      rw [runb (pr_run (pr_underlying ht) w)]
      simp only
      rw [runb (rr_run (rr_getMap hb))]
      simp only
      rw [runb (pr_run (K.chk _ k) w)]
      rw [runb (pr_run hf w)]
      simp only [Option.bind_none]
      rw [runb (pr_run hz w), runb hW]
      rfl
    unfold l_run
    rw [hr]
    have hlk : lookK z k l = z := by unfold lookK; rw [hk]
    simp only [hk] at hQ
    rw [hlk] at hQ
    refine hQ W clock ⟨_, _, hW2, p1, p2, p3⟩ hg (fun v mt' Q' hQ' => ?_)
    refine store W _ _ l.length ⟨kE k, z, clock⟩ hW2 p2 p3 (by rw [← hlen]; simp) _ p1 v mt' Q' (fun W2 hi hM hg2 => hQ' W2 ?_ hg2)
    unfold putK
    rw [hk]
    simpa using hM
  | some i =>
    obtain ⟨hi, hki⟩ := keyI_lt hk
    obtain ⟨e, he, hek, hev⟩ := val_at hm hi
    have hea : es[i]? = some e := by rw [← Array.getElem?_toList]; exact he
    rw [hk] at hf
    simp only [Option.bind_some, he, Option.map_some] at hf
    rw [hki] at hek
    have hsame : es.modify i (fun x => { x with key := kE k }) = es := modify_same hea (by rw [← hek])
    obtain ⟨W, hW, hW2, hg⟩ := set_map (P := P) (o := .map es clock) hb
    have hr : (Instr.mapEntry mt (.map (some b)) (kE k)).run P w = .ok (.tuple #[e.val, .int .i64 (e.born : Int)]) W := by
      unfold Instr.mapEntry
      rw [runb (pr_run (pr_underlying ht) w)]
      simp only
      rw [runb (rr_run (rr_getMap hb))]
      simp only
      rw [runb (pr_run (K.chk _ k) w)]
      rw [runb (pr_run hf w)]
      simp only [hea, Option.map_some, Option.getD_some, hek]
      rw [runb (pr_run (K.stay k) w), hsame, runb hW]
      rfl
    unfold l_run
    rw [hr]
    have hlk : lookK z k l = e.val := by unfold lookK; rw [hk]; simp [List.getElem?_eq_getElem hi, hev]
    simp only [hk] at hQ
    rw [hlk] at hQ
    refine hQ W e.born ⟨_, _, hW2, hm, hn, hc⟩ hg (fun v mt' Q' hQ' => ?_)
    refine store W _ _ i e hW2 hn hc hea _ hm v mt' Q' (fun W2 hi2 hM hg2 => hQ' W2 ?_ hg2)
    unfold putK
    rw [hk]
    rw [hki] at hM
    exact hM
/-! ### Key types -/
theorem int_key {kt : TypeId} (hk : P.underlying kt = some (.int .i64)) : KeyK (κ := Int) P kt (fun n => .int .i64 n) where
  find := by
    intro k ks es h
    unfold Instr.findKey
    rw [prb (pr_underlying hk)]
    have hf : ∀ (es : List MapEntry) (ks : List Int) (i : Nat), es.map (·.key) = ks.map (fun n => Value.int .i64 n) → Instr.findNow (.int .i64) (.int .i64 k) es i = some ((ks.findIdx? (fun x => decide (x = k))).bind fun j => es[j]?.map fun e => (i + j, e.val)) := by
      intro es
      induction es with
      | nil => intro ks i h; cases ks with
        | nil => rfl
        | cons a r => simp at h
      | cons e es ih =>
        intro ks i h
        cases ks with
        | nil => simp at h
        | cons a r =>
          simp only [List.map_cons, List.cons.injEq] at h
          unfold Instr.findNow
          rw [h.1]
          by_cases ha : k = a
          · subst ha
            simp [Instr.sameNow, List.findIdx?_cons]
          · have hb : (k == a) = false := by simpa using ha
            have ha' : ¬ a = k := fun e => ha e.symm
            simp only [Instr.sameNow, if_true, hb, List.findIdx?_cons, decide_eq_false ha', Bool.false_eq_true, if_false]
            rw [ih r (i + 1) h.2]
            congr 1
            cases r.findIdx? (fun x => decide (x = k)) with
            | none => rfl
            | some j => simp [Nat.add_assoc, Nat.add_comm 1 j]
    rw [hf es ks 0 h]
    simp [pr_pure]
  chk := by
    intro e k
    show pr P (Instr.checkKey e (9999 + 1) kt _) = _
    unfold Instr.checkKey
    rw [prb (pr_underlying hk)]
    rfl
  stay := by
    intro k
    unfold Instr.keyThatStays
    rw [if_pos (show Instr.sameBits 10000 (.int .i64 k) (.int .i64 k) = true by simp [Instr.sameBits])]
    rfl
end Go.X
end
section
set_option linter.unusedVariables false
set_option linter.unusedSimpArgs false
set_option linter.unusedSectionVars false
namespace Go.X
open Go.RowKit Go.Proofs
variable {P : Program} {w w' : World} {b r : Nat} {κ : Type} [DecidableEq κ] {kE : κ → Value} {kt mt et : TypeId}
/-- What an iterator over map b has not handed out. -/
def LeftAt (kE : κ → Value) (w : World) (r b : Nat) (rest : List (κ × Value)) : Prop :=
  ∃ es clock since seen c0, w.heap[r]? = some (.mapIter (some b) since seen c0) ∧ w.heap[b]? = some (.map es clock) ∧ (es.toList.map (·.born)).Nodup ∧ (∀ x ∈ es.toList, x.born < since) ∧ since ≤ c0 ∧ since ≤ clock ∧
    (leftOf es seen).toList.map (fun e => (e.key, e.val)) = rest.map (fun p => (kE p.1, p.2))
/-- The entry that it has handed out last. -/
def CurAt (kE : κ → Value) (w : World) (r b : Nat) (k : κ) (v : Value) : Prop :=
  ∃ (es : Array MapEntry) (clock since : Nat) (seen : Array Nat) (e : MapEntry), w.heap[r]? = some (.mapIter (some b) since (seen.push e.born) clock) ∧ w.heap[b]? = some (.map es clock) ∧ (es.toList.map (·.born)).Nodup ∧ e ∈ es.toList ∧ e.key = kE k ∧ e.val = v
def leftN (w : World) (r b : Nat) : Nat := match w.heap[r]?, w.heap[b]? with | some (.mapIter _ _ seen _), some (.map es _) => (leftOf es seen).size | _, _ => 0
theorem LeftAt.num {rest : List (κ × Value)} (h : LeftAt kE w r b rest) : leftN w r b = rest.length := by
  obtain ⟨es, clock, since, seen, c0, h1, h2, _, _, _, _, h6⟩ := h
  unfold leftN
  rw [h1, h2]
  simpa using congrArg List.length h6
theorem LeftAt.of {rest : List (κ × Value)} (h : LeftAt kE w r b rest) (h1 : w'.heap[r]? = w.heap[r]?) (h2 : w'.heap[b]? = w.heap[b]?) : LeftAt kE w' r b rest := by
  obtain ⟨es, clock, since, seen, c0, e1, e2, h⟩ := h
  exact ⟨es, clock, since, seen, c0, h1.trans e1, h2.trans e2, h⟩
theorem LeftAt.lt {rest : List (κ × Value)} (h : LeftAt kE w r b rest) : r < w.heap.size ∧ b < w.heap.size := by
  obtain ⟨es, clock, since, seen, c0, e1, e2, h⟩ := h
  exact ⟨(Array.getElem?_eq_some_iff.1 e1).1, (Array.getElem?_eq_some_iff.1 e2).1⟩
theorem map_range {l : List (κ × Value)} (ht : P.underlying mt = some (.map kt et)) (h : MapAt kE w b l) {Q : Value → World → Prop}
    (hQ : ∀ W, LeftAt kE W w.heap.size b l → MapAt kE W b l → Below w.heap.size w W → W.heap.size = w.heap.size + 1 → Q (.pointer (some ⟨w.heap.size, 0, none⟩)) W) : l_run P (Instr.range mt (.map (some b))) w Q := by
  have hlt := h.lt
  obtain ⟨es, clock, hb, hm, hn, hc⟩ := h
  unfold l_run
  rw [run_range_map w mt kt et b es clock ht hb]
  have hbl : Below w.heap.size w (w.alloc (.mapIter (some b) clock #[] clock)) := (Below.refl _ _).alloc (Nat.le_refl _) _
  have hb2 : (w.alloc (.mapIter (some b) clock #[] clock)).heap[b]? = some (.map es clock) := (hbl.block b hlt).trans hb
  refine hQ _ ⟨es, clock, clock, #[], clock, blk_alloc.trans (if_pos rfl), hb2, hn, hc, Nat.le_refl _, Nat.le_refl _, ?_⟩ ⟨es, clock, hb2, hm, hn, hc⟩ hbl (by simp)
  rw [← hm]
  have e : leftOf es #[] = es := by unfold leftOf; rw [Array.filter_eq_self]; intro x _; simp
  rw [e]
theorem filter_erase {e : MapEntry} : ∀ (L : List MapEntry) (i : Nat) (hi : i < L.length), L[i] = e → (L.map (·.born)).Nodup → L.filter (fun x => !(x.born == e.born)) = L.eraseIdx i := by
  intro L
  induction L with
  | nil => intro i hi; simp at hi
  | cons a t ih =>
    intro i hi hie hnd
    simp only [List.map_cons, List.nodup_cons] at hnd
    cases i with
    | zero =>
      simp only [List.getElem_cons_zero] at hie
      subst hie
      simp only [List.eraseIdx_cons_zero, List.filter_cons, beq_self_eq_true, Bool.not_true, Bool.false_eq_true, if_false]
      rw [List.filter_eq_self]
      intro x hx
      have : x.born ≠ a.born := fun h => hnd.1 (by rw [← h]; exact List.mem_map_of_mem hx)
      simpa using this
    | succ i =>
      simp only [List.getElem_cons_succ] at hie
      have hae : ¬ a.born = e.born := fun h => hnd.1 (by rw [h, ← hie]; exact List.mem_map_of_mem (List.getElem_mem _))
      simp only [List.eraseIdx_cons_succ, List.filter_cons]
      rw [if_pos (by simpa using hae), ih i (by simpa using hi) hie hnd.2]
theorem map_erase {α β : Type} (f : α → β) : ∀ (L : List α) (i : Nat), (L.eraseIdx i).map f = (L.map f).eraseIdx i := by
  intro L
  induction L with
  | nil => intro i; rfl
  | cons a t ih => intro i; cases i with
    | zero => rfl
    | succ i => simp only [List.eraseIdx_cons_succ, List.map_cons, ih]
theorem map_next {rest : List (κ × Value)} {ty : TypeId} (h : LeftAt kE w r b rest) {Q : Value → World → Prop}
    (hnil : rest = [] → Q (.tuple #[.bool false]) w)
    (hcons : ∀ W k v rest', (∀ p, p ∈ rest ↔ p = (k, v) ∨ p ∈ rest') → rest'.length < rest.length → LeftAt kE W r b rest' → CurAt kE W r b k v → w.grownBy W (some r) → Q (.tuple #[.bool true, kE k, v]) W) : l_run P (Instr.next (.pointer (some ⟨r, 0, none⟩)) false ty) w Q := by
  obtain ⟨es, clock, since, seen, c0, h1, h2, hn, hold, hsc, hcl, hm⟩ := h
  have hlen : (leftOf es seen).size = rest.length := by simpa using congrArg List.length hm
  unfold l_run
  rcases run_next_at (P := P) w ty r b since c0 seen es clock h1 h2 hold hsc with ⟨h0, hr⟩ | ⟨e, he, w1, hw1, hr⟩
  · rw [hr]
    exact hnil (List.eq_nil_of_length_eq_zero (by omega))
  · rw [hr]
    obtain ⟨i, hi, hie⟩ := List.getElem_of_mem he
    have hi' : i < rest.length := by simpa [← hlen] using hi
    have hat := congrArg (fun x => x[i]?) hm
    simp only [List.getElem?_map, List.getElem?_eq_getElem hi, List.getElem?_eq_getElem hi', Option.map_some, Option.some.injEq, Prod.mk.injEq] at hat
    rw [hie] at hat
    have hee := (mem_left he).1
    have hheap : w1.heap = w.heap := by rcases hw1 with rfl | rfl <;> rfl
    have hr0 : (ChangeMaps.setBlock w1 r (.mapIter (some b) since (seen.push e.born) clock)).heap[r]? = some (.mapIter (some b) since (seen.push e.born) clock) := by
      have := (Array.getElem?_eq_some_iff.1 h1).1
      simp [ChangeMaps.setBlock, hheap, this]
    have hne : r ≠ b := by rintro rfl; rw [h1] at h2; cases h2
    have hb0 : (ChangeMaps.setBlock w1 r (.mapIter (some b) since (seen.push e.born) clock)).heap[b]? = some (.map es clock) := by
      simp only [ChangeMaps.setBlock, hheap]
      rw [Array.getElem?_setIfInBounds, if_neg hne]; exact h2
    rw [hat.1, hat.2]
    -- what is left
    have hfil : (leftOf es (seen.push e.born)).toList = (leftOf es seen).toList.filter (fun x => !(x.born == e.born)) := by
      simp only [leftOf, Array.toList_filter, List.filter_filter]
      apply List.filter_congr
      intro x _
      rw [contains_push]
      cases seen.contains x.born <;> cases (x.born == e.born) <;> rfl
    refine hcons _ rest[i].1 rest[i].2 (rest.eraseIdx i) ?_ ?_ ⟨es, clock, since, seen.push e.born, clock, hr0, hb0, hn, hold, hcl, hcl, ?_⟩ ⟨es, clock, since, seen, e, hr0, hb0, hn, hee, hat.1, hat.2⟩ ?_
    · intro p
      rw [List.mem_eraseIdx_iff_getElem]
      constructor
      · intro hp
        obtain ⟨j, hj, rfl⟩ := List.getElem_of_mem hp
        by_cases hji : j = i
        · subst hji; exact .inl rfl
        · exact .inr ⟨j, hj, hji, rfl⟩
      · rintro (rfl | ⟨j, hj, _, rfl⟩)
        · exact List.getElem_mem hi'
        · exact List.getElem_mem hj
    · rw [List.length_eraseIdx_of_lt hi']; omega
    · have hnd : ((leftOf es seen).toList.map (·.born)).Nodup := by
        have : (leftOf es seen).toList.Sublist es.toList := by simp only [leftOf, Array.toList_filter]; exact List.filter_sublist
        exact List.Sublist.nodup (this.map _) hn
      rw [hfil, filter_erase _ i hi hie hnd, map_erase, map_erase, hm]
    · refine ⟨?_, ?_, ?_, ?_, fun k hk hkr => ?_⟩
      · rcases hw1 with rfl | rfl <;> rfl
      · rcases hw1 with rfl | rfl <;> rfl
      · rcases hw1 with rfl | rfl <;> rfl
      · simp [ChangeMaps.setBlock, hheap]
      · simp only [ChangeMaps.setBlock, hheap]
        rw [Array.getElem?_setIfInBounds, if_neg (fun e => hkr (by rw [e]))]
theorem map_cur {k : κ} {v : Value} (h : CurAt kE w r b k v) : q_read P (Instr.entry (.pointer (some ⟨r, 0, none⟩))) w = some (.tuple #[kE k, v]) := by
  obtain ⟨es, clock, since, seen, e, h1, h2, hn, he, hk, hv⟩ := h
  have hf : es.find? (·.born == e.born) = some e := by rw [← Array.find?_toList]; exact find_born e es.toList hn he
  unfold q_read Instr.entry
  simp only
  rw [rrb (show rr P (getObj r) w = some (.mapIter (some b) since (seen.push e.born) clock) by unfold getObj; simp only [rr, h1])]
  simp only [Array.back?_push]
  rw [rrb (rr_getMap h2)]
  simp only [bne_self_eq_false, Bool.false_eq_true, if_false, hf]
  rw [← hk, ← hv]
  rfl
/-! ### Pairs of whole numbers as keys -/
def pairV (p : Int × Int) : Value := .agg #[.int .i64 p.1, .int .i64 p.2]
theorem pair_key {kt : TypeId} {fs : Array Field} (hu : P.underlying kt = some (.struct fs)) (hp : P.stoodInHeld kt = false) (hf : flatInts P fs.toList 0 2 = true) (hc : ∀ e (a b : Int), pr P (Instr.checkKey e 10000 kt (.agg #[.int .i64 a, .int .i64 b])) = some ()) : KeyK (κ := Int × Int) P kt pairV where
  find := by
    intro k ks es h
    have heq : ∀ a : Int × Int, pr P (Op.equal kt (pairV k) (pairV a)) = some (decide (a = k)) := by
      intro a
      have := equalIn_struct hu hp 9998 .i64 [k.1, k.2] [a.1, a.2] rfl hf
      have e : ([k.1, k.2] == [a.1, a.2]) = decide (a = k) := by
        by_cases h : a = k
        · subst h; simp
        · have h' : ¬ (k.1 = a.1 ∧ k.2 = a.2) := fun hh => h (Prod.ext hh.1.symm hh.2.symm)
          rw [decide_eq_false h]
          simpa using h'
      rw [e] at this
      exact this
    have hfa : ∀ (es : List MapEntry) (ks : List (Int × Int)) (i : Nat), es.map (·.key) = ks.map pairV → pr P (Instr.findAsking kt (pairV k) es i) = some ((ks.findIdx? (fun x => decide (x = k))).bind fun j => es[j]?.map fun e => (i + j, e.val)) := by
      intro es
      induction es with
      | nil => intro ks i h; cases ks with
        | nil => rfl
        | cons a r => simp at h
      | cons e es ih =>
        intro ks i h
        cases ks with
        | nil => simp at h
        | cons a r =>
          simp only [List.map_cons, List.cons.injEq] at h
          unfold Instr.findAsking
          rw [h.1, prb (heq a)]
          by_cases ha : a = k
          · subst ha
            simp [List.findIdx?_cons, pr_pure]
          · simp only [decide_eq_false ha, Bool.false_eq_true, if_false, List.findIdx?_cons]
            rw [ih r (i + 1) h.2]
            congr 1
            cases r.findIdx? (fun x => decide (x = k)) with
            | none => rfl
            | some j => simp [Nat.add_assoc, Nat.add_comm 1 j]
    unfold Instr.findKey
    rw [prb (pr_underlying hu)]
    cases es with
    | nil =>
      cases ks with
      | nil => rfl
      | cons a r => simp at h
    | cons e es =>
      have : Instr.findNow (.struct fs) (pairV k) (e :: es) 0 = none := by unfold Instr.findNow; rfl
      rw [this]
      simp only
      rw [hfa _ _ 0 h]
      simp
  chk := fun e k => hc e k.1 k.2
  stay := by
    intro k
    unfold Instr.keyThatStays
    rw [if_pos (show Instr.sameBits (9998 + 1 + 1) (pairV k) (pairV k) = true by simp [Instr.sameBits, pairV])]
    rfl
theorem key205 : KeyK (κ := Int × Int) Tryz.prog 205 pairV := by
  have hf : (match Tryz.prog.underlying 205 with | some (.struct fs) => flatInts Tryz.prog fs.toList 0 2 | _ => false) = true := by kernel_rfl
  split at hf
  · rename_i fs hu
    exact pair_key hu (by kernel_rfl) hf (fun e a b => by kernel_rfl)
  · cases hf
theorem key3 : KeyK (κ := Int) Tryz.prog 3 (fun n => .int .i64 n) := int_key (by kernel_rfl)
theorem ty169 : Tryz.prog.underlying 169 = some (.map 205 3) := by kernel_rfl
theorem ty143 : Tryz.prog.underlying 143 = some (.map 3 43) := by kernel_rfl
theorem zero3 : pr Tryz.prog (zeroValue 3) = some (.int .i64 0) := by kernel_rfl
theorem zero43 : pr Tryz.prog (zeroValue 43) = some (.agg #[.int .i64 0, .int .i64 0, .int .i64 0, .int .i64 0]) := by kernel_rfl
end Go.X
end
section
set_option linter.unusedVariables false
set_option linter.unusedSimpArgs false
namespace Go.X
open Go.Proofs Go.RowKit
theorem small_bytes {n bytes : Nat} (h : n ≤ 1000000) (hb : bytes ≤ 100) : n * bytes ≤ 140737488355328 := by
  have : n * bytes ≤ 1000000 * 100 := Nat.mul_le_mul h hb
  omega
set_option maxRecDepth 20000 in
/-- slices.Clone. -/
theorem clone_gen {α : Type} {E : Enc α} {t e : TypeId} {bytes : Nat} {z v : Value} {l : List α} {w : World} (T : SlT Tryz.prog t e E.sz bytes z) (hby : bytes ≤ 100) (h : Rd E w v l) (hn : l.length ≤ 1000000) {K : Value → World → Prop}
    (hK : ∀ w' v', Own E e w' w.heap.size v' l → Below w.heap.size w w' → K v' w') :
    onSome (q_eq Tryz.prog .eql t v (.slice none 0 0)) fun t4 => xif t4 (K (.slice none 0 0) w) (l_lit e 0 #[] [] w fun t5 W1 => l_append Tryz.prog #[t, t] t t5 v W1 fun t7 W2 => K t7 W2) := by
  have hr := h
  obtain ⟨a, cap, hv, hm, hget⟩ := h
  have eq0 := (q_eq_slice (P := Tryz.prog) T.ht a l.length cap).1
  rw [hv, eq0, onSome_some]
  cases a with
  | none =>
    have hl : l = [] := by
      cases l with
      | nil => rfl
      | cons y r => obtain ⟨ad, ha, _⟩ := hget 0 (by simp); cases ha
    subst hl
    simp only [Option.isNone_none, xif_true]
    exact hK _ _ (Own.nil _ _ _ _) (Below.refl _ _)
  | some ad =>
    simp only [Option.isNone_some, xif_false]
    unfold l_lit
    simp only [fillC_nil, onSome_some]
    have ho : Own E e (w.alloc (.cells #[] e)) w.heap.size (.slice (some ⟨w.heap.size, 0, none⟩) 0 0) [] :=
      .inr ⟨w.heap.size, 0, #[], rfl, Nat.le_refl _, by simp, Nat.le_refl _, by decide, by simp, by simp [Enc.flat]⟩
    have hb := (Below.refl w.heap.size w).alloc (Nat.le_refl _) (.cells #[] e)
    have hr := hr.below hb
    rw [hv] at hr
    refine append_ok T ho hr hb.size (small_bytes (by simpa using hn) hby) (small_max (by simpa using hn)) (fun v' w2 ho2 hg2 _ => ?_)
    exact hK _ _ (by simpa using ho2) (hb.grown hg2 hb.size (fun k hk => by simp only [Value.ownBlock, Option.some.injEq] at hk; omega))
def IntE : Enc Int := { sz := 1, cells := fun n => [.int .i64 n], len := fun _ => rfl, one := by intro a v hv; simp at hv; subst hv; rfl }
theorem intSl : SlT Tryz.prog 60 3 1 8 (.int .i64 0) := ⟨by kernel_rfl, by kernel_rfl, rfl, by decide⟩
variable {w w' : World} {B : Nat}
theorem clone_mv {v : Value} {l : List Mv} (h : Rd MvE w v l) (hn : l.length ≤ 1000000) {K : Value → World → Prop}
    (hK : ∀ w' v', Own MvE 47 w' w.heap.size v' l → Below w.heap.size w w' → K v' w') : Ret Tryz.prog 86 [v] w K :=
  lift86 (clone_gen (E := MvE) mvSl (by decide) h hn hK)
theorem clone_int {v : Value} {l : List Int} (h : Rd IntE w v l) (hn : l.length ≤ 1000000) {K : Value → World → Prop}
    (hK : ∀ w' v', Own IntE 3 w' w.heap.size v' l → Below w.heap.size w w' → K v' w') : Ret Tryz.prog 90 [v] w K :=
  lift90 (clone_gen (E := IntE) intSl (by decide) h hn hK)
/-- A kept state, its rows as addresses. -/
structure Kp where
  qty : Int
  value : Int
  price : Int
  la : Option Addr
  ln : Nat
  lc : Nat
  pa : Option Addr
  pn : Nat
  pc : Nat
def Kp.lv (k : Kp) : Value := .slice k.la k.ln k.lc
def Kp.pv (k : Kp) : Value := .slice k.pa k.pn k.pc
def KpE : Enc Kp := { sz := 5, cells := fun k => [.int .i64 k.qty, .int .i64 k.value, .int .i64 k.price, k.lv, k.pv], len := fun _ => rfl, one := by intro a v hv; simp at hv; rcases hv with rfl | rfl | rfl | rfl | rfl <;> rfl }
theorem kpSl : SlT Tryz.prog 107 28 5 72 (.agg #[.int .i64 0, .int .i64 0, .int .i64 0, .slice none 0 0, .slice none 0 0]) := ⟨by kernel_rfl, by kernel_rfl, rfl, by decide⟩
theorem clone_kp {v : Value} {l : List Kp} (h : Rd KpE w v l) (hn : l.length ≤ 1000000) {K : Value → World → Prop}
    (hK : ∀ w' v', Own KpE 28 w' w.heap.size v' l → Below w.heap.size w w' → K v' w') : Ret Tryz.prog 142 [v] w K :=
  lift142 (clone_gen (E := KpE) kpSl (by decide) h hn hK)
set_option maxRecDepth 20000 in
theorem app_mv {K : Value → World → Prop} {v x : Value} {l m : List Mv} (hs : Own MvE 47 w B v l) (hx : Rd MvE w x m) (hB : B ≤ w.heap.size) (hn : l.length + m.length ≤ 1000000)
    (hK : ∀ v' w', Own MvE 47 w' B v' (l ++ m) → w.grownBy w' v.ownBlock → K v' w') : l_append Tryz.prog #[22, 22] 22 v x w K :=
  append_ok (E := MvE) mvSl hs hx hB (small_bytes hn (by decide)) (small_max hn) (fun v' w' h1 h2 _ => hK v' w' h1 h2)
attribute [local irreducible] l_append l_copy l_make l_run l_runU q_slice q_eq q_index q_build onSome l_lit q_read
/-! ### moves.Check -/
abbrev Bk := List ((Int × Int) × Value)
def Mv.zero : Mv := ⟨0, 0, ⟨#[]⟩, 0, 0, 0, ⟨#[]⟩, 0⟩
/-- What was returned of a movement before, and now. -/
def backN (σ : Bk) (m : Mv) : Int := IntKind.i64.wrap (intOf (lookK (.int .i64 0) (m.kind, m.ref) σ) + m.qty)
def referV (earlier : List Mv) (m : Mv) (σ : Bk) : Int × Bk :=
  if (earlier.length : Int) < m.ref then (28, σ) else
  let x := (earlier[(m.ref - 1).toNat]?).getD Mv.zero
  if x.item ≠ m.item ∨ x.kind ≠ (if m.kind = 3 then 2 else 1) then (28, σ) else
  if m.value < x.value then (17, σ) else
  if x.qty < backN σ m then (21, putK (m.kind, m.ref) (.int .i64 (backN σ m)) σ) else (0, putK (m.kind, m.ref) (.int .i64 (backN σ m)) σ)
def BkOk (σ : Bk) : Prop := ∀ p ∈ σ, ∃ n, p.2 = .int .i64 n
theorem BkOk.put {σ : Bk} (h : BkOk σ) (k : Int × Int) (n : Int) : BkOk (putK k (.int .i64 n) σ) := by
  unfold putK
  split
  · exact mem_add_ok h ⟨n, rfl⟩
  · exact mem_set_ok h ⟨n, rfl⟩
theorem BkOk.look {σ : Bk} (h : BkOk σ) (k : Int × Int) : ∃ n, lookK (.int .i64 0) k σ = .int .i64 n := by
  unfold lookK
  split
  · exact ⟨0, rfl⟩
  · rename_i i hi
    obtain ⟨hlt, _⟩ := keyI_lt hi
    obtain ⟨n, hn⟩ := h σ[i] (List.getElem_mem hlt)
    exact ⟨n, by simp [List.getElem?_eq_getElem hlt, hn]⟩
theorem put_look (k : Int × Int) (v z : Value) (σ : Bk) : lookK z k (putK k v σ) = v := by
  unfold putK
  cases hk : keyI k σ with
  | none =>
    unfold lookK
    have : keyI k (σ ++ [(k, v)]) = some σ.length := by
      unfold keyI at hk ⊢
      rw [List.findIdx?_append, hk]
      simp
    rw [this]; simp
  | some i =>
    obtain ⟨hlt, hki⟩ := keyI_lt hk
    unfold lookK
    have : keyI k (σ.set i (k, v)) = some i := by
      unfold keyI at hk ⊢
      rw [List.findIdx?_eq_some_iff_getElem] at hk ⊢
      obtain ⟨h1, h2, h3⟩ := hk
      refine ⟨by simpa using h1, by simp, fun j hj => ?_⟩
      rw [List.getElem_set_ne (by omega)]
      exact h3 j hj
    rw [this]; simp [hlt]
theorem target_ok {k : Int} : Calc 186 [.int .i64 k] w (.int .i64 (if k = 3 then 2 else 1)) := by
  intro K hK
  refine lift186 ?_
  unfold L186
  have h := hK _ (Below.refl _ w)
  by_cases h1 : k = 3 <;> simp [h1] at h ⊢ <;> exact h
theorem refer_ok {v : Value} {l : List Mv} {m : Mv} {b : Nat} {σ : Bk} (hv : Rd MvE w v l) (hM : MapAt pairV w b σ) (hσ : BkOk σ) (hr : 1 ≤ m.ref) (hri : I64 m.ref) {K : Value → World → Prop}
    (hK : ∀ w', MapAt pairV w' b (referV l m σ).2 → BkOk (referV l m σ).2 → w.grownBy w' (some b) → K (.int .i64 (referV l m σ).1) w') : Ret Tryz.prog 137 [v, m.v, .map (some b)] w K := by
  refine lift137 ?_
  unfold L137
  have hbw := hM.lt
  have hb0 := (Below.refl w.heap.size w).alloc (Nat.le_refl _) (Obj.cells m.v.cells 47)
  have hk0 : blk (w.alloc (Obj.cells m.v.cells 47)) w.heap.size = some (.cells m.v.cells 47 (0, 0)) := by simp
  have hs0 : (w.alloc (Obj.cells m.v.cells 47)).heap.size = w.heap.size + 1 := by simp
  simp only [l_new]
  generalize w.alloc (Obj.cells m.v.cells 47) = w0 at *
  have toG : ∀ {W}, Below w.heap.size w W → w.grownBy W (some b) := fun h => ⟨h.os, h.tape, h.output, h.size, fun k hk _ => h.block k hk⟩
  simp [hk0, (hv.below hb0).len]
  unfold referV at hK
  refine xif_dec (fun h => ?_) (fun h => ?_)
  · rw [if_pos h] at hK
    exact hK _ (hM.below hb0) hσ (toG hb0)
  rw [if_neg h] at hK
  have e1 : IntKind.i64.wrap (m.ref - 1) = (((m.ref - 1).toNat : Nat) : Int) := by have := hri.2; rw [wrap_i64 (by omega) (by omega)]; omega
  have hi : (m.ref - 1).toNat < l.length := by omega
  obtain ⟨ad, hq, hload, _⟩ := mvElem (hv.below hb0) hi
  rw [e1, hq, onSome_some, hload, onSome_some]
  simp only [List.getElem?_eq_getElem hi, Option.getD_some] at hK
  generalize l[(m.ref - 1).toNat] = x at *
  have a1 : ¬ w.heap.size = w0.heap.size := by omega
  have a2 : ¬ w0.heap.size = w.heap.size := by omega
  have hk1 : blk (w0.alloc (Obj.cells #[.int .i64 0, .int .i64 0, .string ⟨#[]⟩, .int .i64 0, .int .i64 0, .int .i64 0, .string ⟨#[]⟩, .int .i64 0] 47)) w0.heap.size = some (.cells #[.int .i64 0, .int .i64 0, .string ⟨#[]⟩, .int .i64 0, .int .i64 0, .int .i64 0, .string ⟨#[]⟩, .int .i64 0] 47 (0, 0)) := by simp
  rw [l_store_to (by rw [hk1]; simp)]
  have hb1 := below_putL (hb0.alloc hb0.size (Obj.cells #[.int .i64 0, .int .i64 0, .string ⟨#[]⟩, .int .i64 0, .int .i64 0, .int .i64 0, .string ⟨#[]⟩, .int .i64 0] 47)) hb0.size x.v.cells.toList 0
  have hkx : blk (X.putL (w0.alloc (Obj.cells #[.int .i64 0, .int .i64 0, .string ⟨#[]⟩, .int .i64 0, .int .i64 0, .int .i64 0, .string ⟨#[]⟩, .int .i64 0] 47)) w0.heap.size 0 x.v.cells.toList) w0.heap.size = some (.cells x.v.cells 47 (0, 0)) := by
    simp
  have hkm : blk (X.putL (w0.alloc (Obj.cells #[.int .i64 0, .int .i64 0, .string ⟨#[]⟩, .int .i64 0, .int .i64 0, .int .i64 0, .string ⟨#[]⟩, .int .i64 0] 47)) w0.heap.size 0 x.v.cells.toList) w.heap.size = some (.cells m.v.cells 47 (0, 0)) := by
    simp [a1, a2, hk0]
  have hs1 : (X.putL (w0.alloc (Obj.cells #[.int .i64 0, .int .i64 0, .string ⟨#[]⟩, .int .i64 0, .int .i64 0, .int .i64 0, .string ⟨#[]⟩, .int .i64 0] 47)) w0.heap.size 0 x.v.cells.toList).heap.size = w0.heap.size + 1 := by simp
  generalize X.putL (w0.alloc (Obj.cells #[.int .i64 0, .int .i64 0, .string ⟨#[]⟩, .int .i64 0, .int .i64 0, .int .i64 0, .string ⟨#[]⟩, .int .i64 0] 47)) w0.heap.size 0 x.v.cells.toList = W3 at *
  -- behind the comparison of items and kinds
  have rest : ∀ W4, Below w.heap.size w W4 → blk W4 w0.heap.size = some (.cells x.v.cells 47 (0, 0)) → blk W4 w.heap.size = some (.cells m.v.cells 47 (0, 0)) → x.item = m.item → x.kind = (if m.kind = 3 then 2 else 1) →
      (onSome (q_load1 (.pointer (some ⟨w.heap.size, 1, none⟩)) W4) fun t34 => onSome (q_load1 (.pointer (some ⟨w0.heap.size, 1, none⟩)) W4) fun t36 => onSome (q_bin .lss t34 t36) fun t37 => xif t37 (K (.int .i64 17) W4)
        (onSome (q_load1 (.pointer (some ⟨w.heap.size, 3, none⟩)) W4) fun t39 => onSome (q_load1 (.pointer (some ⟨w.heap.size, 7, none⟩)) W4) fun t41 => onSome (q_build #[.int .i64 0, .int .i64 0] [(0, 1, t39), (1, 1, t41)]) fun t42 =>
         l_store 2 (.pointer (some ⟨W4.heap.size, 0, none⟩)) t42 (W4.alloc (.cells #[.int .i64 0, .int .i64 0] 205)) fun _ W6 =>
         onSome (q_loadn 2 (.pointer (some ⟨W4.heap.size, 0, none⟩)) W6.drew) fun t44 =>
         onSome (q_read Tryz.prog (Instr.lookup 169 (.map (some b)) t44 false) W6.drew) fun t45 =>
         onSome (q_load1 (.pointer (some ⟨w.heap.size, 4, none⟩)) W6.drew) fun t47 =>
         onSome (q_bin .add t45 t47) fun t48 =>
         l_run Tryz.prog (Instr.mapEntry 169 (.map (some b)) t44) W6.drew fun t49 W7 =>
         ob (q_read Tryz.prog (Instr.lookup 169 (.map (some b)) t44 false) W7 = some t45) (
         onSome (q_extract t49 1) fun t50 =>
         l_runU Tryz.prog (Instr.entryStore 169 (.map (some b)) t50 t48) W7 fun _ W8 =>
         onSome (q_loadn 2 (.pointer (some ⟨W4.heap.size, 0, none⟩)) W8.drew) fun t52 =>
         onSome (q_read Tryz.prog (Instr.lookup 169 (.map (some b)) t52 false) W8.drew) fun t53 =>
         onSome (q_load1 (.pointer (some ⟨w0.heap.size, 4, none⟩)) W8.drew) fun t55 =>
         onSome (q_bin .gtr t53 t55) fun t56 => xif t56 (K (.int .i64 21) W8.drew) (K (.int .i64 0) W8.drew)))) := by
    intro W4 hb4 hx4 hm4 hit hki
    rw [if_neg (by rw [not_or]; exact ⟨fun h => h hit, fun h => h hki⟩)] at hK
    simp [hx4, hm4]
    refine xif_dec (fun h17 => ?_) (fun h17 => ?_)
    · rw [if_pos h17] at hK
      exact hK _ (hM.below hb4) hσ (toG hb4)
    rw [if_neg h17] at hK
    rw [build_of (cs := #[.int .i64 m.kind, .int .i64 m.ref]) (by simp), onSome_some]
    have hg4 := hb4.size
    have b4 : b < W4.heap.size := by omega
    have x4 := lt_of_blk hx4
    have m4 := lt_of_blk hm4
    have n1 : ¬ W4.heap.size = w0.heap.size := by omega
    have n2 : ¬ W4.heap.size = w.heap.size := by omega
    have n3 : ¬ w.heap.size = W4.heap.size := by omega
    have n4 : ¬ w0.heap.size = W4.heap.size := by omega
    simp [n1, n2, n3, n4, hm4]
    have hb6 := below_putL (hb4.alloc hb4.size (.cells #[.int .i64 0, .int .i64 0] 205)) hb4.size [.int .i64 m.kind, .int .i64 m.ref] 0
    have hk6 : blk (X.putL (W4.alloc (.cells #[.int .i64 0, .int .i64 0] 205)) W4.heap.size 0 [.int .i64 m.kind, .int .i64 m.ref]) W4.heap.size = some (.cells #[.int .i64 m.kind, .int .i64 m.ref] 205 (0, 0)) := by simp
    have hx6 : blk (X.putL (W4.alloc (.cells #[.int .i64 0, .int .i64 0] 205)) W4.heap.size 0 [.int .i64 m.kind, .int .i64 m.ref]) w0.heap.size = some (.cells x.v.cells 47 (0, 0)) := by simp [n1, n4, hx4]
    generalize X.putL (W4.alloc (.cells #[.int .i64 0, .int .i64 0] 205)) W4.heap.size 0 [.int .i64 m.kind, .int .i64 m.ref] = W6 at *
    have hM6 := hM.below hb6
    obtain ⟨n, hn⟩ := hσ.look (m.kind, m.ref)
    have hMd : MapAt pairV W6.drew b σ := hM6.of rfl
    have hlk := map_look key205 ty169 zero3 hMd (m.kind, m.ref) false
    simp only [pairV, Bool.false_eq_true, if_false, hn] at hlk
    rw [hlk, onSome_some]
    simp only [q_add, onSome_some]
    have hbn : backN σ m = IntKind.i64.wrap (n + m.qty) := by unfold backN; rw [hn]; rfl
    rw [← hbn]
    refine map_entry (kE := pairV) (k := (m.kind, m.ref)) key205 ty169 zero3 hMd (fun W7 st hM7 hg7 hst => ?_)
    have hlk7 : q_read Tryz.prog (Instr.lookup 169 (.map (some b)) (.agg #[.int .i64 m.kind, .int .i64 m.ref]) false) W7 = some (.int .i64 n) := by
      have := map_look key205 ty169 zero3 hM7 (m.kind, m.ref) false
      simp only [pairV, Bool.false_eq_true, if_false] at this
      rw [this]
      cases hk : keyI (m.kind, m.ref) σ with
      | some i => simp only; rw [hn]
      | none =>
        simp only
        have : putK (m.kind, m.ref) (.int .i64 0) σ = σ ++ [((m.kind, m.ref), .int .i64 0)] := by unfold putK; rw [hk]
        rw [← this, put_look]
        have : lookK (.int .i64 0) (m.kind, m.ref) σ = .int .i64 0 := by unfold lookK; rw [hk]
        rw [this] at hn; rw [hn]
    rw [hlk7]
    simp only [ob_true, q_extract_tuple]
    rw [show (#[lookK (.int .i64 0) (m.kind, m.ref) σ, Value.int .i64 st] : Array Value)[1]? = some (.int .i64 st) from rfl, onSome_some]
    refine hst _ 169 _ (fun W8 hM8 hg8 => ?_)
    have hσ8 := hσ.put (m.kind, m.ref) (backN σ m)
    have hb68 : ∀ k, k < W6.heap.size → k ≠ b → blk W8 k = blk W6 k := fun k hk hne => by
      have h7 := hg7.block k hk (by simpa using hne)
      have := hg7.size
      have h8 := hg8.block k (Nat.lt_of_lt_of_le hk this) (by simpa using hne)
      exact h8.trans h7
    have k8 : blk W8 W4.heap.size = some (.cells #[.int .i64 m.kind, .int .i64 m.ref] 205 (0, 0)) := (hb68 _ (lt_of_blk hk6) (by omega)).trans hk6
    have x8 : blk W8 w0.heap.size = some (.cells x.v.cells 47 (0, 0)) := (hb68 _ (lt_of_blk hx6) (by omega)).trans hx6
    simp [k8, x8]
    have hlk8 := map_look key205 ty169 zero3 (show MapAt pairV W8.drew b _ from hM8.of rfl) (m.kind, m.ref) false
    simp only [pairV, Bool.false_eq_true, if_false, put_look] at hlk8
    rw [hlk8, onSome_some]
    have hg : w.grownBy W8.drew (some b) := by
      have g6 := toG hb6
      have g8 : W6.grownBy W8.drew (some b) := ⟨hg8.os.trans hg7.os, hg8.tape.trans hg7.tape, hg8.output.trans hg7.output, Nat.le_trans hg7.size hg8.size, fun k hk hne => hb68 k hk (fun e => hne (by rw [e]))⟩
      exact g6.trans g8
    simp only [q_gtr, onSome_some]
    refine xif_dec (fun h21 => ?_) (fun h21 => ?_)
    · rw [if_pos h21] at hK
      exact hK _ (hM8.of rfl) hσ8 hg
    · rw [if_neg h21] at hK
      exact hK _ (hM8.of rfl) hσ8 hg
  simp [hkx, hkm]
  by_cases hit : x.item = m.item
  · simp [hit, hkx, hkm]
    refine target_ok _ (fun W4 hb4 => ?_)
    have hb04 := (hb1.drew).then hb4
    have x4 := (blk_below hb4 (lt_of_blk (show blk W3.drew w0.heap.size = _ from hkx))).trans (show blk W3.drew w0.heap.size = _ from hkx)
    have m4 := (blk_below hb4 (lt_of_blk (show blk W3.drew w.heap.size = _ from hkm))).trans (show blk W3.drew w.heap.size = _ from hkm)
    simp [x4]
    refine xif_ndec (fun hkd => ?_) (fun hkd => ?_)
    · rw [if_pos (Or.inr hkd)] at hK
      exact hK _ (hM.below hb04) hσ (toG hb04)
    · have := rest W4 hb04 x4 m4 hit hkd
      simp [l_new, m4, x4] at this ⊢
      exact this
  · simp [hit]
    rw [if_pos (Or.inl hit)] at hK
    exact hK _ (hM.below hb1.drew) hσ (toG hb1.drew)
end Go.X
end
section
set_option linter.unusedVariables false
set_option linter.unusedSimpArgs false
namespace Go.X
open Go.Proofs Go.RowKit
attribute [local irreducible] l_append l_copy l_make l_run l_runU q_slice q_eq q_index q_build onSome l_lit q_read
variable {w w' : World} {B : Nat}
def checkF (l : List Mv) : Nat → List Mv → Bk → Int × Int
  | _, [], _ => (-1, 0)
  | i, m :: r, σ =>
    if m.seq ≠ ((i + 1 : Nat) : Int) then ((i : Int), 17) else
    if oneV m ≠ 0 then ((i : Int), oneV m) else
    if refersV m.kind = false then checkF l (i + 1) r σ else
    if (referV (l.take i) m σ).1 ≠ 0 then ((i : Int), (referV (l.take i) m σ).1) else checkF l (i + 1) r (referV (l.take i) m σ).2
def checkV (l : List Mv) : Int × Int := if 2000 < l.length then (0, 9) else checkF l 0 l []
theorem one_ref {m : Mv} (h : oneV m = 0) (hr : refersV m.kind = true) : 1 ≤ m.ref := by
  unfold oneV at h
  split at h
  · cases h
  split at h
  · cases h
  split at h
  · cases h
  split at h
  · cases h
  split at h
  · cases h
  split at h
  · cases h
  · rename_i hn
    rw [not_or] at hn
    have := hn.1
    by_cases h1 : m.ref < 1
    · exact absurd ⟨hr, h1⟩ this
    · omega
def ChI (w0 : World) (l : List Mv) (b : Nat) (R : Int × Int) (v : Value) (W : World) : Prop :=
  Below w0.heap.size w0 W ∧ ∃ (i : Nat) (σ : Bk), v = .int .i64 i ∧ i ≤ l.length ∧ MapAt pairV W b σ ∧ BkOk σ ∧ checkF l i (l.drop i) σ = R
theorem check_ok {v : Value} {l : List Mv} (ht : Tab w) (hv : Rd MvE w v l) (hm : ∀ m ∈ l, m.Ok) {K : Value → World → Prop}
    (hK : ∀ w', Below w.heap.size w w' → K (.tuple #[.int .i64 (checkV l).1, .int .i64 (checkV l).2]) w') : Ret Tryz.prog 87 [v] w K := by
  refine lift87 ?_
  unfold L87
  rw [hv.len, onSome_some]
  simp only [q_gtr, onSome_some]
  unfold checkV at hK
  refine xif_dec (fun h => ?_) (fun h => ?_)
  · rw [if_pos (by omega)] at hK
    exact hK _ (Below.refl _ _)
  rw [if_neg (by omega)] at hK
  refine l_run_of (show (Instr.makeMap 169 none).run Tryz.prog w = .ok (.map (some w.heap.size)) (w.alloc (.map #[] 0)) from rfl) ?_
  obtain ⟨R, hR⟩ : ∃ R, R = checkF l 0 l [] := ⟨_, rfl⟩
  rw [← hR] at hK
  have hM0 : MapAt pairV (w.alloc (.map #[] 0)) w.heap.size [] := MapAt.new w
  have hb0 := (Below.refl w.heap.size w).alloc (Nat.le_refl _) (.map #[] 0)
  refine looping_i (ChI w l w.heap.size R) (lenM l.length) ⟨⟨hb0, 0, [], rfl, Nat.zero_le _, hM0, by intro p hp; simp at hp, by simp [hR]⟩, ?_⟩
  rintro _ W ⟨hbW, i, σ, rfl, hi, hM, hσ, hch⟩ _
  simp only [q_lss, onSome_some]
  refine xif_dec (fun hlt => ?_) (fun hlt => ?_)
  · have hlt' : i < l.length := by omega
    have e1 : IntKind.i64.wrap ((i : Int) + 1) = ((i + 1 : Nat) : Int) := by rw [wrap_i64 (by omega) (by omega)]; omega
    obtain ⟨ad, hq, hload, _⟩ := mvElem (hv.below hbW) hlt'
    rw [hq, onSome_some, hload, onSome_some]
    have hmi := hm _ (List.getElem_mem hlt')
    have hdrop : l.drop i = l[i] :: l.drop (i + 1) := List.drop_eq_getElem_cons hlt'
    rw [hdrop] at hch
    unfold checkF at hch
    obtain ⟨m, hmm⟩ : ∃ m, m = l[i] := ⟨_, rfl⟩
    rw [← hmm] at hmi hch ⊢
    have hbw := hM.lt
    simp [l_new]
    rw [e1]
    have hbb : Below W.heap.size W (X.putL (W.alloc (Obj.cells #[Value.int IntKind.i64 0, Value.int IntKind.i64 0, Value.string { data := #[] }, Value.int IntKind.i64 0, Value.int IntKind.i64 0, Value.int IntKind.i64 0, Value.string { data := #[] }, Value.int IntKind.i64 0] 47)) W.heap.size 0 [.int .i64 m.seq, .int .i64 m.value, .string m.item, .int .i64 m.kind, .int .i64 m.qty, .int .i64 m.cost, .string m.lot, .int .i64 m.ref]) :=
      below_putL ((Below.refl _ _).alloc (Nat.le_refl _) _) (Nat.le_refl _) _ _
    have hkm : blk (X.putL (W.alloc (Obj.cells #[Value.int IntKind.i64 0, Value.int IntKind.i64 0, Value.string { data := #[] }, Value.int IntKind.i64 0, Value.int IntKind.i64 0, Value.int IntKind.i64 0, Value.string { data := #[] }, Value.int IntKind.i64 0] 47)) W.heap.size 0 [.int .i64 m.seq, .int .i64 m.value, .string m.item, .int .i64 m.kind, .int .i64 m.qty, .int .i64 m.cost, .string m.lot, .int .i64 m.ref]) W.heap.size = some (.cells m.v.cells 47 (0, 0)) := by simp
    generalize X.putL (W.alloc (Obj.cells #[Value.int IntKind.i64 0, Value.int IntKind.i64 0, Value.string { data := #[] }, Value.int IntKind.i64 0, Value.int IntKind.i64 0, Value.int IntKind.i64 0, Value.string { data := #[] }, Value.int IntKind.i64 0] 47)) W.heap.size 0 [.int .i64 m.seq, .int .i64 m.value, .string m.item, .int .i64 m.kind, .int .i64 m.qty, .int .i64 m.cost, .string m.lot, .int .i64 m.ref] = W4 at *
    have hb4 := hbW.then hbb
    refine xif_ndec (fun h17 => ?_) (fun h17 => ?_)
    · rw [if_pos h17] at hch
      rw [← hch] at hK
      exact hK _ hb4
    rw [if_neg (fun hh => hh h17)] at hch
    refine one_ok (m := m) (ht.below hb4) hmi _ (fun W5 hb5 => ?_)
    have hb05 := hb4.then hb5
    simp only [q_neq, onSome_some]
    refine xif_ndec (fun h1 => ?_) (fun h1 => ?_)
    · rw [if_pos h1] at hch
      rw [← hch] at hK
      exact hK _ hb05
    rw [if_neg (fun hh => hh h1)] at hch
    have hk5 := (blk_below hb5 (lt_of_blk hkm)).trans hkm
    simp [hk5]
    refine refers_ok _ (fun W6 hb6 => ?_)
    have hb06 := hb05.then hb6
    have hM6 := ((hM.below hbb).below hb5).below hb6
    have hk6 := (blk_below hb6 (lt_of_blk hk5)).trans hk5
    simp only [q_not, onSome_some]
    refine xif_bool (fun h2 => ?_) (fun h2 => ?_)
    · have h2' : refersV m.kind = false := by simpa using h2
      rw [if_pos h2'] at hch
      rw [show ((i : Int) + 1) = ((i + 1 : Nat) : Int) by omega]
      exact ⟨⟨hb06, i + 1, σ, rfl, by omega, hM6, hσ, hch⟩, by simp only [lenM, intOf]; omega⟩
    · have h2' : refersV m.kind = true := by simpa using h2
      rw [if_neg (by rw [h2']; simp)] at hch
      have hr1 := one_ref h1 h2'
      obtain ⟨v3, hq3, hr3⟩ := rd_front (E := MvE) (k := .i64) mvSl (hv.below hb06.drew) (i := i) (by omega)
      rw [hq3, onSome_some]
      simp [hk6]
      refine refer_ok (m := m) hr3 (show MapAt pairV W6.drew w.heap.size σ from hM6.of rfl) hσ hr1 hmi.ref (fun W7 hM7 hσ7 hg7 => ?_)
      have hb07 : Below w.heap.size w W7 := hb06.drew.grown hg7 hb06.size (fun k hk => by injection hk with hk; omega)
      simp only [q_neq, onSome_some]
      refine xif_ndec (fun h3 => ?_) (fun h3 => ?_)
      · rw [if_pos h3] at hch
        rw [← hch] at hK
        exact hK _ hb07
      · rw [if_neg (fun hh => hh h3)] at hch
        rw [show ((i : Int) + 1) = ((i + 1 : Nat) : Int) by omega]
        exact ⟨⟨hb07, i + 1, _, rfl, by omega, hM7, hσ7, hch⟩, by simp only [lenM, intOf]; omega⟩
  · have hil : i = l.length := by omega
    rw [hil, List.drop_length] at hch
    unfold checkF at hch
    rw [← hch] at hK
    exact hK _ hbW
/-! ### place -/
/-- The binary search: the first index in [i, j) where f fails. -/
def bsV (f : Nat → Bool) : Nat → Nat → Nat → Nat
  | 0, i, _ => i
  | n + 1, i, j => if i < j then (if f ((i + j) / 2) then bsV f n ((i + j) / 2 + 1) j else bsV f n i ((i + j) / 2)) else i
theorem bs_step (f : Nat → Bool) : ∀ (n i j : Nat), j - i ≤ n → bsV f n i j = if i < j then (if f ((i + j) / 2) then bsV f n ((i + j) / 2 + 1) j else bsV f n i ((i + j) / 2)) else i := by
  have more : ∀ (n k i j : Nat), j - i ≤ n → j - i ≤ k → bsV f n i j = bsV f k i j := by
    intro n
    induction n with
    | zero =>
      intro k i j h1 h2
      cases k with
      | zero => rfl
      | succ k => simp only [bsV]; rw [if_neg (by omega)]
    | succ n ih =>
      intro k i j h1 h2
      cases k with
      | zero => simp only [bsV]; rw [if_neg (by omega)]
      | succ k =>
        simp only [bsV]
        by_cases hij : i < j
        · rw [if_pos hij, if_pos hij, ih k _ _ (by omega) (by omega), ih k _ _ (by omega) (by omega)]
        · rw [if_neg hij, if_neg hij]
  intro n i j h
  by_cases hij : i < j
  · rw [if_pos hij]
    cases n with
    | zero => omega
    | succ n =>
      rw [more (n + 1) n ((i + j) / 2 + 1) j (by omega) (by omega), more (n + 1) n i ((i + j) / 2) (by omega) (by omega)]
      simp only [bsV]
      rw [if_pos hij]
  · rw [if_neg hij]
    cases n with
    | zero => rfl
    | succ n => simp only [bsV]; rw [if_neg hij]
/-- Where a movement of a day is placed. -/
def leV (L : List Mv) (O : List Nat) (value : Int) (k : Nat) : Bool := decide (((L[(O[k]?).getD 0]?).getD Mv.zero).value ≤ value)
def placeV (L : List Mv) (O : List Nat) (value : Int) : Nat := bsV (leV L O value) O.length 0 O.length
def ofN (n : Nat) : Int := (n : Int)
/-- An engine's memory, as far as place reads it. -/
structure EngP (w : World) (x : Nat) (L : List Mv) (O : List Nat) (mv cv ov kv : Value) : Prop where
  blk : ∃ me q va pr lv pv, X.blk w x = some (.cells #[me, mv, cv, ov, kv, q, va, pr, lv, pv] 109 (0, 0))
  mv : Rd MvE w mv L
  ov : Rd IntE w ov (O.map ofN)
theorem EngP.below {x : Nat} {L : List Mv} {O : List Nat} {mv cv ov kv : Value} (h : EngP w x L O mv cv ov kv) (hb : Below w.heap.size w w') : EngP w' x L O mv cv ov kv := by
  obtain ⟨me, q, va, pr, lv, pv, hk⟩ := h.blk
  exact ⟨⟨me, q, va, pr, lv, pv, (blk_below hb (lt_of_blk hk)).trans hk⟩, h.mv.below hb, h.ov.below hb⟩
def PlI (w0 : World) (L : List Mv) (O : List Nat) (value : Int) (a b : Value) (W : World) : Prop :=
  Below w0.heap.size w0 W ∧ ∃ i j : Nat, a = .int .i64 i ∧ b = .int .i64 j ∧ i ≤ j ∧ j ≤ O.length ∧ bsV (leV L O value) O.length i j = placeV L O value
def plM (a b : Value) (_ : World) : Nat := (intOf b).toNat - (intOf a).toNat
theorem bod139 : bodied Tryz.prog 139 = true := by kernel_rfl
theorem bs_le (f : Nat → Bool) : ∀ (n i j : Nat), i ≤ j → bsV f n i j ≤ j := by
  intro n
  induction n with
  | zero => intro i j h; exact h
  | succ n ih =>
    intro i j h
    simp only [bsV]
    split
    · split
      · exact ih _ _ (by omega)
      · exact Nat.le_trans (ih _ _ (by omega)) (by omega)
    · exact h
theorem place_le (L : List Mv) (O : List Nat) (value : Int) : placeV L O value ≤ O.length := bs_le _ _ _ _ (Nat.zero_le _)
theorem intElem {v : Value} {l : List Int} (h : Rd IntE w v l) {i : Nat} (hi : i < l.length) : ∃ ad, q_iaddr 1 v (.int .i64 (i : Int)) = some (.pointer (some ad)) ∧ w.cell? ad = some (.int .i64 l[i]) := by
  obtain ⟨ad, h1, _, h3⟩ := h.elem hi .i64
  have := h3 0 _ rfl
  have e : ad.add 0 = ad := by cases ad; simp [Addr.add]
  exact ⟨ad, h1, by rwa [e] at this⟩
end Go.X
end
section
set_option linter.unusedVariables false
set_option linter.unusedSimpArgs false
namespace Go.X
open Go.Proofs Go.RowKit Go.Shelf
def insR : Ren := ⟨fun | 21 => 89 | 27 => 140 | 28 => 141 | 35 => 187 | 39 => 213 | _ => 0, fun | 3 => 3 | 4 => 4 | 22 => 60 | _ => 0, fun x => x⟩
theorem insL : Lays2.n21 Tryz.prog insR where
  mixed := by kernel_rfl
  f21 := by kernel_rfl
  f27 := by kernel_rfl
  f28 := by kernel_rfl
  f35 := by kernel_rfl
  f39 := by kernel_rfl
  t0 := by kernel_rfl
  a0 := fun w => by kernel_rfl
  z0 := fun w => by kernel_rfl
  v0 := fun w => by kernel_rfl
  t3 := by kernel_rfl
  a3 := fun w => by kernel_rfl
  z3 := fun w => by kernel_rfl
  v3 := fun w => by kernel_rfl
  t4 := by kernel_rfl
  a4 := fun w => by kernel_rfl
  z4 := fun w => by kernel_rfl
  v4 := fun w => by kernel_rfl
  t22 := by kernel_rfl
  a22 := fun w => by kernel_rfl
  z22 := fun w => by kernel_rfl
  v22 := fun w => by kernel_rfl
  i3 := by kernel_rfl
variable {w w' : World} {B : Nat}
theorem setCells_putL (b : Nat) : ∀ (vs : List Value) (o : Nat) (w : World), w.setCells b o vs = X.putL w b o vs := by
  intro vs
  induction vs with
  | nil => intro o w; rfl
  | cons v r ih => intro o w; rw [World.setCells, X.putL, ih]
theorem spl_list : ∀ (vs : List Value) (o : Nat) (c : Array Value), o + vs.length ≤ c.size → (spl c o vs).toList = c.toList.take o ++ vs ++ c.toList.drop (o + vs.length) := by
  intro vs
  induction vs with
  | nil => intro o c h; simp
  | cons v r ih =>
    intro o c h
    simp only [List.length_cons] at h
    rw [spl_cons, ih (o + 1) _ (by simp; omega)]
    have ho : o < c.toList.length := by simp; omega
    rw [Array.toList_setIfInBounds, List.take_set, List.drop_set_of_lt (by omega)]
    have e : (c.toList.take (o + 1)).set o v = c.toList.take o ++ [v] := by
      rw [List.take_succ_eq_append_getElem ho, List.set_append_right _ _ (by simp; omega)]
      have : o - (c.toList.take o).length = 0 := by simp; omega
      rw [this]; rfl
    rw [e]
    simp [Nat.add_assoc, Nat.add_comm 1]
theorem flat_int (l : List Int) : IntE.flat l = l.map (Value.int .i64) := by
  induction l with
  | nil => rfl
  | cons a r ih => simp only [Enc.flat, ih, List.map_cons]; rfl
/-- s with x at index i. -/
def insI {α : Type} (l : List α) (i : Nat) (x : α) : List α := l.take i ++ x :: l.drop i
theorem insI_len {α : Type} {l : List α} {i : Nat} {x : α} (h : i ≤ l.length) : (insI l i x).length = l.length + 1 := by simp [insI]; omega
theorem ret_of_calls {f : FuncId} {args : List Value} {v : Value} {W : World} {K : Value → World → Prop} (h : Calls Tryz.prog f args.toArray w fun e w' => e = .returned v ∧ w' = W) (hK : K v W) : Ret Tryz.prog f args w K := by
  unfold Ret
  refine h.mono (fun e w' he => ?_)
  obtain ⟨rfl, rfl⟩ := he
  exact hK
theorem int_one (l : List Int) : ∀ v ∈ l.map (Value.int .i64), v.oneCell' = true := by
  intro v hv
  obtain ⟨n, _, rfl⟩ := List.mem_map.1 hv
  rfl
theorem cut_at {α : Type} (A : List α) (i : Nat) (h : i < A.length) : ∃ P y Q, A = P ++ y :: Q ∧ P.length = i := ⟨A.take i, A[i], A.drop (i + 1), by rw [← List.drop_eq_getElem_cons h, List.take_append_drop], by simp; omega⟩
theorem spl_shift {α : Type} (A D : List α) (i n : Nat) (x : α) (hD : D.length = n - i) (hA : n + 1 ≤ A.length) (hi : i ≤ n) :
    ((A.take (i + 1) ++ D ++ A.drop (i + 1 + D.length)).take i ++ [x] ++ (A.take (i + 1) ++ D ++ A.drop (i + 1 + D.length)).drop (i + 1)).take (n + 1) = A.take i ++ x :: D := by
  obtain ⟨P, y, Q, rfl, rfl⟩ := cut_at A i (by omega)
  have hn : n = P.length + D.length := by omega
  subst hn
  have e1 : (P ++ y :: Q).take (P.length + 1) = P ++ [y] := by
    rw [show P ++ y :: Q = (P ++ [y]) ++ Q by simp, show P.length + 1 = (P ++ [y]).length by simp, List.take_left]
  have e2 : (P ++ y :: Q).take P.length = P := by simp
  rw [e1, e2]
  generalize (P ++ y :: Q).drop (P.length + 1 + D.length) = Z
  have e3 : (P ++ [y] ++ D ++ Z).take P.length = P := by simp
  have e4 : (P ++ [y] ++ D ++ Z).drop (P.length + 1) = D ++ Z := by
    have : (P ++ [y]).length = P.length + 1 := by simp
    rw [List.append_assoc, ← this, List.drop_left]
  rw [e3, e4]
  have : (P ++ [x] ++ D).length = P.length + D.length + 1 := by simp; omega
  rw [← List.append_assoc, ← this, List.take_left]
  simp
theorem spl_grow {α : Type} (A D : List α) (i n : Nat) (x : α) (hD : D.length = n - i) (hA : n + 1 ≤ A.length) (hi : i ≤ n) :
    ((A.take i ++ [x] ++ A.drop (i + 1)).take (i + 1) ++ D ++ (A.take i ++ [x] ++ A.drop (i + 1)).drop (i + 1 + D.length)).take (n + 1) = A.take i ++ x :: D := by
  obtain ⟨P, y, Q, rfl, rfl⟩ := cut_at A i (by omega)
  have hn : n = P.length + D.length := by omega
  subst hn
  have e2 : (P ++ y :: Q).take P.length = P := by simp
  rw [e2]
  have e5 : (P ++ [x] ++ (P ++ y :: Q).drop (P.length + 1)).take (P.length + 1) = P ++ [x] := by
    have : (P ++ [x]).length = P.length + 1 := by simp
    rw [← this, List.take_left]
  rw [e5]
  have : (P ++ [x] ++ D).length = P.length + D.length + 1 := by simp; omega
  rw [← this, List.take_left]
  simp
/-- What Insert leaves, as a row of the call's own. -/
theorem ins_own {g cap : Nat} {cur : Array Value} {k : List Int} {W : World} (hB : B ≤ g) (hg : blk W g = some (.cells cur 3 (0, 0))) (h1 : k.length ≤ cap) (h2 : cap ≤ maxLen) (h3 : cap ≤ cur.size) (h4 : cur.toList.take k.length = k.map (Value.int .i64)) : Own IntE 3 W B (.slice (some ⟨g, 0, none⟩) k.length cap) k :=
  .inr ⟨g, cap, cur, rfl, hB, hg, h1, h2, by simpa [IntE] using h3, by rw [flat_int]; simpa [IntE] using h4⟩
theorem putL_grown (W : World) (g o : Nat) (vs : List Value) (hW : W.heap.size = w.heap.size) (h : ∀ k : Nat, W.heap[k]? = w.heap[k]?) (ho : W.os = w.os) (ht : W.tape = w.tape) (hp : W.output = w.output) : w.grownBy (X.putL W g o vs) (some g) := by
  have hb : Below 0 W (X.putL W g o vs) := below_putL (Below.refl 0 W) (Nat.zero_le _) vs o
  refine ⟨hb.os.trans ho, hb.tape.trans ht, hb.output.trans hp, by rw [← hW]; exact hb.size, fun k hk hne => ?_⟩
  have := blk_putL (w := W) (b := g) (o := o) (b' := k) (vs := vs)
  rw [if_neg (fun e => hne (by rw [e]))] at this
  exact this.trans (h k)
set_option maxRecDepth 20000 in
theorem insert_ok {v x : Value} {l : List Int} {i : Nat} {n : Int} {g2 : Nat} (hv : Own IntE 3 w B v l) (hB : B ≤ w.heap.size) (hi : i ≤ l.length) (hn : l.length ≤ 1000000) (hx : x = .slice (some ⟨g2, 0, none⟩) 1 1) (hg2 : blk w g2 = some (.cells #[.int .i64 n] 3 (0, 0))) (hne : v.ownBlock ≠ some g2) {K : Value → World → Prop}
    (hK : ∀ w' v', Own IntE 3 w' B v' (insI l i n) → w.grownBy w' v.ownBlock → K v' w') : Ret Tryz.prog 89 [v, .int .i64 i, x] w K := by
  subst hx
  have hvs : ∀ j u, ([n].map (Value.int .i64))[j]? = some u → w.cell? ⟨g2, 0 + j, none⟩ = some u := by
    intro j u hu
    rw [Nat.zero_add, cell_mk, hg2, cellO_cells]
    simpa using hu
  have hmax : (1000001 : Nat) ≤ maxLen := by decide
  have gdrew : ∀ (W : World) (row : Option Nat), w.drew.grownBy W row → w.grownBy W row := fun W row h => ⟨h.os, h.tape, h.output, h.size, h.block⟩
  -- a new row
  have grownOwn : ∀ (k : List Int) (extra : Nat) (W : World), W = w.drew.alloc (.cells ((k.map (Value.int .i64)).toArray ++ Builtin.zeroCells (Value.int .i64 0).cells extra) 3) → k.length + extra ≤ maxLen →
      Own IntE 3 W B (.slice (some ⟨w.heap.size, 0, none⟩) k.length (k.length + extra)) k := by
    intro k extra W hW hm
    subst hW
    refine .inr ⟨w.heap.size, k.length + extra, _, rfl, hB, blk_alloc.trans (if_pos rfl), by omega, hm, ?_, ?_⟩
    · simp [Builtin.zeroCells, IntE]
    · rw [flat_int]
      simp [IntE]
  rcases hv with ⟨rfl, rfl⟩ | ⟨g, cap, cur, rfl, hBg, hg, hlen, hcm, hcs, htake⟩
  · have hi0 : i = 0 := by simpa using hi
    subst hi0
    have h := Any2.slices_Insert_int_end_grow insL none 0 0 g2 0 1 1 [] ([n].map (Value.int .i64)) w (by omega) (by omega) (by omega) (by omega) rfl rfl (fun _ => rfl) (fun a h => by cases h) hvs (int_one _)
    have hge := grownCap_ge w (0 + 1) 0 3
    have hle := grownCap_le_maxLen w (0 + 1) 0 3 (by omega)
    refine ret_of_calls (f := 89) (args := [.slice none 0 0, .int .i64 ((0 : Nat) : Int), .slice (some ⟨g2, 0, none⟩) 1 1]) h (hK _ _ ?_ ?_)
    · have := grownOwn [n] (grownCap w (0 + 1) 0 3 - 1) _ rfl (by simp only [List.length_cons, List.length_nil]; omega)
      have e : [n].length + (grownCap w (0 + 1) 0 3 - 1) = grownCap w (0 + 1) 0 3 := by simp only [List.length_cons, List.length_nil]; omega
      rw [e] at this
      simpa [insI, insR] using this
    · exact gdrew _ _ (World.grownBy_alloc w.drew _ _)
  · simp only [IntE, Nat.mul_one] at hcs htake
    have hfl : IntE.flat l = l.map (Value.int .i64) := flat_int l
    have htake' : cur.toList.take l.length = l.map (Value.int .i64) := by rw [← hfl]; exact htake
    have hgl := lt_of_blk hg
    have hcell : ∀ j, j < cap → ∃ u, w.cell? ⟨g, 0 + j, none⟩ = some u := by
      intro j hj
      rw [Nat.zero_add, cell_mk, hg, cellO_cells]
      exact ⟨cur[j], Array.getElem?_eq_getElem (by omega)⟩
    have hcl : ∀ j u, (l.map (Value.int .i64))[j]? = some u → w.cell? ⟨g, 0 + j, none⟩ = some u := by
      intro j u hu
      rw [Nat.zero_add, cell_mk, hg, cellO_cells]
      rw [← htake', List.getElem?_take] at hu
      split at hu
      · simpa using hu
      · cases hu
    have hfz : ∀ j, w.frozen? ⟨g, 0 + j, none⟩ = false := fun j => frozen_mk hg
    have hgg : g ≠ g2 := by intro e; exact hne (by rw [e]; rfl)
    have hLl : (l.map (Value.int .i64)).length = l.length := by simp
    have hnv : ∀ v ∈ [n].map (Value.int .i64), v.oneCell' = true := int_one _
    have hA : l.length ≤ cur.toList.length := by simp; omega
    have hti : cur.toList.take i = (l.map (Value.int .i64)).take i := by rw [← htake', List.take_take, Nat.min_eq_left hi]
    have hins : (insI l i n).map (Value.int .i64) = (l.map (Value.int .i64)).take i ++ Value.int .i64 n :: (l.map (Value.int .i64)).drop i := by simp [insI, List.map_take, List.map_drop]
    have hil := insI_len (x := n) hi
    have hdl : ((l.map (Value.int .i64)).drop i).length = l.length - i := by simp
    by_cases hroom : l.length + 1 ≤ cap
    · by_cases hin : i = l.length
      · subst hin
        have h := Any2.slices_Insert_int_end_room insL g 0 l.length cap g2 0 1 1 ([n].map (Value.int .i64)) w (by omega) hroom (by simp only [maxLen] at hcm; omega) rfl
          (fun j hj => by obtain ⟨u, hu⟩ := hcell (l.length + j) (by omega); rw [Nat.zero_add] at hu ⊢; rw [hu]; rfl) (fun j hj => by rw [Nat.add_assoc]; exact hfz _) hvs hnv
        refine ret_of_calls (f := 89) (args := [.slice (some ⟨g, 0, none⟩) l.length cap, .int .i64 (l.length : Int), .slice (some ⟨g2, 0, none⟩) 1 1]) h ?_
        rw [setCells_putL, ← hil]
        refine hK _ _ (ins_own (cur := spl cur (0 + l.length) ([n].map (Value.int .i64))) hBg (by rw [blk_putL, if_pos rfl, hg, putO_cells]) (by rw [hil]; exact hroom) hcm (by rw [spl_size]; exact hcs) ?_) (putL_grown w g _ _ rfl (fun _ => rfl) rfl rfl rfl)
        rw [spl_list _ _ _ (by simp only [List.map_cons, List.map_nil, List.length_cons, List.length_nil]; omega), hins, hil]
        simp only [Nat.zero_add, hti]
        have e1 : (l.map (Value.int .i64)).take l.length = l.map (Value.int .i64) := by rw [List.take_of_length_le (by simp)]
        have e2 : (l.map (Value.int .i64)).drop l.length = [] := by rw [List.drop_of_length_le (by simp)]
        rw [e1, e2]
        have : (l.map (Value.int .i64) ++ [n].map (Value.int .i64)).length = l.length + 1 := by simp
        rw [← this, List.take_left]
        simp
      · have h := Any2.slices_Insert_int_shift insL g 0 l.length cap i g2 0 1 1 (l.map (Value.int .i64)) ([n].map (Value.int .i64)) w (by omega) (by omega) hroom (by simp only [maxLen] at hcm; omega) (fun e => hgg e.symm) hLl rfl hcl
          (fun j hj => by obtain ⟨u, hu⟩ := hcell j (by omega); rw [hu]; rfl) (fun j _ => hfz j) hvs (int_one _) hnv 3 3 1 cur.size (by simp only [World.shape?]; have := hg2; unfold X.blk at this; rw [this]; rfl)
          (by simp only [World.shape?]; have := hg; unfold X.blk at this; rw [this]) (by omega) (frozen_mk hg2) (frozen_mk hg2)
        refine ret_of_calls (f := 89) (args := [.slice (some ⟨g, 0, none⟩) l.length cap, .int .i64 (i : Int), .slice (some ⟨g2, 0, none⟩) 1 1]) h ?_
        rw [setCells_putL, setCells_putL, ← hil]
        have hgr1 := putL_grown (w := w) w.drew g (0 + (i + 1)) ((l.map (Value.int .i64)).drop i) rfl (fun _ => rfl) rfl rfl rfl
        have hgr2 := putL_grown (w := X.putL w.drew g (0 + (i + 1)) ((l.map (Value.int .i64)).drop i)) _ g (0 + i) ([n].map (Value.int .i64)) rfl (fun _ => rfl) rfl rfl rfl
        refine hK _ _ (ins_own (cur := spl (spl cur (0 + (i + 1)) ((l.map (Value.int .i64)).drop i)) (0 + i) ([n].map (Value.int .i64))) hBg (by rw [blk_putL, if_pos rfl, blk_putL, if_pos rfl, show X.blk w.drew g = _ from hg, putO_cells, putO_cells]) (by rw [hil]; exact hroom) hcm (by rw [spl_size, spl_size]; exact hcs) ?_) (hgr1.trans hgr2)
        rw [spl_list _ _ _ (by rw [spl_size]; simp only [List.map_cons, List.map_nil, List.length_cons, List.length_nil]; omega), spl_list _ _ _ (by rw [hdl]; omega), hins, hil, ← hti]
        simp only [Nat.zero_add, List.map_cons, List.map_nil, List.length_cons, List.length_nil]
        exact spl_shift _ _ _ _ _ hdl (by simp; omega) hi
    · by_cases hin : i = l.length
      · subst hin
        have h := Any2.slices_Insert_int_end_grow insL (some ⟨g, 0, none⟩) l.length cap g2 0 1 1 (l.map (Value.int .i64)) ([n].map (Value.int .i64)) w (by omega) hlen (by omega) (by omega) hLl rfl (fun e => by cases e) (fun a ha j u hu => by
          injection ha with ha; subst ha; rw [addr_add]; exact hcl j u hu) hvs hnv
        have hge := grownCap_ge w (l.length + 1) cap 3
        have hle := grownCap_le_maxLen w (l.length + 1) cap 3 (by omega)
        refine ret_of_calls (f := 89) (args := [.slice (some ⟨g, 0, none⟩) l.length cap, .int .i64 (l.length : Int), .slice (some ⟨g2, 0, none⟩) 1 1]) h ?_
        simp only [insR]
        rw [show (Value.slice (some ⟨w.heap.size, 0, none⟩) (l.length + 1) (grownCap w (l.length + 1) cap 3)) = .slice (some ⟨w.heap.size, 0, none⟩) (insI l l.length n).length (grownCap w (l.length + 1) cap 3) by rw [hil]]
        refine hK _ _ (ins_own (cur := (l.map (Value.int .i64) ++ [n].map (Value.int .i64)).toArray ++ Builtin.zeroCells (Value.int .i64 0).cells (grownCap w (l.length + 1) cap 3 - (l.length + 1))) hB (blk_alloc.trans (if_pos rfl)) (by rw [hil]; exact hge) hle (by simp [Builtin.zeroCells]; omega) ?_) (gdrew _ _ (World.grownBy_alloc w.drew _ _))
        rw [hins, hil]
        have e1 : (l.map (Value.int .i64)).take l.length = l.map (Value.int .i64) := by rw [List.take_of_length_le (by simp)]
        have e2 : (l.map (Value.int .i64)).drop l.length = [] := by rw [List.drop_of_length_le (by simp)]
        rw [e1, e2]
        have : (l.map (Value.int .i64) ++ [n].map (Value.int .i64)).length = l.length + 1 := by simp
        rw [Array.toList_append, ← this, List.take_left]
        simp
      · have h := Any2.slices_Insert_int_grow insL g 0 l.length cap i g2 0 1 1 (l.map (Value.int .i64)) ([n].map (Value.int .i64)) w (by omega) (by omega) hlen (by omega) (by omega) hLl rfl hcl hvs (int_one _) hnv
        have hge := grownCap_ge w (l.length + 1) cap 3
        have hle := grownCap_le_maxLen w (l.length + 1) cap 3 (by omega)
        refine ret_of_calls (f := 89) (args := [.slice (some ⟨g, 0, none⟩) l.length cap, .int .i64 (i : Int), .slice (some ⟨g2, 0, none⟩) 1 1]) h ?_
        simp only [insR]
        rw [show (Value.slice (some ⟨w.heap.size, 0, none⟩) (l.length + 1) (grownCap w (l.length + 1) cap 3)) = .slice (some ⟨w.heap.size, 0, none⟩) (insI l i n).length (grownCap w (l.length + 1) cap 3) by rw [hil]]
        obtain ⟨ROW, hROW⟩ : ∃ ROW : Array Value, ROW = ((l.map (Value.int .i64)).take i).toArray ++ Builtin.zeroCells (Value.int .i64 0).cells (l.length + 1 - i) ++ Builtin.zeroCells (Value.int .i64 0).cells (grownCap w (l.length + 1) cap 3 - (l.length + 1)) := ⟨_, rfl⟩
        rw [← hROW]
        have hRs : ROW.size = grownCap w (l.length + 1) cap 3 := by
          rw [hROW]; simp [Builtin.zeroCells]; omega
        have hRt : ROW.toList.take i = (l.map (Value.int .i64)).take i := by
          rw [hROW, Array.toList_append, Array.toList_append, List.append_assoc]
          have : ((l.map (Value.int .i64)).take i).length = i := by simp; omega
          have e := List.take_left (l₁ := (l.map (Value.int .i64)).take i) (l₂ := (Builtin.zeroCells (Value.int .i64 0).cells (l.length + 1 - i)).toList ++ (Builtin.zeroCells (Value.int .i64 0).cells (grownCap w (l.length + 1) cap 3 - (l.length + 1))).toList)
          rw [this] at e
          simpa using e
        clear hROW
        rw [setCells_putL, setCells_putL]
        have hk0 : X.blk (w.alloc (.cells ROW 3)).drew w.heap.size = some (.cells ROW 3 (0, 0)) := by rw [blk_drew]; exact blk_alloc.trans (if_pos rfl)
        have hgr : w.grownBy (X.putL (X.putL (w.alloc (.cells ROW 3)).drew w.heap.size i ([n].map (Value.int .i64))).drew w.heap.size (i + 1) ((l.map (Value.int .i64)).drop i)) (some g) := by
          have hb : Below w.heap.size w (X.putL (X.putL (w.alloc (.cells ROW 3)).drew w.heap.size i ([n].map (Value.int .i64))).drew w.heap.size (i + 1) ((l.map (Value.int .i64)).drop i)) :=
            below_putL (below_putL ((Below.refl _ _).alloc (Nat.le_refl _) _).drew (Nat.le_refl _) _ _).drew (Nat.le_refl _) _ _
          exact ⟨hb.os, hb.tape, hb.output, hb.size, fun k hk _ => hb.block k hk⟩
        refine hK _ _ (ins_own (cur := spl (spl ROW i ([n].map (Value.int .i64))) (i + 1) ((l.map (Value.int .i64)).drop i)) hB (by rw [blk_putL, if_pos rfl, blk_drew, blk_putL, if_pos rfl, hk0, putO_cells, putO_cells]) (by rw [hil]; exact hge) hle (by rw [spl_size, spl_size, hRs]; exact Nat.le_refl _) ?_) hgr
        rw [spl_list _ _ _ (by rw [spl_size, hdl, hRs]; omega), spl_list _ _ _ (by simp only [List.map_cons, List.map_nil, List.length_cons, List.length_nil]; omega), hins, hil, ← hRt]
        simp only [List.map_cons, List.map_nil, List.length_cons, List.length_nil, Nat.zero_add]
        exact spl_grow _ _ _ _ _ hdl (by simp; omega) hi
end Go.X
end
