/- moves.Order. -/
import Derived.Test.YtbglbbmlohfemaaGreatDoorCWi
import Derived.Test.YtbglbbmlohfemaaGreatDoorTt
set_option linter.unusedVariables false
set_option linter.unusedSimpArgs false
namespace Go.X
open Go.Proofs Go.RowKit
section
variable {P : Program} {α : Type} {E : Enc α} {w w' : World} {B : Nat} {v s x : Value} {l m : List α} {t e : TypeId} {bytes : Nat} {z : Value}
/-- A row without room. -/
def Full (s : Value) (n : Nat) : Prop := (s = .slice none 0 0) ∨ ∃ g, s = .slice (some ⟨g, 0, none⟩) n n
theorem own_front3f (T : SlT P t e E.sz bytes z) (h : Own E e w B v l) {i : Nat} {k k' : IntKind} (hi : i ≤ l.length) :
    ∃ v', q_slice P t v none (some (.int k (i : Int))) (some (.int k' (i : Int))) = some v' ∧ Own E e w B v' (l.take i) ∧ Full v' i := by
  rcases h with ⟨rfl, rfl⟩ | ⟨g, cap, cur, rfl, h1, h2, h3, h4, h5, h6⟩
  · have h0 : i = 0 := by simpa using hi
    subst h0
    refine ⟨.slice none 0 0, ?_, by simpa using Own.nil E e w B, .inl rfl⟩
    rw [q_slice_of T (bounds_front3 (Nat.le_refl 0))]
    rfl
  · refine ⟨.slice (some ⟨g, 0, none⟩) i i, ?_, .inr ⟨g, i, cur, by rw [List.length_take, Nat.min_eq_left hi], h1, h2, by simp; omega, by omega, Nat.le_trans (Nat.mul_le_mul_right _ (by omega)) h5, ?_⟩, .inr ⟨g, rfl⟩⟩
    · rw [q_slice_of T (bounds_front3 (by omega))]
      by_cases h0 : i = 0
      · simp [h0]
      · simp [h0]
    · rw [List.length_take, Nat.min_eq_left hi]
      exact flat_take_len E l i hi h6
/-- append to a row without room: a new block. -/
theorem append_full {ty : TypeId} (T : SlT P t e E.sz bytes z) {K : Value → World → Prop} (hs : Own E e w B s l) (hf : Full s l.length) (hx : Rd E w x m) (hne : 0 < m.length)
    (hn : (l.length + m.length) * bytes ≤ 140737488355328) (hm : l.length + m.length ≤ maxLen)
    (hK : ∀ v' w', Own E e w' w.heap.size v' (l ++ m) → Below w.heap.size w w' → K v' w') : l_append P #[t, t] ty s x w K := by
  obtain ⟨i, hi, hz, hsz, hby⟩ := T.info
  obtain ⟨a, cap, rfl, hl, hget⟩ := hx
  unfold l_append
  cases a with
  | none => obtain ⟨ad, ha, _⟩ := hget 0 hne; cases ha
  | some ad =>
    have hnews : ∀ j u, (E.flat m)[j]? = some u → w.cell? (ad.add j) = some u := by
      intro j u hu
      have hj : j < m.length * E.sz := by rw [← E.flat_length]; exact (List.getElem?_eq_some_iff.1 hu).1
      have h0 := T.h0
      have hq : j / E.sz < m.length := Nat.div_lt_of_lt_mul (by rw [Nat.mul_comm]; exact hj)
      have hr : j % E.sz < E.sz := Nat.mod_lt _ h0
      have hjj : j = j / E.sz * E.sz + j % E.sz := by rw [Nat.mul_comm]; exact (Nat.div_add_mod j E.sz).symm
      rw [hjj, E.flat_get m _ _ hq hr] at hu
      obtain ⟨ad', ha, hc⟩ := hget _ hq
      injection ha with ha
      subst ha
      rw [hjj]
      exact hc _ u hu
    have h63 : ((l.length + m.length : Nat) : Int) ≤ 9223372036854775807 := by simp only [maxLen] at hm; omega
    have hflen : (E.flat l ++ E.flat m).length = (l.length + m.length) * E.sz := by rw [List.length_append, E.flat_length, E.flat_length, Nat.add_mul]
    have grown : ∀ (old : Nat), old < l.length + m.length →
        Own E e (w.drew.alloc (.cells ((E.flat l).toArray ++ (E.flat m).toArray ++ Builtin.zeroCells z.cells (grownCap w (l.length + m.length) old e - (l.length + m.length))) e)) w.heap.size
          (.slice (some ⟨w.heap.size, 0, none⟩) (l.length + m.length) (grownCap w (l.length + m.length) old e)) (l ++ m) := by
      intro old ho
      have hge := grownCap_ge w (l.length + m.length) old e
      have hcm : grownCap w (l.length + m.length) old e ≤ maxLen := grownCap_le_maxLen w (l.length + m.length) old e hm
      refine .inr ⟨w.heap.size, _, _, by rw [List.length_append], Nat.le_refl _, blk_alloc.trans (if_pos rfl), by rw [List.length_append]; exact hge, hcm, ?_, ?_⟩
      · simp only [Array.size_append, List.size_toArray, size_zeroCells, T.hz, E.flat_length, ← Nat.add_mul]
        exact Nat.le_of_eq (congrArg (· * E.sz) (by omega))
      · simp only [Array.toList_append, List.append_assoc]
        rw [← List.append_assoc, List.length_append, ← hflen, E.flat_append]
        exact List.take_left
    have hbel : ∀ o, Below w.heap.size w (w.drew.alloc o) := fun o => (Below.refl _ _).drew.alloc (Nat.le_refl _) o
    rcases hs with ⟨rfl, rfl⟩ | ⟨g, cp, cur, rfl, hbg, hg, hnc, hcm, hcs, htake⟩
    · have hb0 : m.length * i.bytes ≤ 281474976710656 := by rw [hby]; simp only [List.length_nil, Nat.zero_add] at hn; omega
      have h63' : (m.length : Int) ≤ 9223372036854775807 := by simp only [List.length_nil, Nat.zero_add] at h63; exact h63
      have hr := run_append_nil (P := P) w t ty e i z T.ht hi hz ad m.length cap (E.flat m) (by rw [hsz]; exact E.flat_length m) hnews (by omega) h63' hb0
      have hgr := grown 0 (by simp; omega)
      simp only [List.length_nil, Nat.zero_add, Enc.flat, List.nil_append] at hgr
      simp only [List.nil_append] at hK
      refine l_run_of hr (hK _ _ ?_ (hbel _))
      simpa using hgr
    · have hcp : cp = l.length := by
        rcases hf with h | ⟨g', h⟩
        · cases h
        · injection h
      subst hcp
      have holds : ∀ j u, (E.flat l)[j]? = some u → w.cell? ((⟨g, 0, none⟩ : Addr).add j) = some u := by
        intro j u hu
        rw [addr_add, cell_mk, hg, cellO_cells, Nat.zero_add]
        rw [← htake, List.getElem?_take] at hu
        split at hu
        · simpa using hu
        · cases hu
      have hr := run_append_grow (P := P) w t ty e i z T.ht hi hz ⟨g, 0, none⟩ l.length l.length (E.flat l) (by rw [hsz]; exact E.flat_length l) holds ad m.length cap (E.flat m) (by rw [hsz]; exact E.flat_length m) hnews (by omega) h63 (growslice_fits (by omega) (by rw [hby]; exact hn))
      exact l_run_of hr (hK _ _ (grown l.length (by omega)) (hbel _))
end
attribute [local irreducible] l_append l_copy l_make l_run l_runU q_slice q_eq q_index q_build onSome l_lit q_read
variable {w w' w'' : World} {B x : Nat} {r : Option Nat} {method : Int} {s0 : St} {L : List Mv} {m : Mv}
theorem bod99 : bodied Tryz.prog 99 = true := by kernel_rfl
theorem after_ok {y : Mv} {a4 : Nat} (hk : X.blk w a4 = some (.cells m.cs 47 (0, 0))) : Calc 99 [y.v, ptr a4] w (.bool (decide (m.value < y.value ∨ (m.value = y.value ∧ m.seq < y.seq)))) := by
  intro K hK
  refine lift99 ?_
  unfold L99 ptr
  rw [l_new_eq, Mv.v_cells]
  have hb1 := (Below.refl w.heap.size w).alloc (Nat.le_refl _) (.cells #[.int .i64 y.seq, .int .i64 y.value, .string y.item, .int .i64 y.kind, .int .i64 y.qty, .int .i64 y.cost, .string y.lot, .int .i64 y.ref] 47)
  have hk1 := new_blk w (.cells #[.int .i64 y.seq, .int .i64 y.value, .string y.item, .int .i64 y.kind, .int .i64 y.qty, .int .i64 y.cost, .string y.lot, .int .i64 y.ref] 47) _ rfl
  have hk' := (blk_below hb1 (lt_of_blk hk)).trans hk
  generalize w.alloc (.cells #[.int .i64 y.seq, .int .i64 y.value, .string y.item, .int .i64 y.kind, .int .i64 y.qty, .int .i64 y.cost, .string y.lot, .int .i64 y.ref] 47) = W1 at *
  simp only [Mv.cs] at hk'
  have := hK _ hb1
  by_cases h1 : m.value < y.value
  · simp [hk1, hk', h1] at this ⊢
    exact this
  · by_cases h2 : m.value = y.value
    · simp [h2] at this
      simp [hk1, hk', h2]
      exact this
    · simp [h1, h2] at this
      simp [hk1, hk', h1, h2]
      exact this
def opV (S : List Mv) (m : Mv) : Nat := bsV (fun k => decide ((at0 S k).value ≤ m.value)) S.length 0 S.length
def OpI (w0 : World) (S : List Mv) (m : Mv) (a b : Value) (W : World) : Prop :=
  Below w0.heap.size w0 W ∧ ∃ i j : Nat, a = .int .i64 i ∧ b = .int .i64 j ∧ i ≤ j ∧ j ≤ S.length ∧ bsV (fun k => decide ((at0 S k).value ≤ m.value)) S.length i j = opV S m
theorem insert_mv {v : Value} {S : List Mv} {a4 : Nat} (hv : Own MvE 47 w B v S) (hk : X.blk w a4 = some (.cells m.cs 47 (0, 0))) (hseq : ∀ k (h : k < S.length), S[k].seq ≤ m.seq) (hn : S.length ≤ 100000) {K : Value → World → Prop}
    (hK : ∀ w' v', Own MvE 47 w' w.heap.size v' (insI S (opV S m) m) → Below w.heap.size w w' → K v' w') : Ret Tryz.prog 98 [v, m.v, .func (.func 99) #[] #[ptr a4]] w K := by
  refine lift98 ?_
  unfold L98
  rw [l_new_eq, Mv.v_cells]
  have hb1 := (Below.refl w.heap.size w).alloc (Nat.le_refl _) (.cells #[.int .i64 m.seq, .int .i64 m.value, .string m.item, .int .i64 m.kind, .int .i64 m.qty, .int .i64 m.cost, .string m.lot, .int .i64 m.ref] 47)
  have hk1 := new_blk w (.cells #[.int .i64 m.seq, .int .i64 m.value, .string m.item, .int .i64 m.kind, .int .i64 m.qty, .int .i64 m.cost, .string m.lot, .int .i64 m.ref] 47) _ rfl
  generalize w.alloc (.cells #[.int .i64 m.seq, .int .i64 m.value, .string m.item, .int .i64 m.kind, .int .i64 m.qty, .int .i64 m.cost, .string m.lot, .int .i64 m.ref] 47) = W1 at *
  have hv1 := hv.below hb1
  have hk41 := (blk_below hb1 (lt_of_blk hk)).trans hk
  rw [hv1.len, onSome_some]
  refine looping_i (OpI W1 S m) plM ⟨⟨Below.refl _ _, 0, S.length, rfl, rfl, Nat.zero_le _, Nat.le_refl _, rfl⟩, ?_⟩
  rintro _ _ W ⟨hbW, i, j, rfl, rfl, hij, hj, hbs⟩ _
  have hvW := hv1.below hbW
  have hk4W := (blk_below hbW (lt_of_blk hk41)).trans hk41
  simp only [q_lss, onSome_some]
  refine xif_dec (fun hlt => ?_) (fun hlt => ?_)
  · have hlt' : i < j := by omega
    rw [bs_step _ _ _ _ (by omega), if_pos hlt'] at hbs
    have hmid : (i + j) / 2 < S.length := by omega
    have e1 : IntKind.i64.wrap ((i : Int) + j) = ((i + j : Nat) : Int) := by rw [wrap_i64 (by omega) (by omega)]; omega
    have e2 : IntKind.i64.wrap (((i + j : Nat) : Int).tdiv 2) = (((i + j) / 2 : Nat) : Int) := by
      rw [Int.tdiv_eq_ediv_of_nonneg (by omega), wrap_i64 (by omega) (by omega)]; omega
    have e4 : IntKind.i64.wrap ((((i + j) / 2 : Nat) : Int) + 1) = (((i + j) / 2 + 1 : Nat) : Int) := by rw [wrap_i64 (by omega) (by omega)]; omega
    obtain ⟨ad, hq, hload⟩ := mv_load (Rd.of_own hvW) hmid
    rw [q_add, onSome_some, e1, q_quo, if_neg (by decide), onSome_some, e2, hq, onSome_some, hload _ (Below.refl _ _), onSome_some]
    refine ⟨bod99, ?_⟩
    refine after_ok (y := S[(i + j) / 2]) hk4W _ (fun W3 hb3 => ?_)
    have hs := hseq _ hmid
    have eat : at0 S ((i + j) / 2) = S[(i + j) / 2] := at0_get hmid
    rw [eat] at hbs
    refine xif_dec (fun hd => ?_) (fun hd => ?_)
    · have : ¬ (S[(i + j) / 2].value ≤ m.value) := by
        rcases hd with h | ⟨_, h⟩ <;> omega
      rw [if_neg (by simpa using this)] at hbs
      exact ⟨⟨hbW.then hb3, i, _, rfl, rfl, by omega, by omega, hbs⟩, by simp only [plM, intOf]; omega⟩
    · have : S[(i + j) / 2].value ≤ m.value := by
        have := fun h => hd (.inl h); omega
      rw [if_pos (by simpa using this)] at hbs
      simp only [q_add, onSome_some, e4]
      exact ⟨⟨hbW.then hb3, _, j, rfl, rfl, by omega, hj, hbs⟩, by simp only [plM, intOf]; omega⟩
  · have hije : i = j := by omega
    subst hije
    rw [bs_step _ _ _ _ (by omega), if_neg (by omega)] at hbs
    obtain ⟨t31, h31, ho31, hf31⟩ := own_front3f (E := MvE) (k := .i64) (k' := .i64) mvSl hvW.drew hj
    obtain ⟨t37, h37, hr37⟩ := rd_rest (E := MvE) (k := .i64) mvSl (Rd.of_own hvW.drew) hj
    rw [h31, onSome_some]
    have hk1W := (blk_below hbW (lt_of_blk hk1)).trans hk1
    have e32 : q_loadn 8 (.pointer (some ⟨w.heap.size, 0, none⟩)) W.drew = some m.v := by simp [hk1W, Mv.v, Mv.cs]
    rw [e32, onSome_some, h37, onSome_some]
    unfold l_lit
    rw [show fillC #[.int .i64 0, .int .i64 0, .string ⟨#[]⟩, .int .i64 0, .int .i64 0, .int .i64 0, .string ⟨#[]⟩, .int .i64 0] [(0, 8, m.v)] = some (MvE.cells m).toArray from lit_mv m, onSome_some]
    dsimp only
    have hbL := (Below.refl W.heap.size W.drew).alloc (Nat.le_refl _) (.cells (MvE.cells m).toArray 47)
    have hbL' : Below W.drew.heap.size W.drew (W.drew.alloc (.cells (MvE.cells m).toArray 47)) := hbL
    have hrl := Rd.new (E := MvE) (t := 47) (a := m) W.drew (by decide)
    have hoL := ho31.alloc (.cells (MvE.cells m).toArray 47)
    have hrL := hr37.below hbL'
    have hbWL := (hb1.then hbW).drew.then hbL'
    generalize W.drew.alloc (.cells (MvE.cells m).toArray 47) = W4 at *
    have hlt4 : (S.take i).length = i := by rw [List.length_take]; omega
    refine append_full (E := MvE) mvSl hoL (by rw [hlt4]; exact hf31) hrl (by simp) (small_bytes (by rw [hlt4]; simp; omega) (by decide)) (small_max (by rw [hlt4]; simp; omega)) (fun v5 W5 ho5 hb5 => ?_)
    refine app_mv ho5 (hrL.below hb5) hb5.size (by simp; omega) (fun v6 W6 ho6 hg6 => ?_)
    have hb56 := hb5.grown hg6 hb5.size (fun k hk => (ho5.lt k hk).1)
    have hfin : S.take i ++ [m] ++ S.drop i = insI S (opV S m) m := by rw [← hbs]; simp [insI]
    rw [hfin] at ho6
    exact hK _ _ (ho6.lower hbWL.size) (hbWL.then hb56)
theorem op_place {l : List Mv} {O : List Nat} : opV (seqV l O) m = placeV l O m.value := by
  unfold opV placeV
  rw [seqV_len]
  refine bs_congr (N := O.length) (fun k hk => ?_) _ _ _ (Nat.le_refl _)
  rw [lev_eq hk]
  have : at0 (seqV l O) k = at0 l O[k] := by
    unfold seqV
    unfold at0
    rw [List.getElem?_map, List.getElem?_eq_getElem hk]
    rfl
  rw [this]
def OrI (w0 : World) (l : List Mv) (a v : Value) (W : World) : Prop :=
  Below w0.heap.size w0 W ∧ ∃ i : Nat, v = .int .i64 i ∧ i ≤ l.length ∧ Own MvE 47 W w0.heap.size a (seqV l (ordN l i))
theorem order_ok {v : Value} {l : List Mv} (hv : Rd MvE w v l) (hs : ∀ (k : Nat) (h : k < l.length), l[k].seq = ((k + 1 : Nat) : Int)) (hn : l.length ≤ 100000) {K : Value → World → Prop}
    (hK : ∀ w' v', Own MvE 47 w' w.heap.size v' (ordI l) → Below w.heap.size w w' → K v' w') : Ret Tryz.prog 54 [v] w K := by
  refine lift54 ?_
  unfold L54
  rw [hv.len, onSome_some]
  refine looping_i (OrI w l) (fun _ v _ => l.length - (intOf v).toNat) ⟨⟨Below.refl _ _, 0, rfl, Nat.zero_le _, Own.nil _ _ _ _⟩, ?_⟩
  rintro o _ W ⟨hbW, i, rfl, hi, ho⟩ _
  simp only [q_lss, onSome_some]
  refine xif_dec (fun hlt => ?_) (fun hlt => ?_)
  · have h1 : i < l.length := by omega
    have e1 : IntKind.i64.wrap ((i : Int) + 1) = ((i + 1 : Nat) : Int) := by rw [wrap_i64 (by omega) (by omega)]; omega
    obtain ⟨ad, hq, hload⟩ := mv_load (hv.below hbW) h1
    have hsi := hs i h1
    have eat : at0 l i = l[i] := at0_get h1
    have estep : seqV l (ordN l (i + 1)) = insI (seqV l (ordN l i)) (opV (seqV l (ordN l i)) l[i]) l[i] := by
      show seqV l (insI (ordN l i) (placeV l (ordN l i) (at0 l i).value) i) = _
      rw [op_place, eat]
      unfold seqV insI
      rw [List.map_append, List.map_cons, List.map_take, List.map_drop, eat]
    have hsq : ∀ k (h : k < (seqV l (ordN l i)).length), (seqV l (ordN l i))[k].seq ≤ l[i].seq := by
      intro k h
      have hk : k < (ordN l i).length := by rw [seqV_len] at h; exact h
      have ho := ordN_lt l i _ (List.getElem_mem hk)
      have : (seqV l (ordN l i))[k]? = some (at0 l (ordN l i)[k]) := by
        unfold seqV
        rw [List.getElem?_map, List.getElem?_eq_getElem hk]
        rfl
      rw [List.getElem?_eq_getElem h] at this
      rw [Option.some.inj this, at0_get (by omega), hs _ (by omega), hsi]
      omega
    have hlen : (seqV l (ordN l i)).length = i := by rw [seqV_len, ordN_len]
    generalize l[i] = li at *
    rw [hq, onSome_some, hload _ (Below.refl _ _), onSome_some]
    refine var_mv (m := li) (fun W3 hb3 hk3 _ => ?_)
    have e8 : q_loadn 8 (.pointer (some ⟨W.heap.size, 0, none⟩)) W3 = some li.v := by simp [hk3, Mv.cs, Mv.v]
    rw [e8, onSome_some, q_func_some, onSome_some]
    refine insert_mv (ho.below hb3) hk3 hsq (by omega) (fun W4 v4 ho4 hb4 => ?_)
    have hb04 := (hbW.then hb3).then hb4
    rw [← estep] at ho4
    simp only [q_add, onSome_some, e1]
    exact ⟨⟨hb04, i + 1, rfl, by omega, ho4.lower (hbW.then hb3).size⟩, by simp only [intOf]; omega⟩
  · have hil : i = l.length := by omega
    rw [hil] at ho
    exact hK _ _ ho hbW
end Go.X
