/- Soundness of the lifted form at a region that draws its order (2): the simulation. -/
import Derived.Test.YtbglbbmlohfemaaGreatDoorXe
set_option linter.unusedVariables false
set_option linter.unusedSimpArgs false
namespace Go.X
variable {P : Program}

def dsti (L : List Oper) (i : Nat) : Option Nat := (nth L i).bind (·.dst)
/-- The environment that a set of operations leaves, each with its value, in the text's order. -/
def envD (L : List Oper) (val : Nat → Value) (a0 : Env) (D : Nat → Bool) : Nat → Env
  | 0 => a0
  | m + 1 => if D m = true then put (envD L val a0 D m) (dsti L m) (val m) else envD L val a0 D m
def upd (val : Nat → Value) (i : Nat) (v : Value) : Nat → Value := fun k => if k = i then v else val k
def ins (D : Nat → Bool) (i : Nat) : Nat → Bool := fun k => if k = i then true else D k

theorem put_apart {e : Env} {d d' : Option Nat} {v v' : Value} (h : ∀ k, d = some k → d' ≠ some k) : put (put e d v) d' v' = put (put e d' v') d v := by
  cases d with
  | none => rfl
  | some k =>
    cases d' with
    | none => rfl
    | some k' =>
      funext s
      simp only [put]
      have hne : k ≠ k' := fun e => h k rfl (by rw [e])
      cases h1 : Nat.beq s k <;> cases h2 : Nat.beq s k' <;> simp
      have e1 := Nat.eq_of_beq_eq_true h1
      have e2 := Nat.eq_of_beq_eq_true h2
      exact absurd (e1.symm.trans e2) hne
theorem put_other {e : Env} {d : Option Nat} {v : Value} {s : Nat} (h : d ≠ some s) : put e d v s = e s := by
  cases d with
  | none => rfl
  | some k =>
    simp only [put]
    cases hb : Nat.beq s k with
    | false => rfl
    | true => exact absurd (by rw [Nat.eq_of_beq_eq_true hb]) h
variable {L : List Oper} {val val' : Nat → Value} {a0 : Env} {D D' : Nat → Bool}
theorem envD_val {m : Nat} (h : ∀ k, k < m → D k = true → val k = val' k) : envD L val a0 D m = envD L val' a0 D m := by
  induction m with
  | zero => rfl
  | succ m ih =>
    simp only [envD]
    rw [ih fun k hk => h k (by omega)]
    split
    · rename_i hd; rw [h m (by omega) hd]
    · rfl
theorem envD_set {m : Nat} (h : ∀ k, k < m → D k = D' k) : envD L val a0 D m = envD L val a0 D' m := by
  induction m with
  | zero => rfl
  | succ m ih =>
    simp only [envD]
    rw [ih fun k hk => h k (by omega), h m (by omega)]
theorem envD_insert {i m : Nat} {v : Value} (him : i < m) (hi : D i = false) (hv : val' i = v) (hval : ∀ k, D k = true → val' k = val k)
    (hc : ∀ k, i < k → k < m → D k = true → ∀ d, dsti L i = some d → dsti L k ≠ some d) : envD L val' a0 (ins D i) m = put (envD L val a0 D m) (dsti L i) v := by
  induction m with
  | zero => omega
  | succ m ih =>
    simp only [envD]
    by_cases h : i = m
    · subst h
      have e1 : envD L val' a0 (ins D i) i = envD L val a0 D i := by
        rw [envD_set (D' := D) (fun k hk => by simp [ins, Nat.ne_of_lt hk])]
        exact envD_val fun k hk hd => hval k hd
      simp [ins, hi, hv, e1]
    · have him' : i < m := by omega
      rw [ih him' fun k h1 h2 => hc k h1 (by omega)]
      have hne : ¬ m = i := fun e => h e.symm
      simp only [ins, if_neg hne]
      split
      · rename_i hd
        rw [hval m hd]
        exact put_apart fun d hd' => hc m him' (by omega) hd d hd'
      · rfl
theorem envD_agree {m s : Nat} (h : ∀ k, k < m → dsti L k = some s → D k = D' k) : envD L val a0 D m s = envD L val a0 D' m s := by
  induction m with
  | zero => rfl
  | succ m ih =>
    have ih' := ih fun k hk => h k (by omega)
    simp only [envD]
    by_cases hd : dsti L m = some s
    · rw [h m (by omega) hd]
      split
      · rw [hd]; simp only [put, Nat.beq_refl, cond_true]
      · exact ih'
    · have e1 : ∀ (b : Bool) (e : Env) (v : Value), (if b = true then put e (dsti L m) v else e) s = e s := by
        intro b e v
        split
        · exact put_other hd
        · rfl
      rw [e1, e1]
      exact ih'
def unl (D : Nat → Bool) : Nat → Nat
  | 0 => 0
  | m + 1 => unl D m + if D m = true then 0 else 1
theorem unl_ins {i m : Nat} (him : i < m) (hi : D i = false) : unl (ins D i) m + 1 = unl D m := by
  induction m with
  | zero => omega
  | succ m ih =>
    simp only [unl]
    by_cases h : i = m
    · subst h
      have : unl (ins D i) i = unl D i := by
        clear ih him
        have : ∀ k, k ≤ i → unl (ins D i) k = unl D k := by
          intro k
          induction k with
          | zero => intro _; rfl
          | succ k ih =>
            intro hk
            simp only [unl]
            rw [ih (by omega)]
            simp [ins, show ¬ k = i by omega]
        exact this i (Nat.le_refl _)
      simp [this, ins, hi]
    · have := ih (by omega)
      have hne : ¬ m = i := fun e => h e.symm
      simp only [ins, if_neg hne]
      omega
theorem unl_zero {m : Nat} (h : unl D m = 0) : ∀ k, k < m → D k = true := by
  induction m with
  | zero => intro k hk; omega
  | succ m ih =>
    intro k hk
    simp only [unl] at h
    by_cases hkm : k = m
    · subst hkm
      cases hd : D k with
      | true => rfl
      | false => simp [hd] at h
    · exact ih (by omega) k (by omega)

/-! ### The static look -/
def regOk (n : Nat) (B : List Nat) (ops : Array Oper) : Bool :=
  ops.toList.all (dstOk n) &&
  (upto ops.toList.length).all fun i => match nth ops.toList i with
    | some o => Nat.blt ((nth B i).getD 0) (2 ^ i) &&
        (o.after.toList.all fun ed => !Region.binds .any ed || hasB ((nth B i).getD 0) ed.on) &&
        (upto i).all fun j => match nth ops.toList j with
          | some oj => (hasB ((nth B i).getD 0) j || oj.apart ops o) &&
              (!hasB ((nth B i).getD 0) j || o.after.toList.any fun ed => Region.binds .any ed && (Nat.beq ed.on j || hasB ((nth B ed.on).getD 0) j))
          | none => false
    | none => false
/-- The heads of a written-out order's ways. -/
def Sch.heads : Sch → List Nat
  | .l i _ _ => [i]
  | .alt a b => a.heads ++ b.heads
  | _ => []
def Sch.depth : Sch → Nat
  | .nil => 0
  | .q _ r => r.depth + 1
  | .l _ _ r => r.depth + 1
  | .alt a b => max a.depth b.depth
def sameL : List Nat → List Nat → Bool
  | [], [] => true
  | x :: xs, y :: ys => Nat.beq x y && sameL xs ys
  | _, _ => false
theorem sameL_eq : ∀ {l k : List Nat}, sameL l k = true → l = k := by
  intro l
  induction l with
  | nil => intro k h; cases k with
    | nil => rfl
    | cons y ys => cases h
  | cons x xs ih => intro k h; cases k with
    | nil => cases h
    | cons y ys =>
      simp only [sameL, Bool.and_eq_true] at h
      rw [Nat.eq_of_beq_eq_true h.1, ih h.2]
def schOk (ops : List Oper) (B : List Nat) : Sch → Bool → Nat → Bool
  | .nil, br, done => !br && Nat.beq done (2 ^ ops.length - 1)
  | .q i r, br, done => !br && (match firstQuiet ops done (upto ops.length) with | some k => Nat.beq k i | none => false) && schOk ops B r false (Nat.lor done (2 ^ i))
  | .l i m r, br, done => (br || ((firstQuiet ops done (upto ops.length)).isNone && !Nat.beq done (2 ^ ops.length - 1) && sameL (readyLoud ops done (upto ops.length)) [i])) &&
      Nat.beq ((nth B i).getD 0) m && schOk ops B r false (Nat.lor done (2 ^ i))
  | .alt a b, br, done => (br || ((firstQuiet ops done (upto ops.length)).isNone && !Nat.beq done (2 ^ ops.length - 1) && sameL (readyLoud ops done (upto ops.length)) (a.heads ++ b.heads))) &&
      schOk ops B a true done && schOk ops B b true done
theorem allOf_append {α : Type} {f : α → Prop} : ∀ {l k : List α}, allOf f l → allOf f k → allOf f (l ++ k) := by
  intro l
  induction l with
  | nil => intro k h; cases h
  | cons x r ih =>
    intro k h hk
    cases r with
    | nil =>
      cases k with
      | nil => cases hk
      | cons y k => exact ⟨h, hk⟩
    | cons y r => exact ⟨h.1, ih h.2 hk⟩
theorem sch_any {ops : List Oper} {B : List Nat} : ∀ (s : Sch), (∀ (f done : Nat) (pend : Pend) (e : Env) (w : World) (K : Env → World → Prop), s.depth ≤ f → schOk ops B s false done = true → xsch P ops s pend e w K → xany P ops B f done pend e w K) ∧
    (∀ (f done : Nat) (pend : Pend) (e : Env) (w : World) (K : Env → World → Prop), s.depth ≤ f + 1 → schOk ops B s true done = true → xsch P ops s pend e w K →
      allOf (fun i => match nth ops i with
        | some o => gl P ops w e o fun v w' => pendAll w' (pendKeep ((nth B i).getD 0) pend) (xany P ops B f (Nat.lor done (2 ^ i)) (pendKeep ((nth B i).getD 0) pend) (put e o.dst v) w' K)
        | none => False) s.heads) := by
  have pendMono : ∀ {w : World} {K K' : Prop}, (K → K') → ∀ {pend : Pend}, pendAll w pend K → pendAll w pend K' := by
    intro w K K' hk pend
    induction pend with
    | nil => exact hk
    | cons q r ih => intro h; exact ⟨h.1, ih h.2⟩
  intro s
  induction s with
  | nil =>
    refine ⟨fun f done pend e w K hf hok h => ?_, fun f done pend e w K hf hok h => by simp [schOk] at hok⟩
    simp only [schOk, Bool.not_false, Bool.true_and] at hok
    have hq : firstQuiet ops done (upto ops.length) = none := by
      have : ∀ l : List Nat, (∀ i ∈ l, i < ops.length) → firstQuiet ops done l = none := by
        intro l
        induction l with
        | nil => intro _; rfl
        | cons k r ih =>
          intro hl
          simp only [firstQuiet]
          have hk := hl k (by simp)
          have hd : hasB done k = true := by
            rw [Nat.eq_of_beq_eq_true hok]
            simp [hasB, Nat.testBit_two_pow_sub_one, hk]
          rw [show readyAt ops done k = false by simp [readyAt, hd]]
          exact ih fun i hi => hl i (by simp [hi])
      refine this _ fun i hi => ?_
      have : ∀ n i, i ∈ upto n → i < n := by
        intro n
        induction n with
        | zero => intro i h; simp [upto] at h
        | succ n ih => intro i h; simp [upto] at h; rcases h with h | h
                       · exact Nat.lt_succ_of_lt (ih i h)
                       · omega
      exact this _ i hi
    cases f with
    | zero => simp only [xany, hok]; exact h
    | succ f => simp only [xany, hq, hok]; exact h
  | q i r ih =>
    refine ⟨fun f done pend e w K hf hok h => ?_, fun f done pend e w K hf hok h => by simp [schOk] at hok⟩
    simp only [schOk, Bool.not_false, Bool.true_and, Bool.and_eq_true] at hok
    cases f with
    | zero => simp [Sch.depth] at hf
    | succ f =>
      obtain ⟨h1, h2⟩ := hok
      split at h1
      · rename_i k hk
        have := Nat.eq_of_beq_eq_true h1
        subst this
        simp only [xany, hk]
        simp only [xsch] at h
        split
        · rename_i o ho
          simp only [ho] at h
          cases hmv : moveOf o with
          | some x =>
            simp only [hmv] at h
            rw [gq_move hmv, (move_quiet (P := P) hmv).2]
            exact ih.1 f _ _ _ _ K (by simp only [Sch.depth] at hf; omega) h2 h
          | none =>
          simp only [hmv] at h
          unfold onSome at h ⊢
          split
          · rename_i v hv
            rw [hv] at h
            exact ih.1 f _ _ _ _ K (by simp only [Sch.depth] at hf; omega) h2 h
          · rename_i hv; rw [hv] at h; exact h
        · rename_i ho; simp only [ho] at h
      · cases h1
  | l i m r ih =>
    have hB : ∀ (f done : Nat) (pend : Pend) (e : Env) (w : World) (K : Env → World → Prop), (Sch.l i m r).depth ≤ f + 1 → Nat.beq ((nth B i).getD 0) m = true → schOk ops B r false (Nat.lor done (2 ^ i)) = true → xsch P ops (.l i m r) pend e w K →
        allOf (fun i => match nth ops i with
          | some o => gl P ops w e o fun v w' => pendAll w' (pendKeep ((nth B i).getD 0) pend) (xany P ops B f (Nat.lor done (2 ^ i)) (pendKeep ((nth B i).getD 0) pend) (put e o.dst v) w' K)
          | none => False) [i] := by
      intro f done pend e w K hf hm hr h
      simp only [allOf]
      simp only [xsch] at h
      split
      · rename_i o ho
        simp only [ho] at h
        rw [Nat.eq_of_beq_eq_true hm]
        exact gl_mono (fun v w' hx => pendMono (fun hy => ih.1 f _ _ _ _ K (by simp only [Sch.depth] at hf; omega) hr hy) hx) h
      · rename_i ho; simp only [ho] at h
    refine ⟨fun f done pend e w K hf hok h => ?_, fun f done pend e w K hf hok h => ?_⟩
    · simp only [schOk, Bool.false_or, Bool.and_eq_true, Bool.not_eq_true'] at hok
      obtain ⟨⟨⟨⟨h1, h2⟩, h3⟩, h4⟩, h5⟩ := hok
      cases f with
      | zero => simp [Sch.depth] at hf
      | succ f =>
        have hq : firstQuiet ops done (upto ops.length) = none := by simpa using h1
        simp only [xany, hq, h2, sameL_eq h3]
        exact hB f done pend e w K hf h4 h5 h
    · simp only [schOk, Bool.true_or, Bool.true_and, Bool.and_eq_true] at hok
      exact hB f done pend e w K hf hok.1 hok.2 h
  | alt a b iha ihb =>
    refine ⟨fun f done pend e w K hf hok h => ?_, fun f done pend e w K hf hok h => ?_⟩
    · simp only [schOk, Bool.false_or, Bool.and_eq_true, Bool.not_eq_true'] at hok
      obtain ⟨⟨⟨⟨h1, h2⟩, h3⟩, h4⟩, h5⟩ := hok
      have hq : firstQuiet ops done (upto ops.length) = none := by simpa using h1
      cases f with
      | zero =>
        exfalso
        have : ∀ s : Sch, s.depth ≤ 0 → ∀ done, schOk ops B s true done = true → False := by
          intro s
          induction s with
          | nil => intro _ d h; simp [schOk] at h
          | q i r ih => intro hd; simp [Sch.depth] at hd
          | l i m r ih => intro hd; simp [Sch.depth] at hd
          | alt a b iha ihb =>
            intro hd d h
            simp only [schOk, Bool.true_or, Bool.true_and, Bool.and_eq_true] at h
            exact iha (by simp only [Sch.depth] at hd; omega) d h.1
        exact this a (by simp only [Sch.depth] at hf; omega) done h4
      | succ f =>
        simp only [xany, hq, h2, sameL_eq h3]
        exact allOf_append (iha.2 f done pend e w K (by simp only [Sch.depth] at hf; omega) h4 h.1) (ihb.2 f done pend e w K (by simp only [Sch.depth] at hf; omega) h5 h.2)
    · simp only [schOk, Bool.true_or, Bool.true_and, Bool.and_eq_true] at hok
      exact allOf_append (iha.2 f done pend e w K (by simp only [Sch.depth] at hf; omega) hok.1 h.1) (ihb.2 f done pend e w K (by simp only [Sch.depth] at hf; omega) hok.2 h.2)
theorem mem_upto {n i : Nat} : i ∈ upto n ↔ i < n := by
  induction n with
  | zero => simp [upto]
  | succ n ih => simp [upto, ih]; omega
theorem nth_lt {α : Type} {l : List α} {i : Nat} {x : α} (h : nth l i = some x) : i < l.length := by
  rw [nth_eq] at h; exact (List.getElem?_eq_some_iff.1 h).1
theorem nth_some {α : Type} {l : List α} {i : Nat} (h : i < l.length) : ∃ x, nth l i = some x := by
  rw [nth_eq]; exact ⟨l[i], List.getElem?_eq_getElem h⟩
structure RegOk (n : Nat) (ops : Array Oper) (B : List Nat) : Prop where
  dst : ∀ i o, nth ops.toList i = some o → dstOk n o = true
  small : ∀ i j, i < ops.toList.length → hasB ((nth B i).getD 0) j = true → j < i
  edge : ∀ i o, nth ops.toList i = some o → ∀ ed ∈ o.after, Region.binds .any ed = true → hasB ((nth B i).getD 0) ed.on = true
  clash : ∀ i j oi oj, nth ops.toList i = some oi → nth ops.toList j = some oj → j < i → hasB ((nth B i).getD 0) j = true ∨ oj.apart ops oi = true
  why : ∀ i j o, nth ops.toList i = some o → hasB ((nth B i).getD 0) j = true → ∃ ed ∈ o.after, Region.binds .any ed = true ∧ (ed.on = j ∨ hasB ((nth B ed.on).getD 0) j = true)
theorem lt_of_hasB {m i j : Nat} (h : m < 2 ^ i) (hb : hasB m j = true) : j < i := by
  rcases Nat.lt_or_ge j i with hlt | hge
  · exact hlt
  · have := Nat.testBit_lt_two_pow (Nat.lt_of_lt_of_le h (Nat.pow_le_pow_right (by omega) hge))
    simp only [hasB] at hb
    rw [this] at hb
    cases hb
theorem regOk_spec {n : Nat} {B : List Nat} {ops : Array Oper} (h : regOk n B ops = true) : RegOk n ops B := by
  unfold regOk at h
  simp only [Bool.and_eq_true, List.all_eq_true] at h
  obtain ⟨hd, h⟩ := h
  have key : ∀ i o, nth ops.toList i = some o → _ := fun i o ho => by
    have h1 := h i (mem_upto.2 (nth_lt ho))
    rw [ho] at h1
    simp only [Bool.and_eq_true, List.all_eq_true, Bool.or_eq_true, Bool.not_eq_true'] at h1
    exact h1
  refine ⟨fun i o ho => hd o ?_, fun i j hi hb => ?_, fun i o ho ed he hb => ?_, fun i j oi oj hoi hoj hji => ?_, fun i j o ho hb => ?_⟩
  · rw [nth_eq] at ho; exact List.mem_of_getElem? ho
  · obtain ⟨o, ho⟩ := nth_some hi
    exact lt_of_hasB (by simpa [Nat.blt_eq] using (key i o ho).1.1) hb
  · rcases (key i o ho).1.2 ed (by simpa using he) with h1 | h1
    · rw [hb] at h1; cases h1
    · exact h1
  · have h1 := (key i oi hoi).2 j (mem_upto.2 hji)
    rw [hoj] at h1
    simp only [Bool.and_eq_true, Bool.or_eq_true] at h1
    exact h1.1
  · have hj : j < i := lt_of_hasB (by simpa [Nat.blt_eq] using (key i o ho).1.1) hb
    have h1 := (key i o ho).2 j (mem_upto.2 hj)
    obtain ⟨oj, hoj⟩ := nth_some (l := ops.toList) (i := j) (Nat.lt_trans hj (nth_lt ho))
    rw [hoj] at h1
    simp only [Bool.and_eq_true, Bool.or_eq_true, Bool.not_eq_true', List.any_eq_true] at h1
    rcases h1.2 with h2 | ⟨ed, he, h2, h3⟩
    · rw [hb] at h2; cases h2
    · refine ⟨ed, by simpa using he, h2, ?_⟩
      rcases h3 with h3 | h3
      · exact .inl (Nat.eq_of_beq_eq_true h3)
      · exact .inr h3

/-! ### The simulation -/
section sim
variable {ops : Array Oper} {B : List Nat} {n : Nat}
abbrev bset (B : List Nat) (i : Nat) : Nat → Bool := fun j => hasB ((nth B i).getD 0) j
def Down (L : List Oper) (B : List Nat) (D : Nat → Bool) : Prop := ∀ i, i < L.length → D i = true → ∀ j, bset B i j = true → D j = true
def Ready (ops : Array Oper) (D : Nat → Bool) (i : Nat) : Prop := D i = false ∧ ∃ o, nth ops.toList i = some o ∧ ∀ ed ∈ o.after, Region.binds .any ed = true → D ed.on = true
theorem Ready.lt {i : Nat} (h : Ready ops D i) : i < ops.toList.length := by obtain ⟨_, o, ho, _⟩ := h; exact nth_lt ho
theorem Ready.bset (hB : RegOk n ops B) {i : Nat} (hd : Down ops.toList B D) (h : Ready ops D i) (hin : ∀ j, D j = true → j < ops.toList.length) : ∀ j, bset B i j = true → D j = true := by
  obtain ⟨_, o, ho, he⟩ := h
  intro j hj
  obtain ⟨ed, hed, hb, hj'⟩ := hB.why i j o ho hj
  have h1 := he ed hed hb
  rcases hj' with rfl | hj'
  · exact h1
  · exact hd _ (hin _ h1) h1 j hj'
/-- At an operation that may come up now, what it looks at holds what those before it left. -/
theorem agree_ready (hB : RegOk n ops B) {i : Nat} {o : Oper} (ho : nth ops.toList i = some o) (hd : Down ops.toList B D) (hin : ∀ j, D j = true → j < ops.toList.length) (hi : D i = false)
    (hs : ∀ j, bset B i j = true → D j = true) : ∀ s ∈ o.looksAt ops, envD ops.toList val a0 D ops.toList.length s = envD ops.toList val a0 (bset B i) ops.toList.length s := by
  intro s hsl
  refine envD_agree fun k hk hdst => ?_
  cases hbk : bset B i k with
  | true => exact hs k hbk
  | false =>
    cases hDk : D k with
    | false => rfl
    | true =>
      exfalso
      obtain ⟨ok, hok⟩ := nth_some hk
      have hkd : ok.dst = some s := by simpa [dsti, hok] using hdst
      have hne : k ≠ i := fun e => by rw [e, hi] at hDk; cases hDk
      rcases Nat.lt_or_gt_of_ne hne with hlt | hgt
      · rcases hB.clash i k o ok ho hok hlt with h1 | h1
        · rw [show hasB ((nth B i).getD 0) k = bset B i k from rfl, hbk] at h1; cases h1
        · exact (Oper.apart_spec h1).1 s hkd hsl
      · rcases hB.clash k i ok o hok ho hgt with h1 | h1
        · have := hd k hk hDk i h1
          rw [hi] at this; cases this
        · exact (Oper.apart_spec h1).2.2 s hkd hsl
theorem insert_clash (hB : RegOk n ops B) {i : Nat} {o : Oper} (ho : nth ops.toList i = some o) (hd : Down ops.toList B D) (hi : D i = false) :
    ∀ k, i < k → k < ops.toList.length → D k = true → ∀ d, dsti ops.toList i = some d → dsti ops.toList k ≠ some d := by
  intro k hik hk hDk d hdi hdk
  obtain ⟨ok, hok⟩ := nth_some hk
  have h1 : o.dst = some d := by simpa [dsti, ho] using hdi
  have h2 : ok.dst = some d := by simpa [dsti, hok] using hdk
  rcases hB.clash k i ok o hok ho hik with h3 | h3
  · have := hd k hk hDk i h3
    rw [hi] at this; cases this
  · exact (Oper.apart_spec h3).2.1 d h1 h2
theorem down_ins (hin : ∀ j, D j = true → j < L.length) {i : Nat} (hd : Down L B D) (hs : ∀ j, bset B i j = true → D j = true) : Down L B (ins D i) := by
  intro k hk hk1 j hj
  simp only [ins] at hk1 ⊢
  by_cases hji : j = i
  · simp [hji]
  · simp only [if_neg hji]
    by_cases hki : k = i
    · subst hki; exact hs j hj
    · simp only [if_neg hki] at hk1
      exact hd k hk hk1 j hj
structure Sim (P : Program) (ops : Array Oper) (B : List Nat) (n : Nat) (a0 : Env) (D : Nat → Bool) (done : Nat) (val : Nat → Value) (pend : Pend) (a : Act) (e : Env) (w : World) : Prop where
  fit : Fit n a
  inD : ∀ j, D j = true → j < ops.toList.length
  inD' : ∀ j, hasB done j = true → j < ops.toList.length
  sub : ∀ j, D j = true → hasB done j = true
  down : Down ops.toList B D
  down' : Down ops.toList B (hasB done)
  act : envOf a = envD ops.toList val a0 D ops.toList.length
  env : e = envD ops.toList val a0 (hasB done) ops.toList.length
  ahead : ∀ i o, nth ops.toList i = some o → hasB done i = true → D i = false → gq P ops.toList w (envD ops.toList val a0 (bset B i) ops.toList.length) o = some (val i) ∧
    (looksOut P o.op = true → ∃ p, (i, p) ∈ pend ∧ ∀ w', p w' → gq P ops.toList w' (envD ops.toList val a0 (bset B i) ops.toList.length) o = some (val i))
theorem hasB_or {m i j : Nat} : hasB (Nat.lor m (2 ^ i)) j = (hasB m j || decide (j = i)) := by
  simp only [hasB]
  have : Nat.lor m (2 ^ i) = m ||| 2 ^ i := rfl
  rw [this, Nat.testBit_or, Nat.testBit_two_pow]
  by_cases h : i = j
  · subst h; simp
  · have h' : ¬ j = i := fun e => h e.symm
    simp [h, h']
theorem hasB_ins {m i : Nat} : hasB (Nat.lor m (2 ^ i)) = ins (hasB m) i := by
  funext j
  rw [hasB_or]
  simp only [ins]
  by_cases h : j = i
  · subst h; simp
  · simp [h]
theorem full_all {N done : Nat} (h : ∀ j, hasB done j = true → j < N) : Nat.beq done (2 ^ N - 1) = true ↔ ∀ j, j < N → hasB done j = true := by
  constructor
  · intro hb j hj
    rw [Nat.eq_of_beq_eq_true hb]
    simp [hasB, Nat.testBit_two_pow_sub_one, hj]
  · intro ha
    have : done = 2 ^ N - 1 := by
      apply Nat.eq_of_testBit_eq
      intro j
      rw [Nat.testBit_two_pow_sub_one]
      cases hd : Nat.testBit done j with
      | true => simp [h j hd]
      | false =>
        by_cases hj : j < N
        · have := ha j hj
          simp only [hasB] at this
          rw [this] at hd; cases hd
        · simp [hj]
    rw [this]
    exact Nat.beq_refl _
theorem readyAt_iff {done i : Nat} : readyAt ops.toList done i = true ↔ Ready ops (hasB done) i := by
  unfold readyAt Ready
  cases ho : nth ops.toList i with
  | none => simp
  | some o =>
    simp only [Bool.and_eq_true, Bool.not_eq_true', List.all_eq_true, Bool.or_eq_true]
    constructor
    · rintro ⟨h1, h2⟩
      refine ⟨h1, o, rfl, fun ed he hb => ?_⟩
      rcases h2 ed (by simpa using he) with h3 | h3
      · rw [hb] at h3; cases h3
      · exact h3
    · rintro ⟨h1, o', ho', h2⟩
      injection ho' with ho'
      subst ho'
      refine ⟨h1, fun ed he => ?_⟩
      cases hb : Region.binds .any ed with
      | false => exact .inl rfl
      | true => exact .inr (h2 ed (by simpa using he) hb)
theorem firstQuiet_some {done i : Nat} : ∀ {l : List Nat}, firstQuiet L done l = some i → readyAt L done i = true ∧ ∃ o, nth L i = some o ∧ isLoud o.op = false := by
  intro l
  induction l with
  | nil => intro h; simp [firstQuiet] at h
  | cons k r ih =>
    intro h
    simp only [firstQuiet] at h
    split at h
    · rename_i hk
      injection h with h
      subst h
      simp only [Bool.and_eq_true] at hk
      refine ⟨hk.1, ?_⟩
      have h2 := hk.2
      split at h2
      · rename_i o ho; exact ⟨o, ho, by simpa using h2⟩
      · cases h2
    · exact ih h
theorem firstQuiet_none {done : Nat} : ∀ {l : List Nat}, firstQuiet L done l = none → ∀ i ∈ l, readyAt L done i = true → ∀ o, nth L i = some o → isLoud o.op = true := by
  intro l
  induction l with
  | nil => intro _ i hi; cases hi
  | cons k r ih =>
    intro h i hi hr o ho
    simp only [firstQuiet] at h
    split at h
    · cases h
    · rename_i hk
      rcases List.mem_cons.1 hi with rfl | hi
      · simp only [hr, ho, Bool.true_and, Bool.not_eq_false'] at hk
        exact hk
      · exact ih h i hi hr o ho
theorem readyLoud_mem {done : Nat} : ∀ {l : List Nat} {i : Nat} {o : Oper}, i ∈ l → readyAt L done i = true → nth L i = some o → isLoud o.op = true → i ∈ readyLoud L done l := by
  intro l
  induction l with
  | nil => intro i o hi; cases hi
  | cons k r ih =>
    intro i o hi hr ho hl
    simp only [readyLoud]
    rcases List.mem_cons.1 hi with rfl | hi
    · simp [hr, ho, hl]
    · split
      · exact List.mem_cons_of_mem _ (ih hi hr ho hl)
      · exact ih hi hr ho hl
theorem allOf_mem {α : Type} {f : α → Prop} : ∀ {l : List α} {x : α}, allOf f l → x ∈ l → f x := by
  intro l
  induction l with
  | nil => intro x h _; cases h
  | cons a r ih =>
    intro x h hx
    cases r with
    | nil =>
      rcases List.mem_cons.1 hx with rfl | hx
      · exact h
      · cases hx
    | cons b r =>
      rcases List.mem_cons.1 hx with rfl | hx
      · exact h.1
      · exact ih h.2 hx
theorem pendAll_mem {w : World} {K : Prop} : ∀ {pend : Pend}, pendAll w pend K → (∀ i p, (i, p) ∈ pend → p w) ∧ K := by
  intro pend
  induction pend with
  | nil => intro h; exact ⟨fun _ _ hm => (nomatch hm), h⟩
  | cons q r ih =>
    obtain ⟨i, p⟩ := q
    intro h
    simp only [pendAll, ob] at h
    obtain ⟨h1, h2⟩ := ih h.2
    refine ⟨fun j q hq => ?_, h2⟩
    rcases List.mem_cons.1 hq with hq | hq
    · injection hq with e1 e2
      subst e2
      exact h.1
    · exact h1 j q hq
theorem pendKeep_mem {m i : Nat} {p : World → Prop} : ∀ {pend : Pend}, (i, p) ∈ pend → hasB m i = false → (i, p) ∈ pendKeep m pend := by
  intro pend
  induction pend with
  | nil => intro h; cases h
  | cons q r ih =>
    obtain ⟨k, q⟩ := q
    intro h hi
    simp only [pendKeep]
    rcases List.mem_cons.1 h with h | h
    · injection h with e1 e2
      subst e1
      subst e2
      rw [hi]
      exact List.mem_cons_self ..
    · split
      · exact ih h hi
      · exact List.mem_cons_of_mem _ (ih h hi)
/-- One quiet operation taken as early as it may. -/
theorem Sim.step (hB : RegOk n ops B) {done : Nat} {pend : Pend} {a : Act} {e : Env} {w : World} (h : Sim P ops B n a0 D done val pend a e w) {i : Nat} {o : Oper} {v : Value}
    (ho : nth ops.toList i = some o) (hr : readyAt ops.toList done i = true) (hv : gq P ops.toList w e o = some v) :
    Sim P ops B n a0 D (Nat.lor done (2 ^ i)) (upd val i v) (match looksOut P o.op with
      | true => (i, fun w' => gq P ops.toList w' e o = some v) :: pend
      | false => pend) a (put e o.dst v) w := by
  have hrd := readyAt_iff.1 hr
  have hi : hasB done i = false := hrd.1
  have hDi : D i = false := by
    cases hd : D i with
    | false => rfl
    | true => rw [h.sub i hd] at hi; cases hi
  have hlt := hrd.lt
  have hbs := hrd.bset hB h.down' h.inD'
  have hbi : ∀ j, bset B i j = true → j ≠ i := fun j hj => Nat.ne_of_lt (hB.small i j hlt hj)
  have hag := agree_ready (val := val) (a0 := a0) hB ho h.down' h.inD' hi hbs
  have hupd : ∀ (S : Nat → Bool), S i = false → envD ops.toList val a0 S ops.toList.length = envD ops.toList (upd val i v) a0 S ops.toList.length := by
    intro S hS
    refine envD_val fun k _ hk => ?_
    have : k ≠ i := fun e => by rw [e, hS] at hk; cases hk
    simp [upd, this]
  have hbii : bset B i i = false := by
    cases hb : bset B i i with
    | false => rfl
    | true => exact absurd rfl (hbi i hb)
  have hR : ∀ w', gq P ops.toList w' (envD ops.toList (upd val i v) a0 (bset B i) ops.toList.length) o = gq P ops.toList w' e o := by
    intro w'
    rw [← hupd _ hbii, h.env]
    exact (gq_congr hag).symm
  refine ⟨h.fit, h.inD, ?_, ?_, h.down, ?_, ?_, ?_, ?_⟩
  · intro j hj
    rw [hasB_ins] at hj
    simp only [ins] at hj
    split at hj
    · rename_i e; rw [e]; exact hlt
    · exact h.inD' j hj
  · intro j hj
    rw [hasB_ins]
    simp only [ins]
    split
    · rfl
    · exact h.sub j hj
  · rw [hasB_ins]; exact down_ins h.inD' h.down' hbs
  · rw [h.act]; exact hupd D hDi
  · rw [hasB_ins, h.env]
    have := envD_insert (L := ops.toList) (val := val) (val' := upd val i v) (a0 := a0) (D := hasB done) (v := v) hlt hi (by simp [upd]) (fun k hk => by
      have : k ≠ i := fun e => by rw [e, hi] at hk; cases hk
      simp [upd, this]) (insert_clash hB ho h.down' hi)
    rw [this]
    simp [dsti, ho]
  · intro k ok hok hk hDk
    by_cases hki : k = i
    · subst hki
      rw [ho] at hok
      injection hok with hok
      subst hok
      refine ⟨by rw [hR]; simpa [upd] using hv, fun hl => ?_⟩
      refine ⟨fun w' => gq P ops.toList w' e o = some v, by simp [hl], fun w' hw' => by rw [hR]; simpa [upd] using hw'⟩
    · have hk' : hasB done k = true := by
        rw [hasB_ins] at hk
        simpa [ins, hki] using hk
      obtain ⟨h1, h2⟩ := h.ahead k ok hok hk' hDk
      have hbk : bset B k i = false := by
        cases hb : bset B k i with
        | false => rfl
        | true => have := h.down' k (h.inD' k hk') hk' i hb; rw [hi] at this; cases this
      have hv' : upd val i v k = val k := by simp [upd, hki]
      rw [← hupd _ hbk, hv']
      refine ⟨h1, fun hl => ?_⟩
      obtain ⟨p, hp, hpw⟩ := h2 hl
      refine ⟨p, ?_, hpw⟩
      split
      · exact List.mem_cons_of_mem _ hp
      · exact hp
/-- All quiet operations that may come up are taken. -/
theorem Sim.norm (hB : RegOk n ops B) {K : Env → World → Prop} {a : Act} {w : World} : ∀ (f done : Nat) (val : Nat → Value) (pend : Pend) (e : Env), Sim P ops B n a0 D done val pend a e w → xany P ops.toList B f done pend e w K →
    ∃ f' done' val' pend' e', Sim P ops B n a0 D done' val' pend' a e' w ∧ xany P ops.toList B f' done' pend' e' w K ∧ firstQuiet ops.toList done' (upto ops.toList.length) = none := by
  intro f
  induction f with
  | zero =>
    intro done val pend e hs hx
    refine ⟨0, done, val, pend, e, hs, hx, ?_⟩
    simp only [xany] at hx
    split at hx
    · rename_i hb
      have hall := (full_all hs.inD').1 hb
      cases hq : firstQuiet ops.toList done (upto ops.toList.length) with
      | none => rfl
      | some i =>
        obtain ⟨h1, _⟩ := firstQuiet_some hq
        have h2 := readyAt_iff.1 h1
        have h3 := hall i h2.lt
        rw [h2.1] at h3; cases h3
    · cases hx
  | succ f ih =>
    intro done val pend e hs hx
    cases hq : firstQuiet ops.toList done (upto ops.toList.length) with
    | none => exact ⟨f + 1, done, val, pend, e, hs, hx, hq⟩
    | some i =>
      obtain ⟨hr, o, ho, hl⟩ := firstQuiet_some hq
      simp only [xany, hq, ho] at hx
      unfold onSome at hx
      split at hx
      · rename_i v hv
        exact ih _ _ _ _ (hs.step hB ho hr hv) hx
      · cases hx
end sim
end Go.X
