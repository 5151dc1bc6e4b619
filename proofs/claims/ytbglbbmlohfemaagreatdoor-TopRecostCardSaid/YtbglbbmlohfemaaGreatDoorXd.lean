/- Soundness of the lifted form at loud operations, guards, and regions in the text's order. -/
import Derived.Test.YtbglbbmlohfemaaGreatDoorXc
import Derived.Tactics
set_option linter.unusedVariables false
set_option linter.unusedSimpArgs false
namespace Go.X
variable {P : Program}

theorem storeL_run (w : World) (p : Addr) : ∀ (vs : List Value) (i : Nat) (w w' : World), storeL w p i vs = some w' → (storeCells p vs i).run P w = .ok () w' := by
  intro vs
  induction vs with
  | nil => intro i w w' h; simp [storeL] at h; subst h; simp [storeCells]
  | cons v vs ih =>
    intro i w w' h
    simp only [storeL] at h
    split at h
    · rename_i hc
      obtain ⟨h1, h2, h3⟩ := hc
      cases hcell : w.cell? (p.add i) with
      | none => simp [hcell] at h2
      | some u =>
        have := run_store P w (p.add i) v .plain h1
        simp only [hcell, h3] at this
        simp [storeCells, this, ih _ _ _ h]
    · cases h
theorem store_run {t : TypeId} {i : TypeInfo} {x v : Value} {w w' : World} (hi : P.info? t = some i) (h : q_store i.size x v w = some w') : (Instr.storeAt t x v).run P w = .ok () w' := by
  unfold q_store at h
  split at h
  · split at h
    · rename_i p hs
      simp [Instr.storeAt, Instr.sureAddr, storeVar, sizeOf, typeInfo, hi, hs, storeL_run w p _ _ _ _ h]
    · cases h
  · cases h
theorem repC_length (z : List Value) (n : Nat) : (repC z n).length = n * z.length := by
  induction n with
  | zero => simp [repC]
  | succ n ih => simp [repC, ih, Nat.succ_mul, Nat.add_comm]
theorem repC_get (z : List Value) (hz : 0 < z.length) : ∀ (n i : Nat), i < n * z.length → (repC z n)[i]? = z[i % z.length]? := by
  intro n
  induction n with
  | zero => intro i h; simp at h
  | succ n ih =>
    intro i h
    simp only [repC]
    by_cases hlt : i < z.length
    · rw [List.getElem?_append_left hlt, Nat.mod_eq_of_lt hlt]
    · rw [List.getElem?_append_right (by omega), ih _ (by rw [Nat.add_mul] at h; omega), show i % z.length = (i - z.length) % z.length from Nat.mod_eq_sub_mod (by omega)]
theorem zeros_eq (z : Array Value) (len size : Nat) (hz : z.size = size) (h0 : 0 < size) : (Array.range (len * size)).map (fun i => z[i % z.size]!) = ⟨repC z.toList len⟩ := by
  subst hz
  have hl := repC_length z.toList len
  apply Array.ext
  · simp [hl]
  · intro i h1 h2
    have h1' : i < len * z.size := by simpa using h1
    have hg := repC_get z.toList (by simpa using h0) len i (by simpa using h1')
    have hm : i % z.size < z.size := Nat.mod_lt _ h0
    simp only [Array.length_toList] at hg
    rw [List.getElem?_eq_getElem (by rw [hl]; simpa using h1'), List.getElem?_eq_getElem (by simpa using hm)] at hg
    simp only [Option.some.injEq] at hg
    simp [getElem!_pos z (i % z.size) hm, hg]
theorem lit_run {t el : TypeId} {len : Nat} {inf : TypeInfo} {z cs : Array Value} {l : List (Nat × Nat × Value)} {ps : Array (Nat × Operand)} {e : Env} {w : World}
    (hu : P.underlying t = some (.slice el)) (hi : P.info? el = some inf) (hz : zeroOf P el = some z) (hl : partsAt e (fun i => some (i * inf.size, inf.size)) ps.toList = some l)
    (hd : len * inf.size ≤ 16777216 ∧ z.size = inf.size ∧ 0 < inf.size) (hf : fillC ⟨repC z.toList len⟩ l = some cs) :
    (Instr.buildSlice t len (ps.map fun (i, x) => (i, ev e x))).run P w = .ok (.slice (some ⟨w.heap.size, 0, none⟩) len len) (w.alloc (.cells cs el)) := by
  obtain ⟨h1, h2, h3⟩ := hd
  obtain ⟨zv, rfl, hzr⟩ := zero_run hz w
  have hfill := fill_eq _ e ps.toList _ cs l hl hf
  have hze := zeros_eq zv.cells len inf.size h2 h3
  rcases Nat.eq_zero_or_pos len with h0 | h0
  · subst h0
    simp only [repC] at hfill
    simp [Instr.buildSlice, run_underlying hu, sizeOf, typeInfo, hi, newRow]
    rw [show (Array.map (fun _ => (default : Value)) (Array.range 0)) = ⟨[]⟩ from by simp [Array.range], hfill]
    simp
  · have hne : ¬ (len * inf.size = 0) := Nat.ne_of_gt (Nat.mul_pos h0 h3)
    have hne' : ¬ (len = 0 ∨ inf.size = 0) := by omega
    have hgt : ¬ (len * inf.size > 2 ^ 24) := by omega
    rw [← hze] at hfill
    simp [Instr.buildSlice, run_underlying hu, sizeOf, typeInfo, hi, hzr, hne', hgt, hfill, newRow]
    intro h
    exact absurd h hne

theorem wp_of_run {o : Oper} {a : Act} {w w' : World} {v : Value} {next : Act → World → Prop} {Q : Exit → Act → World → Prop}
    (h : (execOp a.eval o).run P w = .ok (.value v) w') (hn : next (a.put o.dst v) w') : o.wp P a w next Q := by
  unfold Oper.wp; rw [h]; exact hn
theorem wp_of_skip {o : Oper} {a : Act} {w w' : World} {next : Act → World → Prop} {Q : Exit → Act → World → Prop}
    (h : (execOp a.eval o).run P w = .ok .skip w') (hn : next (a.put o.dst undef) w') : o.wp P a w next Q := by
  unfold Oper.wp; rw [h]; exact hn
theorem l_run_ok {s : Sem Value} {w : World} {K : Value → World → Prop} (h : l_run P s w K) : ∃ v w', s.run P w = .ok v w' ∧ K v w' := by
  unfold l_run at h
  split at h
  · rename_i v w' hr; exact ⟨v, w', hr, h⟩
  · cases h
theorem l_runU_ok {s : Sem Unit} {w : World} {K : Value → World → Prop} (h : l_runU P s w K) : ∃ w', s.run P w = .ok () w' ∧ K undef w' := by
  unfold l_runU at h
  split at h
  · rename_i v w' hr; exact ⟨w', hr, h⟩
  · cases h
theorem bodied_call {f : FuncId} {args : Array Value} {w : World} (h : bodied P f = true) : (callFunc f args).run P w = .ok (.enter f args) w := by
  unfold bodied at h
  split at h
  · rename_i fn hf
    simp only [Bool.and_eq_true, Bool.not_eq_true'] at h
    obtain ⟨h1, h2⟩ := h
    have h3 : fn.body.isNone = false := by cases hb : fn.body <;> simp_all
    have h2' : ¬ fn.name = "runtime.NumGoroutine" := by simpa using h2
    have h4 : ¬ fn.body = none := by intro hb; simp [hb] at h3
    simp [callFunc, hf, h2', h4]
  · cases h
theorem ret_upon {f : FuncId} {args : Array Value} {w : World} {o : Oper} {a : Act} {next : Act → World → Prop} {Q : Exit → Act → World → Prop}
    (h : Ret P f args.toList w fun v w' => next (a.put o.dst v) w') : o.upon P a next Q (.ok (.enter f args) w) := by
  unfold Ret at h
  rw [Oper.upon_enter]
  refine Calls.mono (by simpa using h) ?_
  intro e w' he
  cases e with
  | returned v => exact he
  | panicked c => exact he.elim
  | outgrown => exact he.elim

theorem lwp_sound {a : Act} {w : World} {o : Oper} {next : Act → World → Prop} {Q : Exit → Act → World → Prop}
    (h : lwp P (envOf a) o.type w (fun v w' => next (a.put o.dst v) w') o.op) : o.wp P a w next Q := by
  obtain ⟨dst, op, ty, pos, af, gd⟩ := o
  simp only at h
  cases op with
  | alloc t =>
    simp only [lwp] at h
    split at h
    · rename_i z hz
      obtain ⟨v, rfl, hzr⟩ := zero_run hz w
      refine wp_of_run (v := .pointer (some ⟨w.heap.size, 0, none⟩)) (w' := w.alloc (.cells v.cells t)) ?_ h
      simp [execOp, Instr.alloc, hzr, newVar, newRow]
    · cases h
  | box t x =>
    simp only [lwp, ev_envOf] at h
    refine wp_of_run (v := .pointer (some ⟨w.heap.size, 0, none⟩)) (w' := w.alloc (.cells (a.eval x).cells t)) ?_ h
    simp [execOp, Instr.box, newVar, newRow]
  | store t x y =>
    simp only [lwp, ev_envOf] at h
    split at h
    · rename_i i hi
      unfold l_store onSome at h
      split at h
      · rename_i w' hs
        refine wp_of_skip (w' := w') ?_ h
        simp [execOp, store_run hi hs]
      · cases h
    · cases h
  | buildSlice t len parts =>
    simp only [lwp] at h
    split at h
    · rename_i el hu
      split at h
      · rename_i inf z hi hz
        split at h
        · rename_i l hl
          split at h
          · rename_i hd
            unfold l_lit onSome at h
            split at h
            · rename_i cs hf
              have := lit_run (P := P) (w := w) hu hi hz hl (of_decide_eq_true hd) hf
              rw [ev_envOf'] at this
              refine wp_of_run (w' := w.alloc (.cells cs el)) (v := .slice (some ⟨w.heap.size, 0, none⟩) len len) ?_ h
              simp only [execOp]
              simp [this]
            · cases h
          · cases h
        · cases h
      · cases h
    · cases h
  | makeSlice t l c =>
    simp only [lwp, ev_envOf, l_make] at h
    obtain ⟨v, w', hr, hk⟩ := l_run_ok h
    exact wp_of_run (v := v) (w' := w') (by simp [execOp, hr]) hk
  | makeMap t r =>
    simp only [lwp, evo_eq, ev_envOf'] at h
    obtain ⟨v, w', hr, hk⟩ := l_run_ok h
    exact wp_of_run (v := v) (w' := w') (by simp [execOp, hr]) hk
  | mapUpdate t m k x =>
    simp only [lwp, ev_envOf] at h
    obtain ⟨w', hr, hk⟩ := l_runU_ok h
    exact wp_of_skip (w' := w') (by simp [execOp, hr]) hk
  | insert t m k x =>
    simp only [lwp, ev_envOf] at h
    obtain ⟨w', hr, hk⟩ := l_runU_ok h
    exact wp_of_skip (w' := w') (by simp [execOp, hr]) hk
  | mapEntry t m k =>
    simp only [lwp, ev_envOf] at h
    obtain ⟨v, w', hr, hk⟩ := l_run_ok h
    exact wp_of_run (v := v) (w' := w') (by simp [execOp, hr]) hk
  | entryStore t m s x =>
    simp only [lwp, ev_envOf] at h
    obtain ⟨w', hr, hk⟩ := l_runU_ok h
    exact wp_of_skip (w' := w') (by simp [execOp, hr]) hk
  | range t x =>
    simp only [lwp, ev_envOf] at h
    obtain ⟨v, w', hr, hk⟩ := l_run_ok h
    exact wp_of_run (v := v) (w' := w') (by simp [execOp, hr]) hk
  | next it s =>
    simp only [lwp, ev_envOf] at h
    obtain ⟨v, w', hr, hk⟩ := l_run_ok h
    exact wp_of_run (v := v) (w' := w') (by simp [execOp, hr]) hk
  | call c =>
    obtain ⟨cal, as, ts⟩ := c
    cases cal with
    | builtin b =>
      cases b with
      | append =>
        simp only [lwp] at h
        split at h
        · rename_i s x hx
          have ha := args2 hx
          obtain ⟨v, w', hr, hk⟩ := l_run_ok h
          exact wp_of_run (v := v) (w' := w') (by simp [execOp, resolve, ha, invoke, builtin, hr]) hk
        · cases h
      | copy =>
        simp only [lwp] at h
        split at h
        · rename_i s x hx
          have ha := args2 hx
          obtain ⟨v, w', hr, hk⟩ := l_run_ok h
          exact wp_of_run (v := v) (w' := w') (by simp [execOp, resolve, ha, invoke, builtin, hr]) hk
        · cases h
      | delete =>
        simp only [lwp, evl_toArray, ev_envOf'] at h
        obtain ⟨v, w', hr, hk⟩ := l_run_ok h
        exact wp_of_run (v := v) (w' := w') (by simp [execOp, resolve, invoke, builtin, hr]) hk
      | clear =>
        simp only [lwp, evl_toArray, ev_envOf'] at h
        obtain ⟨v, w', hr, hk⟩ := l_run_ok h
        exact wp_of_run (v := v) (w' := w') (by simp [execOp, resolve, invoke, builtin, hr]) hk
      | _ => simp [lwp] at h
    | value f =>
      have callv : ∀ x : Operand, l_callv P (ev (envOf a) x) (evl (envOf a) as.toList) w (fun v w' => next (a.put dst v) w') →
          Oper.wp P { dst := dst, op := .call { callee := .value x, args := as, argTypes := ts }, type := ty, pos := pos, after := af, guard := gd } a w next Q := by
        intro x h
        rw [ev_envOf] at h
        unfold l_callv at h
        split at h
        · rename_i g first cap hv
          obtain ⟨hb, hr⟩ := h
          have he : (execOp a.eval { dst := dst, op := .call { callee := .value x, args := as, argTypes := ts }, type := ty, pos := pos, after := af, guard := gd }).run P w = .ok (.enter g (first ++ as.map a.eval ++ cap)) w := by
            simp [execOp, resolve, hv, Deferred.ofValue, invoke, bodied_call hb]
          unfold Oper.wp
          rw [he]
          refine ret_upon ?_
          have : (first ++ as.map a.eval ++ cap).toList = first.toList ++ evl (envOf a) as.toList ++ cap.toList := by
            rw [evl_eq, ev_envOf']; simp
          rw [this]
          exact hr
        · cases h
      cases f with
      | func g =>
        simp only [lwp] at h
        split at h
        · rename_i hb
          have he : (execOp a.eval { dst := dst, op := .call { callee := .value (.func g), args := as, argTypes := ts }, type := ty, pos := pos, after := af, guard := gd }).run P w = .ok (.enter g (as.map a.eval)) w := by
            simp [execOp, resolve, Act.eval, Deferred.ofValue, invoke, bodied_call hb]
          unfold Oper.wp
          rw [he]
          refine ret_upon ?_
          rw [evl_eq, ev_envOf'] at h
          simpa using h
        · cases h
      | tmp t => exact callv _ (by simpa only [lwp] using h)
      | const t => exact callv _ (by simpa only [lwp] using h)
      | global t => exact callv _ (by simpa only [lwp] using h)
    | invoke r m => simp [lwp] at h
  | _ => simp [lwp] at h

/-! ### Guards -/
theorem yielded_eq (ops : Array Oper) (a : Act) (g : Nat) : yielded ops a.tmps g = (match guardVal ops.toList (envOf a) g with | .bool b => some b | _ => none) := by
  unfold yielded guardVal
  rw [nth_eq]
  cases h : ops.toList[g]? with
  | none =>
    have : ops[g]? = none := by simpa using h
    simp [this, undef]
  | some o =>
    have : ops[g]? = some o := by simpa using h
    simp only [this, Option.bind_some]
    cases hd : o.dst with
    | none => simp [undef]
    | some d =>
      simp only [Option.bind_some, envOf, Array.getD_eq_getD_getElem?]
      cases ht : a.tmps[d]? with
      | none => simp [undef]
      | some v => cases v <;> simp
theorem wanted_none {o : Oper} (h : o.guard = none) (y : Nat → Option Bool) : Region.wanted o y = true := by simp [Region.wanted, h]
theorem wanted_some {o : Oper} {g : Nat} {b : Bool} (h : o.guard = some (g, b)) (y : Nat → Option Bool) : Region.wanted o y = (y g == some b) := by simp [Region.wanted, h]
/-- A quiet operation, with its guard, inside a region: what follows goes on with its value. -/
theorem gq_sound {ops : Array Oper} {a : Act} {w : World} {o : Oper} {v : Value} {K : Act → World → Prop} {Q : Exit → Act → World → Prop}
    (h : gq P ops.toList w (envOf a) o = some v) (hk : K (a.put o.dst v) w) :
    if Region.wanted o (yielded ops a.tmps) then o.wp P a w K Q ∨ (o.asks P a w ∧ LetsOut Q) else K (a.put o.dst undef) w := by
  unfold gq at h
  split at h
  · rename_i hg
    rw [if_pos (wanted_none hg _)]
    exact .inl (wp_of_run (qval_run h) hk)
  · rename_i g want hg
    rw [wanted_some hg, yielded_eq]
    unfold gateQ at h
    split at h
    · rename_i b hb
      cases b <;> cases want <;> simp only [hb] <;> simp at h ⊢ <;> first
        | exact .inl (wp_of_run (qval_run h) hk)
        | (subst h; exact hk)
    · rename_i hb
      simp only [Option.some.injEq] at h
      subst h
      rw [if_neg]
      · exact hk
      · split
        · rename_i b hb'; exact absurd hb' (hb b)
        · simp
theorem gl_sound {ops : Array Oper} {a : Act} {w : World} {o : Oper} {K : Act → World → Prop} {Q : Exit → Act → World → Prop}
    (h : gl P ops.toList w (envOf a) o fun v w' => K (a.put o.dst v) w') :
    if Region.wanted o (yielded ops a.tmps) then o.wp P a w K Q ∨ (o.asks P a w ∧ LetsOut Q) else K (a.put o.dst undef) w := by
  unfold gl at h
  split at h
  · rename_i hg
    rw [if_pos (wanted_none hg _)]
    exact .inl (lwp_sound h)
  · rename_i g want hg
    rw [wanted_some hg, yielded_eq]
    unfold gateL at h
    split at h
    · rename_i b hb
      cases b <;> cases want <;> simp only [hb] <;> simp at h ⊢ <;> first
        | exact .inl (lwp_sound h)
        | exact h
    · rename_i hb
      rw [if_neg]
      · exact h
      · split
        · rename_i b hb'; exact absurd hb' (hb b)
        · simp

theorem step_mono {ops : Array Oper} {a : Act} {w : World} {o : Oper} {K K' : Act → World → Prop} {Q : Exit → Act → World → Prop}
    (h : if Region.wanted o (yielded ops a.tmps) then o.wp P a w K Q ∨ (o.asks P a w ∧ LetsOut Q) else K (a.put o.dst undef) w) (hk : ∀ a w, K a w → K' a w) :
    if Region.wanted o (yielded ops a.tmps) then o.wp P a w K' Q ∨ (o.asks P a w ∧ LetsOut Q) else K' (a.put o.dst undef) w := by
  split
  · rename_i hw
    rw [if_pos hw] at h
    exact h.imp (Oper.wp_mono hk) id
  · rename_i hw
    rw [if_neg hw] at h
    exact hk _ _ h

/-! ### Acts that fit -/
/-- An act with n slots and no deferred call. -/
structure Fit (n : Nat) (a : Act) : Prop where
  size : a.tmps.size = n
  defers : a.defers = []
theorem Fit.put {n : Nat} {a : Act} (h : Fit n a) (d : Option Nat) (v : Value) : Fit n (a.put d v) := by
  cases d with
  | none => exact h
  | some d => exact ⟨by simp [Act.put, h.size], h.defers⟩
theorem envOf_put {n : Nat} {a : Act} (h : Fit n a) (d : Option Nat) (v : Value) (hd : ∀ k, d = some k → k < n) : envOf (a.put d v) = put (envOf a) d v := by
  cases d with
  | none => rfl
  | some d =>
    have hlt : d < a.tmps.size := by rw [h.size]; exact hd d rfl
    funext t
    simp only [envOf, Act.put, put]
    by_cases ht : t = d
    · subst ht
      simp [hlt]
    · have : Nat.beq t d = false := by
        cases hb : Nat.beq t d with
        | false => rfl
        | true => exact absurd (Nat.eq_of_beq_eq_true hb) ht
      rw [this]
      simp [Array.getElem?_setIfInBounds_ne (Ne.symm ht)]
def dstOk (n : Nat) (o : Oper) : Bool := match o.dst with | some d => Nat.blt d n | none => true
theorem dstOk_lt {n : Nat} {o : Oper} (h : dstOk n o = true) : ∀ k, o.dst = some k → k < n := by
  intro k hk
  simp only [dstOk, hk] at h
  exact Nat.blt_eq ▸ h
theorem gq_move {ops : List Oper} {w : World} {e : Env} {o : Oper} {x : Operand} (h : moveOf o = some x) : gq P ops w e o = some (ev e x) := by
  unfold moveOf at h
  unfold gq
  split at h
  · rename_i hg ho; injection h with h; subst h; rw [hg, ho]; rfl
  · rename_i hg ho; injection h with h; subst h; rw [hg, ho]; rfl
  · cases h
theorem move_quiet {o : Oper} {x : Operand} (h : moveOf o = some x) : isLoud o.op = false ∧ looksOut P o.op = false := by
  unfold moveOf at h
  split at h
  · rename_i hg ho; rw [ho]; exact ⟨rfl, rfl⟩
  · rename_i hg ho; rw [ho]; exact ⟨rfl, rfl⟩
  · cases h
theorem xops_sound {n : Nat} {ops : Array Oper} {Q : Exit → Act → World → Prop} {K : Env → World → Prop} (hQ : ∀ a w, Fit n a → K (envOf a) w → Q .normal a w) :
    ∀ (l : List Oper) (a : Act) (w : World), l.all (dstOk n) = true → Fit n a → xops P ops.toList l (envOf a) w K → wpList P ops Q l a w := by
  intro l
  induction l with
  | nil => intro a w _ hf h; exact hQ a w hf h
  | cons o r ih =>
    intro a w hok hf h
    simp only [List.all_cons, Bool.and_eq_true] at hok
    simp only [xops] at h
    unfold wpList
    cases hmv : moveOf o with
    | some x =>
      simp only [hmv] at h
      refine gq_sound (gq_move hmv) (ih _ _ hok.2 (hf.put _ _) ?_)
      rw [envOf_put hf _ _ (dstOk_lt hok.1)]
      exact h
    | none =>
    simp only [hmv] at h
    split at h
    · have hput : ∀ v, envOf (a.put o.dst v) = put (envOf a) o.dst v := fun v => envOf_put hf _ v (dstOk_lt hok.1)
      have e : (fun v w' => xops P ops.toList r (put (envOf a) o.dst v) w' K) = fun v w' => (fun a' w' => Fit n a' ∧ xops P ops.toList r (envOf a') w' K) (a.put o.dst v) w' := by
        funext v w'
        simp [hput, hf.put]
      rw [e] at h
      exact step_mono (gl_sound (Q := Q) (K := fun a' w' => Fit n a' ∧ xops P ops.toList r (envOf a') w' K) h) (fun a' w' hx => ih a' w' hok.2 hx.1 hx.2)
    · unfold onSome at h
      split at h
      · rename_i v hv
        refine gq_sound hv (ih _ _ hok.2 (hf.put _ _) ?_)
        rw [envOf_put hf _ _ (dstOk_lt hok.1)]
        exact h
      · cases h
end Go.X
