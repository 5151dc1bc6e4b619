/- Soundness of the lifted form at a region that draws its order: what only reads may be taken as early as its operands allow, if its value stays the same till it must have come up. -/
import Derived.Test.YtbglbbmlohfemaaGreatDoorXd
set_option linter.unusedVariables false
set_option linter.unusedSimpArgs false
namespace Go.X
variable {P : Program}

/-! ### What an operation looks at -/
theorem evl_congr {e e' : Env} : ∀ {l : List Operand}, (∀ x ∈ l, ev e x = ev e' x) → evl e l = evl e' l := by
  intro l
  induction l with
  | nil => intro _; rfl
  | cons x xs ih => intro h; simp only [evl]; rw [h x (by simp), ih fun y hy => h y (by simp [hy])]
theorem partsAt_congr {e e' : Env} {place : Nat → Option (Nat × Nat)} : ∀ {l : List (Nat × Operand)}, (∀ x ∈ l, ev e x.2 = ev e' x.2) → partsAt e place l = partsAt e' place l := by
  intro l
  induction l with
  | nil => intro _; rfl
  | cons x xs ih =>
    obtain ⟨i, x⟩ := x
    intro h
    have h1 := h (i, x) (by simp)
    simp only at h1
    simp only [partsAt]; rw [h1, ih fun y hy => h y (by simp [hy])]
theorem evo_congr {e e' : Env} {o : Option Operand} (h : ∀ x ∈ o.toList, ev e x = ev e' x) : evo e o = evo e' o := by
  cases o with
  | none => rfl
  | some x => simp only [evo]; rw [h x (by simp)]
theorem qval_congr {e e' : Env} {w : World} {op : Op} (h : ∀ x ∈ op.operands.toList, ev e x = ev e' x) : qval P w e op = qval P w e' op := by
  cases op with
  | build t ps =>
    have hp : ∀ place, partsAt e place ps.toList = partsAt e' place ps.toList := fun place => partsAt_congr (fun x hx => h x.2 (by simp [Op.operands]; exact ⟨x.1, by simpa using hx⟩))
    simp only [qval, hp]
  | makeFunc fn f c =>
    have h1 : evl e f.toList = evl e' f.toList := evl_congr fun x hx => h x (by simp [Op.operands]; exact .inl (by simpa using hx))
    have h2 : evl e c.toList = evl e' c.toList := evl_congr fun x hx => h x (by simp [Op.operands]; exact .inr (by simpa using hx))
    simp only [qval, h1, h2]
  | slice t x lo hi mx =>
    have h0 := h x (by simp [Op.operands])
    have h1 : evo e lo = evo e' lo := evo_congr fun y hy => h y (by simp [Op.operands]; simp at hy; simp [hy])
    have h2 : evo e hi = evo e' hi := evo_congr fun y hy => h y (by simp [Op.operands]; simp at hy; simp [hy])
    have h3 : evo e mx = evo e' mx := evo_congr fun y hy => h y (by simp [Op.operands]; simp at hy; simp [hy])
    simp only [qval, h0, h1, h2, h3]
  | call c =>
    obtain ⟨cal, as, ts⟩ := c
    have h1 : evl e as.toList = evl e' as.toList := evl_congr fun x hx => h x (by simp [Op.operands, Call.operands]; exact .inr (by simpa using hx))
    cases cal with
    | builtin b => cases b <;> simp only [qval, h1]
    | _ => simp only [qval]
  | _ => (simp only [qval]; try simp [Op.operands] at h; try simp only [h])
theorem lwp_congr {e e' : Env} {w : World} {ty : TypeId} {K : Value → World → Prop} {op : Op} (h : ∀ x ∈ op.operands.toList, ev e x = ev e' x) : lwp P e ty w K op = lwp P e' ty w K op := by
  cases op with
  | buildSlice t n ps =>
    have hp : ∀ place, partsAt e place ps.toList = partsAt e' place ps.toList := fun place => partsAt_congr (fun x hx => h x.2 (by simp [Op.operands]; exact ⟨x.1, by simpa using hx⟩))
    simp only [lwp, hp]
  | makeMap t r =>
    have h1 : evo e r = evo e' r := evo_congr fun y hy => h y (by simp [Op.operands]; simp at hy; simp [hy])
    simp only [lwp, h1]
  | call c =>
    obtain ⟨cal, as, ts⟩ := c
    have h1 : evl e as.toList = evl e' as.toList := evl_congr fun x hx => h x (by simp [Op.operands, Call.operands]; exact .inr (by simpa using hx))
    cases cal with
    | builtin b => cases b <;> simp only [lwp, h1]
    | value f =>
      have h2 := h f (by simp [Op.operands, Call.operands])
      cases f <;> simp only [lwp, h1, h2]
    | invoke r m => simp only [lwp]
  | _ => (simp only [lwp]; try simp [Op.operands] at h; try simp only [h])
theorem ops_of_looks {ops : Array Oper} {o : Oper} {e e' : Env} (h : ∀ s ∈ o.looksAt ops, e s = e' s) : ∀ x ∈ o.op.operands.toList, ev e x = ev e' x := by
  intro x hx
  cases x with
  | tmp t =>
    refine h t ?_
    unfold Oper.looksAt
    refine List.mem_append_left _ ?_
    rw [List.mem_filterMap]
    exact ⟨.tmp t, hx, rfl⟩
  | _ => rfl
theorem guard_of_looks {ops : Array Oper} {o : Oper} {e e' : Env} {g : Nat} {b : Bool} (hg : o.guard = some (g, b)) (h : ∀ s ∈ o.looksAt ops, e s = e' s) : guardVal ops.toList e g = guardVal ops.toList e' g := by
  unfold guardVal
  rw [nth_eq]
  cases ho : ops.toList[g]? with
  | none => rfl
  | some og =>
    simp only
    cases hd : og.dst with
    | none => rfl
    | some d =>
      refine h d ?_
      unfold Oper.looksAt
      refine List.mem_append_right _ ?_
      have ho' : ops[g]? = some og := by simpa using ho
      simp [hg, ho', hd]
theorem gq_congr {ops : Array Oper} {o : Oper} {e e' : Env} {w : World} (h : ∀ s ∈ o.looksAt ops, e s = e' s) : gq P ops.toList w e o = gq P ops.toList w e' o := by
  unfold gq
  rw [qval_congr (ops_of_looks h)]
  split
  · rfl
  · rename_i g b hg
    rw [guard_of_looks hg h]
theorem gl_congr {ops : Array Oper} {o : Oper} {e e' : Env} {w : World} {K : Value → World → Prop} (h : ∀ s ∈ o.looksAt ops, e s = e' s) : gl P ops.toList w e o K = gl P ops.toList w e' o K := by
  unfold gl
  have : (fun K => lwp P e o.type w K o.op) = fun K => lwp P e' o.type w K o.op := by funext K; exact lwp_congr (ops_of_looks h)
  rw [lwp_congr (ops_of_looks h), this]
  split
  · rfl
  · rename_i g b hg
    rw [guard_of_looks hg h]
theorem gq_world {ops : List Oper} {o : Oper} {e : Env} {w w' : World} (h : looksOut P o.op = false) : gq P ops w e o = gq P ops w' e o := by
  have : qval P w e o.op = qval P w' e o.op := by
    obtain ⟨dst, op, ty, pos, af, gd⟩ := o
    simp only at h ⊢
    cases op with
    | convert src dst x =>
      simp only [looksOut] at h
      simp only [qval]
      split <;> first | rfl | (rename_i hs; simp [hs] at h)
    | call c =>
      obtain ⟨cal, as, ts⟩ := c
      cases cal with
      | builtin b =>
        cases b <;> try rfl
        simp only [looksOut] at h
        simp only [qval]
        split
        · split
          · rename_i t ht
            simp only [ht] at h
            split <;> first | rfl | skip
            rename_i h1 h2
            split at h
            · rename_i hs; exact absurd hs (h1 _)
            · rename_i hs; exact absurd hs h2
            · cases h
          · rfl
        · rfl
      | _ => rfl
    | load t a => simp [looksOut] at h
    | lookup t a i k => simp [looksOut] at h
    | entry it => simp [looksOut] at h
    | _ => rfl
  unfold gq
  rw [this]
theorem onSome_mono {α : Type} {o : Option α} {K K' : α → Prop} (hk : ∀ v, K v → K' v) (h : onSome o K) : onSome o K' := by
  cases o with
  | none => exact h
  | some v => exact hk v h
theorem l_run_mono {s : Sem Value} {w : World} {K K' : Value → World → Prop} (hk : ∀ v w, K v w → K' v w) (h : l_run P s w K) : l_run P s w K' := by
  unfold l_run at *
  split
  · rename_i v w' hr; rw [hr] at h; exact hk _ _ h
  · rename_i hr; rw [hr] at h; exact h
theorem l_runU_mono {s : Sem Unit} {w : World} {K K' : Value → World → Prop} (hk : ∀ v w, K v w → K' v w) (h : l_runU P s w K) : l_runU P s w K' := by
  unfold l_runU at *
  split
  · rename_i v w' hr; rw [hr] at h; exact hk _ _ h
  · rename_i hr; rw [hr] at h; exact h
theorem Ret.mono {f : FuncId} {args : List Value} {w : World} {K K' : Value → World → Prop} (h : Ret P f args w K) (hk : ∀ v w, K v w → K' v w) : Ret P f args w K' := by
  unfold Ret at *
  refine Calls.mono h ?_
  intro e w' he
  cases e with
  | returned v => exact hk _ _ he
  | panicked c => exact he
  | outgrown => exact he
theorem l_callv_mono {v : Value} {args : List Value} {w : World} {K K' : Value → World → Prop} (hk : ∀ v w, K v w → K' v w) (h : l_callv P v args w K) : l_callv P v args w K' := by
  unfold l_callv at *
  split
  · exact ⟨h.1, h.2.mono hk⟩
  · rename_i hn
    split at h
    · rename_i f first cap; exact absurd rfl (hn f first cap)
    · exact h
theorem lwp_mono {e : Env} {w : World} {ty : TypeId} {K K' : Value → World → Prop} {op : Op} (hk : ∀ v w, K v w → K' v w) (h : lwp P e ty w K op) : lwp P e ty w K' op := by
  cases op with
  | alloc t => simp only [lwp] at h ⊢; split <;> rename_i hz <;> simp only [hz] at h; exact hk _ _ h
  | box t x => exact hk _ _ h
  | store t a x => simp only [lwp] at h ⊢; split <;> rename_i hz <;> simp only [hz] at h; exact onSome_mono (hk _) h
  | buildSlice t n ps =>
    simp only [lwp] at h ⊢
    split <;> rename_i hu <;> simp only [hu] at h
    revert h
    split
    · intro h
      split <;> rename_i hl <;> simp only [hl] at h
      split <;> rename_i hd <;> simp only [hd] at h
      exact onSome_mono (fun _ hx => hk _ _ hx) h
    · exact id
  | makeSlice t l c => exact l_run_mono hk h
  | makeMap t r => exact l_run_mono hk h
  | mapUpdate t m k x => exact l_runU_mono hk h
  | insert t m k x => exact l_runU_mono hk h
  | mapEntry t m k => exact l_run_mono hk h
  | entryStore t m s x => exact l_runU_mono hk h
  | range t x => exact l_run_mono hk h
  | next it s => exact l_run_mono hk h
  | call c =>
    obtain ⟨cal, as, ts⟩ := c
    cases cal with
    | builtin b =>
      cases b with
      | append => simp only [lwp] at h ⊢; split at h <;> first | exact l_run_mono hk h | exact h
      | copy => simp only [lwp] at h ⊢; split at h <;> first | exact l_run_mono hk h | exact h
      | delete => exact l_run_mono hk h
      | clear => exact l_run_mono hk h
      | _ => exact h
    | value f =>
      cases f with
      | func g => simp only [lwp] at h ⊢; split <;> rename_i hb <;> simp only [hb] at h; exact h.mono hk
      | tmp t => simp only [lwp] at h ⊢; exact l_callv_mono hk h
      | const t => simp only [lwp] at h ⊢; exact l_callv_mono hk h
      | global t => simp only [lwp] at h ⊢; exact l_callv_mono hk h
    | invoke r m => exact h
  | _ => exact h
theorem gl_mono {ops : List Oper} {o : Oper} {e : Env} {w : World} {K K' : Value → World → Prop} (hk : ∀ v w, K v w → K' v w) (h : gl P ops w e o K) : gl P ops w e o K' := by
  unfold gl at *
  split
  · rename_i hg; rw [hg] at h; exact lwp_mono hk h
  · rename_i g b hg
    rw [hg] at h
    simp only at h
    unfold gateL at *
    split
    · rename_i c hc
      simp only [hc] at h
      cases hcb : (c == b) <;> simp only [hcb, cond_true, cond_false] at h ⊢
      · exact hk _ _ h
      · exact lwp_mono hk h
    · rename_i hc
      split at h
      · rename_i c hc'; exact absurd hc' (hc c)
      · exact hk _ _ h
end Go.X
