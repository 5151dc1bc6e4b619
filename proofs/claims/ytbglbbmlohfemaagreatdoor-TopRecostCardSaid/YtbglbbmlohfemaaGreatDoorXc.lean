/- Soundness of the lifted form at operations (2): what the machine does at a quiet operation and at a loud one. -/
import Derived.Test.YtbglbbmlohfemaaGreatDoorXb
set_option linter.unusedVariables false
set_option linter.unusedSimpArgs false
namespace Go.X
variable {P : Program}

theorem len_run {ts : Array TypeId} {t ty e : TypeId} {x v : Value} {w : World} (h0 : nth ts.toList 0 = some t) (hu : P.underlying t = some (.slice e)) (h : q_len x = some v) : (Builtin.len_ ts ty #[x]).run P w = .ok v w := by
  have h0' : ts[0]? = some t := by rw [nth_eq] at h0; simpa using h0
  unfold q_len at h
  split at h
  · simp only [Option.some.injEq] at h; subst h; simp [Builtin.len_, h0', run_underlying hu, goInt]
  · cases h
theorem slen_run {ts : Array TypeId} {t ty : TypeId} {x v : Value} {w : World} (h0 : nth ts.toList 0 = some t) (hu : P.underlying t = some .string) (h : q_slen x = some v) : (Builtin.len_ ts ty #[x]).run P w = .ok v w := by
  have h0' : ts[0]? = some t := by rw [nth_eq] at h0; simpa using h0
  unfold q_slen at h
  split at h
  · simp only [Option.some.injEq] at h; subst h; simp [Builtin.len_, h0', run_underlying hu, goInt]
  · cases h
theorem cap_run {ts : Array TypeId} {t ty e : TypeId} {x v : Value} {w : World} (h0 : nth ts.toList 0 = some t) (hu : P.underlying t = some (.slice e)) (h : q_cap x = some v) : (Builtin.cap_ ts ty #[x]).run P w = .ok v w := by
  have h0' : ts[0]? = some t := by rw [nth_eq] at h0; simpa using h0
  unfold q_cap at h
  split at h
  · simp only [Option.some.injEq] at h; subst h; simp [Builtin.cap_, h0', run_underlying hu, goInt]
  · cases h
theorem min_run {ts : Array TypeId} {ty : TypeId} {x y v : Value} {w : World} (h : q_min x y = some v) : (Builtin.min_ ts ty #[x, y]).run P w = .ok v w := by
  unfold q_min at h
  split at h
  · simp only [Option.some.injEq] at h; subst h; simp [Builtin.min_, Builtin.min2]
  · cases h
theorem max_run {ts : Array TypeId} {ty : TypeId} {x y v : Value} {w : World} (h : q_max x y = some v) : (Builtin.max_ ts ty #[x, y]).run P w = .ok v w := by
  unfold q_max at h
  split at h
  · simp only [Option.some.injEq] at h; subst h; simp [Builtin.max_, Builtin.max2]
  · cases h
theorem args1 {a : Act} {as : Array Operand} {v : Value} (h : evl (envOf a) as.toList = [v]) : as.map a.eval = #[v] := by
  rw [← ev_envOf', ← evl_toArray, h]
theorem args2 {a : Act} {as : Array Operand} {v u : Value} (h : evl (envOf a) as.toList = [v, u]) : as.map a.eval = #[v, u] := by
  rw [← ev_envOf', ← evl_toArray, h]
theorem len_ty (ts : Array TypeId) (ty ty' : TypeId) (as : Array Value) : Builtin.len_ ts ty as = Builtin.len_ ts ty' as := rfl

theorem qval_run {a : Act} {w : World} {o : Oper} {v : Value} (h : qval P w (envOf a) o.op = some v) : (execOp a.eval o).run P w = .ok (.value v) w := by
  obtain ⟨dst, op, ty, pos, af, gd⟩ := o
  simp only at h
  cases op with
  | move x => simp only [qval, ev_envOf, Option.some.injEq] at h; subst h; rfl
  | assign x => simp only [qval, ev_envOf, Option.some.injEq] at h; subst h; rfl
  | pick c x y =>
    simp only [qval, ev_envOf] at h
    unfold q_pick at h
    split at h
    · rename_i b hb
      simp only [Option.some.injEq] at h; subst h
      cases b <;> simp [execOp, hb, asBool]
    · cases h
  | load t x =>
    simp only [qval, ev_envOf] at h
    split at h
    · rename_i i hi ha; simp [execOp, load_run hi (.inl ⟨ha, h⟩)]
    · rename_i i hi ha; simp [execOp, load_run hi (.inr ⟨ha, h⟩)]
    · cases h
  | nilCheck x =>
    simp only [qval, ev_envOf] at h
    simp only [execOp]
    generalize a.eval x = u at h
    cases u with
    | pointer o => cases o <;> simp [q_nil] at h; subst h; rfl
    | func fn f c => cases fn <;> simp [q_nil] at h <;> (subst h; rfl)
    | _ => simp [q_nil] at h <;> (subst h; rfl)
  | binOp op t x y ty' =>
    simp only [qval, ev_envOf] at h
    split at h
    · have := bin_run (P := P) (t := t) (x := x) (y := y) (w := w) h
      simp only [execOp]
      simp only [Sem.run_bind] at this ⊢
      rw [this]; rfl
    · have := eq_run (P := P) (t := t) (x := x) (y := y) (w := w) h
      simp only [execOp]
      simp only [Sem.run_bind] at this ⊢
      rw [this]; rfl
  | unOp op t x => simp only [qval, ev_envOf] at h; simp [execOp, un_run h]
  | convert src dst' x =>
    simp only [qval, ev_envOf] at h
    split at h
    · rename_i hs hd; simp [execOp, toint_run hs hd h]
    · simp [execOp, rr_run h]
    · simp [execOp, pr_run h w]
  | fieldAddr s x f =>
    simp only [qval, ev_envOf] at h
    split at h
    · rename_i off ho; simp [execOp, faddr_run ho h]
    · cases h
  | indexAddr t x i =>
    simp only [qval, ev_envOf] at h
    split at h
    · rename_i el hu
      split at h
      · rename_i inf hi; simp [execOp, iaddr_run hu hi h]
      · cases h
    · rename_i n el hu
      split at h
      · rename_i inf hi; simp [execOp, iaddra_run hu hi h]
      · cases h
    · cases h
  | field t x f => simp only [qval, ev_envOf] at h; simp [execOp, pr_run h w]
  | index t x i => simp only [qval, ev_envOf] at h; simp [execOp, pr_run h w]
  | slice t x lo hi mx =>
    simp only [qval, ev_envOf, evo_eq, ev_envOf'] at h
    simp [execOp, pr_run h w]
  | build t parts =>
    simp only [qval] at h
    split at h
    · rename_i z fs hz hu
      split at h
      · rename_i pl hp
        split at h
        · rename_i l hl
          have := build_run (P := P) (w := w) hz hu hp hl h
          rw [ev_envOf'] at this
          simp only [execOp]
          simp [this]
        · cases h
      · cases h
    · rename_i z n el hz hu
      split at h
      · rename_i inf hi
        split at h
        · rename_i l hl
          have := builda_run (P := P) (w := w) hz hu hi hl h
          rw [ev_envOf'] at this
          simp only [execOp]
          simp [this]
        · cases h
      · cases h
    · cases h
  | extract t i =>
    simp only [qval, ev_envOf] at h
    unfold q_extract at h
    split at h
    · rename_i vs hv; simp [execOp, Instr.extract, hv, h]
    · cases h
  | makeFunc fn f c =>
    simp only [qval, q_func, Option.some.injEq] at h
    subst h
    simp only [execOp, evl_toArray, ev_envOf']
    rfl
  | lookup t x i ok => simp only [qval, ev_envOf] at h; simp [execOp, rr_run h]
  | entry it => simp only [qval, ev_envOf] at h; simp [execOp, rr_run h]
  | makeInterface t x => simp only [qval, ev_envOf] at h; simp [execOp, pr_run h w]
  | call c =>
    obtain ⟨cal, as, ts⟩ := c
    cases cal with
    | builtin b =>
      cases b with
      | len =>
        simp only [qval] at h
        split at h
        · rename_i x hx
          have ha := args1 hx
          split at h
          · rename_i t ht
            have : (Builtin.len_ ts ty #[x]).run P w = .ok v w := by
              split at h
              · rename_i e hu; exact len_run ht hu h
              · rename_i hu; exact slen_run ht hu h
              · rw [len_ty ts ty 0]; exact rr_run h
            simp [execOp, resolve, ha, invoke, builtin, this]
          · cases h
        · cases h
      | cap =>
        simp only [qval] at h
        split at h
        · rename_i x hx
          have ha := args1 hx
          split at h
          · rename_i t ht
            split at h
            · rename_i e hu
              simp [execOp, resolve, ha, invoke, builtin, cap_run ht hu h]
            · cases h
          · cases h
        · cases h
      | min =>
        simp only [qval] at h
        split at h
        · rename_i x y hx
          have ha := args2 hx
          simp [execOp, resolve, ha, invoke, builtin, min_run h]
        · cases h
      | max =>
        simp only [qval] at h
        split at h
        · rename_i x y hx
          have ha := args2 hx
          simp [execOp, resolve, ha, invoke, builtin, max_run h]
        · cases h
      | _ => simp [qval] at h
    | value f => simp [qval] at h
    | invoke r m => simp [qval] at h
  | _ => simp [qval] at h
end Go.X
