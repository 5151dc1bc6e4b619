/- Soundness of the lifted form: code and functions. -/
import Derived.Test.YtbglbbmlohfemaaGreatDoorXg
set_option linter.unusedVariables false
set_option linter.unusedSimpArgs false
namespace Go.X
variable {P : Program}

/-- The static look at code, with its annotation: slots in bounds; each region that draws its order in order. -/
def codeOk (n : Nat) : An → Code → Bool
  | .x B h, .region _ ops true => regOk n B ops && schOk ops.toList B h false 0
  | .d _ _ B h, .region _ ops true => regOk n B ops && schOk ops.toList B h false 0
  | _, .region _ ops false => ops.toList.all (dstOk n)
  | .s x y, .seq a b => codeOk n x a && codeOk n y b
  | .j _ _ x y, .seq a b => codeOk n x a && codeOk n y b
  | .c x y, .cond _ a b => codeOk n x a && codeOk n y b
  | .b x, .block _ c => codeOk n x c
  | .b x, .scope c => codeOk n x c
  | .l _ _ x, .loop c => codeOk n x c
  | _, .seq _ _ | _, .cond _ _ _ | _, .block _ _ | _, .scope _ | _, .loop _ => true
  | _, _ => true

/-- Where a piece of code may leave: what holds there. -/
def post (n : Nat) (N R : Env → World → Prop) (E : Nat → Env → World → Prop) : Exit → Act → World → Prop
  | .normal, a, w => Fit n a ∧ N (envOf a) w
  | .ret, a, w => Fit n a ∧ R (envOf a) w
  | .exit id, a, w => Fit n a ∧ E id (envOf a) w
  | _, _, _ => False
/-- Slots outside m hold what they held. -/
def Outside (m : Nat) (e e' : Env) : Prop := ∀ t, hasB m t = false → e' t = e t
theorem allV_inst : ∀ {n : Nat} {F : List Value → Prop}, allV n F → ∀ vs : List Value, vs.length = n → F vs := by
  intro n
  induction n with
  | zero => intro F h vs hl; cases vs with
    | nil => exact h
    | cons v vs => simp at hl
  | succ n ih =>
    intro F h vs hl
    cases vs with
    | nil => simp at hl
    | cons v vs => exact ih (h v) vs (by simpa using hl)
theorem mixS_self (e' : Env) (g : Env) : ∀ (S : List Nat) (t : Nat), (∀ s ∈ S, True) → mixS g S (evl e' (S.map .tmp)) t = (if t ∈ S then e' t else g t) := by
  intro S
  induction S with
  | nil => intro t _; simp [mixS]
  | cons s S ih =>
    intro t _
    simp only [List.map_cons, evl, mixS]
    cases hb : Nat.beq t s with
    | true =>
      have := Nat.eq_of_beq_eq_true hb
      subst this
      simp [ev]
    | false =>
      have hne : t ≠ s := fun e => by rw [e, Nat.beq_refl] at hb; cases hb
      rw [cond_false, ih t (fun _ _ => trivial)]
      simp [hne]
theorem mix_self {e e' : Env} {m : Nat} {S : List Nat} (h : Outside m e e') : mix e m S (evl e' (S.map .tmp)) e' = e' := by
  funext t
  unfold mix
  rw [mixS_self _ _ S t (fun _ _ => trivial)]
  split
  · rfl
  · cases hb : hasB m t with
    | true => rfl
    | false => rw [cond_false]; exact (h t hb).symm
theorem hasB_or_left {a b t : Nat} (h : hasB (Nat.lor a b) t = false) : hasB a t = false := by
  simp only [hasB] at *
  have : Nat.lor a b = a ||| b := rfl
  rw [this, Nat.testBit_or] at h
  simp at h
  exact h.1
theorem hasB_or_right {a b t : Nat} (h : hasB (Nat.lor a b) t = false) : hasB b t = false := by
  simp only [hasB] at *
  have : Nat.lor a b = a ||| b := rfl
  rw [this, Nat.testBit_or] at h
  simp at h
  exact h.2
theorem asgOps_out {o : Oper} : ∀ {l : List Oper}, o ∈ l → ∀ t d, o.dst = some d → hasB (asgOps l) t = false → t ≠ d := by
  intro l
  induction l with
  | nil => intro h; cases h
  | cons x r ih =>
    intro h t d hd hb
    simp only [asgOps] at hb
    rcases List.mem_cons.1 h with rfl | h
    · simp only [hd] at hb
      have := hasB_or_left hb
      intro e
      subst e
      simp [hasB] at this
    · cases hx : x.dst with
      | none => simp only [hx] at hb; exact ih h t d hd hb
      | some k => simp only [hx] at hb; exact ih h t d hd (hasB_or_right hb)
theorem out_put {m : Nat} {e e' : Env} {d : Option Nat} {v : Value} (h : Outside m e e') (hd : ∀ t k, d = some k → hasB m t = false → t ≠ k) : Outside m e (put e' d v) := by
  intro t ht
  rw [put_other]
  · exact h t ht
  · intro hdt
    exact hd t t hdt ht rfl
/-- With what else is known at the end: no slot beyond those that are assigned was written. -/
theorem xops_out {ops : List Oper} : ∀ (l : List Oper) (e : Env) (w : World) {K : Env → World → Prop} {m : Nat} {e0 : Env}, (∀ o ∈ l, ∀ t k, o.dst = some k → hasB m t = false → t ≠ k) → Outside m e0 e →
    xops P ops l e w K → xops P ops l e w fun e' w' => Outside m e0 e' ∧ K e' w' := by
  intro l
  induction l with
  | nil => intro e w K m e0 hm ho h; exact ⟨ho, h⟩
  | cons o r ih =>
    intro e w K m e0 hm ho h
    simp only [xops] at h ⊢
    split
    · rename_i x hx
      simp only [hx] at h
      exact ih _ _ (fun o' ho' => hm o' (by simp [ho'])) (out_put ho (hm o (by simp))) h
    rename_i hmv
    simp only [hmv] at h
    split <;> rename_i hl <;> simp only [hl] at h
    · exact gl_mono (fun v w' hx => ih _ _ (fun o' ho' => hm o' (by simp [ho'])) (out_put ho (hm o (by simp))) hx) h
    · exact onSome_mono (fun v hx => ih _ _ (fun o' ho' => hm o' (by simp [ho'])) (out_put ho (hm o (by simp))) hx) h
theorem pendAll_mono {w : World} {K K' : Prop} (hk : K → K') : ∀ {pend : Pend}, pendAll w pend K → pendAll w pend K' := by
  intro pend
  induction pend with
  | nil => exact hk
  | cons q r ih => intro h; exact ⟨h.1, ih h.2⟩
theorem xsch_out {ops : List Oper} : ∀ (s : Sch) (pend : Pend) (e : Env) (w : World) {K : Env → World → Prop} {m : Nat} {e0 : Env}, (∀ o ∈ ops, ∀ t k, o.dst = some k → hasB m t = false → t ≠ k) → Outside m e0 e →
    xsch P ops s pend e w K → xsch P ops s pend e w fun e' w' => Outside m e0 e' ∧ K e' w' := by
  intro s
  induction s with
  | nil => intro pend e w K m e0 hm ho h; exact ⟨ho, h⟩
  | q i r ih =>
    intro pend e w K m e0 hm ho h
    simp only [xsch] at h ⊢
    split <;> rename_i hi <;> simp only [hi] at h
    rename_i o
    have hmem : o ∈ ops := by rw [nth_eq] at hi; exact List.mem_of_getElem? hi
    revert h
    split
    · intro h; exact ih _ _ _ hm (out_put ho (hm o hmem)) h
    · intro h; exact onSome_mono (fun v hx => ih _ _ _ hm (out_put ho (hm o hmem)) hx) h
  | l i k r ih =>
    intro pend e w K m e0 hm ho h
    simp only [xsch] at h ⊢
    split <;> rename_i hi <;> simp only [hi] at h
    rename_i o
    have hmem : o ∈ ops := by rw [nth_eq] at hi; exact List.mem_of_getElem? hi
    exact gl_mono (fun v w' hy => pendAll_mono (fun hz => ih _ _ _ hm (out_put ho (hm o hmem)) hz) hy) h
  | alt a b iha ihb => intro pend e w K m e0 hm ho h; exact ⟨iha _ _ _ hm ho h.1, ihb _ _ _ hm ho h.2⟩
theorem region_out {l : List Oper} : ∀ o ∈ l, ∀ t k, o.dst = some k → hasB (asgOps l) t = false → t ≠ k := fun o ho t k hd hb => asgOps_out ho t k hd hb
theorem Outside.trans {m : Nat} {e e1 e2 : Env} (h : Outside m e e1) (h' : Outside m e1 e2) : Outside m e e2 := fun t ht => (h' t ht).trans (h t ht)
theorem Outside.mono {m m' : Nat} {e e' : Env} (h : Outside m e e') (hm : ∀ t, hasB m' t = false → hasB m t = false) : Outside m' e e' := fun t ht => h t (hm t ht)

theorem X_sound (hm : P.follows .mixedOrders = true) {n : Nat} : ∀ (c : Code) (an : An) (N R : Env → World → Prop) (E : Nat → Env → World → Prop) (a : Act) (w : World), codeOk n an c = true → Fit n a → X P an c N R E (envOf a) w →
    c.wp P (post n (fun e' w' => Outside (asg c) (envOf a) e' ∧ N e' w') R (fun id e' w' => Outside (asg c) (envOf a) e' ∧ E id e' w')) a w := by
  intro c
  induction c with
  | skip => intro an N R E a w hok hf h; exact wp_skip ⟨hf, fun _ _ => rfl, by cases an <;> exact h⟩
  | label l => intro an N R E a w hok hf h; exact wp_label ⟨hf, fun _ _ => rfl, by cases an <;> exact h⟩
  | exit id => intro an N R E a w hok hf h; exact wp_exit ⟨hf, fun _ _ => rfl, by cases an <;> exact h⟩
  | ret => intro an N R E a w hok hf h; exact wp_ret ⟨hf, by cases an <;> exact h⟩
  | goto l => intro an N R E a w hok hf h; cases an <;> exact h.elim
  | refuse l => intro an N R E a w hok hf h; cases an <;> exact h.elim
  | rangeFunc f ps as b iha ihb => intro an N R E a w hok hf h; cases an <;> exact h.elim
  | region id ops draw =>
    intro an N R E a w hok hf h
    cases draw with
    | false =>
      have h' : xops P ops.toList ops.toList (envOf a) w N := by cases an <;> exact h
      have h2 := xops_out (P := P) ops.toList (envOf a) w region_out (fun _ _ => rfl) h'
      have hok : ops.toList.all (dstOk n) = true := by cases an <;> exact hok
      exact wp_region_list (xops_sound (fun a' w' hf' hk => ⟨hf', hk⟩) ops.toList a w hok hf h2)
    | true =>
      have key : ∀ {K : Env → World → Prop} {B : List Nat} {sch : Sch}, regOk n B ops = true → schOk ops.toList B sch false 0 = true → xsch P ops.toList sch [] (envOf a) w.drew K →
          (Code.region id ops true).wp P (post n (fun e' w' => Outside (asgOps ops.toList) (envOf a) e' ∧ K e' w') R (fun id e' w' => Outside (asg (Code.region id ops true)) (envOf a) e' ∧ E id e' w')) a w := by
        intro K B sch hr hs hx
        have h2 := xsch_out (P := P) _ _ (envOf a) _ region_out (fun _ _ => rfl) hx
        exact xany_sound (B := B) hm hr (fun a' w' hf' hk => ⟨hf', hk⟩) hf ((sch_any sch).1 sch.depth 0 [] _ _ _ (Nat.le_refl _) hs h2)
      cases an with
      | d S m B sch =>
        simp only [codeOk, Bool.and_eq_true] at hok
        simp only [X] at h
        split at h
        · rename_i hb
          have hb := Nat.eq_of_beq_eq_true hb
          subst hb
          obtain ⟨J, h1, h2⟩ := h
          refine Code.wp_mono ?_ (key hok.1 hok.2 h1)
          intro ex a' w' hp
          cases ex with
          | normal =>
            obtain ⟨hf', ho, hJ⟩ := hp
            refine ⟨hf', ho, ?_⟩
            have := allV_inst h2 (evl (envOf a') (S.map .tmp)) (by rw [evl_eq]; simp) w' hJ (envOf a')
            rwa [mix_self ho] at this
          | _ => exact hp
        · exact h.elim
      | x B sch =>
        simp only [codeOk, Bool.and_eq_true] at hok
        exact key hok.1 hok.2 h
      | _ => exact h.elim
  | seq x y ihx ihy =>
    intro an N R E a w hok hf h
    have ox : ∀ t, hasB (asg (Code.seq x y)) t = false → hasB (asg x) t = false := fun t ht => hasB_or_left ht
    have oy : ∀ t, hasB (asg (Code.seq x y)) t = false → hasB (asg y) t = false := fun t ht => hasB_or_right ht
    have fin : ∀ {N1 : Env → World → Prop} {an1 an2 : An}, codeOk n an1 x = true → codeOk n an2 y = true → X P an1 x N1 R E (envOf a) w →
        (∀ (a' : Act) (w' : World), Fit n a' → Outside (asg x) (envOf a) (envOf a') → N1 (envOf a') w' → X P an2 y N R E (envOf a') w') →
        (Code.seq x y).wp P (post n (fun e' w' => Outside (asg (Code.seq x y)) (envOf a) e' ∧ N e' w') R (fun id e' w' => Outside (asg (Code.seq x y)) (envOf a) e' ∧ E id e' w')) a w := by
      intro N1 an1 an2 hk1 hk2 h1 h2
      refine wp_seq (Code.wp_mono ?_ (ihx an1 N1 R E a w hk1 hf h1))
      intro ex a' w' hp
      cases ex with
      | normal =>
        obtain ⟨hf', ho, hN⟩ := hp
        have hx2 := h2 a' w' hf' ho hN
        refine Code.wp_mono ?_ (ihy an2 N R E a' w' hk2 hf' hx2)
        intro ex2 a2 w2 hp2
        cases ex2 with
        | normal => exact ⟨hp2.1, (ho.mono ox).trans (hp2.2.1.mono oy), hp2.2.2⟩
        | exit id => exact ⟨hp2.1, (ho.mono ox).trans (hp2.2.1.mono oy), hp2.2.2⟩
        | ret => exact hp2
        | _ => exact hp2.elim
      | exit id => exact ⟨hp.1, hp.2.1.mono ox, hp.2.2⟩
      | ret => exact hp
      | _ => exact hp.elim
    cases an with
    | s x' y' =>
      simp only [codeOk, Bool.and_eq_true] at hok
      exact fin hok.1 hok.2 h fun a' w' _ _ hN => hN
    | j S m x' y' =>
      simp only [codeOk, Bool.and_eq_true] at hok
      simp only [X] at h
      split at h
      · rename_i hb
        have hb := Nat.eq_of_beq_eq_true hb
        subst hb
        obtain ⟨J, h1, h2⟩ := h
        refine fin hok.1 hok.2 h1 fun a' w' _ ho hJ => ?_
        have := allV_inst h2 (evl (envOf a') (S.map .tmp)) (by rw [evl_eq]; simp) w' hJ (envOf a')
        rwa [mix_self ho] at this
      · exact h.elim
    | _ => exact h.elim
  | cond c x y ihx ihy =>
    intro an N R E a w hok hf h
    have ox : ∀ t, hasB (asg (Code.cond c x y)) t = false → hasB (asg x) t = false := fun t ht => hasB_or_left ht
    have oy : ∀ t, hasB (asg (Code.cond c x y)) t = false → hasB (asg y) t = false := fun t ht => hasB_or_right ht
    cases an with
    | c x' y' =>
      simp only [codeOk, Bool.and_eq_true] at hok
      simp only [X, xif] at h
      rw [ev_envOf] at h
      split at h
      · rename_i b hb
        cases b with
        | true =>
          refine wp_cond_true hb (Code.wp_mono ?_ (ihx x' N R E a w hok.1 hf h))
          intro ex a' w' hp
          cases ex with
          | normal => exact ⟨hp.1, hp.2.1.mono ox, hp.2.2⟩
          | exit id => exact ⟨hp.1, hp.2.1.mono ox, hp.2.2⟩
          | ret => exact hp
          | _ => exact hp.elim
        | false =>
          refine wp_cond_false hb (Code.wp_mono ?_ (ihy y' N R E a w hok.2 hf h))
          intro ex a' w' hp
          cases ex with
          | normal => exact ⟨hp.1, hp.2.1.mono oy, hp.2.2⟩
          | exit id => exact ⟨hp.1, hp.2.1.mono oy, hp.2.2⟩
          | ret => exact hp
          | _ => exact hp.elim
      · exact h.elim
    | _ => exact h.elim
  | block id c ih =>
    intro an N R E a w hok hf h
    cases an with
    | b x' =>
      refine wp_block (Code.wp_mono ?_ (ih x' N R _ a w hok hf h))
      intro ex a' w' hp
      cases ex with
      | normal => exact hp
      | exit id' =>
        simp only [Exit.inBlock]
        obtain ⟨hf', ho, hE⟩ := hp
        split
        · rename_i he
          subst he
          rw [Nat.beq_refl] at hE
          exact ⟨hf', ho, hE⟩
        · rename_i he
          have hb : Nat.beq id' id = false := by
            cases hb : Nat.beq id' id with
            | false => rfl
            | true => exact absurd (Nat.eq_of_beq_eq_true hb) he
          rw [hb] at hE
          exact ⟨hf', ho, hE⟩
      | ret => exact hp
      | _ => exact hp.elim
    | _ => exact h.elim
  | scope c ih =>
    intro an N R E a w hok hf h
    cases an with
    | b x' =>
      refine wp_scope_straight (Code.wp_mono ?_ (ih x' N R E a w hok hf h))
      intro ex a' w' hp
      cases ex with
      | goto l => exact hp.elim
      | _ => exact hp
    | _ => exact h.elim
  | loop c ih =>
    intro an N R E a w hok hf h
    cases an with
    | l S m x' =>
      simp only [X] at h
      split at h
      · rename_i hb
        have hb := Nat.eq_of_beq_eq_true hb
        subst hb
        obtain ⟨I, μ, h0, h1⟩ := h
        refine wp_loop (fun a' w' => Fit n a' ∧ Outside (asg c) (envOf a) (envOf a') ∧ Cur.app S.length I (evl (envOf a') (S.map .tmp)) w') (fun a' w' => CurN.app S.length μ (evl (envOf a') (S.map .tmp)) w') ⟨hf, fun _ _ => rfl, h0⟩ ?_
        rintro a' w' ⟨hf', ho, hI⟩
        have := allV_inst h1 (evl (envOf a') (S.map .tmp)) (by rw [evl_eq]; simp) w' hI (envOf a')
        rw [mix_self ho] at this
        refine Code.wp_mono ?_ (ih x' _ R E a' w' hok hf' this)
        intro ex a2 w2 hp
        cases ex with
        | normal => exact ⟨⟨hp.1, ho.trans hp.2.1, hp.2.2.1⟩, hp.2.2.2⟩
        | exit id => exact ⟨hp.1, ho.trans hp.2.1, hp.2.2⟩
        | ret => exact hp
        | _ => exact hp.elim
      · exact h.elim
    | _ => exact h.elim
def resVals (P : Program) (w : World) (e : Env) : List ResultVar → Option (List Value)
  | [] => some []
  | .tmp t :: r => (match resVals P w e r with
    | some l => some (e t :: l)
    | none => none)
  | .cell a t :: r => (match qval P w e (.load t (.tmp a)) with
    | some v => (match resVals P w e r with
      | some l => some (v :: l)
      | none => none)
    | none => none)
theorem resK_some {w : World} {e : Env} : ∀ {rs : List ResultVar} {K : List Value → Prop}, resK P w e rs K → ∃ l, resVals P w e rs = some l ∧ K l := by
  intro rs
  induction rs with
  | nil => intro K h; exact ⟨[], rfl, h⟩
  | cons r rs ih =>
    intro K h
    cases r with
    | tmp t =>
      obtain ⟨l, hl, hk⟩ := ih h
      exact ⟨e t :: l, by simp only [resVals, hl], hk⟩
    | cell a t =>
      simp only [resK] at h
      unfold onSome at h
      split at h
      · rename_i v hv
        obtain ⟨l, hl, hk⟩ := ih h
        exact ⟨v :: l, by simp only [resVals, hv, hl], hk⟩
      · exact h.elim
theorem resVals_run {w : World} {a : Act} : ∀ {rs : List ResultVar} {l : List Value}, resVals P w (envOf a) rs = some l →
    (rs.mapM (m := Sem) fun | .tmp t => pure (a.tmps.getD t undef) | .cell x t => do loadVar t (← asAddr (a.tmps.getD x undef))).run P w = .ok l w := by
  intro rs
  induction rs with
  | nil => intro l h; simp [resVals] at h; subst h; simp
  | cons r rs ih =>
    intro l h
    cases r with
    | tmp t =>
      simp only [resVals] at h
      cases hr : resVals P w (envOf a) rs with
      | none => simp [hr] at h
      | some l' =>
        simp only [hr, Option.some.injEq] at h
        subst h
        rw [List.mapM_cons]
        simp only [Sem.run_bind, Sem.run_pure, Result.andThen_ok]
        rw [ih hr]
        rfl
    | cell x t =>
      simp only [resVals] at h
      cases hv : qval P w (envOf a) (.load t (.tmp x)) with
      | none => simp [hv] at h
      | some v =>
        cases hr : resVals P w (envOf a) rs with
        | none => simp [hv, hr] at h
        | some l' =>
          simp only [hv, hr, Option.some.injEq] at h
          subst h
          have h1 : (do loadVar t (← asAddr (a.tmps.getD x undef)) : Sem Value).run P w = .ok v w := by
            simp only [qval] at hv
            have h2 : (Instr.loadAt t (envOf a x)).run P w = .ok v w := by
              split at hv
              · rename_i i hi ha; exact load_run hi (.inl ⟨ha, hv⟩)
              · rename_i i hi ha; exact load_run hi (.inr ⟨ha, hv⟩)
              · cases hv
            have h3 : ∃ p, envOf a x = .pointer (some p) := by
              split at hv
              · simp only [ev, q_loadn] at hv
                split at hv
                · rename_i p hp; exact ⟨p, hp⟩
                · cases hv
              · simp only [ev, q_load1] at hv
                split at hv
                · rename_i p hp; exact ⟨p, hp⟩
                · cases hv
              · cases hv
            obtain ⟨p, hp⟩ := h3
            have hp' : a.tmps.getD x undef = .pointer (some p) := hp
            rw [hp] at h2
            simp only [Instr.loadAt, Instr.sureAddr, Sem.run_bind, Sem.run_pure, Result.andThen_ok] at h2
            rw [hp']
            simp only [asAddr, Sem.run_bind, Sem.run_pure, Result.andThen_ok]
            exact h2
          rw [List.mapM_cons]
          rw [Sem.run_bind, h1]
          simp only [Sem.run_bind, Sem.run_pure, Result.andThen_ok]
          rw [ih hr]
          rfl
theorem xres_sound {fn : Func} {K : Value → World → Prop} {a : Act} {w : World} (h : xres P fn.results.toList K (envOf a) w) : ∃ v, (results fn a.tmps).run P w = .ok v w ∧ K v w := by
  unfold xres at h
  obtain ⟨l, hl, h⟩ := resK_some h
  · refine ⟨_, ?_, h⟩
    have := resVals_run hl
    unfold results
    rw [Array.mapM_eq_mapM_toList]
    simp only [Sem.run_bind, Sem.run_map]
    erw [this]
    simp only [Result.andThen_ok, Sem.run_pure]
    congr 1
    clear this hl h
    cases l with
    | nil => rfl
    | cons x l => cases l with
      | nil => rfl
      | cons y l => rw [dif_neg (by simp)]; rfl
/-- THE LIFTED FORM OF A FUNCTION IS SOUND. -/
theorem xfun_sound {f : FuncId} {fn : Func} {an : An} {args : List Value} {w : World} {K : Value → World → Prop} (hf : P.funcs[f]? = some fn) (hm : P.follows .mixedOrders = true)
    (hok : (match fn.body with | some c => codeOk fn.ntmps an c | none => false) = true) (hlen : args.length ≤ fn.ntmps) (h : xfun P fn an args w K) : Ret P f args w K := by
  unfold xfun at h
  cases hb : fn.body with
  | none => simp [hb] at h
  | some c =>
    simp only [hb] at h hok
    unfold Ret
    refine calls_of_wp hf hb ?_
    have henv : argEnv args = envOf { tmps := args.toArray ++ Array.replicate (fn.ntmps - args.toArray.size) undef, defers := [] } := by
      funext t
      simp only [argEnv, envOf, nth_eq, Array.getD_eq_getD_getElem?]
      by_cases ht : t < args.length
      · rw [Array.getElem?_append_left (by simpa using ht)]
        simp
      · rw [Array.getElem?_append_right (by simpa using ht), List.getElem?_eq_none (by omega), Array.getElem?_replicate]
        split <;> simp
    rw [henv] at h
    refine Code.wp_mono ?_ (X_sound hm c an _ _ _ _ w hok ⟨by simp; omega, rfl⟩ h)
    intro ex a' w' hp
    cases ex with
    | normal =>
      obtain ⟨v, hr, hK⟩ := xres_sound hp.2.2
      exact ⟨hp.1.defers, v, hr, hK⟩
    | ret =>
      obtain ⟨v, hr, hK⟩ := xres_sound hp.2
      exact ⟨hp.1.defers, v, hr, hK⟩
    | exit id => exact hp.2.2.elim
    | _ => exact hp.elim
end Go.X
