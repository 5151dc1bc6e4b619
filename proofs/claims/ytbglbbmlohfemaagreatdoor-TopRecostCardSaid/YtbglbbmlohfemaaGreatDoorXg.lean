/- Soundness of the lifted form: regions that draw, code, functions. -/
import Derived.Test.YtbglbbmlohfemaaGreatDoorXf
set_option linter.unusedVariables false
set_option linter.unusedSimpArgs false
namespace Go.X
variable {P : Program}
section sim
variable {ops : Array Oper} {B : List Nat} {n : Nat} {a0 : Env}
theorem allIn_done {done : Nat} {D : Nat → Bool} {val : Nat → Value} {pend : Pend} {a : Act} {e : Env} {w : World} {K : Env → World → Prop} {f : Nat} (hs : Sim P ops B n a0 D done val pend a e w)
    (hall : ∀ k, k < ops.toList.length → D k = true) (hx : xany P ops.toList B f done pend e w K) (hq : firstQuiet ops.toList done (upto ops.toList.length) = none) : K (envOf a) w := by
  have hfull : Nat.beq done (2 ^ ops.toList.length - 1) = true := (full_all hs.inD').2 fun j hj => hs.sub j (hall j hj)
  have he : envOf a = e := by
    rw [hs.act, hs.env]
    refine envD_set fun k hk => ?_
    rw [hall k hk, hs.sub k (hall k hk)]
  rw [he]
  cases f with
  | zero => simpa only [xany, hfull] using hx
  | succ f => simpa only [xany, hq, hfull] using hx
/-- The set of the operations that have come up, as the machine keeps it. -/
def setOf (ops : Array Oper) (listed : Array Bool) : Nat → Bool := fun i => decide (i < ops.toList.length) && listed.getD i false
theorem setOf_set {listed : Array Bool} {i : Nat} (hsz : listed.size = ops.toList.length) (hi : i < ops.toList.length) : setOf ops (listed.setIfInBounds i true) = ins (setOf ops listed) i := by
  funext j
  simp only [setOf, ins]
  by_cases h : j = i
  · subst h
    have : j < listed.size := by rw [hsz]; exact hi
    simp [this]
    simpa using hi
  · have hne : i ≠ j := fun e => h e.symm
    rw [getD_set_ne false hne]
    simp [h]
theorem ready_setOf {listed : Array Bool} (hsz : listed.size = ops.toList.length) {i : Nat} (hB : RegOk n ops B) (h : i ∈ Region.ready .any ops listed) : Ready ops (setOf ops listed) i := by
  obtain ⟨h1, o, ho, h2⟩ := mem_ready.1 h
  have hlt : i < ops.toList.length := by have := (Array.getElem?_eq_some_iff.1 ho).1; simpa using this
  have ho' : nth ops.toList i = some o := by rw [nth_eq]; simpa using ho
  refine ⟨?_, o, ho', fun ed he hb => ?_⟩
  · simp only [setOf, hlt, decide_true, Bool.true_and]
    have : i < listed.size := by rw [hsz]; exact hlt
    simpa [this] using h1
  · have hl := hB.small i ed.on hlt (hB.edge i o ho' ed he hb)
    simp only [setOf, show ed.on < ops.toList.length by omega, decide_true, Bool.true_and]
    exact h2 ed he hb
theorem ready_of_setOf {listed : Array Bool} (hsz : listed.size = ops.toList.length) {i : Nat} (h : Ready ops (setOf ops listed) i) : i ∈ Region.ready .any ops listed := by
  have hlt := h.lt
  obtain ⟨h1, o, ho, h2⟩ := h
  refine mem_ready.2 ⟨?_, o, ?_, fun ed he hb => ?_⟩
  · simp only [setOf, hlt, decide_true, Bool.true_and] at h1
    have : i < listed.size := by rw [hsz]; exact hlt
    simpa [this] using h1
  · rw [nth_eq] at ho; simpa using ho
  · have := h2 ed he hb
    simp only [setOf, Bool.and_eq_true] at this
    exact this.2
theorem all_of_stuck {D : Nat → Bool} (hB : RegOk n ops B) (hno : ∀ i, ¬ Ready ops D i) : ∀ k, k < ops.toList.length → D k = true := by
  intro k
  induction k using Nat.strongRecOn with
  | _ k ih =>
    intro hk
    cases hD : D k with
    | true => rfl
    | false =>
      exfalso
      obtain ⟨o, ho⟩ := nth_some hk
      refine hno k ⟨hD, o, ho, fun ed he hb => ?_⟩
      have hlt := hB.small k ed.on hk (hB.edge k o ho ed he hb)
      exact ih ed.on hlt (by omega)
theorem sim_any (hB : RegOk n ops B) {Q : Exit → Act → World → Prop} {K : Env → World → Prop} (hQ : ∀ a w, Fit n a → K (envOf a) w → Q .normal a w) :
    ∀ (f2 : Nat) (listed : Array Bool) (f done : Nat) (val : Nat → Value) (pend : Pend) (a : Act) (e : Env) (w : World), listed.size = ops.toList.length → unl (setOf ops listed) ops.toList.length ≤ f2 →
      Sim P ops B n a0 (setOf ops listed) done val pend a e w → xany P ops.toList B f done pend e w K → wpAny P .any ops Q f2 listed a w := by
  intro f2
  induction f2 with
  | zero =>
    intro listed f done val pend a e w hsz hu hs hx
    have hall := unl_zero (Nat.le_zero.1 hu)
    obtain ⟨f', done', val', pend', e', hs', hx', hq⟩ := hs.norm hB f done val pend e hx
    refine ⟨?_, hQ a w hs.fit (allIn_done hs' hall hx' hq)⟩
    cases hr : Region.ready .any ops listed with
    | nil => rfl
    | cons i r =>
      have := ready_setOf hsz hB (by rw [hr]; exact List.mem_cons_self ..)
      have h1 := hall i this.lt
      rw [this.1] at h1; cases h1
  | succ f2 ih =>
    intro listed f done val pend a e w hsz hu hs hx
    obtain ⟨f', done', val', pend', e', hs', hx', hq⟩ := hs.norm hB f done val pend e hx
    refine ⟨fun hr => ?_, fun i hi => ?_⟩
    · have hall := all_of_stuck hB (D := setOf ops listed) fun i hrd => by
        have := ready_of_setOf hsz hrd
        rw [hr] at this; cases this
      exact hQ a w hs.fit (allIn_done hs' hall hx' hq)
    · have hrd := ready_setOf hsz hB hi
      have hDi := hrd.1
      have hlt := hrd.lt
      obtain ⟨o, ho, _⟩ := hrd.2
      have hops : ops[i]? = some o := by rw [nth_eq] at ho; simpa using ho
      have hbs := hrd.bset hB hs'.down hs'.inD
      have hag := agree_ready (val := val') (a0 := a0) hB ho hs'.down hs'.inD hDi hbs
      have hsz' : (listed.setIfInBounds i true).size = ops.toList.length := by simpa using hsz
      have hset := setOf_set (ops := ops) hsz hlt
      have hu' : unl (setOf ops (listed.setIfInBounds i true)) ops.toList.length ≤ f2 := by
        rw [hset]
        have := unl_ins hlt hDi
        omega
      unfold wpOp
      simp only [hops]
      have hdok := dstOk_lt (hB.dst i o ho)
      cases hdi : hasB done' i with
      | true =>
        obtain ⟨h1, h2⟩ := hs'.ahead i o ho hdi hDi
        have hgq : gq P ops.toList w (envOf a) o = some (val' i) := by rw [hs'.act, gq_congr hag]; exact h1
        refine gq_sound hgq (ih _ f' done' val' pend' _ e' w hsz' hu' ?_ hx')
        rw [hset]
        refine ⟨hs'.fit.put _ _, ?_, hs'.inD', ?_, down_ins hs'.inD hs'.down hbs, hs'.down', ?_, hs'.env, ?_⟩
        · intro j hj
          simp only [ins] at hj
          split at hj
          · rename_i e; rw [e]; exact hlt
          · exact hs'.inD j hj
        · intro j hj
          simp only [ins] at hj
          split at hj
          · rename_i e; rw [e]; exact hdi
          · exact hs'.sub j hj
        · rw [envOf_put hs'.fit _ _ hdok, hs'.act]
          have := envD_insert (L := ops.toList) (val := val') (val' := val') (a0 := a0) (D := setOf ops listed) (v := val' i) hlt hDi rfl (fun k hk => rfl) (insert_clash hB ho hs'.down hDi)
          rw [this]
          simp [dsti, ho]
        · intro k ok hok hk hDk
          have hne : k ≠ i := fun e => by rw [e] at hDk; simp [ins] at hDk
          refine hs'.ahead k ok hok hk ?_
          simpa [ins, hne] using hDk
      | false =>
        have hrd' : Ready ops (hasB done') i := ⟨hdi, o, ho, fun ed he hb => by
          obtain ⟨o', ho', h2⟩ := hrd.2
          rw [ho] at ho'
          injection ho' with ho'
          subst ho'
          exact hs'.sub _ (h2 ed he hb)⟩
        have hra := readyAt_iff.2 hrd'
        have hloud := firstQuiet_none hq i (mem_upto.2 hlt) hra o ho
        have hbs' := hrd'.bset hB hs'.down' hs'.inD'
        have hag' := agree_ready (val := val') (a0 := a0) hB ho hs'.down' hs'.inD' hdi hbs'
        have hnf : ¬ Nat.beq done' (2 ^ ops.toList.length - 1) = true := by
          intro hb
          have := (full_all hs'.inD').1 hb i hlt
          rw [hdi] at this; cases this
        have hnf' : Nat.beq done' (2 ^ ops.toList.length - 1) = false := by
          cases hb : Nat.beq done' (2 ^ ops.toList.length - 1) with
          | false => rfl
          | true => exact absurd hb hnf
        cases f' with
        | zero => simp only [xany, hnf'] at hx'
        | succ f' =>
          simp only [xany, hq, hnf'] at hx'
          have hgl := allOf_mem hx' (readyLoud_mem (mem_upto.2 hlt) hra ho hloud)
          simp only [ho] at hgl
          have hagree : ∀ s ∈ o.looksAt ops, e' s = envOf a s := by
            intro s hsl
            rw [hs'.env, hs'.act, hag' s hsl, hag s hsl]
          rw [gl_congr hagree] at hgl
          refine step_mono (gl_sound (K := fun a' w' => ∃ v, a' = a.put o.dst v ∧ pendAll w' (pendKeep ((nth B i).getD 0) pend') (xany P ops.toList B f' (Nat.lor done' (2 ^ i)) (pendKeep ((nth B i).getD 0) pend') (put e' o.dst v) w' K)) (gl_mono (fun v w' hv => ⟨v, rfl, hv⟩) hgl)) ?_
          rintro a' w' ⟨v, rfl, hv⟩
          obtain ⟨hp, hx2⟩ := pendAll_mem hv
          refine ih _ f' _ (upd val' i v) _ _ _ w' hsz' hu' ?_ hx2
          rw [hset]
          have hupd : ∀ (S : Nat → Bool), S i = false → envD ops.toList val' a0 S ops.toList.length = envD ops.toList (upd val' i v) a0 S ops.toList.length := by
            intro S hS
            refine envD_val fun k _ hk => ?_
            have : k ≠ i := fun e => by rw [e, hS] at hk; cases hk
            simp [upd, this]
          refine ⟨hs'.fit.put _ _, ?_, ?_, ?_, down_ins hs'.inD hs'.down hbs, ?_, ?_, ?_, ?_⟩
          · intro j hj
            simp only [ins] at hj
            split at hj
            · rename_i e; rw [e]; exact hlt
            · exact hs'.inD j hj
          · intro j hj
            rw [hasB_ins] at hj
            simp only [ins] at hj
            split at hj
            · rename_i e; rw [e]; exact hlt
            · exact hs'.inD' j hj
          · intro j hj
            rw [hasB_ins]
            simp only [ins] at hj ⊢
            split at hj
            · rename_i e; simp [e]
            · split
              · rfl
              · exact hs'.sub j hj
          · rw [hasB_ins]; exact down_ins hs'.inD' hs'.down' hbs'
          · rw [envOf_put hs'.fit _ _ hdok, hs'.act]
            have := envD_insert (L := ops.toList) (val := val') (val' := upd val' i v) (a0 := a0) (D := setOf ops listed) (v := v) hlt hDi (by simp [upd]) (fun k hk => by
              have : k ≠ i := fun e => by rw [e, hDi] at hk; cases hk
              simp [upd, this]) (insert_clash hB ho hs'.down hDi)
            rw [this]
            simp [dsti, ho]
          · rw [hasB_ins, hs'.env]
            have := envD_insert (L := ops.toList) (val := val') (val' := upd val' i v) (a0 := a0) (D := hasB done') (v := v) hlt hdi (by simp [upd]) (fun k hk => by
              have : k ≠ i := fun e => by rw [e, hdi] at hk; cases hk
              simp [upd, this]) (insert_clash hB ho hs'.down' hdi)
            rw [this]
            simp [dsti, ho]
          · intro k ok hok hk hDk
            have hki : k ≠ i := fun e => by rw [e] at hDk; simp [ins] at hDk
            have hk' : hasB done' k = true := by
              rw [hasB_ins] at hk
              simpa [ins, hki] using hk
            have hDk' : setOf ops listed k = false := by simpa [ins, hki] using hDk
            obtain ⟨h1, h2⟩ := hs'.ahead k ok hok hk' hDk'
            have hbk : bset B k i = false := by
              cases hb : bset B k i with
              | false => rfl
              | true => have := hs'.down' k (hs'.inD' k hk') hk' i hb; rw [hdi] at this; cases this
            have hik : bset B i k = false := by
              cases hb : bset B i k with
              | false => rfl
              | true => have := hbs k hb; rw [hDk'] at this; cases this
            have hv' : upd val' i v k = val' k := by simp [upd, hki]
            rw [← hupd _ hbk, hv']
            cases hlo : looksOut P ok.op with
            | false => exact ⟨by rw [gq_world (w' := w) hlo]; exact h1, fun h => by cases h⟩
            | true =>
              obtain ⟨p, hpm, hpw⟩ := h2 hlo
              have hkeep := pendKeep_mem hpm hik
              exact ⟨hpw w' (hp k p hkeep), fun _ => ⟨p, hkeep, hpw⟩⟩
end sim
/-- A region that draws its order. -/
theorem xany_sound {n id : Nat} {ops : Array Oper} {Q : Exit → Act → World → Prop} {K : Env → World → Prop} {B : List Nat} (hm : P.follows .mixedOrders = true) (hok : regOk n B ops = true) (hQ : ∀ a w, Fit n a → K (envOf a) w → Q .normal a w)
    {a : Act} {w : World} (hf : Fit n a) {f : Nat} (h : xany P ops.toList B f 0 [] (envOf a) w.drew K) : (Code.region id ops true).wp P Q a w := by
  refine wp_region_any hm ?_
  have hB := regOk_spec hok
  have hset : ∀ i, setOf ops (Array.replicate ops.size false) i = false := by
    intro i
    simp only [setOf]
    by_cases hi : i < ops.size <;> simp [hi]
  refine sim_any (a0 := envOf a) hB hQ ops.size (Array.replicate ops.size false) f 0 (fun _ => undef) [] a (envOf a) _ (by simp) ?_ ?_ h
  · have : ∀ m, unl (setOf ops (Array.replicate ops.size false)) m ≤ m := by
      intro m
      induction m with
      | zero => exact Nat.le_refl _
      | succ m ih => simp only [unl]; split <;> omega
    simpa using this ops.toList.length
  · have hz : ∀ j, hasB 0 j = false := fun j => by simp [hasB]
    have henv : ∀ (S : Nat → Bool) m, (∀ j, S j = false) → envD ops.toList (fun _ => undef) (envOf a) S m = envOf a := by
      intro S m hS
      induction m with
      | zero => rfl
      | succ m ih => simp only [envD, hS, ih]; rfl
    refine ⟨hf, fun j hj => ?_, fun j hj => ?_, fun j hj => ?_, fun j _ hj => ?_, fun j _ hj => ?_, (henv _ _ hset).symm, (henv _ _ hz).symm, fun j o _ hj => ?_⟩
    all_goals first | (rw [hset] at hj; cases hj) | (rw [hz] at hj; cases hj)
end Go.X
