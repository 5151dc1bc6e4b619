/- Soundness of the lifted form at single operations: a quiet one yields its value and changes nothing; a loud one comes to what its word says. -/
import Derived.Test.YtbglbbmlohfemaaGreatDoorXa
import Derived.Laws.Tables
import Derived.WideLaws
set_option linter.unusedVariables false
set_option linter.unusedSimpArgs false
namespace Go.X
variable {P : Program}

def envOf (a : Act) : Env := fun t => a.tmps.getD t undef
theorem ev_envOf (a : Act) (x : Operand) : ev (envOf a) x = a.eval x := by cases x <;> rfl
theorem ev_envOf' (a : Act) : ev (envOf a) = a.eval := funext (ev_envOf a)
theorem evl_eq (e : Env) (l : List Operand) : evl e l = l.map (ev e) := by
  induction l with
  | nil => rfl
  | cons x xs ih => simp [evl, ih]
theorem evl_toArray (e : Env) (as : Array Operand) : (evl e as.toList).toArray = as.map (ev e) := by
  rw [evl_eq]; apply Array.ext'; simp
theorem evo_eq (e : Env) (o : Option Operand) : evo e o = o.map (ev e) := by cases o <;> rfl

theorem pr_bind {α β : Type} {s : Sem α} {f : α → Sem β} {b : β} (h : pr P (s >>= f) = some b) : ∃ a, pr P s = some a ∧ pr P (f a) = some b := by
  change pr P (s.bind f) = some b at h
  induction s with
  | pure a => exact ⟨a, rfl, h⟩
  | program k ih => exact ih P h
  | _ => simp [Sem.bind, pr] at h
theorem isAgg_run {t : TypeId} {b : Bool} (h : aggOf P t = some b) (w : World) : (isAgg t).run P w = .ok b w := by
  unfold aggOf at h
  cases hu : P.underlying t with
  | none => simp [hu] at h
  | some d => cases d <;> (simp [hu] at h; subst h; simp [isAgg, run_underlying hu])
theorem loadCellsFrom_run (w : World) (p : Addr) : ∀ (n i : Nat) (acc : Array Value) (l : List Value), loadL w p i n = some l → (loadCellsFrom p i n acc).run P w = .ok (acc ++ l.toArray) w := by
  intro n
  induction n with
  | zero => intro i acc l h; simp [loadL] at h; subst h; simp [loadCellsFrom]
  | succ n ih =>
    intro i acc l h
    simp only [loadL] at h
    cases hc : w.cell? (p.add i) with
    | none => simp [hc] at h
    | some v =>
      simp only [hc] at h
      cases hl : loadL w p (i + 1) n with
      | none => simp [hl] at h
      | some r =>
        simp only [hl, Option.some.injEq] at h
        subst h
        have := ih (i + 1) (acc.push v) r hl
        simp [loadCellsFrom, hc, this]
theorem load_run {t : TypeId} {i : TypeInfo} {w : World} {x v : Value} (hi : P.info? t = some i)
    (h : (aggOf P t = some true ∧ q_loadn i.size x w = some v) ∨ (aggOf P t = some false ∧ q_load1 x w = some v)) : (Instr.loadAt t x).run P w = .ok v w := by
  rcases h with ⟨ha, h⟩ | ⟨ha, h⟩
  · unfold q_loadn at h
    split at h
    · rename_i p
      cases hl : loadL w p 0 i.size with
      | none => simp [hl] at h
      | some l =>
        simp only [hl, Option.some.injEq] at h
        subst h
        have := loadCellsFrom_run (P := P) w p i.size 0 #[] l hl
        simp [Instr.loadAt, Instr.sureAddr, loadVar, isAgg_run ha w, sizeOf, typeInfo, hi, loadCells, this]
    · cases h
  · unfold q_load1 at h
    split at h
    · rename_i p
      simp [Instr.loadAt, Instr.sureAddr, loadVar, isAgg_run ha w, h]
    · cases h
theorem eqGuard_plain (op : BinOp) (t : TypeId) (x y : Operand) (a b : Value) (w : World) (h : (∃ k n, a = .int k n) ∨ (∃ s, a = .string s)) : (eqGuard op t x y a b).run P w = .ok () w := by
  unfold eqGuard
  rcases h with ⟨k, n, rfl⟩ | ⟨s, rfl⟩ <;> (split <;> simp)
theorem vint_run {op : BinOp} {k : IntKind} {x y : Int} {v : Value} {w : World} {t : TypeId} (h : vint op k x y = some v) : (binOp op t (.int k x) (.int k y)).run P w = .ok v w := by
  cases op <;> simp only [vint] at h <;> first
    | (simp only [Option.some.injEq] at h; subst h; simp [binOp, Op.intArith, Op.intBits, Op.intCmp]; done)
    | (split at h <;> simp_all [binOp, Op.intDiv]; done)
    | (simp only [Option.some.injEq] at h; subst h; simp only [binOp]; rw [if_neg (by simp)]; simp only [Op.intCmp]; rfl)
    | (cases h)
theorem vstr_run {op : BinOp} {x y : ByteArray} {v : Value} {w : World} {t : TypeId} (h : vstr op x y = some v) : (binOp op t (.string x) (.string y)).run P w = .ok v w := by
  cases op <;> simp only [vstr] at h <;> first
    | (simp only [Option.some.injEq] at h; subst h; simp [binOp, Op.stringOp]; done)
    | (by_cases hs : ((x.size + y.size : Nat) : Int) > 9223372036854775807
       · rw [if_pos hs] at h; cases h
       · rw [if_neg hs, Option.some.injEq] at h; subst h; simp only [binOp, Op.stringOp]; rw [if_neg (by rw [show IntKind.i64.max = 9223372036854775807 from by decide]; exact hs)]; rfl)
    | (cases h)
theorem vshift_run {op : BinOp} {k k' : IntKind} {x y : Int} {v : Value} {w : World} {t : TypeId} (ho : op = .shl ∨ op = .shr) (h : vshift op k x y = some v) : (binOp op t (.int k x) (.int k' y)).run P w = .ok v w := by
  unfold vshift at h
  rcases ho with rfl | rfl <;> (split at h; · cases h) <;> (rename_i hy; simp only [Option.some.injEq] at h; subst h; simp [binOp, Op.shift, hy])
theorem bin_run {op : BinOp} {t : TypeId} {x y : Operand} {a b v : Value} {w : World} (h : q_bin op a b = some v) :
    (do eqGuard op t x y a b; binOp op t a b : Sem Value).run P w = .ok v w := by
  unfold q_bin at h
  split at h
  · simp [eqGuard_plain _ t x y _ _ w (.inl ⟨_, _, rfl⟩), vshift_run (.inl rfl) h]
  · simp [eqGuard_plain _ t x y _ _ w (.inl ⟨_, _, rfl⟩), vshift_run (.inr rfl) h]
  · split at h
    · rename_i hk
      subst hk
      simp [eqGuard_plain _ t x y _ _ w (.inl ⟨_, _, rfl⟩), vint_run h]
    · cases h
  · simp [eqGuard_plain _ t x y _ _ w (.inr ⟨_, rfl⟩), vstr_run h]
  · cases h
theorem eq_run {op : BinOp} {t : TypeId} {x y : Operand} {a b v : Value} {w : World} (h : q_eq P op t a b = some v) :
    (do eqGuard op t x y a b; binOp op t a b : Sem Value).run P w = .ok v w := by
  unfold q_eq at h
  obtain ⟨u, hg, hb⟩ := pr_bind h
  have hg' := pr_run hg w
  have hb' := pr_run hb w
  have : (eqGuard op t x y a b).run P w = .ok () w := by
    clear hb hb' hg h
    cases op <;> first
      | rfl
      | (cases a <;> cases b <;> first
          | rfl
          | exact hg'
          | (cases x <;> first | rfl | (cases y <;> first | rfl | exact hg')))
  simp [this, hb']
theorem un_run {op : UnOp} {x v : Value} {w : World} (h : q_un op x = some v) : (Op.unary op x).run P w = .ok v w := by
  unfold q_un at h
  split at h <;> first
    | (simp only [Option.some.injEq] at h; subst h; simp [Op.unary, Op.intArith, Op.intBits]; done)
    | cases h

theorem toint_run {src dst : TypeId} {k k' : IntKind} {x v : Value} {w : World} (hs : P.underlying src = some (.int k')) (hd : P.underlying dst = some (.int k)) (h : q_toint k x = some v) : (convert src dst x).run P w = .ok v w := by
  unfold q_toint at h
  split at h
  · simp only [Option.some.injEq] at h; subst h
    simp [convert, run_underlying hs, run_underlying hd, Conv.intToInt]
  · cases h
theorem faddr_run {s : TypeId} {x v : Value} {f off : Nat} {w : World} (ho : fieldOff P s f = some off) (h : q_faddr off x = some v) : (Instr.fieldAt s x f).run P w = .ok v w := by
  unfold fieldOff at ho
  cases hu : P.underlying s with
  | none => simp [hu] at ho
  | some d =>
    cases d <;> simp only [hu] at ho <;> try (cases ho; done)
    rename_i fs
    rw [nth_eq] at ho
    cases hf : fs.toList[f]? with
    | none => simp [hf] at ho
    | some fl =>
      simp only [hf] at ho
      cases hi : P.info? fl.type with
      | none => simp [hi] at ho
      | some i =>
        simp only [hi] at ho
        split at ho
        · cases ho
        · rename_i hz
          simp only [Option.some.injEq] at ho
          subst ho
          unfold q_faddr at h
          split at h
          · simp only [Option.some.injEq] at h; subst h
            have hf' : fs[f]? = some fl := by simpa using hf
            simp [Instr.fieldAt, run_underlying hu, hf', Instr.sureAddr, fieldPlace, sizeOf, typeInfo, hi, hz]
          · cases h
theorem iaddr_run {t el : TypeId} {inf : TypeInfo} {x i v : Value} {w : World} (hu : P.underlying t = some (.slice el)) (hi : P.info? el = some inf) (h : q_iaddr inf.size x i = some v) : (Instr.indexAt t x i).run P w = .ok v w := by
  unfold q_iaddr at h
  split at h
  · split at h
    · rename_i hb
      simp only [Option.some.injEq] at h; subst h
      simp [Instr.indexAt, asIntOf, run_underlying hu, hb, sizeOf, typeInfo, hi]
    · cases h
  · cases h
theorem iaddra_run {t el : TypeId} {n : Nat} {inf : TypeInfo} {x i v : Value} {w : World} (hu : P.underlying t = some (.array n el)) (hi : P.info? el = some inf) (h : q_iaddra n inf.size x i = some v) : (Instr.indexAt t x i).run P w = .ok v w := by
  unfold q_iaddra at h
  split at h
  · split at h
    · rename_i hb
      simp only [Option.some.injEq] at h; subst h
      simp [Instr.indexAt, asIntOf, Instr.sureAddr, run_underlying hu, hb, sizeOf, typeInfo, hi]
    · cases h
  · cases h
theorem fill_eq (place : Nat → Option (Nat × Nat)) (e : Env) : ∀ (ps : List (Nat × Operand)) (cells out : Array Value) (l : List (Nat × Nat × Value)), partsAt e place ps = some l → fillC cells l = some out →
    Instr.fill place cells (ps.map fun x => (x.fst, ev e x.snd)) = some out := by
  intro ps
  induction ps with
  | nil =>
    intro cells out l hl hf
    simp [partsAt] at hl; subst hl
    simpa [fillC, Instr.fill] using hf
  | cons q ps ih =>
    obtain ⟨i, x⟩ := q
    intro cells out l hl hf
    simp only [partsAt] at hl
    cases hp : place i with
    | none => simp [hp] at hl
    | some os =>
      obtain ⟨o, s⟩ := os
      simp only [hp] at hl
      cases hr : partsAt e place ps with
      | none => simp [hr] at hl
      | some r =>
        simp only [hr, Option.some.injEq] at hl
        subst hl
        simp only [fillC] at hf
        split at hf
        · rename_i hc
          simp only [List.map_cons, Instr.fill, hp]
          rw [if_neg (by simp [hc.1]; omega)]
          exact ih _ _ _ hr hf
        · cases hf
theorem places_run : ∀ (fs : List Field) (pl : List (Nat × Nat)) (w : World), placesOf P fs = some pl →
    (fs.mapM (m := Sem) fun f => Prod.mk f.offset <$> sizeOf f.type).run P w = .ok pl w := by
  intro fs
  induction fs with
  | nil => intro pl w h; simp [placesOf] at h; subst h; simp
  | cons f fs ih =>
    intro pl w h
    simp only [placesOf] at h
    cases hi : P.info? f.type with
    | none => simp [hi] at h
    | some i =>
      cases hr : placesOf P fs with
      | none => simp [hi, hr] at h
      | some r =>
        simp only [hi, hr, Option.some.injEq] at h
        subst h
        have h1 : (sizeOf f.type).run P w = .ok i.size w := by simp [sizeOf, typeInfo, hi]
        simp [List.mapM_cons, h1, ih r w hr]
theorem zero_run {t : TypeId} {z : Array Value} (h : zeroOf P t = some z) (w : World) : ∃ v, v.cells = z ∧ (zeroValue t).run P w = .ok v w := by
  unfold zeroOf at h
  cases hi : P.info? t with
  | none => simp [hi] at h
  | some i =>
    simp only [hi] at h
    cases hz : i.zero with
    | none => simp [hz] at h
    | some v =>
      simp only [hz, Option.some.injEq] at h
      exact ⟨v, h, by simp [zeroValue, typeInfo, hi, hz]⟩
theorem build_run {t : TypeId} {fs : Array Field} {z : Array Value} {pl : List (Nat × Nat)} {l : List (Nat × Nat × Value)} {ps : Array (Nat × Operand)} {e : Env} {v : Value} {w : World}
    (hz : zeroOf P t = some z) (hu : P.underlying t = some (.struct fs)) (hp : placesOf P fs.toList = some pl) (hl : partsAt e (nth pl) ps.toList = some l) (h : q_build z l = some v) :
    (Instr.build t (ps.map fun (i, x) => (i, ev e x))).run P w = .ok v w := by
  unfold q_build at h
  cases hf : fillC z l with
  | none => simp [hf] at h
  | some cs =>
    simp only [hf, Option.some.injEq] at h
    subst h
    obtain ⟨zv, rfl, hzr⟩ := zero_run hz w
    have hpl := places_run (P := P) fs.toList pl w hp
    have hnth : nth pl = fun i => pl[i]? := by funext i; exact nth_eq pl i
    have hfill := fill_eq (nth pl) e ps.toList zv.cells cs l hl hf
    rw [hnth] at hfill
    simp only [Instr.build]
    simp only [Array.mapM_eq_mapM_toList]
    simp [hzr, run_underlying hu, hpl, hfill]
theorem builda_run {t el : TypeId} {n : Nat} {z : Array Value} {inf : TypeInfo} {l : List (Nat × Nat × Value)} {ps : Array (Nat × Operand)} {e : Env} {v : Value} {w : World}
    (hz : zeroOf P t = some z) (hu : P.underlying t = some (.array n el)) (hi : P.info? el = some inf) (hl : partsAt e (fun i => some (i * inf.size, inf.size)) ps.toList = some l) (h : q_build z l = some v) :
    (Instr.build t (ps.map fun (i, x) => (i, ev e x))).run P w = .ok v w := by
  unfold q_build at h
  cases hf : fillC z l with
  | none => simp [hf] at h
  | some cs =>
    simp only [hf, Option.some.injEq] at h
    subst h
    obtain ⟨zv, rfl, hzr⟩ := zero_run hz w
    have hfill := fill_eq _ e ps.toList zv.cells cs l hl hf
    simp only [Instr.build]
    simp [hzr, run_underlying hu, sizeOf, typeInfo, hi, hfill]
end Go.X
