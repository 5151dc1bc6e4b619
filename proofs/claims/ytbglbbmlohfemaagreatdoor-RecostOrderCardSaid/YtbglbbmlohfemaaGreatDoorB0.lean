/- Contracts of rows by shape. -/
import Derived.Test.YtbglbbmlohfemaaGreatDoorB8
section
set_option linter.unusedVariables false
set_option linter.unusedSimpArgs false
namespace Go.X
open Go.Proofs Go.RowKit Go.ChangeShapes Go.WideShapes
attribute [local irreducible] Value.okWide DataW.trod
variable {H : Type} {enc : TypeId × Value → H}
end Go.X
end
section
set_option linter.unusedVariables false
set_option linter.unusedSimpArgs false
namespace Go.X
open Go.Proofs Go.RowKit Go.ChangeShapes Go.WideShapes
attribute [local irreducible] Value.okWide DataW.trod
variable {H : Type} {enc : TypeId × Value → H}
/-- A struct type of whole numbers, n of them, a cell each. -/
def intsOf (P : Program) (t : TypeId) (n : Nat) : Bool :=
  match P.underlying t with
  | some (.struct fs) => (fs.toList.map (·.type) == List.replicate n 3) && Go.Deep.oneCellFields P fs && (P.cellsOf t == fs.size)
  | _ => false
theorem intsOf_spec {t : TypeId} {n : Nat} (h : intsOf Tryz.prog t n = true) : ∃ fs : Array Field, Tryz.prog.underlying t = some (.struct fs) ∧ fs.toList.map (·.type) = List.replicate n 3 ∧ Go.Deep.oneCellFields Tryz.prog fs = true ∧ Tryz.prog.cellsOf t = fs.size ∧ fs.size = n := by
  unfold intsOf at h
  split at h
  · rename_i fs hu
    simp only [Bool.and_eq_true, beq_iff_eq] at h
    exact ⟨fs, hu, h.1.1, h.1.2, h.2, by have := congrArg List.length h.1.1; simpa using this⟩
  · cases h
theorem ints_field {fs : Array Field} {n : Nat} (h : fs.toList.map (·.type) = List.replicate n 3) {j : Nat} (hj : j < n) : ∃ f, fs[j]? = some f ∧ f.type = 3 := by
  have h1 : (fs.toList.map (·.type))[j]? = some 3 := by rw [h]; simp [hj]
  rw [List.getElem?_map] at h1
  obtain ⟨f, hf, he⟩ := Option.map_eq_some_iff.mp h1
  exact ⟨f, by rw [← Array.getElem?_toList]; exact hf, he⟩
theorem way64 : intsOf Tryz.prog 64 2 = true := by kernel_rfl
theorem rr64 : Tryz.prog.readableRec 64 = true := by kernel_rfl
theorem tsz64 : 64 < Tryz.prog.types.size := of_decide_eq_true (by kernel_rfl)
theorem open_way {w : World} {base : Nat} {spare : Nat → Bool} {held : Bool} {r : Reach} {b0 : Nat} {v : Value} {d : DataW H} {p : List MemPlace} (hv : Value.okWide Tryz.prog w r b0 64 v)
    (h : DataW.Trod enc Tryz.prog w base spare held 64 v d p) : ∃ a b : Int, v = .agg #[.int .i64 a, .int .i64 b] ∧ I64 a ∧ I64 b := by
  obtain ⟨fs, hu, hty, hone, hC, h2⟩ := intsOf_spec way64
  have hcs : ∃ cs, v = .agg cs ∧ cs.size = Tryz.prog.cellsOf 64 := okWide_struct (P := Tryz.prog) (t := 64) hu hv
  refine hcs.elim fun cs hc => ?_
  have hvv := hc.1
  have hsz := hc.2
  subst hvv
  obtain ⟨fuel, hf⟩ := h
  obtain ⟨xs, n, _, _, _, hlen, hg⟩ := DataW.trod_struct hu hf
  have hsz2 : cs.size = 2 := by rw [hsz, hC, h2]
  have gi : ∀ j : Nat, j < 2 → ∃ z : Int, I64 z ∧ cs[j]? = some (Value.int .i64 z) := by
    intro j hj
    obtain ⟨f, hfj, hft⟩ := ints_field hty hj
    obtain ⟨ho, hk⟩ := Go.Deep.hone_of hone j f hfj
    have hjc : j < cs.toList.length := by simp; omega
    have h1 := hg j f hfj
    rw [ho, hk, hft] at h1
    have e1 : (Value.agg cs).cells.toList = cs.toList := rfl
    have e2 : ((Value.agg cs).cells.toList.drop j).take 1 = [cs.toList[j]] := by
      rw [e1, List.drop_eq_getElem_cons hjc]; rfl
    rw [e2] at h1
    have hxj : xs[j]? = some (xs[j]'(by omega)) := List.getElem?_eq_getElem (by omega)
    obtain ⟨z, hz, _, hw⟩ := DataW.trod_int ty3 (h1.trans hxj)
    simp only [List.cons.injEq, and_true] at hz
    refine ⟨z, wf_I64 hw, ?_⟩
    rw [← Array.getElem?_toList, ← hz]
    exact List.getElem?_eq_getElem hjc
  obtain ⟨a, ka, ea⟩ := gi 0 (by decide)
  obtain ⟨b, kb, eb⟩ := gi 1 (by decide)
  refine ⟨a, b, ?_, ka, kb⟩
  have : cs = #[.int .i64 a, .int .i64 b] := by
    clear gi hg hf hv hc hcs hsz
    obtain ⟨l⟩ := cs
    have hl : l.length = 2 := hsz2
    match l, hl, ea, eb with
    | [c0, c1], _, ea, eb => simp at ea eb; rw [ea, eb]
  rw [this]
/-- A trade of the law. -/
structure Tr where
  day : Int
  qty : Int
  cost : Int
structure Tr.Ok (t : Tr) : Prop where
  day : I64 t.day
  qty : I64 t.qty
  cost : I64 t.cost
def Tr.cs (t : Tr) : List Value := [.int .i64 t.day, .int .i64 t.qty, .int .i64 t.cost]
theorem contractW2 {f : FuncId} {fn : Func} {s : ChangeSpec} (hp : fn.params = #[64, 22]) (hr : fn.resultTypes = #[4]) (hv : s.vars = []) (hf : ∀ d1 d2 : DataW H, s.fn H [d1, d2] = { results := [.lit (.bool true)], args := [d1, d2] })
    (hcall : ∀ (W : World) (p0 q0 : Int) (v1 : Value) (l1 : List Mv) (K : Value → World → Prop), Tab W → I64 p0 → I64 q0 → Rd MvE W v1 l1 → (∀ m ∈ l1, m.Ok) → (∀ w', Below W.heap.size W w' → K (.bool true) w') → Ret Tryz.prog f [.agg #[.int .i64 p0, .int .i64 q0], v1] W K)
    (W : World) (base : Nat) (args : Array Value) (ds gs : List (DataW H)) (before : List MemPlace)
    (hval : ∀ (j : Nat) t v, fn.params[j]? = some t → args[j]? = some v → Value.okWide Tryz.prog W .any base t v)
    (hW : DataW.Whole enc Tryz.prog fn.params.toList s.vars false W args.toList ds gs before) (hT : Tab W) :
    Calls Tryz.prog f args W fun e W' => ∃ v, e = .returned v ∧ s.post enc Tryz.prog fn false true false false W args v W' := by
  have hW' := hW
  obtain ⟨p, q, hA0, hV, rfl, hfz, hnd⟩ := hW
  have hA : DataW.TrodAll enc Tryz.prog W 0 (fun _ => true) true fn.params.toList args.toList ds p := hA0
  rw [hp] at hA hval
  rw [hv] at hV
  obtain ⟨x0, vs0, d0, ds0, P0, Q0, hargs, rfl, rfl, h0, r0⟩ := trodAll_cons hA
  obtain ⟨x1, vs1, d1, ds1, P1, Q1, rfl, rfl, rfl, h1, r1⟩ := trodAll_cons r0
  obtain ⟨rfl, rfl, rfl⟩ := trodAll_nil r1
  obtain rfl : args = #[x0, x1] := by cases args; simp_all
  obtain ⟨rfl, rfl⟩ := trodVars_none hV
  obtain ⟨p0, q0, hm0, hp0, hq0⟩ := open_way (hval 0 64 x0 rfl rfl) h0
  subst hm0
  obtain ⟨l1, hl1, ho1⟩ := open_moves (hval 1 22 x1 rfl rfl) h1
  have hlt0 : ∀ x ∈ P0, x.block < W.heap.size := fun x hx => hW'.lt x (by simp [hx])
  have hlt1 : ∀ x ∈ P1, x.block < W.heap.size := fun x hx => hW'.lt x (by simp [hx])
  refine ret_calls (hcall W p0 q0 x1 l1 (fun v w' => v = .bool true ∧ Below W.heap.size W w') hT hp0 hq0 hl1 ho1 (fun w' hb => ⟨rfl, hb⟩)) ?_
  rintro v w' ⟨rfl, hb⟩
  refine ⟨_, rfl, [d0, d1], [], _, [], P0 ++ (P1), [], hW', ?_, ?_, ?_, ?_, fun h => by cases h⟩
  · rw [hr]
    simp only [List.append_nil, hf]
    exact trodAll_cons_mk (shut_bool bool4 true) trodAll_mk0
  · rw [hp]
    simp only [List.append_nil, hf]
    have := trodAll_cons_mk (stays rr64 tsz64 h0 hb hlt0 (sp := fun b => decide (b < W.heap.size)) (fun x hx => by simpa using hlt0 x hx)) (trodAll_cons_mk (stays rr22 tsz h1 hb hlt1 (sp := fun b => decide (b < W.heap.size)) (fun x hx => by simpa using hlt1 x hx)) trodAll_mk0)
    simpa using this
  · rw [hv]
    simp only [List.append_nil, hf]
    rfl
  · exact hb.frame _
end Go.X
end
