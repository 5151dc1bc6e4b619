/- A movement as an argument; the contract of the law function of movements, a movement and a method. -/
import Derived.Test.YtbglbbmlohfemaaGreatDoorB8
set_option linter.unusedVariables false
set_option linter.unusedSimpArgs false
namespace Go.X
open Go.Proofs Go.RowKit Go.ChangeShapes Go.WideShapes
attribute [local irreducible] Value.okWide DataW.trod
variable {H : Type} {enc : TypeId × Value → H}
theorem open_move {w : World} {base : Nat} {spare : Nat → Bool} {held : Bool} {r : Reach} {b0 : Nat} {v : Value} {d : DataW H} {p : List MemPlace} (hv : Value.okWide Tryz.prog w r b0 47 v)
    (h : DataW.Trod enc Tryz.prog w base spare held 47 v d p) : ∃ m : Mv, v = m.v ∧ m.Ok := by
  obtain ⟨fs, hu, hty, hone, hC⟩ := mvFields_spec
  have h8 := fsize hty
  have hcs : ∃ cs, v = .agg cs ∧ cs.size = Tryz.prog.cellsOf 47 := okWide_struct (P := Tryz.prog) (t := 47) hu hv
  refine hcs.elim fun cs hc => ?_
  have hvv := hc.1
  have hsz := hc.2
  subst hvv
  obtain ⟨fuel, hf⟩ := h
  obtain ⟨xs, n, _, _, _, hlen, hg⟩ := DataW.trod_struct hu hf
  have hsz8 : cs.size = 8 := by rw [hsz, hC, h8]
  have key : ∀ (j : Nat) (t : TypeId), ([3, 3, 9, 3, 3, 3, 9, 3] : List TypeId)[j]? = some t → ∃ (u : Value) (y : DataW H × List MemPlace), cs[j]? = some u ∧ DataW.trod enc Tryz.prog w base spare held n t [u] = some y := by
    intro j t hj
    obtain ⟨f, hfj, hft⟩ := ftype hty hj
    obtain ⟨ho, hk⟩ := Go.Deep.hone_of hone j f hfj
    have hjl : j < fs.size := (Array.getElem?_eq_some_iff.1 hfj).1
    have hjc : j < cs.toList.length := by simp; omega
    have h1 := hg j f hfj
    rw [ho, hk, hft] at h1
    have e1 : (Value.agg cs).cells.toList = cs.toList := rfl
    have e2 : ((Value.agg cs).cells.toList.drop j).take 1 = [cs.toList[j]] := by
      rw [e1, List.drop_eq_getElem_cons hjc]; rfl
    rw [e2] at h1
    have hxj : xs[j]? = some (xs[j]'(by omega)) := List.getElem?_eq_getElem (by omega)
    refine ⟨cs.toList[j], xs[j]'(by omega), ?_, by rw [h1, hxj]⟩
    rw [← Array.getElem?_toList]
    exact List.getElem?_eq_getElem hjc
  have gi : ∀ j : Nat, ([3, 3, 9, 3, 3, 3, 9, 3] : List TypeId)[j]? = some 3 → ∃ z : Int, I64 z ∧ cs[j]? = some (Value.int .i64 z) := by
    intro j hj
    obtain ⟨u, y, hu', ht⟩ := key j 3 hj
    obtain ⟨z, hz, _, hw⟩ := DataW.trod_int ty3 ht
    simp only [List.cons.injEq, and_true] at hz
    rw [hz] at hu'
    exact ⟨z, wf_I64 hw, hu'⟩
  have gs : ∀ j : Nat, ([3, 3, 9, 3, 3, 3, 9, 3] : List TypeId)[j]? = some 9 → ∃ z : ByteArray, cs[j]? = some (Value.string z) := by
    intro j hj
    obtain ⟨u, y, hu', ht⟩ := key j 9 hj
    obtain ⟨z, hz, _, _⟩ := DataW.trod_string ty9 ht
    simp only [List.cons.injEq, and_true] at hz
    rw [hz] at hu'
    exact ⟨z, hu'⟩
  obtain ⟨z0, k0, e0⟩ := gi 0 rfl
  obtain ⟨z1, k1, e1⟩ := gi 1 rfl
  obtain ⟨z2, e2⟩ := gs 2 rfl
  obtain ⟨z3, k3, e3⟩ := gi 3 rfl
  obtain ⟨z4, k4, e4⟩ := gi 4 rfl
  obtain ⟨z5, k5, e5⟩ := gi 5 rfl
  obtain ⟨z6, e6⟩ := gs 6 rfl
  obtain ⟨z7, k7, e7⟩ := gi 7 rfl
  refine ⟨⟨z0, z1, z2, z3, z4, z5, z6, z7⟩, ?_, ⟨k0, k1, k3, k4, k5, k7⟩⟩
  have hcs' : cs = #[.int .i64 z0, .int .i64 z1, .string z2, .int .i64 z3, .int .i64 z4, .int .i64 z5, .string z6, .int .i64 z7] := by
    clear key gi gs hg hf hv hc hcs hsz
    obtain ⟨l⟩ := cs
    have hl : l.length = 8 := hsz8
    match l, hl, e0, e1, e2, e3, e4, e5, e6, e7 with
    | [c0, c1, c2, c3, c4, c5, c6, c7], _, e0, e1, e2, e3, e4, e5, e6, e7 =>
      simp at e0 e1 e2 e3 e4 e5 e6 e7
      rw [e0, e1, e2, e3, e4, e5, e6, e7]
  rw [hcs']
  rfl
theorem rr47 : Tryz.prog.readableRec 47 = true := by kernel_rfl
theorem tsz47 : 47 < Tryz.prog.types.size := of_decide_eq_true (by kernel_rfl)
theorem contractM {f : FuncId} {fn : Func} {s : ChangeSpec} (hp : fn.params = #[22, 47, 3]) (hr : fn.resultTypes = #[4]) (hv : s.vars = []) (hf : ∀ d1 d2 d3 : DataW H, s.fn H [d1, d2, d3] = { results := [.lit (.bool true)], args := [d1, d2, d3] })
    (hcall : ∀ (W : World) (v : Value) (ms : List Mv) (m : Mv) (b : Int) (K : Value → World → Prop), Tab W → Rd MvE W v ms → (∀ m ∈ ms, m.Ok) → m.Ok → (∀ w', Below W.heap.size W w' → K (.bool true) w') → Ret Tryz.prog f [v, m.v, .int .i64 b] W K)
    (W : World) (base : Nat) (args : Array Value) (ds gs : List (DataW H)) (before : List MemPlace)
    (hval : ∀ (j : Nat) t v, fn.params[j]? = some t → args[j]? = some v → Value.okWide Tryz.prog W .any base t v)
    (hW : DataW.Whole enc Tryz.prog fn.params.toList s.vars false W args.toList ds gs before) (hT : Tab W) :
    Calls Tryz.prog f args W fun e W' => ∃ v, e = .returned v ∧ s.post enc Tryz.prog fn false true false false W args v W' := by
  have hW' := hW
  obtain ⟨p, q, hA0, hV, rfl, hfz, hnd⟩ := hW
  have hA : DataW.TrodAll enc Tryz.prog W 0 (fun _ => true) true fn.params.toList args.toList ds p := hA0
  rw [hp] at hA hval
  rw [hv] at hV
  obtain ⟨v0, vs0, d0, ds0, p0, q0, hargs, rfl, rfl, h0, r0⟩ := trodAll_cons hA
  obtain ⟨v1, vs1, d1, ds1, p1, q1, rfl, rfl, rfl, h1, r1⟩ := trodAll_cons r0
  obtain ⟨v2, vs2, d2, ds2, p2, q2, rfl, rfl, rfl, h2, r2⟩ := trodAll_cons r1
  obtain ⟨rfl, rfl, rfl⟩ := trodAll_nil r2
  obtain rfl : args = #[v0, v1, v2] := by cases args; simp_all
  obtain ⟨rfl, rfl⟩ := trodVars_none hV
  obtain ⟨ms, hms, hok⟩ := open_moves (hval 0 22 v0 rfl rfl) h0
  obtain ⟨m, hm, hmok⟩ := open_move (hval 1 47 v1 rfl rfl) h1
  obtain ⟨b, rfl, rfl, rfl, hwb⟩ := open_int ty3 (hval 2 3 v2 rfl rfl) h2
  subst hm
  have hlt0 : ∀ x ∈ p0, x.block < W.heap.size := fun x hx => hW'.lt x (by simp [hx])
  have hlt1 : ∀ x ∈ p1, x.block < W.heap.size := fun x hx => hW'.lt x (by simp [hx])
  refine ret_calls (hcall W v0 ms m b (fun v w' => v = .bool true ∧ Below W.heap.size W w') hT hms hok hmok (fun w' hb => ⟨rfl, hb⟩)) ?_
  rintro v w' ⟨rfl, hb⟩
  refine ⟨_, rfl, [d0, d1, .lit (.int .i64 b)], [], _, [], p0 ++ (p1 ++ []), [], hW', ?_, ?_, ?_, ?_, fun h => by cases h⟩
  · rw [hr]
    simp only [List.append_nil, hf]
    exact trodAll_cons_mk (shut_bool bool4 true) trodAll_mk0
  · rw [hp]
    simp only [List.append_nil, hf]
    have := trodAll_cons_mk (stays rr22 tsz h0 hb hlt0 (sp := fun b => decide (b < W.heap.size)) (fun x hx => by simpa using hlt0 x hx)) (trodAll_cons_mk (stays rr47 tsz47 h1 hb hlt1 (sp := fun b => decide (b < W.heap.size)) (fun x hx => by simpa using hlt1 x hx)) (trodAll_cons_mk (shut_int (enc := enc) (w := w') (base := 0) (spare := fun b => decide (b < W.heap.size)) (held := true) ty3 hwb) trodAll_mk0))
    simpa using this
  · rw [hv]
    simp only [List.append_nil, hf]
    rfl
  · exact hb.frame _
end Go.X
