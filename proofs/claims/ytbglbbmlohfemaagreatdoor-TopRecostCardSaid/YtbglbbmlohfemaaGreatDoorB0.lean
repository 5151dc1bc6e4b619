/- Contracts of rows by shape. -/
import Derived.Test.YtbglbbmlohfemaaGreatDoorB8
section
set_option linter.unusedVariables false
set_option linter.unusedSimpArgs false
namespace Go.X
open Go.Proofs Go.RowKit Go.ChangeShapes Go.WideShapes
attribute [local irreducible] Value.okWide DataW.trod
variable {H : Type} {enc : TypeId × Value → H}
end Go.X
end
section
set_option linter.unusedVariables false
set_option linter.unusedSimpArgs false
namespace Go.X
open Go.Proofs Go.RowKit Go.ChangeShapes Go.WideShapes
attribute [local irreducible] Value.okWide DataW.trod
variable {H : Type} {enc : TypeId × Value → H}
/-- A struct type of whole numbers, n of them, a cell each. -/
def intsOf (P : Program) (t : TypeId) (n : Nat) : Bool :=
  match P.underlying t with
  | some (.struct fs) => (fs.toList.map (·.type) == List.replicate n 3) && Go.Deep.oneCellFields P fs && (P.cellsOf t == fs.size)
  | _ => false
theorem intsOf_spec {t : TypeId} {n : Nat} (h : intsOf Tryz.prog t n = true) : ∃ fs : Array Field, Tryz.prog.underlying t = some (.struct fs) ∧ fs.toList.map (·.type) = List.replicate n 3 ∧ Go.Deep.oneCellFields Tryz.prog fs = true ∧ Tryz.prog.cellsOf t = fs.size ∧ fs.size = n := by
  unfold intsOf at h
  split at h
  · rename_i fs hu
    simp only [Bool.and_eq_true, beq_iff_eq] at h
    exact ⟨fs, hu, h.1.1, h.1.2, h.2, by have := congrArg List.length h.1.1; simpa using this⟩
  · cases h
theorem ints_field {fs : Array Field} {n : Nat} (h : fs.toList.map (·.type) = List.replicate n 3) {j : Nat} (hj : j < n) : ∃ f, fs[j]? = some f ∧ f.type = 3 := by
  have h1 : (fs.toList.map (·.type))[j]? = some 3 := by rw [h]; simp [hj]
  rw [List.getElem?_map] at h1
  obtain ⟨f, hf, he⟩ := Option.map_eq_some_iff.mp h1
  exact ⟨f, by rw [← Array.getElem?_toList]; exact hf, he⟩
theorem tr56 : intsOf Tryz.prog 56 3 = true := by kernel_rfl
theorem ty48 : Tryz.prog.underlying 48 = some (.slice 56) := by kernel_rfl
theorem rr48 : Tryz.prog.readableRec 48 = true := by kernel_rfl
theorem tsz48 : 48 < Tryz.prog.types.size := of_decide_eq_true (by kernel_rfl)
/-- A trade of the law. -/
structure Tr where
  day : Int
  qty : Int
  cost : Int
structure Tr.Ok (t : Tr) : Prop where
  day : I64 t.day
  qty : I64 t.qty
  cost : I64 t.cost
def Tr.cs (t : Tr) : List Value := [.int .i64 t.day, .int .i64 t.qty, .int .i64 t.cost]
def TrE : Enc Tr := { sz := 3, cells := Tr.cs, len := fun _ => rfl, one := by intro a v hv; simp [Tr.cs] at hv; rcases hv with rfl | rfl | rfl <;> rfl }
theorem open_trades {w : World} {base : Nat} {spare : Nat → Bool} {held : Bool} {r : Reach} {b0 : Nat} {v : Value} {d : DataW H} {p : List MemPlace} (hv : Value.okWide Tryz.prog w r b0 48 v)
    (h : DataW.Trod enc Tryz.prog w base spare held 48 v d p) : ∃ ms, Rd TrE w v ms ∧ ∀ m ∈ ms, m.Ok := by
  have hsl : ∃ a len cap, v = .slice a len cap := okWide_slice (P := Tryz.prog) (t := 48) (e := 56) ty48 hv
  refine hsl.elim fun a h1 => h1.elim fun len h2 => h2.elim fun cap hvv => ?_
  subst hvv
  obtain ⟨fuel, hf⟩ := h
  obtain ⟨fs, hu, hty, hone, hC, h3⟩ := intsOf_spec tr56
  rcases open_slice_fields ty48 hu hone hC hf with ⟨hcs, _⟩ | ⟨a', len', cap', m, D, Pl, hcs, _, hl, hm, hmm, _, hel⟩
  · simp only [cells_slice, List.cons.injEq, and_true, Value.slice.injEq] at hcs
    obtain ⟨rfl, rfl, rfl⟩ := hcs
    exact ⟨[], ⟨none, 0, rfl, ⟨Nat.zero_le _, Nat.zero_le _⟩, fun i hi => absurd hi (by simp)⟩, by simp⟩
  · simp only [cells_slice, List.cons.injEq, and_true, Value.slice.injEq] at hcs
    obtain ⟨rfl, rfl, rfl⟩ := hcs
    have hlm : len ≤ m := by rw [hmm]; split <;> omega
    have one : ∀ i, i < len → ∃ mv : Tr, mv.Ok ∧ ∀ j u, (TrE.cells mv)[j]? = some u → w.cell? (a'.add (i * 3 + j)) = some u := by
      intro i hi
      obtain ⟨ys, n, _, _, _, hfj⟩ := hel i (by omega)
      have gi : ∀ j, j < 3 → ∃ z : Int, I64 z ∧ w.cell? (a'.add (i * 3 + j)) = some (.int .i64 z) := by
        intro j hj
        obtain ⟨f, hfj', hft⟩ := ints_field hty hj
        obtain ⟨v, y, hcell, _, ht⟩ := hfj j f hfj'
        rw [hft] at ht
        obtain ⟨z, hz, _, hw⟩ := DataW.trod_int ty3 ht
        simp only [List.cons.injEq, and_true] at hz
        rw [h3, hz] at hcell
        exact ⟨z, wf_I64 hw, hcell⟩
      obtain ⟨z0, k0, e0⟩ := gi 0 (by decide)
      obtain ⟨z1, k1, e1⟩ := gi 1 (by decide)
      obtain ⟨z2, k2, e2⟩ := gi 2 (by decide)
      refine ⟨⟨z0, z1, z2⟩, ⟨k0, k1, k2⟩, fun j u hu => ?_⟩
      match j, hu with
      | 0, hu => simp only [TrE, Tr.cs, List.getElem?_cons_zero, Option.some.injEq] at hu; rw [← hu]; exact e0
      | 1, hu => simp [TrE, Tr.cs] at hu; rw [← hu]; exact e1
      | 2, hu => simp [TrE, Tr.cs] at hu; rw [← hu]; exact e2
      | j + 3, hu => simp [TrE, Tr.cs] at hu
    have all : ∀ n, n ≤ len → ∃ ms : List Tr, ms.length = n ∧ (∀ m ∈ ms, m.Ok) ∧ ∀ (i : Nat) (hi : i < ms.length), ∀ j u, (TrE.cells ms[i])[j]? = some u → w.cell? (a'.add (i * 3 + j)) = some u := by
      intro n
      induction n with
      | zero => intro _; exact ⟨[], rfl, by simp, fun i hi => absurd hi (by simp)⟩
      | succ n ih =>
        intro hn
        obtain ⟨ms, hlen, hok, hget⟩ := ih (by omega)
        obtain ⟨mv, hmv, hmg⟩ := one n (by omega)
        refine ⟨ms ++ [mv], by simp [hlen], fun m hm => ?_, fun i hi => ?_⟩
        · rcases List.mem_append.mp hm with hm | hm
          · exact hok m hm
          · rw [List.mem_singleton.mp hm]; exact hmv
        · rcases Nat.lt_or_ge i ms.length with h1 | h1
          · rw [List.getElem_append_left h1]; exact hget i h1
          · have : i = ms.length := by simp at hi; omega
            subst this
            rw [List.getElem_append_right (Nat.le_refl _)]
            simp only [Nat.sub_self, List.getElem_cons_zero]
            rw [hlen]; exact hmg
    obtain ⟨ms, hlen, hok, hget⟩ := all len (Nat.le_refl _)
    exact ⟨ms, ⟨some a', cap, by rw [hlen], ⟨by omega, by omega⟩, fun i hi => ⟨a', rfl, fun j u hu => hget i hi j u hu⟩⟩, hok⟩

theorem contractT {f : FuncId} {fn : Func} {s : ChangeSpec} (hp : fn.params = #[3, 3, 48]) (hr : fn.resultTypes = #[4]) (hv : s.vars = []) (hf : ∀ d1 d2 d3 : DataW H, s.fn H [d1, d2, d3] = { results := [.lit (.bool true)], args := [d1, d2, d3] })
    (hcall : ∀ (W : World) (a0 : Int) (a1 : Int) (v2 : Value) (l2 : List Tr) (K : Value → World → Prop), Tab W → I64 a0 → I64 a1 → Rd TrE W v2 l2 → (∀ m ∈ l2, m.Ok) → (∀ w', Below W.heap.size W w' → K (.bool true) w') → Ret Tryz.prog f [.int .i64 a0, .int .i64 a1, v2] W K)
    (W : World) (base : Nat) (args : Array Value) (ds gs : List (DataW H)) (before : List MemPlace)
    (hval : ∀ (j : Nat) t v, fn.params[j]? = some t → args[j]? = some v → Value.okWide Tryz.prog W .any base t v)
    (hW : DataW.Whole enc Tryz.prog fn.params.toList s.vars false W args.toList ds gs before) (hT : Tab W) :
    Calls Tryz.prog f args W fun e W' => ∃ v, e = .returned v ∧ s.post enc Tryz.prog fn false true false false W args v W' := by
  have hW' := hW
  obtain ⟨p, q, hA0, hV, rfl, hfz, hnd⟩ := hW
  have hA : DataW.TrodAll enc Tryz.prog W 0 (fun _ => true) true fn.params.toList args.toList ds p := hA0
  rw [hp] at hA hval
  rw [hv] at hV
  obtain ⟨x0, vs0, d0, ds0, P0, Q0, hargs, rfl, rfl, h0, r0⟩ := trodAll_cons hA
  obtain ⟨x1, vs1, d1, ds1, P1, Q1, rfl, rfl, rfl, h1, r1⟩ := trodAll_cons r0
  obtain ⟨x2, vs2, d2, ds2, P2, Q2, rfl, rfl, rfl, h2, r2⟩ := trodAll_cons r1
  obtain ⟨rfl, rfl, rfl⟩ := trodAll_nil r2
  obtain rfl : args = #[x0, x1, x2] := by cases args; simp_all
  obtain ⟨rfl, rfl⟩ := trodVars_none hV
  obtain ⟨a0, rfl, rfl, rfl, hw0⟩ := open_int ty3 (hval 0 3 x0 rfl rfl) h0
  obtain ⟨a1, rfl, rfl, rfl, hw1⟩ := open_int ty3 (hval 1 3 x1 rfl rfl) h1
  obtain ⟨l2, hl2, ho2⟩ := open_trades (hval 2 48 x2 rfl rfl) h2
  have hlt2 : ∀ x ∈ P2, x.block < W.heap.size := fun x hx => hW'.lt x (by simp [hx])
  refine ret_calls (hcall W a0 a1 x2 l2 (fun v w' => v = .bool true ∧ Below W.heap.size W w') hT (wf_I64 hw0) (wf_I64 hw1) hl2 ho2 (fun w' hb => ⟨rfl, hb⟩)) ?_
  rintro v w' ⟨rfl, hb⟩
  refine ⟨_, rfl, [.lit (.int .i64 a0), .lit (.int .i64 a1), d2], [], _, [], P2, [], hW', ?_, ?_, ?_, ?_, fun h => by cases h⟩
  · rw [hr]
    simp only [List.append_nil, hf]
    exact trodAll_cons_mk (shut_bool bool4 true) trodAll_mk0
  · rw [hp]
    simp only [List.append_nil, hf]
    have := trodAll_cons_mk (shut_int (enc := enc) (w := w') (base := 0) (spare := fun b => decide (b < W.heap.size)) (held := true) ty3 hw0) (trodAll_cons_mk (shut_int (enc := enc) (w := w') (base := 0) (spare := fun b => decide (b < W.heap.size)) (held := true) ty3 hw1) (trodAll_cons_mk (stays rr48 tsz48 h2 hb hlt2 (sp := fun b => decide (b < W.heap.size)) (fun x hx => by simpa using hlt2 x hx)) trodAll_mk0))
    simpa using this
  · rw [hv]
    simp only [List.append_nil, hf]
    rfl
  · exact hb.frame _
end Go.X
end
