/- The lifted form of a Go function's body: a predicate over environments (slots to values) and worlds, by recursion over the code, and the small words in which it is written. Nothing of a program stands here. -/
import Derived.Orders
import Derived.Scope
import Derived.Laws.Append
import Derived.Laws.World
set_option linter.unusedVariables false
set_option linter.unusedSimpArgs false
namespace Go.X

/-! ### Environments -/
abbrev Env := Nat → Value
def put (e : Env) (d : Option Nat) (v : Value) : Env :=
  match d with
  | none => e
  | some d => fun s => bif Nat.beq s d then v else e s
def ev (e : Env) : Operand → Value
  | .tmp t => e t
  | .const v => v
  | .global g => .pointer (some ⟨g, 0, none⟩)
  | .func f => .func (.func f) #[] #[]
def evl (e : Env) : List Operand → List Value
  | [] => []
  | x :: xs => ev e x :: evl e xs
def evo (e : Env) : Option Operand → Option Value
  | none => none
  | some x => some (ev e x)
def nth {α : Type} : List α → Nat → Option α
  | [], _ => none
  | x :: _, 0 => some x
  | _ :: xs, n + 1 => nth xs n
theorem nth_eq {α : Type} (l : List α) (n : Nat) : nth l n = l[n]? := by
  induction l generalizing n with
  | nil => simp [nth]
  | cons x xs ih => cases n <;> simp [nth, ih]

/-! ### A run that only reads -/
/-- The run of a computation that reads the program and the world and changes nothing. -/
def rr {α : Type} (P : Program) : Sem α → World → Option α
  | .pure a, _ => some a
  | .load _ a k, w => match w.cell? a with
    | some v => rr P (k v) w
    | none => none
  | .shape r k, w => rr P (k (w.shape? r)) w
  | .frozen a k, w => rr P (k (w.frozen? a)) w
  | .getObj r k, w => match w.heap[r]? with
    | some (.cells ..) => none
    | some o => rr P (k o) w
    | none => none
  | .program k, w => rr P (k P) w
  | _, _ => none
theorem rr_run {α : Type} {P : Program} {s : Sem α} {w : World} {a : α} (h : rr P s w = some a) : s.run P w = .ok a w := by
  induction s with
  | pure b => simp only [rr, Option.some.injEq] at h; subst h; rfl
  | load m b k ih =>
    simp only [rr] at h
    simp only [Sem.run]
    cases hc : w.cell? b with
    | none => rw [hc] at h; cases h
    | some v => rw [hc] at h; exact ih v h
  | shape r k ih => exact ih _ h
  | frozen b k ih => exact ih _ h
  | getObj r k ih =>
    simp only [rr] at h
    simp only [Sem.run]
    cases hc : w.heap[r]? with
    | none => rw [hc] at h; cases h
    | some o => rw [hc] at h; cases o <;> first | cases h | exact ih _ h
  | program k ih => exact ih _ h
  | _ => cases h
/-- The run of a computation that reads the program alone. -/
def pr {α : Type} (P : Program) : Sem α → Option α
  | .pure a => some a
  | .program k => pr P (k P)
  | _ => none
theorem pr_rr {α : Type} {P : Program} {s : Sem α} {a : α} (h : pr P s = some a) (w : World) : rr P s w = some a := by
  induction s with
  | pure b => exact h
  | program k ih => exact ih _ h
  | _ => cases h
theorem pr_run {α : Type} {P : Program} {s : Sem α} {a : α} (h : pr P s = some a) (w : World) : s.run P w = .ok a w := rr_run (pr_rr h w)

/-! ### Words for values -/
def onSome {α : Type} (o : Option α) (K : α → Prop) : Prop :=
  match o with
  | some v => K v
  | none => False
def q_nil (v : Value) : Option Value :=
  match v with
  | .pointer none | .nilIface | .nilFunc => none
  | .func (.method _) _ _ => none
  | x => some x
def q_pick (c a b : Value) : Option Value :=
  match c with
  | .bool t => some (bif t then a else b)
  | _ => none
def loadL (w : World) (p : Addr) (i : Nat) : Nat → Option (List Value)
  | 0 => some []
  | n + 1 => match w.cell? (p.add i) with
    | some v => (match loadL w p (i + 1) n with
      | some l => some (v :: l)
      | none => none)
    | none => none
def q_load1 (v : Value) (w : World) : Option Value :=
  match v with
  | .pointer (some p) => w.cell? p
  | _ => none
def q_loadn (n : Nat) (v : Value) (w : World) : Option Value :=
  match v with
  | .pointer (some p) => (match loadL w p 0 n with
    | some l => some (.agg l.toArray)
    | none => none)
  | _ => none
def q_faddr (off : Nat) (v : Value) : Option Value :=
  match v with
  | .pointer (some a) => some (.pointer (some (a.add off)))
  | _ => none
def q_iaddr (sz : Nat) (v i : Value) : Option Value :=
  match v, i with
  | .slice (some a) len _, .int _ n => if 0 ≤ n ∧ n < (len : Int) then some (.pointer (some (a.add (n.toNat * sz)))) else none
  | _, _ => none
def q_iaddra (len sz : Nat) (v i : Value) : Option Value :=
  match v, i with
  | .pointer (some a), .int _ n => if 0 ≤ n ∧ n < (len : Int) then some (.pointer (some (a.add (n.toNat * sz)))) else none
  | _, _ => none
def vint (op : BinOp) (k : IntKind) (x y : Int) : Option Value :=
  match op with
  | .add => some (.int k (k.wrap (x + y)))
  | .sub => some (.int k (k.wrap (x - y)))
  | .mul => some (.int k (k.wrap (x * y)))
  | .quo => if y = 0 then none else some (.int k (k.wrap (x.tdiv y)))
  | .rem => if y = 0 then none else some (.int k (x.tmod y))
  | .and => some (.int k (k.wrap (BitVec.ofInt k.bits x &&& BitVec.ofInt k.bits y).toNat))
  | .or => some (.int k (k.wrap (BitVec.ofInt k.bits x ||| BitVec.ofInt k.bits y).toNat))
  | .xor => some (.int k (k.wrap (BitVec.ofInt k.bits x ^^^ BitVec.ofInt k.bits y).toNat))
  | .andNot => some (.int k (k.wrap (BitVec.ofInt k.bits x &&& ~~~ BitVec.ofInt k.bits y).toNat))
  | .eql => some (.bool (decide (x = y)))
  | .neq => some (.bool (!decide (x = y)))
  | .lss => some (.bool (decide (x < y)))
  | .leq => some (.bool (decide (x ≤ y)))
  | .gtr => some (.bool (decide (y < x)))
  | .geq => some (.bool (decide (y ≤ x)))
  | _ => none
def vstr (op : BinOp) (x y : ByteArray) : Option Value :=
  match op with
  | .add => if ((x.size + y.size : Nat) : Int) > 9223372036854775807 then none else some (.string (x ++ y))
  | .eql => some (.bool (x.toList == y.toList))
  | .neq => some (.bool (!(x.toList == y.toList)))
  | .lss => some (.bool (Op.bytesLess x.toList y.toList))
  | .leq => some (.bool (Op.bytesLess x.toList y.toList || x.toList == y.toList))
  | .gtr => some (.bool (!(Op.bytesLess x.toList y.toList || x.toList == y.toList)))
  | .geq => some (.bool (!Op.bytesLess x.toList y.toList))
  | _ => none
def vshift (op : BinOp) (k : IntKind) (x y : Int) : Option Value :=
  if y < 0 then none else
  match op with
  | .shl => some (.int k (k.wrap (x * 2 ^ (min y.toNat k.bits))))
  | .shr => some (.int k (x.fdiv (2 ^ (min y.toNat k.bits))))
  | _ => none
/-- An operator on two integers, strings, bools; a pointer, a slice, a map, a function against nil. -/
def q_bin (op : BinOp) (a b : Value) : Option Value :=
  match op, a, b with
  | .shl, .int k x, .int _ y => vshift .shl k x y
  | .shr, .int k x, .int _ y => vshift .shr k x y
  | op, .int k x, .int k' y => if k = k' then vint op k x y else none
  | op, .string x, .string y => vstr op x y
  | _, _, _ => none
/-- '==' and '!=' on other values, by the program's types. -/
def q_eq (P : Program) (op : BinOp) (t : TypeId) (a b : Value) : Option Value := pr P (do eqGuard op t (.tmp 0) (.tmp 0) a b; binOp op t a b)
def q_un (op : UnOp) (v : Value) : Option Value :=
  match op, v with
  | .neg, .int k n => some (.int k (k.wrap (0 - n)))
  | .not, .bool b => some (.bool (!b))
  | .xor, .int k n => some (.int k (k.wrap (BitVec.ofInt k.bits (if k.signed then -1 else k.max) ^^^ BitVec.ofInt k.bits n).toNat))
  | _, _ => none
def q_toint (k : IntKind) (v : Value) : Option Value :=
  match v with
  | .int _ n => some (.int k (k.wrap n))
  | _ => none
def q_conv (P : Program) (src dst : TypeId) (v : Value) : Option Value := pr P (convert src dst v)
def q_slice (P : Program) (t : TypeId) (x : Value) (lo hi mx : Option Value) : Option Value := pr P (Instr.sliceAt t x lo hi mx)
def q_field (P : Program) (t : TypeId) (x : Value) (f : Nat) : Option Value := pr P (Instr.field t x f)
def q_index (P : Program) (t : TypeId) (x i : Value) : Option Value := pr P (Instr.index t x i)
/-- The cells of a struct, each part laid at its place. -/
def fillC (cells : Array Value) : List (Nat × Nat × Value) → Option (Array Value)
  | [] => some cells
  | (off, size, v) :: rest =>
    if v.cells.size = size ∧ off + v.cells.size ≤ cells.size then fillC (v.cells.zipIdx.foldl (fun cs (c, j) => cs.setIfInBounds (off + j) c) cells) rest else none
def q_build (zero : Array Value) (ps : List (Nat × Nat × Value)) : Option Value :=
  match fillC zero ps with
  | some cs => some (.agg cs)
  | none => none
def q_extract (v : Value) (i : Nat) : Option Value :=
  match v with
  | .tuple vs => vs[i]?
  | _ => none
def q_func (fn : Fn) (first captured : List Value) : Option Value := some (.func fn first.toArray captured.toArray)
def q_len (v : Value) : Option Value :=
  match v with
  | .slice _ n _ => some (.int .i64 n)
  | _ => none
def q_slen (v : Value) : Option Value :=
  match v with
  | .string s => some (.int .i64 s.size)
  | _ => none
def q_cap (v : Value) : Option Value :=
  match v with
  | .slice _ _ c => some (.int .i64 c)
  | _ => none
def q_min (v u : Value) : Option Value :=
  match v, u with
  | .int k x, .int _ y => some (.int k (if y < x then y else x))
  | _, _ => none
def q_max (v u : Value) : Option Value :=
  match v, u with
  | .int k x, .int _ y => some (.int k (if y > x then y else x))
  | _, _ => none
/-- Whatever else only reads. -/
def q_read (P : Program) (s : Sem Value) (w : World) : Option Value := rr P s w
/-- A guarded operation: it is left out where the guard says no. -/
def gateQ (want : Bool) (g : Value) (q : Option Value) : Option Value :=
  match g with
  | .bool b => bif b == want then q else some undef
  | _ => some undef

/-! ### Words for what changes the world -/
def l_new (t : TypeId) (cells : Array Value) (w : World) (K : Value → World → Prop) : Prop :=
  K (.pointer (some ⟨w.heap.size, 0, none⟩)) (w.alloc (.cells cells t))
def storeL (w : World) (p : Addr) (i : Nat) : List Value → Option World
  | [] => some w
  | v :: vs => if v.oneCell' = true ∧ (w.cell? (p.add i)).isSome ∧ w.frozen? (p.add i) = false then storeL (w.setCell (p.add i) v) p (i + 1) vs else none
def q_store (n : Nat) (a v : Value) (w : World) : Option World :=
  match a with
  | .pointer (some p) => if v.cells.size = n then storeL w p 0 v.cells.toList else none
  | _ => none
def l_store (n : Nat) (a v : Value) (w : World) (K : Value → World → Prop) : Prop := onSome (q_store n a v w) (K undef)
def l_lit (t : TypeId) (len : Nat) (zero : Array Value) (ps : List (Nat × Nat × Value)) (w : World) (K : Value → World → Prop) : Prop :=
  onSome (fillC zero ps) fun cs => K (.slice (some ⟨w.heap.size, 0, none⟩) len len) (w.alloc (.cells cs t))
def l_run (P : Program) (s : Sem Value) (w : World) (K : Value → World → Prop) : Prop :=
  match s.run P w with
  | .ok v w' => K v w'
  | .halt _ _ => False
def l_runU (P : Program) (s : Sem Unit) (w : World) (K : Value → World → Prop) : Prop :=
  match s.run P w with
  | .ok _ w' => K undef w'
  | .halt _ _ => False
def l_append (P : Program) (ts : Array TypeId) (ty : TypeId) (s x : Value) (w : World) (K : Value → World → Prop) : Prop := l_run P (Builtin.append_ ts ty #[s, x]) w K
def l_copy (P : Program) (ts : Array TypeId) (ty : TypeId) (d s : Value) (w : World) (K : Value → World → Prop) : Prop := l_run P (Builtin.copy_ ts ty #[d, s]) w K
def l_make (P : Program) (t : TypeId) (l c : Value) (w : World) (K : Value → World → Prop) : Prop := l_run P (Instr.makeSlice t l c) w K
/-- A call that returns. -/
def Ret (P : Program) (f : FuncId) (args : List Value) (w : World) (K : Value → World → Prop) : Prop :=
  Calls P f args.toArray w fun
    | .returned v, w' => K v w'
    | _, _ => False
def bodied (P : Program) (f : FuncId) : Bool :=
  match P.funcs[f]? with
  | some fn => fn.body.isSome && !(fn.name == "runtime.NumGoroutine")
  | none => false
def l_callv (P : Program) (v : Value) (args : List Value) (w : World) (K : Value → World → Prop) : Prop :=
  match v with
  | .func (.func f) first cap => bodied P f = true ∧ Ret P f (first.toList ++ args ++ cap.toList) w K
  | _ => False
def gateL (want : Bool) (g : Value) (L : (Value → World → Prop) → Prop) (w : World) (K : Value → World → Prop) : Prop :=
  match g with
  | .bool b => bif b == want then L K else K undef w
  | _ => K undef w
def xif (v : Value) (A B : Prop) : Prop :=
  match v with
  | .bool b => bif b then A else B
  | _ => False
def ob (A B : Prop) : Prop := A ∧ B
def looping {α β : Type} (F : α → β → Prop) : Prop := ∃ I μ, F I μ
def joining {α : Type} (F : α → Prop) : Prop := ∃ J, F J
theorem looping_i {α β : Type} {F : α → β → Prop} (I : α) (μ : β) (h : F I μ) : looping F := ⟨I, μ, h⟩
theorem joining_i {α : Type} {F : α → Prop} (J : α) (h : F J) : joining F := ⟨J, h⟩

/-! ### Operations -/
def isLoud : Op → Bool
  | .alloc _ | .box .. | .buildSlice .. | .store .. | .makeMap .. | .makeSlice .. | .mapUpdate .. | .mapEntry .. | .entryStore .. | .insert .. | .range .. | .next .. => true
  | .call { callee := .builtin .len, .. } | .call { callee := .builtin .cap, .. } | .call { callee := .builtin .min, .. } | .call { callee := .builtin .max, .. } => false
  | .call _ => true
  | .convert .. => false
  | _ => false
/-- Whether a quiet operation reads the world. -/
def looksOut (P : Program) : Op → Bool
  | .load .. | .lookup .. | .entry _ => true
  | .convert src dst _ => (match P.underlying src, P.underlying dst with | some (.slice _), _ => true | _, _ => false)
  | .call { callee := .builtin .len, argTypes := ts, .. } => (match nth ts.toList 0 with | some t => (match P.underlying t with | some (.slice _) | some .string => false | _ => true) | none => false)
  | _ => false
def aggOf (P : Program) (t : TypeId) : Option Bool :=
  match P.underlying t with
  | some (.struct _) | some (.array _ _) => some true
  | some _ => some false
  | none => none
def plainT (P : Program) (t : TypeId) : Bool :=
  match P.underlying t with
  | some (.int _) | some .string => true
  | _ => false
def fieldOff (P : Program) (s : TypeId) (f : Nat) : Option Nat :=
  match P.underlying s with
  | some (.struct fs) => (match nth fs.toList f with
    | some fl => (match P.info? fl.type with
      | some i => if i.size = 0 then none else some fl.offset
      | none => none)
    | none => none)
  | _ => none
def placesOf (P : Program) : List Field → Option (List (Nat × Nat))
  | [] => some []
  | f :: fs => match P.info? f.type, placesOf P fs with
    | some i, some r => some ((f.offset, i.size) :: r)
    | _, _ => none
def partsAt (e : Env) (place : Nat → Option (Nat × Nat)) : List (Nat × Operand) → Option (List (Nat × Nat × Value))
  | [] => some []
  | (i, x) :: r => match place i, partsAt e place r with
    | some (o, s), some l => some ((o, s, ev e x) :: l)
    | _, _ => none
def zeroOf (P : Program) (t : TypeId) : Option (Array Value) :=
  match P.info? t with
  | some i => (match i.zero with
    | some v => some v.cells
    | none => none)
  | none => none
def repC (z : List Value) : Nat → List Value
  | 0 => []
  | n + 1 => z ++ repC z n

def qval (P : Program) (w : World) (e : Env) : Op → Option Value
  | .move x | .assign x => some (ev e x)
  | .pick c a b => q_pick (ev e c) (ev e a) (ev e b)
  | .load t a => match P.info? t, aggOf P t with
    | some i, some true => q_loadn i.size (ev e a) w
    | some _, some false => q_load1 (ev e a) w
    | _, _ => none
  | .nilCheck x => q_nil (ev e x)
  | .binOp op t x y _ => match plainT P t with
    | true => q_bin op (ev e x) (ev e y)
    | false => q_eq P op t (ev e x) (ev e y)
  | .unOp op _ x => q_un op (ev e x)
  | .convert src dst x => match P.underlying src, P.underlying dst with
    | some (.int _), some (.int k) => q_toint k (ev e x)
    | some (.slice _), _ => q_read P (convert src dst (ev e x)) w
    | _, _ => q_conv P src dst (ev e x)
  | .fieldAddr s x f => match fieldOff P s f with
    | some off => q_faddr off (ev e x)
    | none => none
  | .indexAddr t x i => match P.underlying t with
    | some (.slice el) => (match P.info? el with
      | some inf => q_iaddr inf.size (ev e x) (ev e i)
      | none => none)
    | some (.array n el) => (match P.info? el with
      | some inf => q_iaddra n inf.size (ev e x) (ev e i)
      | none => none)
    | _ => none
  | .field t x f => q_field P t (ev e x) f
  | .index t x i => q_index P t (ev e x) (ev e i)
  | .slice t x lo hi mx => q_slice P t (ev e x) (evo e lo) (evo e hi) (evo e mx)
  | .build t parts => match zeroOf P t, P.underlying t with
    | some z, some (.struct fs) => (match placesOf P fs.toList with
      | some pl => (match partsAt e (nth pl) parts.toList with
        | some l => q_build z l
        | none => none)
      | none => none)
    | some z, some (.array _ el) => (match P.info? el with
      | some inf => (match partsAt e (fun i => some (i * inf.size, inf.size)) parts.toList with
        | some l => q_build z l
        | none => none)
      | none => none)
    | _, _ => none
  | .extract t i => q_extract (ev e t) i
  | .makeFunc fn a c => q_func fn (evl e a.toList) (evl e c.toList)
  | .lookup t x i ok => q_read P (Instr.lookup t (ev e x) (ev e i) ok) w
  | .entry it => q_read P (Instr.entry (ev e it)) w
  | .makeInterface t x => pr P (Instr.makeInterface t (ev e x))
  | .call { callee := .builtin .len, args := as, argTypes := ts } => match evl e as.toList with
    | [v] => (match nth ts.toList 0 with
      | some t => (match P.underlying t with
        | some (.slice _) => q_len v
        | some .string => q_slen v
        | _ => q_read P (Builtin.len_ ts 0 #[v]) w)
      | none => none)
    | _ => none
  | .call { callee := .builtin .cap, args := as, argTypes := ts } => match evl e as.toList with
    | [v] => (match nth ts.toList 0 with
      | some t => (match P.underlying t with
        | some (.slice _) => q_cap v
        | _ => none)
      | none => none)
    | _ => none
  | .call { callee := .builtin .min, args := as, .. } => match evl e as.toList with
    | [v, u] => q_min v u
    | _ => none
  | .call { callee := .builtin .max, args := as, .. } => match evl e as.toList with
    | [v, u] => q_max v u
    | _ => none
  | _ => none

def lwp (P : Program) (e : Env) (ty : TypeId) (w : World) (K : Value → World → Prop) : Op → Prop
  | .alloc t => match zeroOf P t with
    | some z => l_new t z w K
    | none => False
  | .box t x => l_new t (ev e x).cells w K
  | .store t a x => match P.info? t with
    | some i => l_store i.size (ev e a) (ev e x) w K
    | none => False
  | .buildSlice t len parts => match P.underlying t with
    | some (.slice el) => (match P.info? el, zeroOf P el with
      | some inf, some z => (match partsAt e (fun i => some (i * inf.size, inf.size)) parts.toList with
        | some l => (match decide (len * inf.size ≤ 16777216 ∧ z.size = inf.size ∧ 0 < inf.size) with
          | true => l_lit el len ⟨repC z.toList len⟩ l w K
          | false => False)
        | none => False)
      | _, _ => False)
    | _ => False
  | .makeSlice t l c => l_make P t (ev e l) (ev e c) w K
  | .makeMap t r => l_run P (Instr.makeMap t (evo e r)) w K
  | .mapUpdate t m k x | .insert t m k x => l_runU P (Instr.mapUpdate t (ev e m) (ev e k) (ev e x)) w K
  | .mapEntry t m k => l_run P (Instr.mapEntry t (ev e m) (ev e k)) w K
  | .entryStore t m s x => l_runU P (Instr.entryStore t (ev e m) (ev e s) (ev e x)) w K
  | .range t x => l_run P (Instr.range t (ev e x)) w K
  | .next it s => l_run P (Instr.next (ev e it) s ty) w K
  | .call { callee := .builtin .append, args := as, argTypes := ts } => match evl e as.toList with
    | [s, x] => l_append P ts ty s x w K
    | _ => False
  | .call { callee := .builtin .copy, args := as, argTypes := ts } => match evl e as.toList with
    | [d, s] => l_copy P ts ty d s w K
    | _ => False
  | .call { callee := .builtin .delete, args := as, argTypes := ts } => l_run P (Builtin.delete_ ts ty (evl e as.toList).toArray) w K
  | .call { callee := .builtin .clear, args := as, argTypes := ts } => l_run P (Builtin.clear_ ts ty (evl e as.toList).toArray) w K
  | .call { callee := .value (.func f), args := as, .. } => match bodied P f with
    | true => Ret P f (evl e as.toList) w K
    | false => False
  | .call { callee := .value x, args := as, .. } => l_callv P (ev e x) (evl e as.toList) w K
  | _ => False

/-! ### Regions -/
def guardVal (ops : List Oper) (e : Env) (g : Nat) : Value :=
  match nth ops g with
  | some o => (match o.dst with
    | some d => e d
    | none => undef)
  | none => undef
def gq (P : Program) (ops : List Oper) (w : World) (e : Env) (o : Oper) : Option Value :=
  match o.guard with
  | none => qval P w e o.op
  | some (g, want) => gateQ want (guardVal ops e g) (qval P w e o.op)
def gl (P : Program) (ops : List Oper) (w : World) (e : Env) (o : Oper) (K : Value → World → Prop) : Prop :=
  match o.guard with
  | none => lwp P e o.type w K o.op
  | some (g, want) => gateL want (guardVal ops e g) (fun K => lwp P e o.type w K o.op) w K
/-- A mere copy. -/
def moveOf (o : Oper) : Option Operand :=
  match o.guard, o.op with
  | none, .move x => some x
  | none, .assign x => some x
  | _, _ => none
/-- In the text's order. -/
def xops (P : Program) (ops : List Oper) : List Oper → Env → World → (Env → World → Prop) → Prop
  | [], e, w, K => K e w
  | o :: r, e, w, K => match moveOf o with
    | some x => xops P ops r (put e o.dst (ev e x)) w K
    | none => (match isLoud o.op with
      | true => gl P ops w e o fun v w' => xops P ops r (put e o.dst v) w' K
      | false => onSome (gq P ops w e o) fun v => xops P ops r (put e o.dst v) w K)

def hasB (m i : Nat) : Bool := Nat.testBit m i
def readyAt (ops : List Oper) (done : Nat) (i : Nat) : Bool :=
  !hasB done i && (match nth ops i with
    | some o => o.after.toList.all fun ed => !Region.binds .any ed || hasB done ed.on
    | none => false)
def firstQuiet (ops : List Oper) (done : Nat) : List Nat → Option Nat
  | [] => none
  | i :: r => match readyAt ops done i && (match nth ops i with | some o => !isLoud o.op | none => false) with
    | true => some i
    | false => firstQuiet ops done r
def readyLoud (ops : List Oper) (done : Nat) : List Nat → List Nat
  | [] => []
  | i :: r => match readyAt ops done i && (match nth ops i with | some o => isLoud o.op | none => false) with
    | true => i :: readyLoud ops done r
    | false => readyLoud ops done r
def upto : Nat → List Nat
  | 0 => []
  | n + 1 => upto n ++ [n]
abbrev Pend := List (Nat × (World → Prop))
def pendKeep (m : Nat) : Pend → Pend
  | [] => []
  | (i, p) :: r => match hasB m i with
    | true => pendKeep m r
    | false => (i, p) :: pendKeep m r
def pendAll (w : World) : Pend → Prop → Prop
  | [], K => K
  | (_, p) :: r, K => ob (p w) (pendAll w r K)
def allOf {α : Type} (f : α → Prop) : List α → Prop
  | [] => False
  | [x] => f x
  | x :: y :: r => f x ∧ allOf f (y :: r)
/-- Whatever order the edges allow: what only reads as early as it may; each order of the rest. -/
def xany (P : Program) (ops : List Oper) (B : List Nat) : Nat → Nat → Pend → Env → World → (Env → World → Prop) → Prop
  | 0, done, _, e, w, K => match Nat.beq done (2 ^ ops.length - 1) with
    | true => K e w
    | false => False
  | fuel + 1, done, pend, e, w, K => match firstQuiet ops done (upto ops.length) with
    | some i => (match nth ops i with
      | some o => onSome (gq P ops w e o) fun v => xany P ops B fuel (Nat.lor done (2 ^ i)) (match looksOut P o.op with
          | true => (i, fun w' => gq P ops w' e o = some v) :: pend
          | false => pend) (put e o.dst v) w K
      | none => False)
    | none => match Nat.beq done (2 ^ ops.length - 1) with
      | true => K e w
      | false => allOf (fun i => match nth ops i with
        | some o => gl P ops w e o fun v w' => pendAll w' (pendKeep ((nth B i).getD 0) pend) (xany P ops B fuel (Nat.lor done (2 ^ i)) (pendKeep ((nth B i).getD 0) pend) (put e o.dst v) w' K)
        | none => False) (readyLoud ops done (upto ops.length))

/-- The order in which a region's operations are taken, written out: what only reads as early as it may; at each loud one what must have come up before it. -/
inductive Sch where
  | nil
  | q (i : Nat) (r : Sch)
  | l (i m : Nat) (r : Sch)
  | alt (a b : Sch)
def xsch (P : Program) (ops : List Oper) : Sch → Pend → Env → World → (Env → World → Prop) → Prop
  | .nil, _, e, w, K => K e w
  | .q i r, pend, e, w, K => match nth ops i with
    | some o => (match moveOf o with
      | some x => xsch P ops r pend (put e o.dst (ev e x)) w K
      | none => onSome (gq P ops w e o) fun v => xsch P ops r (match looksOut P o.op with
        | true => (i, fun w' => gq P ops w' e o = some v) :: pend
        | false => pend) (put e o.dst v) w K)
    | none => False
  | .l i m r, pend, e, w, K => match nth ops i with
    | some o => gl P ops w e o fun v w' => pendAll w' (pendKeep m pend) (xsch P ops r (pendKeep m pend) (put e o.dst v) w' K)
    | none => False
  | .alt a b, pend, e, w, K => xsch P ops a pend e w K ∧ xsch P ops b pend e w K

/-! ### Code -/
def Cur : Nat → Type
  | 0 => World → Prop
  | n + 1 => Value → Cur n
def Cur.app : (n : Nat) → Cur n → List Value → World → Prop
  | 0, J, _, w => J w
  | n + 1, J, v :: vs, w => Cur.app n (J v) vs w
  | n + 1, J, [], w => Cur.app n (J undef) [] w
def CurN : Nat → Type
  | 0 => World → Nat
  | n + 1 => Value → CurN n
def CurN.app : (n : Nat) → CurN n → List Value → World → Nat
  | 0, J, _, w => J w
  | n + 1, J, v :: vs, w => CurN.app n (J v) vs w
  | n + 1, J, [], w => CurN.app n (J undef) [] w
def allV : Nat → (List Value → Prop) → Prop
  | 0, F => F []
  | n + 1, F => ∀ v : Value, allV n fun vs => F (v :: vs)
def mixS (vs : Env) : List Nat → List Value → Env
  | s :: S, v :: r => fun t => bif Nat.beq t s then v else mixS vs S r t
  | _, _ => vs
/-- The environment behind a piece of code: the slots S hold vs, the others that it may write whatever they hold, all others what they held. -/
def mix (e : Env) (m : Nat) (S : List Nat) (vs : List Value) (junk : Env) : Env :=
  mixS (fun t => bif hasB m t then junk t else e t) S vs
def asgOps : List Oper → Nat
  | [] => 0
  | o :: r => match o.dst with
    | some d => Nat.lor (2 ^ d) (asgOps r)
    | none => asgOps r
def asg : Code → Nat
  | .region _ ops _ => asgOps ops.toList
  | .seq a b | .cond _ a b => Nat.lor (asg a) (asg b)
  | .block _ c | .loop c | .scope c => asg c
  | _ => 0
inductive An where
  | r
  | s (a b : An)
  | j (S : List Nat) (m : Nat) (a b : An)
  | c (a b : An)
  | b (a : An)
  | l (S : List Nat) (m : Nat) (a : An)
  | x (B : List Nat) (h : Sch)
  | d (S : List Nat) (m : Nat) (B : List Nat) (h : Sch)
def join (n : Nat) (A : (List Value → World → Prop) → Prop) (B : List Value → World → Prop) : Prop :=
  ∃ J : Cur n, A (Cur.app n J) ∧ allV n fun vs => ∀ w' : World, Cur.app n J vs w' → B vs w'
def X (P : Program) : An → Code → (Env → World → Prop) → (Env → World → Prop) → (Nat → Env → World → Prop) → Env → World → Prop
  | _, .skip, N, _, _, e, w => N e w
  | .d S m _ h, .region _ ops true, N, _, _, e, w => match Nat.beq (asgOps ops.toList) m with
    | true => join S.length (fun J => xsch P ops.toList h [] e w.drew fun e' w' => J (evl e' (S.map .tmp)) w')
      (fun vs w' => ∀ junk : Env, N (mix e m S vs junk) w')
    | false => False
  | .x _ h, .region _ ops true, N, _, _, e, w => xsch P ops.toList h [] e w.drew N
  | _, .region _ _ true, _, _, _, _, _ => False
  | _, .region _ ops false, N, _, _, e, w => xops P ops.toList ops.toList e w N
  | .s x y, .seq a b, N, R, E, e, w => X P x a (X P y b N R E) R E e w
  | .j S m x y, .seq a b, N, R, E, e, w => match Nat.beq (asg a) m with
    | true => join S.length (fun J => X P x a (fun e' w' => J (evl e' (S.map .tmp)) w') R E e w) (fun vs w' => ∀ junk : Env, X P y b N R E (mix e m S vs junk) w')
    | false => False
  | .c x y, .cond c a b, N, R, E, e, w => xif (ev e c) (X P x a N R E e w) (X P y b N R E e w)
  | .b x, .block id c, N, R, E, e, w => X P x c N R (fun id' => bif Nat.beq id' id then N else E id') e w
  | .b x, .scope c, N, R, E, e, w => X P x c N R E e w
  | .l S m x, .loop c, N, R, E, e, w => match Nat.beq (asg c) m with
    | true => ∃ (I : Cur S.length) (μ : CurN S.length), Cur.app S.length I (evl e (S.map .tmp)) w ∧ allV S.length fun vs => ∀ w' : World, Cur.app S.length I vs w' →
        ∀ junk : Env, X P x c (fun e2 w2 => Cur.app S.length I (evl e2 (S.map .tmp)) w2 ∧ CurN.app S.length μ (evl e2 (S.map .tmp)) w2 < CurN.app S.length μ vs w') R E (mix e m S vs junk) w'
    | false => False
  | _, .exit id, _, _, E, e, w => E id e w
  | _, .ret, _, R, _, e, w => R e w
  | _, .label _, N, _, _, e, w => N e w
  | _, _, _, _, _, _, _ => False

/-! ### Functions -/
def resK (P : Program) (w : World) (e : Env) : List ResultVar → (List Value → Prop) → Prop
  | [], K => K []
  | .tmp t :: r, K => resK P w e r fun l => K (e t :: l)
  | .cell a t :: r, K => onSome (qval P w e (.load t (.tmp a))) fun v => resK P w e r fun l => K (v :: l)
def oneOrTuple : List Value → Value
  | [v] => v
  | l => .tuple l.toArray
def xres (P : Program) (rs : List ResultVar) (K : Value → World → Prop) (e : Env) (w : World) : Prop :=
  resK P w e rs fun l => K (oneOrTuple l) w
def argEnv (args : List Value) : Env := fun s => (nth args s).getD undef
def xfun (P : Program) (fn : Func) (an : An) (args : List Value) (w : World) (K : Value → World → Prop) : Prop :=
  match fn.body with
  | some c => X P an c (xres P fn.results.toList K) (xres P fn.results.toList K) (fun _ _ _ => False) (argEnv args) w
  | none => False
end Go.X
