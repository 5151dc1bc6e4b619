/- Contracts: whole numbers, days, words, movements; plain values. -/
import Derived.Test.YtbglbbmlohfemaaGreatDoorTm
import Derived.Test.YtbglbbmlohfemaaGreatDoorA2
import Derived.Test.YtbglbbmlohfemaaGreatDoorTd
section
set_option linter.unusedVariables false
set_option linter.unusedSimpArgs false
namespace Go.X
open Go.Proofs Go.RowKit

/-- A call that only computes: its value, and nothing that was there has turned. -/
def Calc (f : FuncId) (args : List Value) (w : World) (v : Value) : Prop := ∀ K : Value → World → Prop, (∀ w', Below w.heap.size w w' → K v w') → Ret Tryz.prog f args w K

theorem wrap_u64 {x : Int} (h0 : 0 ≤ x) (h1 : x < 18446744073709551616) : IntKind.u64.wrap x = x := by
  have : IntKind.u64.wrap x = x % 18446744073709551616 := by
    unfold IntKind.wrap
    simp [IntKind.bits, IntKind.signed]
  rw [this]
  omega
theorem wrap_i64 {x : Int} (h0 : -9223372036854775808 ≤ x) (h1 : x < 9223372036854775808) : IntKind.i64.wrap x = x := by
  rw [IntKind.wrap_i64]; omega
theorem wrap_u64_eq (x : Int) : IntKind.u64.wrap x = x % 18446744073709551616 := by
  unfold IntKind.wrap
  simp [IntKind.bits, IntKind.signed]

theorem mag_ok {n : Int} {w : World} (h0 : -9223372036854775808 ≤ n) (h1 : n < 9223372036854775808) : Calc 167 [.int .i64 n] w (.int .u64 n.natAbs) := by
  intro K hK
  refine lift167 ?_
  unfold L167
  simp
  refine xif_dec (fun h => ?_) (fun h => ?_)
  · have e : IntKind.u64.wrap (-IntKind.u64.wrap n) = n.natAbs := by rw [wrap_u64_eq, wrap_u64_eq]; omega
    rw [e]
    exact hK _ (Below.refl _ _)
  · have e : IntKind.u64.wrap n = n.natAbs := by rw [wrap_u64_eq]; omega
    rw [e]
    exact hK _ (Below.refl _ _)

theorem and_mask (x : Int) (h0 : 0 ≤ x) (h1 : x < 18446744073709551616) : (BitVec.ofInt 64 x &&& 4294967295#64).toNat = x.toNat % 4294967296 := by
  rw [BitVec.toNat_and]
  have : (BitVec.ofInt 64 x).toNat = x.toNat := by
    rw [BitVec.toNat_ofInt]; omega
  rw [this]
  have h2 : (4294967295#64).toNat = 2 ^ 32 - 1 := by decide
  rw [h2, Nat.and_two_pow_sub_one_eq_mod]
theorem or_low (x y : Int) (h0 : 0 ≤ x) (h1 : x < 18446744073709551616) (hx : x % 4294967296 = 0) (hy0 : 0 ≤ y) (hy : y < 4294967296) : (BitVec.ofInt 64 x ||| BitVec.ofInt 64 y).toNat = x.toNat + y.toNat := by
  rw [BitVec.toNat_or]
  have e1 : (BitVec.ofInt 64 x).toNat = x.toNat := by rw [BitVec.toNat_ofInt]; omega
  have e2 : (BitVec.ofInt 64 y).toNat = y.toNat := by rw [BitVec.toNat_ofInt]; omega
  rw [e1, e2]
  obtain ⟨q, hq⟩ : ∃ q : Nat, x.toNat = 2 ^ 32 * q := ⟨x.toNat / 4294967296, by omega⟩
  rw [hq]
  exact (Nat.two_pow_add_eq_or_of_lt (by omega) q).symm

section
variable {x y : Nat}
theorem u_mul (h : x * y < 18446744073709551616) : q_bin .mul (.int .u64 x) (.int .u64 y) = some (.int .u64 (x * y : Nat)) := by
  rw [q_mul, wrap_u64 (by rw [← Int.natCast_mul]; omega) (by rw [← Int.natCast_mul]; omega), Int.natCast_mul]
theorem u_add (h : x + y < 18446744073709551616) : q_bin .add (.int .u64 x) (.int .u64 y) = some (.int .u64 (x + y : Nat)) := by
  rw [q_add, wrap_u64 (by omega) (by omega), Int.natCast_add]
theorem u_sub (h : y ≤ x) (h2 : x < 18446744073709551616) : q_bin .sub (.int .u64 x) (.int .u64 y) = some (.int .u64 (x - y : Nat)) := by
  rw [q_sub, wrap_u64 (by omega) (by omega), Int.natCast_sub h]
theorem u_shr (n : Nat) (h : n < 64) : q_bin .shr (.int .u64 x) (.int .u64 n) = some (.int .u64 (x / 2 ^ n : Nat)) := by
  have h1 : ¬ ((n : Int) < 0) := by omega
  have h2 : min ((n : Int)).toNat IntKind.u64.bits = n := by simp [IntKind.bits]; omega
  simp only [q_bin, vshift, if_neg h1, h2]
  rw [Int.fdiv_eq_ediv_of_nonneg _ (by exact_mod_cast Nat.zero_le _)]
  simp
theorem u_shl (n : Nat) (h : n ≤ 64) : q_bin .shl (.int .u64 x) (.int .u64 n) = some (.int .u64 (x * 2 ^ n % 18446744073709551616 : Nat)) := by
  have h1 : ¬ ((n : Int) < 0) := by omega
  have h2 : min ((n : Int)).toNat IntKind.u64.bits = n := by simp [IntKind.bits]; omega
  simp only [q_bin, vshift, if_neg h1, h2, wrap_u64_eq]
  simp
theorem u_mask (h : x < 18446744073709551616) : q_bin .and (.int .u64 x) (.int .u64 4294967295) = some (.int .u64 (x % 4294967296 : Nat)) := by
  have := and_mask x (by omega) (by omega)
  have h' : (BitVec.ofInt IntKind.u64.bits (x : Int) &&& BitVec.ofInt IntKind.u64.bits 4294967295).toNat = x % 4294967296 := Eq.trans this (by simp)
  simp only [q_bin, vint, if_true]
  rw [h', wrap_u64 (by omega) (by omega)]
theorem u_or (h : x < 18446744073709551616) (hx : x % 4294967296 = 0) (hy : y < 4294967296) : q_bin .or (.int .u64 x) (.int .u64 y) = some (.int .u64 (x + y : Nat)) := by
  have := or_low x y (by omega) (by omega) (by omega) (by omega) (by omega)
  have h' : (BitVec.ofInt IntKind.u64.bits (x : Int) ||| BitVec.ofInt IntKind.u64.bits (y : Int)).toNat = x + y := Eq.trans this (by simp)
  simp only [q_bin, vint, if_true]
  rw [h', wrap_u64 (by omega) (by omega)]
end
theorem mul_words (a b : Nat) (ha : a < 18446744073709551616) (hb : b < 18446744073709551616) : ∃ a1 a0 b1 b0 : Nat, a1 = a / 2 ^ 32 ∧ a0 = a % 4294967296 ∧ b1 = b / 2 ^ 32 ∧ b0 = b % 4294967296 ∧ a = a1 * 4294967296 + a0 ∧ b = b1 * 4294967296 + b0 ∧ a1 < 4294967296 ∧ a0 < 4294967296 ∧ b1 < 4294967296 ∧ b0 < 4294967296 :=
  ⟨_, _, _, _, rfl, rfl, rfl, rfl, by omega, by omega, by omega, by omega, by omega, by omega⟩
theorem prod_lt {x y : Nat} (hx : x < 4294967296) (hy : y < 4294967296) : x * y ≤ 18446744065119617025 := by
  calc x * y ≤ 4294967295 * 4294967295 := Nat.mul_le_mul (by omega) (by omega)
    _ = 18446744065119617025 := by decide
/-- The two words of a product. -/
theorem mul_ok {a b : Nat} {w : World} (ha : a < 18446744073709551616) (hb : b < 18446744073709551616) :
    Calc 166 [.int .u64 a, .int .u64 b] w (.agg #[.int .u64 (a * b / 18446744073709551616 : Nat), .int .u64 (a * b % 18446744073709551616 : Nat)]) := by
  intro K hK
  refine lift166 ?_
  unfold L166
  simp only [l_new]
  obtain ⟨a1, a0, b1, b0, e1, e2, e3, e4, e5, e6, h1, h2, h3, h4⟩ := mul_words a b ha hb
  have p00 := prod_lt h2 h4
  have p10 := prod_lt h1 h4
  have p01 := prod_lt h2 h3
  have p11 := prod_lt h1 h3
  have c32 : (32 : Int) = ((32 : Nat) : Int) := rfl
  rw [c32, u_shr 32 (by decide), onSome_some, u_mask ha, onSome_some, u_shr 32 (by decide), onSome_some, u_mask hb, onSome_some, ← e1, ← e2, ← e3, ← e4]
  have ab : a * b = (a1 * b1) * 18446744073709551616 + (a1 * b0 + a0 * b1) * 4294967296 + a0 * b0 := by
    rw [e5, e6]
    simp only [Nat.add_mul, Nat.mul_add]
    have : a1 * 4294967296 * (b1 * 4294967296) = a1 * b1 * 18446744073709551616 := by
      rw [show (18446744073709551616 : Nat) = 4294967296 * 4294967296 by decide]
      rw [Nat.mul_assoc, Nat.mul_assoc, Nat.mul_left_comm 4294967296 b1]
    have h2 : a1 * 4294967296 * b0 = a1 * b0 * 4294967296 := by rw [Nat.mul_assoc, Nat.mul_comm 4294967296 b0, Nat.mul_assoc]
    have h3 : a0 * (b1 * 4294967296) = a0 * b1 * 4294967296 := by rw [Nat.mul_assoc]
    omega
  clear e1 e2 e3 e4 e5 e6
  generalize hm00 : a0 * b0 = m00 at *
  generalize hm10 : a1 * b0 = m10 at *
  generalize hm01 : a0 * b1 = m01 at *
  generalize hm11 : a1 * b1 = m11 at *
  rw [u_mul (by omega), onSome_some, hm00, u_mul (by omega), onSome_some, hm10, u_shr 32 (by decide), onSome_some, u_add (by omega), onSome_some, u_mul (by omega), onSome_some, hm01]
  generalize hmid : m10 + m00 / 2 ^ 32 = mid at *
  rw [u_mask (by omega), onSome_some, u_add (by omega), onSome_some, u_mul (by omega), onSome_some, hm11, u_shr 32 (by decide), onSome_some]
  generalize hoth : m01 + mid % 4294967296 = oth at *
  have bound : m11 + mid / 2 ^ 32 + oth / 2 ^ 32 = a * b / 18446744073709551616 := by omega
  have bound2 : a * b < 18446744073709551616 * 18446744073709551616 := Nat.mul_lt_mul'' ha hb
  rw [u_add (by omega), onSome_some, u_shr 32 (by decide), onSome_some, u_add (by omega), onSome_some, u_shl 32 (by decide), onSome_some, u_mask (by omega), onSome_some, u_or (by omega) (by omega) (by omega), onSome_some]
  have low : oth * 2 ^ 32 % 18446744073709551616 + m00 % 4294967296 = a * b % 18446744073709551616 := by omega
  rw [bound, low]
  simp [q_build, fillC]
  refine hK _ ?_
  exact below_putL ((Below.refl _ _).alloc (Nat.le_refl _) _) (Nat.le_refl _) _ _

/-- Whether a quotient is rounded away from zero, half to even. -/
def awayE (odd : Bool) (r c : Nat) : Bool := decide (c - r < r ∨ (r = c - r ∧ odd = true))
theorem away_ok {neg odd : Bool} {r c : Nat} {w : World} (hr : r < c) (hc : c < 18446744073709551616) :
    Calc 169 [.int .i64 4, .bool neg, .bool odd, .int .u64 r, .int .u64 c] w (.bool (awayE odd r c)) := by
  intro K hK
  refine lift169 ?_
  unfold L169
  simp only [q_eql, onSome_some]
  refine xif_dec (fun h => ?_) (fun h => ?_)
  · have : awayE odd r c = false := by
      have : r = 0 := by omega
      subst this
      simp [awayE]
      omega
    rw [← this]
    exact hK _ (Below.refl _ _)
  · rw [u_sub (by omega) (by omega), onSome_some]
    simp
    by_cases h1 : c - r < r
    · have e : awayE odd r c = true := by simp [awayE, h1]
      simp [h1]
      rw [e] at hK
      exact hK _ (Below.refl _ _)
    · by_cases h2 : r = c - r
      · have h3 : ((r : Int) = ((c - r : Nat) : Int)) := by omega
        have e : awayE odd r c = odd := by
          cases odd with
          | true => exact decide_eq_true (.inr ⟨h2, rfl⟩)
          | false => exact decide_eq_false (by rintro (hh | ⟨_, hh⟩); · omega
                                               · cases hh)
        simp [h1, h3]
        rw [e] at hK
        exact hK _ (Below.refl _ _)
      · have h3 : ¬ ((r : Int) = ((c - r : Nat) : Int)) := by omega
        have e : awayE odd r c = false := by simp [awayE, h1, h2]
        simp [h1, h3]
        rw [e] at hK
        exact hK _ (Below.refl _ _)
theorem signed_ok {neg : Bool} {n : Nat} {w : World} (h : if neg = true then n ≤ 9223372036854775808 else n < 9223372036854775808) :
    Calc 170 [.bool neg, .int .u64 n] w (.tuple #[.int .i64 (if neg = true then -(n : Int) else n), .int .i64 0]) := by
  intro K hK
  refine lift170 ?_
  unfold L170
  cases neg with
  | true =>
    simp at h
    have h1 : ¬ (9223372036854775808 : Int) < n := by omega
    simp [h1]
    have e : IntKind.i64.wrap (IntKind.i64.wrap (-IntKind.i64.wrap (IntKind.u64.wrap ((n : Int) - 1))) - 1) = -(n : Int) := by
      rw [wrap_u64_eq, IntKind.wrap_i64, IntKind.wrap_i64, IntKind.wrap_i64]
      omega
    rw [e]
    exact hK _ (Below.refl _ _)
  | false =>
    simp at h
    have h1 : ¬ (9223372036854775808 : Int) ≤ n := by omega
    simp [h1]
    rw [wrap_i64 (by omega) (by omega)]
    exact hK _ (Below.refl _ _)

/-! ### Division, bit by bit -/
/-- One more bit of the dividend: the remainder's double with the bit, less the divisor where it reaches it. -/
theorem div_step {R top c Q r k bit : Nat} (h : R * 2 ^ k + top = Q * c + r) (hb : bit ≤ 1) : R * 2 ^ (k + 1) + (2 * top + bit) = 2 * Q * c + (2 * r + bit) := by
  have : R * 2 ^ (k + 1) = 2 * (R * 2 ^ k) := by rw [Nat.pow_succ]; simp [Nat.mul_comm, Nat.mul_left_comm]
  have h2 : 2 * Q * c = 2 * (Q * c) := by rw [Nat.mul_assoc]
  omega
theorem top_step {word n : Nat} : word / 2 ^ n = 2 * (word / 2 ^ (n + 1)) + word / 2 ^ n % 2 := by
  have : word / 2 ^ (n + 1) = word / 2 ^ n / 2 := by rw [Nat.pow_succ, Nat.div_div_eq_div_mul]
  rw [this]
  omega
theorem quot_small {R top c Q r k : Nat} (h : R * 2 ^ k + top = Q * c + r) (hR : R < c) (ht : top < 2 ^ k) : Q < 2 ^ k := by
  rcases Nat.lt_or_ge Q (2 ^ k) with h1 | h1
  · exact h1
  · exfalso
    have h2 : 2 ^ k * c ≤ Q * c := Nat.mul_le_mul_right _ h1
    have h3 : R * 2 ^ k + 2 ^ k ≤ 2 ^ k * c := by
      have : (R + 1) * 2 ^ k ≤ c * 2 ^ k := Nat.mul_le_mul_right _ hR
      rw [Nat.add_mul, Nat.one_mul] at this
      rw [Nat.mul_comm (2 ^ k) c]
      exact this
    omega
theorem u_and1 {x : Nat} (h : x < 18446744073709551616) : q_bin .and (.int .u64 x) (.int .u64 1) = some (.int .u64 (x % 2 : Nat)) := by
  have e : (BitVec.ofInt 64 (x : Int) &&& BitVec.ofInt 64 1).toNat = x % 2 := by
    rw [BitVec.toNat_and]
    have h1 : (BitVec.ofInt 64 (x : Int)).toNat = x := by rw [BitVec.toNat_ofInt]; omega
    have h2 : (BitVec.ofInt 64 1).toNat = 2 ^ 1 - 1 := by decide
    rw [h1, h2, Nat.and_two_pow_sub_one_eq_mod]
  have h' : (BitVec.ofInt IntKind.u64.bits (x : Int) &&& BitVec.ofInt IntKind.u64.bits 1).toNat = x % 2 := e
  simp only [q_bin, vint, if_true]
  rw [h', wrap_u64 (by omega) (by omega)]
theorem u_or1 {x b : Nat} (h : x < 18446744073709551616) (hx : x % 2 = 0) (hb : b ≤ 1) : q_bin .or (.int .u64 x) (.int .u64 b) = some (.int .u64 (x + b : Nat)) := by
  have e : (BitVec.ofInt 64 (x : Int) ||| BitVec.ofInt 64 (b : Int)).toNat = x + b := by
    rw [BitVec.toNat_or]
    have h1 : (BitVec.ofInt 64 (x : Int)).toNat = x := by rw [BitVec.toNat_ofInt]; omega
    have h2 : (BitVec.ofInt 64 (b : Int)).toNat = b := by rw [BitVec.toNat_ofInt]; omega
    rw [h1, h2]
    obtain ⟨q, hq⟩ : ∃ q : Nat, x = 2 ^ 1 * q := ⟨x / 2, by omega⟩
    rw [hq]
    exact (Nat.two_pow_add_eq_or_of_lt (by omega) q).symm
  have h' : (BitVec.ofInt IntKind.u64.bits (x : Int) ||| BitVec.ofInt IntKind.u64.bits (b : Int)).toNat = x + b := e
  simp only [q_bin, vint, if_true]
  rw [h', wrap_u64 (by omega) (by omega)]
theorem u_or1' {x : Nat} (h : x < 18446744073709551616) (hx : x % 2 = 0) : q_bin .or (.int .u64 x) (.int .u64 1) = some (.int .u64 (x + 1 : Nat)) := u_or1 (b := 1) h hx (Nat.le_refl _)
theorem u_shr' {x : Nat} {n : Nat} (h : n < 64) : q_bin .shr (.int .u64 x) (.int .i64 n) = some (.int .u64 (x / 2 ^ n : Nat)) := u_shr n h
theorem u_shl' {x : Nat} {n : Nat} (h : n ≤ 64) : q_bin .shl (.int .u64 x) (.int .i64 n) = some (.int .u64 (x * 2 ^ n % 18446744073709551616 : Nat)) := u_shl n h
theorem q_index_arr {P : Program} {t el : TypeId} {n : Nat} {inf : TypeInfo} {cs : Array Value} {k : IntKind} {i : Int} (hu : P.underlying t = some (.array n el)) (hi : P.info? el = some inf) (hs : inf.size = 1) (ha : P.underlying el = some (.int .u64)) (h0 : 0 ≤ i) (h1 : i < n) (v : Value) (hv : cs[i.toNat]? = some v) :
    q_index P t (.agg cs) (.int k i) = some v := by
  have hr : ∀ {α : Type} {s : Sem α} {f : α → Sem Value} {a : α}, pr P s = some a → pr P (s >>= f) = pr P (f a) := by
    intro α s f a h
    change pr P (s.bind f) = _
    induction s with
    | pure b => simp only [pr, Option.some.injEq] at h; subst h; rfl
    | program k ih => exact ih P h
    | _ => simp [pr] at h
  have h2 : pr P (underlying t) = some (.array n el) := by simp [underlying, program, pr, Bind.bind, Sem.bind, Pure.pure, hu]
  have h3 : pr P (sizeOf el) = some 1 := by simp [sizeOf, typeInfo, program, pr, Bind.bind, Sem.bind, Pure.pure, hi, hs]
  have h4 : pr P (isAgg el) = some false := by simp [isAgg, underlying, program, pr, Bind.bind, Sem.bind, Pure.pure, ha]
  unfold q_index Instr.index
  rw [hr (a := (k, i)) rfl]
  simp only
  rw [hr h2]
  simp only
  rw [if_pos ⟨h0, h1⟩, hr h3]
  unfold part
  rw [hr h4]
  simp only [Nat.mul_one, hv, Bool.false_eq_true, if_false]
  rfl
def DivGood (hi lo c ii R x0 x1 : Nat) : Prop :=
  (ii = 0 ∧ R = 0 ∧ x0 = 0 ∧ x1 = 0) ∨ (ii = 1 ∧ R = hi % c ∧ x0 = hi / c ∧ x1 = 0) ∨
  (ii = 2 ∧ R = (hi % c * 18446744073709551616 + lo) % c ∧ x0 = hi / c ∧ x1 = (hi % c * 18446744073709551616 + lo) / c)
def DivOuter (hi lo c : Nat) (w : World) (r i : Value) (W : World) : Prop :=
  Below w.heap.size w W ∧ ∃ R ii x0 x1 : Nat, r = .int .u64 R ∧ i = .int .i64 ii ∧ blk W (w.heap.size + 1) = some (.cells #[.int .u64 x0, .int .u64 x1] 190 (0, 0)) ∧ DivGood hi lo c ii R x0 x1
def DivInner (word R c ii x0 x1 : Nat) (w : World) (r b : Value) (W : World) : Prop :=
  Below w.heap.size w W ∧ ∃ rr k Q : Nat, k ≤ 64 ∧ b = .int .i64 (63 - (k : Int)) ∧ r = .int .u64 rr ∧ rr < c ∧ R * 2 ^ k + word / 2 ^ (64 - k) = Q * c + rr ∧ Q < 2 ^ k ∧
    blk W (w.heap.size + 1) = some (.cells #[.int .u64 (if ii = 0 then Q else x0 : Nat), .int .u64 (if ii = 0 then x1 else Q : Nat)] 190 (0, 0))
theorem DivGood.next {hi lo c ii R x0 x1 Q r : Nat} (h : DivGood hi lo c ii R x0 x1) (hii : ii < 2) (he : R * 2 ^ 64 + (if ii = 0 then hi else lo) = Q * c + r) (hr : r < c) :
    DivGood hi lo c (ii + 1) r (if ii = 0 then Q else x0) (if ii = 0 then x1 else Q) := by
  have hd : (R * 2 ^ 64 + (if ii = 0 then hi else lo)) / c = Q := by
    rw [he, Nat.add_comm, Nat.add_mul_div_right _ _ (by omega), Nat.div_eq_of_lt hr, Nat.zero_add]
  have hm : (R * 2 ^ 64 + (if ii = 0 then hi else lo)) % c = r := by
    rw [he, Nat.add_comm, Nat.add_mul_mod_self_right, Nat.mod_eq_of_lt hr]
  rcases h with ⟨rfl, rfl, rfl, rfl⟩ | ⟨rfl, rfl, rfl, rfl⟩ | ⟨rfl, _⟩
  · simp at hd hm
    exact .inr (.inl ⟨rfl, by rw [hm], by simp [hd], by simp⟩)
  · simp at hd hm
    exact .inr (.inr ⟨rfl, by rw [hm], by simp, by simp [hd]⟩)
  · omega
theorem DivGood.small {hi lo c ii R x0 x1 : Nat} (h : DivGood hi lo c ii R x0 x1) (hii : ii < 2) (h0 : 0 < c) : R < c ∧ (if ii = 0 then x0 else x1) = 0 := by
  rcases h with ⟨rfl, rfl, rfl, rfl⟩ | ⟨rfl, rfl, rfl, rfl⟩ | ⟨rfl, _⟩
  · exact ⟨h0, rfl⟩
  · exact ⟨Nat.mod_lt _ h0, rfl⟩
  · omega
theorem u190 : Tryz.prog.underlying 190 = some (.array 2 188) := by kernel_rfl
theorem i188 : ∃ inf, Tryz.prog.info? 188 = some inf ∧ inf.size = 1 := by
  have h : (Tryz.prog.info? 188).map (·.size) = some 1 := by kernel_rfl
  cases e : Tryz.prog.info? 188 with
  | none => rw [e] at h; cases h
  | some inf => rw [e] at h; exact ⟨inf, rfl, Option.some.inj h⟩
theorem u188 : Tryz.prog.underlying 188 = some (.int .u64) := by kernel_rfl
theorem idx190 (a b : Value) : q_index Tryz.prog 190 (.agg #[a, b]) (.int .i64 0) = some a ∧ q_index Tryz.prog 190 (.agg #[a, b]) (.int .i64 1) = some b := by
  obtain ⟨inf, h1, h2⟩ := i188
  exact ⟨q_index_arr u190 h1 h2 u188 (by decide) (by decide) _ rfl, q_index_arr u190 h1 h2 u188 (by decide) (by decide) _ rfl⟩
theorem DivInner.zero {word R c ii x0 x1 : Nat} {w W : World} (hb : Below w.heap.size w W) (hR : R < c) (hw : word < 18446744073709551616) (hx : (if ii = 0 then x0 else x1) = 0)
    (hblk : blk W (w.heap.size + 1) = some (.cells #[.int .u64 x0, .int .u64 x1] 190 (0, 0))) : DivInner word R c ii x0 x1 w (.int .u64 R) (.int .i64 63) W := by
  refine ⟨hb, R, 0, 0, by omega, rfl, rfl, hR, ?_, by omega, ?_⟩
  · have : word / 2 ^ 64 = 0 := Nat.div_eq_of_lt (by omega)
    simp [this]
  · rw [hblk]
    by_cases h : ii = 0
    · rw [if_pos h] at hx
      rw [if_pos h, if_pos h, hx]
    · rw [if_neg h] at hx
      rw [if_neg h, if_neg h, hx]
/-- The early end of a word: no rest, and no bit left. -/
theorem div_early {word R c Q k : Nat} (hk : k ≤ 63) (hw : word < 18446744073709551616) (h : R * 2 ^ k + word / 2 ^ (64 - k) = Q * c + 0) (hz : word * 2 ^ k % 18446744073709551616 = 0) :
    R * 2 ^ 64 + word = (Q * 2 ^ (64 - k)) * c + 0 := by
  have e64 : (18446744073709551616 : Nat) = 2 ^ (64 - k) * 2 ^ k := by rw [← Nat.pow_add, Nat.sub_add_cancel (by omega)]
  have hm : word % 2 ^ (64 - k) = 0 := by
    rw [e64, Nat.mul_mod_mul_right] at hz
    have hp : 0 < 2 ^ k := Nat.two_pow_pos k
    rcases Nat.mul_eq_zero.mp hz with h1 | h1
    · exact h1
    · omega
  have hd : word = 2 ^ (64 - k) * (word / 2 ^ (64 - k)) := by
    have := Nat.div_add_mod word (2 ^ (64 - k))
    omega
  generalize word / 2 ^ (64 - k) = t at *
  have e : R * 2 ^ 64 = R * 2 ^ k * 2 ^ (64 - k) := by rw [Nat.mul_assoc, ← Nat.pow_add, Nat.add_sub_cancel' (by omega)]
  have e2 : Q * 2 ^ (64 - k) * c = Q * c * 2 ^ (64 - k) := by rw [Nat.mul_assoc, Nat.mul_comm _ c, ← Nat.mul_assoc]
  rw [e, e2, Nat.add_zero]
  rw [Nat.add_zero] at h
  rw [← h, Nat.add_mul, hd, Nat.mul_comm (2 ^ (64 - k)) t]
theorem div_bound {word R c Q r k : Nat} (hw : word < 18446744073709551616) (hk : k ≤ 64) (hR : R < c) (h : R * 2 ^ k + word / 2 ^ (64 - k) = Q * c + r) : Q < 2 ^ k := by
  refine quot_small h hR ?_
  rw [Nat.div_lt_iff_lt_mul (Nat.two_pow_pos _), ← Nat.pow_add, Nat.add_sub_cancel' hk]
  exact hw
theorem u_shr63 {x : Nat} : q_bin .shr (.int .u64 x) (.int .u64 63) = some (.int .u64 (x / 2 ^ 63 : Nat)) := u_shr 63 (by decide)
theorem u_shl1 {x : Nat} : q_bin .shl (.int .u64 x) (.int .u64 1) = some (.int .u64 (x * 2 ^ 1 % 18446744073709551616 : Nat)) := u_shl 1 (by decide)
theorem q_load1_at {w : World} {b i : Nat} {cs : Array Value} {t : TypeId} {f : Nat × Nat} (h : blk w b = some (.cells cs t f)) {v : Value} (hv : cs[i]? = some v) : q_load1 (.pointer (some { block := b, off := i })) w = some v := by
  simp [h, hv]
theorem l_store1_at {w : World} {b i : Nat} {cs : Array Value} {t : TypeId} (h : blk w b = some (.cells cs t (0, 0))) {k : IntKind} {n : Int} {v' : Value} (hv : cs[i]? = some v') {K : Value → World → Prop} : l_store 1 (.pointer (some { block := b, off := i })) (.int k n) w K = K undef (putL w b i [.int k n]) := by
  obtain ⟨hi, _⟩ := Array.getElem?_eq_some_iff.mp hv
  have hi' : i + 1 ≤ cs.size := hi
  refine (l_store_to (v := .int k n) ?_).trans ?_
  · rw [h]
    simp [storeOk, Value.cells, hi']
  · rfl
set_option maxRecDepth 4000 in
/-- q and r: the quotient's two words and the remainder of the double p = (hi, lo). -/
theorem divide_ok {hi lo c : Nat} {w : World} (hh : hi < 18446744073709551616) (hl : lo < 18446744073709551616) (h0 : 0 < c) (hc : c < 18446744073709551616) :
    Calc 168 [.agg #[.int .u64 hi, .int .u64 lo], .int .u64 c] w (.tuple #[.agg #[.int .u64 (hi / c : Nat), .int .u64 ((hi % c * 18446744073709551616 + lo) / c : Nat)], .int .u64 ((hi % c * 18446744073709551616 + lo) % c : Nat)]) := by
  intro K hK
  refine lift168 ?_
  unfold L168
  simp only [l_new]
  rw [show q_loadn 2 _ _ = some (.agg #[.int .u64 hi, .int .u64 lo]) by simp]
  rw [onSome_some, show (w.alloc (Obj.cells (Value.agg #[Value.int IntKind.u64 hi, Value.int IntKind.u64 lo]).cells 190)).heap.size = w.heap.size + 1 by simp]
  refine looping_i (DivOuter hi lo c w) (fun r i W => 2 - (intOf i).toNat) ⟨?_, ?_⟩
  · refine ⟨((Below.refl _ _).alloc (Nat.le_refl _) _).alloc (by simp) _, 0, 0, 0, 0, rfl, rfl, ?_, .inl ⟨rfl, rfl, rfl, rfl⟩⟩
    simp
  · rintro r i W ⟨hb, R, ii, x0, x1, rfl, rfl, hblk, hgood⟩
    intro _
    simp only [q_lss, onSome_some]
    refine xif_dec (fun hii => ?_) (fun hii => ?_)
    · have hii2 : ii < 2 := by omega
      obtain ⟨hR, hx⟩ := hgood.small hii2 h0
      have hcase : ii = 0 ∨ ii = 1 := by omega
      have hlt := lt_of_blk hblk
      rcases hcase with rfl | rfl
      · rw [show q_index Tryz.prog 190 (.agg #[.int .u64 hi, .int .u64 lo]) (.int .i64 ((0 : Nat) : Int)) = some (.int .u64 hi) from (idx190 _ _).1, onSome_some]
        refine looping_i (DivInner hi R c 0 x0 x1 w) (fun r b W => (intOf b + 1).toNat) ⟨DivInner.zero hb hR hh hx hblk, ?_⟩
        rintro r b W2 ⟨hb2, rr, k, Q, hk, rfl, rfl, hrr, heq, hQ, hblk2⟩ _
        simp only [q_geq, onSome_some]
        simp only [if_true] at hblk2
        have hlt2 := lt_of_blk hblk2
        refine xif_dec (fun hbit => ?_) (fun hbit => ?_)
        · have hk63 : k ≤ 63 := by omega
          have e63 : IntKind.i64.wrap (63 - (63 - (k : Int))) = (k : Int) := by rw [wrap_i64 (by omega) (by omega)]; omega
          have e64 : IntKind.i64.wrap (63 - (k : Int) + 1) = ((64 - k : Nat) : Int) := by rw [wrap_i64 (by omega) (by omega)]; omega
          simp only [q_eql, onSome_some]
          by_cases hr0 : rr = 0
          · rw [show decide ((rr : Int) = 0) = true from decide_eq_true (by omega)]
            simp only [gateQ_true, if_true, onSome_some, q_sub]
            rw [e63, u_shl' hk, onSome_some]
            simp only [q_eql, onSome_some, q_pick_bool, cond_true]
            refine xif_dec (fun hz => ?_) (fun hz => ?_)
            · subst hr0
              have hz' : hi * 2 ^ k % 18446744073709551616 = 0 := by omega
              have hq := div_early hk63 hh heq hz'
              generalize hq' : Q * 2 ^ (64 - k) = Q' at *
              simp [hblk2]
              rw [e64, u_shl' (by omega), onSome_some]
              have hqb : Q' < 2 ^ 64 := quot_small (R := R) (top := hi) (r := 0) (c := c) hq hR hh
              rw [hq', Nat.mod_eq_of_lt (by omega)]
              simp [hblk2]
              refine ⟨⟨below_putL hb2 (by omega) _ _, 0, 1, _, _, rfl, ?_, ?_, hgood.next hii2 hq h0⟩, ?_⟩
              · rfl
              · simp [hblk2]
              · decide
            · clear hz
              have hsh : q_bin .shr (.int .u64 hi) (.int .i64 (63 - (k : Int))) = some (.int .u64 (hi / 2 ^ (63 - k) : Nat)) := by rw [show (63 : Int) - (k : Int) = ((63 - k : Nat) : Int) from by omega]; exact u_shr' (by omega)
              rw [u_shr63, onSome_some, u_shl1, onSome_some, hsh, onSome_some, u_and1 (Nat.lt_of_le_of_lt (Nat.div_le_self _ _) hh), onSome_some]
              rw [u_or1 (by omega) (by omega) (by omega), onSome_some]
              have hts := top_step (word := hi) (n := 63 - k)
              rw [show 63 - k + 1 = 64 - k from by omega] at hts
              have hbit : hi / 2 ^ (63 - k) % 2 ≤ 1 := by omega
              generalize hbv : hi / 2 ^ (63 - k) % 2 = bit at *
              have hst := div_step heq hbit
              rw [← hts, show 63 - k = 64 - (k + 1) from by omega] at hst
              have hqb := div_bound (k := k + 1) (c := c) (Q := 2 * Q) (r := 2 * rr + bit) hh (by omega) hR (by rw [hst])
              have hq64 : (2 : Nat) ^ (k + 1) ≤ 2 ^ 64 := Nat.pow_le_pow_right (by decide) (by omega)
              have hqb' : 2 * Q < 18446744073709551616 := by omega
              have hnb : IntKind.i64.wrap (63 - (k : Int) - 1) = 63 - ((k + 1 : Nat) : Int) := by rw [wrap_i64 (by omega) (by omega)]; omega
              have hmea : (intOf (.int .i64 (63 - ((k + 1 : Nat) : Int))) + 1).toNat < (intOf (.int .i64 (63 - (k : Int))) + 1).toNat := by simp only [intOf]; omega
              simp only [q_sub, q_eql, onSome_some]
              rw [hnb]
              have hQm : Q * 2 ^ 1 % 18446744073709551616 = 2 * Q := by omega
              have hptr : q_iaddra 2 1 (.pointer (some { block := w.heap.size + 1, off := 0 })) (.int .i64 ((0 : Nat) : Int)) = some (.pointer (some { block := w.heap.size + 1, off := 0 })) := rfl
              rw [hptr]
              simp only [onSome_some]
              rw [q_load1_at hblk2 (v := .int .u64 Q) (by rfl), onSome_some, u_shl1, onSome_some, hQm]
              rw [l_store1_at hblk2 (by rfl)]
              have hblk3 : blk (putL W2 (w.heap.size + 1) 0 [.int .u64 (2 * Q : Nat)]) (w.heap.size + 1) = some (.cells #[.int .u64 (2 * Q : Nat), .int .u64 x1] 190 (0, 0)) := by simp [hblk2]
              have hb3 := below_putL hb2 (by omega : w.heap.size ≤ w.heap.size + 1) [.int .u64 (2 * Q : Nat)] 0
              by_cases hlow : 2 * rr + bit < c
              · have e1 : decide (((rr / 2 ^ 63 : Nat) : Int) = 1) = false := decide_eq_false (by omega)
                have e2 : rr * 2 ^ 1 % 18446744073709551616 + bit = 2 * rr + bit := by omega
                have e3 : decide ((c : Int) ≤ ((2 * rr + bit : Nat) : Int)) = false := decide_eq_false (by omega)
                simp only [e1, e2, gateQ_false, if_false, onSome_some, q_geq, q_pick_bool, cond_false, e3, xif_false, Bool.false_eq_true]
                exact ⟨⟨hb3, 2 * rr + bit, k + 1, 2 * Q, by omega, rfl, rfl, hlow, hst, hqb, hblk3⟩, hmea⟩
              · have e5 : IntKind.u64.wrap (((rr * 2 ^ 1 % 18446744073709551616 + bit : Nat) : Int) - (c : Int)) = ((2 * rr + bit - c : Nat) : Int) := by rw [wrap_u64_eq]; omega
                rw [e5]
                have hst2 : R * 2 ^ (k + 1) + hi / 2 ^ (64 - (k + 1)) = (2 * Q + 1) * c + (2 * rr + bit - c) := by rw [Nat.add_mul]; omega
                have hqb2 := div_bound (k := k + 1) (c := c) hh (by omega) hR hst2
                have hblk4 : blk (putL (putL W2 (w.heap.size + 1) 0 [.int .u64 (2 * Q : Nat)]) (w.heap.size + 1) 0 [.int .u64 (2 * Q + 1 : Nat)]) (w.heap.size + 1) = some (.cells #[.int .u64 (2 * Q + 1 : Nat), .int .u64 x1] 190 (0, 0)) := by simp [hblk2]
                have hb4 := below_putL hb3 (by omega : w.heap.size ≤ w.heap.size + 1) [.int .u64 (2 * Q + 1 : Nat)] 0
                by_cases hcar : 2 ^ 63 ≤ rr
                · have e1 : decide (((rr / 2 ^ 63 : Nat) : Int) = 1) = true := decide_eq_true (by omega)
                  simp only [e1, gateQ_true, if_false, onSome_some, q_pick_bool, cond_true, xif_true, Bool.false_eq_true]
                  rw [q_load1_at hblk3 (v := .int .u64 (2 * Q : Nat)) (by rfl), onSome_some, u_or1' (by omega) (by omega), onSome_some, l_store1_at hblk3 (by rfl)]
                  exact ⟨⟨hb4, 2 * rr + bit - c, k + 1, 2 * Q + 1, by omega, rfl, rfl, by omega, hst2, hqb2, hblk4⟩, hmea⟩
                · have e1 : decide (((rr / 2 ^ 63 : Nat) : Int) = 1) = false := decide_eq_false (by omega)
                  have e2 : rr * 2 ^ 1 % 18446744073709551616 + bit = 2 * rr + bit := by omega
                  have e3 : decide ((c : Int) ≤ ((2 * rr + bit : Nat) : Int)) = true := decide_eq_true (by omega)
                  simp only [e1, e2, gateQ_false, if_false, onSome_some, q_geq, q_pick_bool, cond_false, e3, xif_true, Bool.false_eq_true]
                  rw [q_load1_at hblk3 (v := .int .u64 (2 * Q : Nat)) (by rfl), onSome_some, u_or1' (by omega) (by omega), onSome_some, l_store1_at hblk3 (by rfl)]
                  exact ⟨⟨hb4, 2 * rr + bit - c, k + 1, 2 * Q + 1, by omega, rfl, rfl, by omega, hst2, hqb2, hblk4⟩, hmea⟩
          · have hne : ¬ ((rr : Int) = 0) := by omega
            simp only [hne, decide_false, gateQ_false, if_true, onSome_some, q_pick_bool, cond_false, xif_false]
            have hsh : q_bin .shr (.int .u64 hi) (.int .i64 (63 - (k : Int))) = some (.int .u64 (hi / 2 ^ (63 - k) : Nat)) := by rw [show (63 : Int) - (k : Int) = ((63 - k : Nat) : Int) from by omega]; exact u_shr' (by omega)
            rw [u_shr63, onSome_some, u_shl1, onSome_some, hsh, onSome_some, u_and1 (Nat.lt_of_le_of_lt (Nat.div_le_self _ _) hh), onSome_some]
            rw [u_or1 (by omega) (by omega) (by omega), onSome_some]
            have hts := top_step (word := hi) (n := 63 - k)
            rw [show 63 - k + 1 = 64 - k from by omega] at hts
            have hbit : hi / 2 ^ (63 - k) % 2 ≤ 1 := by omega
            generalize hbv : hi / 2 ^ (63 - k) % 2 = bit at *
            have hst := div_step heq hbit
            rw [← hts, show 63 - k = 64 - (k + 1) from by omega] at hst
            have hqb := div_bound (k := k + 1) (c := c) (Q := 2 * Q) (r := 2 * rr + bit) hh (by omega) hR (by rw [hst])
            have hq64 : (2 : Nat) ^ (k + 1) ≤ 2 ^ 64 := Nat.pow_le_pow_right (by decide) (by omega)
            have hqb' : 2 * Q < 18446744073709551616 := by omega
            have hnb : IntKind.i64.wrap (63 - (k : Int) - 1) = 63 - ((k + 1 : Nat) : Int) := by rw [wrap_i64 (by omega) (by omega)]; omega
            have hmea : (intOf (.int .i64 (63 - ((k + 1 : Nat) : Int))) + 1).toNat < (intOf (.int .i64 (63 - (k : Int))) + 1).toNat := by simp only [intOf]; omega
            simp only [q_sub, q_eql, onSome_some]
            rw [hnb]
            have hQm : Q * 2 ^ 1 % 18446744073709551616 = 2 * Q := by omega
            have hptr : q_iaddra 2 1 (.pointer (some { block := w.heap.size + 1, off := 0 })) (.int .i64 ((0 : Nat) : Int)) = some (.pointer (some { block := w.heap.size + 1, off := 0 })) := rfl
            rw [hptr]
            simp only [onSome_some]
            rw [q_load1_at hblk2 (v := .int .u64 Q) (by rfl), onSome_some, u_shl1, onSome_some, hQm]
            rw [l_store1_at hblk2 (by rfl)]
            have hblk3 : blk (putL W2 (w.heap.size + 1) 0 [.int .u64 (2 * Q : Nat)]) (w.heap.size + 1) = some (.cells #[.int .u64 (2 * Q : Nat), .int .u64 x1] 190 (0, 0)) := by simp [hblk2]
            have hb3 := below_putL hb2 (by omega : w.heap.size ≤ w.heap.size + 1) [.int .u64 (2 * Q : Nat)] 0
            by_cases hlow : 2 * rr + bit < c
            · have e1 : decide (((rr / 2 ^ 63 : Nat) : Int) = 1) = false := decide_eq_false (by omega)
              have e2 : rr * 2 ^ 1 % 18446744073709551616 + bit = 2 * rr + bit := by omega
              have e3 : decide ((c : Int) ≤ ((2 * rr + bit : Nat) : Int)) = false := decide_eq_false (by omega)
              simp only [e1, e2, gateQ_false, if_false, onSome_some, q_geq, q_pick_bool, cond_false, e3, xif_false, Bool.false_eq_true]
              exact ⟨⟨hb3, 2 * rr + bit, k + 1, 2 * Q, by omega, rfl, rfl, hlow, hst, hqb, hblk3⟩, hmea⟩
            · have e5 : IntKind.u64.wrap (((rr * 2 ^ 1 % 18446744073709551616 + bit : Nat) : Int) - (c : Int)) = ((2 * rr + bit - c : Nat) : Int) := by rw [wrap_u64_eq]; omega
              rw [e5]
              have hst2 : R * 2 ^ (k + 1) + hi / 2 ^ (64 - (k + 1)) = (2 * Q + 1) * c + (2 * rr + bit - c) := by rw [Nat.add_mul]; omega
              have hqb2 := div_bound (k := k + 1) (c := c) hh (by omega) hR hst2
              have hblk4 : blk (putL (putL W2 (w.heap.size + 1) 0 [.int .u64 (2 * Q : Nat)]) (w.heap.size + 1) 0 [.int .u64 (2 * Q + 1 : Nat)]) (w.heap.size + 1) = some (.cells #[.int .u64 (2 * Q + 1 : Nat), .int .u64 x1] 190 (0, 0)) := by simp [hblk2]
              have hb4 := below_putL hb3 (by omega : w.heap.size ≤ w.heap.size + 1) [.int .u64 (2 * Q + 1 : Nat)] 0
              by_cases hcar : 2 ^ 63 ≤ rr
              · have e1 : decide (((rr / 2 ^ 63 : Nat) : Int) = 1) = true := decide_eq_true (by omega)
                simp only [e1, gateQ_true, if_false, onSome_some, q_pick_bool, cond_true, xif_true, Bool.false_eq_true]
                rw [q_load1_at hblk3 (v := .int .u64 (2 * Q : Nat)) (by rfl), onSome_some, u_or1' (by omega) (by omega), onSome_some, l_store1_at hblk3 (by rfl)]
                exact ⟨⟨hb4, 2 * rr + bit - c, k + 1, 2 * Q + 1, by omega, rfl, rfl, by omega, hst2, hqb2, hblk4⟩, hmea⟩
              · have e1 : decide (((rr / 2 ^ 63 : Nat) : Int) = 1) = false := decide_eq_false (by omega)
                have e2 : rr * 2 ^ 1 % 18446744073709551616 + bit = 2 * rr + bit := by omega
                have e3 : decide ((c : Int) ≤ ((2 * rr + bit : Nat) : Int)) = true := decide_eq_true (by omega)
                simp only [e1, e2, gateQ_false, if_false, onSome_some, q_geq, q_pick_bool, cond_false, e3, xif_true, Bool.false_eq_true]
                rw [q_load1_at hblk3 (v := .int .u64 (2 * Q : Nat)) (by rfl), onSome_some, u_or1' (by omega) (by omega), onSome_some, l_store1_at hblk3 (by rfl)]
                exact ⟨⟨hb4, 2 * rr + bit - c, k + 1, 2 * Q + 1, by omega, rfl, rfl, by omega, hst2, hqb2, hblk4⟩, hmea⟩
        · have hk64 : k = 64 := by omega
          subst hk64
          simp only [Nat.sub_self, Nat.pow_zero, Nat.div_one] at heq
          simp
          refine ⟨⟨hb2, rr, 1, _, _, rfl, ?_, ?_, hgood.next hii2 heq hrr⟩, ?_⟩
          · rfl
          · simp [hblk2]
          · decide
      · rw [show q_index Tryz.prog 190 (.agg #[.int .u64 hi, .int .u64 lo]) (.int .i64 ((1 : Nat) : Int)) = some (.int .u64 lo) from (idx190 _ _).2, onSome_some]
        refine looping_i (DivInner lo R c 1 x0 x1 w) (fun r b W => (intOf b + 1).toNat) ⟨DivInner.zero hb hR hl hx hblk, ?_⟩
        rintro r b W2 ⟨hb2, rr, k, Q, hk, rfl, rfl, hrr, heq, hQ, hblk2⟩ _
        simp only [q_geq, onSome_some]
        simp only [if_false, show ((1:Nat) = 0) = False from by simp] at hblk2
        have hlt2 := lt_of_blk hblk2
        refine xif_dec (fun hbit => ?_) (fun hbit => ?_)
        · have hk63 : k ≤ 63 := by omega
          have e63 : IntKind.i64.wrap (63 - (63 - (k : Int))) = (k : Int) := by rw [wrap_i64 (by omega) (by omega)]; omega
          have e64 : IntKind.i64.wrap (63 - (k : Int) + 1) = ((64 - k : Nat) : Int) := by rw [wrap_i64 (by omega) (by omega)]; omega
          simp only [q_eql, onSome_some]
          by_cases hr0 : rr = 0
          · rw [show decide ((rr : Int) = 0) = true from decide_eq_true (by omega)]
            simp only [gateQ_true, if_true, onSome_some, q_sub]
            rw [e63, u_shl' hk, onSome_some]
            simp only [q_eql, onSome_some, q_pick_bool, cond_true]
            refine xif_dec (fun hz => ?_) (fun hz => ?_)
            · subst hr0
              have hz' : lo * 2 ^ k % 18446744073709551616 = 0 := by omega
              have hq := div_early hk63 hl heq hz'
              generalize hq' : Q * 2 ^ (64 - k) = Q' at *
              simp [hblk2]
              rw [e64, u_shl' (by omega), onSome_some]
              have hqb : Q' < 2 ^ 64 := quot_small (R := R) (top := lo) (r := 0) (c := c) hq hR hl
              rw [hq', Nat.mod_eq_of_lt (by omega)]
              simp [hblk2]
              refine ⟨⟨below_putL hb2 (by omega) _ _, 0, 2, _, _, rfl, ?_, ?_, hgood.next hii2 hq h0⟩, ?_⟩
              · rfl
              · simp [hblk2]
              · decide
            · clear hz
              have hsh : q_bin .shr (.int .u64 lo) (.int .i64 (63 - (k : Int))) = some (.int .u64 (lo / 2 ^ (63 - k) : Nat)) := by rw [show (63 : Int) - (k : Int) = ((63 - k : Nat) : Int) from by omega]; exact u_shr' (by omega)
              rw [u_shr63, onSome_some, u_shl1, onSome_some, hsh, onSome_some, u_and1 (Nat.lt_of_le_of_lt (Nat.div_le_self _ _) hl), onSome_some]
              rw [u_or1 (by omega) (by omega) (by omega), onSome_some]
              have hts := top_step (word := lo) (n := 63 - k)
              rw [show 63 - k + 1 = 64 - k from by omega] at hts
              have hbit : lo / 2 ^ (63 - k) % 2 ≤ 1 := by omega
              generalize hbv : lo / 2 ^ (63 - k) % 2 = bit at *
              have hst := div_step heq hbit
              rw [← hts, show 63 - k = 64 - (k + 1) from by omega] at hst
              have hqb := div_bound (k := k + 1) (c := c) (Q := 2 * Q) (r := 2 * rr + bit) hl (by omega) hR (by rw [hst])
              have hq64 : (2 : Nat) ^ (k + 1) ≤ 2 ^ 64 := Nat.pow_le_pow_right (by decide) (by omega)
              have hqb' : 2 * Q < 18446744073709551616 := by omega
              have hnb : IntKind.i64.wrap (63 - (k : Int) - 1) = 63 - ((k + 1 : Nat) : Int) := by rw [wrap_i64 (by omega) (by omega)]; omega
              have hmea : (intOf (.int .i64 (63 - ((k + 1 : Nat) : Int))) + 1).toNat < (intOf (.int .i64 (63 - (k : Int))) + 1).toNat := by simp only [intOf]; omega
              simp only [q_sub, q_eql, onSome_some]
              rw [hnb]
              have hQm : Q * 2 ^ 1 % 18446744073709551616 = 2 * Q := by omega
              have hptr : q_iaddra 2 1 (.pointer (some { block := w.heap.size + 1, off := 0 })) (.int .i64 ((1 : Nat) : Int)) = some (.pointer (some { block := w.heap.size + 1, off := 1 })) := rfl
              rw [hptr]
              simp only [onSome_some]
              rw [q_load1_at hblk2 (v := .int .u64 Q) (by rfl), onSome_some, u_shl1, onSome_some, hQm]
              rw [l_store1_at hblk2 (by rfl)]
              have hblk3 : blk (putL W2 (w.heap.size + 1) 1 [.int .u64 (2 * Q : Nat)]) (w.heap.size + 1) = some (.cells #[.int .u64 x0, .int .u64 (2 * Q : Nat)] 190 (0, 0)) := by simp [hblk2]
              have hb3 := below_putL hb2 (by omega : w.heap.size ≤ w.heap.size + 1) [.int .u64 (2 * Q : Nat)] 1
              by_cases hlow : 2 * rr + bit < c
              · have e1 : decide (((rr / 2 ^ 63 : Nat) : Int) = 1) = false := decide_eq_false (by omega)
                have e2 : rr * 2 ^ 1 % 18446744073709551616 + bit = 2 * rr + bit := by omega
                have e3 : decide ((c : Int) ≤ ((2 * rr + bit : Nat) : Int)) = false := decide_eq_false (by omega)
                simp only [e1, e2, gateQ_false, if_false, onSome_some, q_geq, q_pick_bool, cond_false, e3, xif_false, Bool.false_eq_true]
                exact ⟨⟨hb3, 2 * rr + bit, k + 1, 2 * Q, by omega, rfl, rfl, hlow, hst, hqb, hblk3⟩, hmea⟩
              · have e5 : IntKind.u64.wrap (((rr * 2 ^ 1 % 18446744073709551616 + bit : Nat) : Int) - (c : Int)) = ((2 * rr + bit - c : Nat) : Int) := by rw [wrap_u64_eq]; omega
                rw [e5]
                have hst2 : R * 2 ^ (k + 1) + lo / 2 ^ (64 - (k + 1)) = (2 * Q + 1) * c + (2 * rr + bit - c) := by rw [Nat.add_mul]; omega
                have hqb2 := div_bound (k := k + 1) (c := c) hl (by omega) hR hst2
                have hblk4 : blk (putL (putL W2 (w.heap.size + 1) 1 [.int .u64 (2 * Q : Nat)]) (w.heap.size + 1) 1 [.int .u64 (2 * Q + 1 : Nat)]) (w.heap.size + 1) = some (.cells #[.int .u64 x0, .int .u64 (2 * Q + 1 : Nat)] 190 (0, 0)) := by simp [hblk2]
                have hb4 := below_putL hb3 (by omega : w.heap.size ≤ w.heap.size + 1) [.int .u64 (2 * Q + 1 : Nat)] 1
                by_cases hcar : 2 ^ 63 ≤ rr
                · have e1 : decide (((rr / 2 ^ 63 : Nat) : Int) = 1) = true := decide_eq_true (by omega)
                  simp only [e1, gateQ_true, if_false, onSome_some, q_pick_bool, cond_true, xif_true, Bool.false_eq_true]
                  rw [q_load1_at hblk3 (v := .int .u64 (2 * Q : Nat)) (by rfl), onSome_some, u_or1' (by omega) (by omega), onSome_some, l_store1_at hblk3 (by rfl)]
                  exact ⟨⟨hb4, 2 * rr + bit - c, k + 1, 2 * Q + 1, by omega, rfl, rfl, by omega, hst2, hqb2, hblk4⟩, hmea⟩
                · have e1 : decide (((rr / 2 ^ 63 : Nat) : Int) = 1) = false := decide_eq_false (by omega)
                  have e2 : rr * 2 ^ 1 % 18446744073709551616 + bit = 2 * rr + bit := by omega
                  have e3 : decide ((c : Int) ≤ ((2 * rr + bit : Nat) : Int)) = true := decide_eq_true (by omega)
                  simp only [e1, e2, gateQ_false, if_false, onSome_some, q_geq, q_pick_bool, cond_false, e3, xif_true, Bool.false_eq_true]
                  rw [q_load1_at hblk3 (v := .int .u64 (2 * Q : Nat)) (by rfl), onSome_some, u_or1' (by omega) (by omega), onSome_some, l_store1_at hblk3 (by rfl)]
                  exact ⟨⟨hb4, 2 * rr + bit - c, k + 1, 2 * Q + 1, by omega, rfl, rfl, by omega, hst2, hqb2, hblk4⟩, hmea⟩
          · have hne : ¬ ((rr : Int) = 0) := by omega
            simp only [hne, decide_false, gateQ_false, if_true, onSome_some, q_pick_bool, cond_false, xif_false]
            have hsh : q_bin .shr (.int .u64 lo) (.int .i64 (63 - (k : Int))) = some (.int .u64 (lo / 2 ^ (63 - k) : Nat)) := by rw [show (63 : Int) - (k : Int) = ((63 - k : Nat) : Int) from by omega]; exact u_shr' (by omega)
            rw [u_shr63, onSome_some, u_shl1, onSome_some, hsh, onSome_some, u_and1 (Nat.lt_of_le_of_lt (Nat.div_le_self _ _) hl), onSome_some]
            rw [u_or1 (by omega) (by omega) (by omega), onSome_some]
            have hts := top_step (word := lo) (n := 63 - k)
            rw [show 63 - k + 1 = 64 - k from by omega] at hts
            have hbit : lo / 2 ^ (63 - k) % 2 ≤ 1 := by omega
            generalize hbv : lo / 2 ^ (63 - k) % 2 = bit at *
            have hst := div_step heq hbit
            rw [← hts, show 63 - k = 64 - (k + 1) from by omega] at hst
            have hqb := div_bound (k := k + 1) (c := c) (Q := 2 * Q) (r := 2 * rr + bit) hl (by omega) hR (by rw [hst])
            have hq64 : (2 : Nat) ^ (k + 1) ≤ 2 ^ 64 := Nat.pow_le_pow_right (by decide) (by omega)
            have hqb' : 2 * Q < 18446744073709551616 := by omega
            have hnb : IntKind.i64.wrap (63 - (k : Int) - 1) = 63 - ((k + 1 : Nat) : Int) := by rw [wrap_i64 (by omega) (by omega)]; omega
            have hmea : (intOf (.int .i64 (63 - ((k + 1 : Nat) : Int))) + 1).toNat < (intOf (.int .i64 (63 - (k : Int))) + 1).toNat := by simp only [intOf]; omega
            simp only [q_sub, q_eql, onSome_some]
            rw [hnb]
            have hQm : Q * 2 ^ 1 % 18446744073709551616 = 2 * Q := by omega
            have hptr : q_iaddra 2 1 (.pointer (some { block := w.heap.size + 1, off := 0 })) (.int .i64 ((1 : Nat) : Int)) = some (.pointer (some { block := w.heap.size + 1, off := 1 })) := rfl
            rw [hptr]
            simp only [onSome_some]
            rw [q_load1_at hblk2 (v := .int .u64 Q) (by rfl), onSome_some, u_shl1, onSome_some, hQm]
            rw [l_store1_at hblk2 (by rfl)]
            have hblk3 : blk (putL W2 (w.heap.size + 1) 1 [.int .u64 (2 * Q : Nat)]) (w.heap.size + 1) = some (.cells #[.int .u64 x0, .int .u64 (2 * Q : Nat)] 190 (0, 0)) := by simp [hblk2]
            have hb3 := below_putL hb2 (by omega : w.heap.size ≤ w.heap.size + 1) [.int .u64 (2 * Q : Nat)] 1
            by_cases hlow : 2 * rr + bit < c
            · have e1 : decide (((rr / 2 ^ 63 : Nat) : Int) = 1) = false := decide_eq_false (by omega)
              have e2 : rr * 2 ^ 1 % 18446744073709551616 + bit = 2 * rr + bit := by omega
              have e3 : decide ((c : Int) ≤ ((2 * rr + bit : Nat) : Int)) = false := decide_eq_false (by omega)
              simp only [e1, e2, gateQ_false, if_false, onSome_some, q_geq, q_pick_bool, cond_false, e3, xif_false, Bool.false_eq_true]
              exact ⟨⟨hb3, 2 * rr + bit, k + 1, 2 * Q, by omega, rfl, rfl, hlow, hst, hqb, hblk3⟩, hmea⟩
            · have e5 : IntKind.u64.wrap (((rr * 2 ^ 1 % 18446744073709551616 + bit : Nat) : Int) - (c : Int)) = ((2 * rr + bit - c : Nat) : Int) := by rw [wrap_u64_eq]; omega
              rw [e5]
              have hst2 : R * 2 ^ (k + 1) + lo / 2 ^ (64 - (k + 1)) = (2 * Q + 1) * c + (2 * rr + bit - c) := by rw [Nat.add_mul]; omega
              have hqb2 := div_bound (k := k + 1) (c := c) hl (by omega) hR hst2
              have hblk4 : blk (putL (putL W2 (w.heap.size + 1) 1 [.int .u64 (2 * Q : Nat)]) (w.heap.size + 1) 1 [.int .u64 (2 * Q + 1 : Nat)]) (w.heap.size + 1) = some (.cells #[.int .u64 x0, .int .u64 (2 * Q + 1 : Nat)] 190 (0, 0)) := by simp [hblk2]
              have hb4 := below_putL hb3 (by omega : w.heap.size ≤ w.heap.size + 1) [.int .u64 (2 * Q + 1 : Nat)] 1
              by_cases hcar : 2 ^ 63 ≤ rr
              · have e1 : decide (((rr / 2 ^ 63 : Nat) : Int) = 1) = true := decide_eq_true (by omega)
                simp only [e1, gateQ_true, if_false, onSome_some, q_pick_bool, cond_true, xif_true, Bool.false_eq_true]
                rw [q_load1_at hblk3 (v := .int .u64 (2 * Q : Nat)) (by rfl), onSome_some, u_or1' (by omega) (by omega), onSome_some, l_store1_at hblk3 (by rfl)]
                exact ⟨⟨hb4, 2 * rr + bit - c, k + 1, 2 * Q + 1, by omega, rfl, rfl, by omega, hst2, hqb2, hblk4⟩, hmea⟩
              · have e1 : decide (((rr / 2 ^ 63 : Nat) : Int) = 1) = false := decide_eq_false (by omega)
                have e2 : rr * 2 ^ 1 % 18446744073709551616 + bit = 2 * rr + bit := by omega
                have e3 : decide ((c : Int) ≤ ((2 * rr + bit : Nat) : Int)) = true := decide_eq_true (by omega)
                simp only [e1, e2, gateQ_false, if_false, onSome_some, q_geq, q_pick_bool, cond_false, e3, xif_true, Bool.false_eq_true]
                rw [q_load1_at hblk3 (v := .int .u64 (2 * Q : Nat)) (by rfl), onSome_some, u_or1' (by omega) (by omega), onSome_some, l_store1_at hblk3 (by rfl)]
                exact ⟨⟨hb4, 2 * rr + bit - c, k + 1, 2 * Q + 1, by omega, rfl, rfl, by omega, hst2, hqb2, hblk4⟩, hmea⟩
        · have hk64 : k = 64 := by omega
          subst hk64
          simp only [Nat.sub_self, Nat.pow_zero, Nat.div_one] at heq
          simp
          refine ⟨⟨hb2, rr, 2, _, _, rfl, ?_, ?_, hgood.next hii2 heq hrr⟩, ?_⟩
          · rfl
          · simp [hblk2]
          · decide
    · have h2 : ii = 2 := by rcases hgood with ⟨h, _⟩ | ⟨h, _⟩ | ⟨h, _⟩ <;> omega
      rcases hgood with ⟨h, _⟩ | ⟨h, _⟩ | ⟨_, h3, h4, h5⟩ <;> try omega
      simp [hblk]
      rw [h3, h4, h5]
      exact hK _ (below_putL hb (by omega) _ _)
end Go.X
end
section
set_option linter.unusedVariables false
set_option linter.unusedSimpArgs false
namespace Go.X
open Go.Proofs Go.RowKit
def I64 (n : Int) : Prop := -9223372036854775808 ≤ n ∧ n < 9223372036854775808
theorem I64.wrap (x : Int) : I64 (IntKind.i64.wrap x) := by unfold I64; rw [IntKind.wrap_i64]; omega
theorem I64.same {x : Int} (h : I64 x) : IntKind.i64.wrap x = x := wrap_i64 h.1 h.2
/-- A quotient rounded half to even. -/
def rnd (p c : Nat) : Nat := if awayE (decide (p / c % 2 = 1)) (p % c) c = true then p / c + 1 else p / c
/-- The sign of a * b / c. -/
def negV (a b c : Int) : Bool := decide (a.natAbs * b.natAbs ≠ 0) && ((decide (a < 0) != decide (b < 0)) != decide (c < 0))
def sgnV (neg : Bool) (n : Nat) : Int × Int := if neg = true then (if n ≤ 9223372036854775808 then (-(n : Int), 0) else (0, 4)) else (if n < 9223372036854775808 then ((n : Int), 0) else (0, 4))
/-- What MulDiv answers: the value and the error's number. -/
def mdV (a b c : Int) : Int × Int := if c = 0 then (0, 2) else sgnV (negV a b c) (rnd (a.natAbs * b.natAbs) c.natAbs)
theorem sgnV_big {neg : Bool} {n : Nat} (h : 18446744073709551616 ≤ n) : sgnV neg n = (0, 4) := by
  have h1 : ¬ n ≤ 9223372036854775808 := by omega
  have h2 : ¬ n < 9223372036854775808 := by omega
  unfold sgnV
  rw [if_neg h1, if_neg h2]
  exact ite_self _
theorem signed_all {neg : Bool} {n : Nat} {w : World} (h : n < 18446744073709551616) :
    Calc 170 [.bool neg, .int .u64 n] w (.tuple #[.int .i64 (sgnV neg n).1, .int .i64 (sgnV neg n).2]) := by
  by_cases hg : if neg = true then n ≤ 9223372036854775808 else n < 9223372036854775808
  · have e : sgnV neg n = ((if neg = true then -(n : Int) else n), 0) := by
      unfold sgnV
      cases neg <;> simp at hg <;> simp [hg]
    rw [e]
    exact signed_ok hg
  · intro K hK
    refine lift170 ?_
    unfold L170
    cases neg with
    | true =>
      simp at hg
      have e : sgnV true n = (0, 4) := by simp [sgnV]; omega
      have h1 : (9223372036854775808 : Int) < n := by omega
      rw [e] at hK
      simp [h1]
      exact hK _ (Below.refl _ _)
    | false =>
      simp at hg
      have e : sgnV false n = (0, 4) := by simp [sgnV]; omega
      have h1 : (9223372036854775808 : Int) ≤ n := by omega
      rw [e] at hK
      simp [h1]
      exact hK _ (Below.refl _ _)
theorem int188 : intTy Tryz.prog 188 = true := by kernel_rfl
theorem grd190 : Tryz.prog.eqGuardType Tryz.prog.depth 190 = false := by kernel_rfl
theorem bool4 : Tryz.prog.underlying 4 = some .bool := by kernel_rfl
theorem _root_.Go.RowKit.Below.then {a b c : World} (h : Below a.heap.size a b) (h' : Below b.heap.size b c) : Below a.heap.size a c := Below.trans h (Below.mono h' h.size)
/-- The memory of MulDiv behind its quotient. -/
def MdJ (w : World) (x0 x1 r : Nat) (q rv : Value) (W : World) : Prop :=
  Below w.heap.size w W ∧ ∃ B, w.heap.size ≤ B ∧ q = .pointer (some ⟨B, 0, none⟩) ∧ rv = .int .u64 r ∧ blk W B = some (.cells #[.int .u64 x0, .int .u64 x1] 190 (0, 0))
theorem divide_eq {hi lo c x0 x1 r : Nat} {w : World} (hh : hi < 18446744073709551616) (hl : lo < 18446744073709551616) (h0 : 0 < c) (hc : c < 18446744073709551616) (e0 : x0 = hi / c) (e1 : x1 = (hi % c * 18446744073709551616 + lo) / c) (e2 : r = (hi % c * 18446744073709551616 + lo) % c) :
    Calc 168 [.agg #[.int .u64 hi, .int .u64 lo], .int .u64 c] w (.tuple #[.agg #[.int .u64 x0, .int .u64 x1], .int .u64 r]) := by
  subst e0 e1 e2
  exact divide_ok hh hl h0 hc
theorem md_ok {a b c : Int} {w : World} (ha : I64 a) (hb : I64 b) (hc : I64 c) :
    Calc 116 [.int .i64 a, .int .i64 b, .int .i64 c, .int .i64 4] w (.tuple #[.int .i64 (mdV a b c).1, .int .i64 (mdV a b c).2]) := by
  intro K hK
  refine lift116 ?_
  unfold L116
  simp
  refine xif_dec (fun h0 => ?_) (fun h0 => ?_)
  · have e : mdV a b c = (0, 2) := by simp [mdV, h0]
    rw [e] at hK
    exact hK _ (Below.refl _ _)
  · have e : mdV a b c = sgnV (negV a b c) (rnd (a.natAbs * b.natAbs) c.natAbs) := by simp [mdV, h0]
    rw [e] at hK
    refine mag_ok ha.1 ha.2 _ (fun w1 hb1 => ?_)
    refine mag_ok hb.1 hb.2 _ (fun w2 hb2 => ?_)
    have ha' : a.natAbs < 18446744073709551616 := by unfold I64 at ha; omega
    have hb' : b.natAbs < 18446744073709551616 := by unfold I64 at hb; omega
    have hc' : c.natAbs < 18446744073709551616 := by unfold I64 at hc; omega
    have hc0 : 0 < c.natAbs := by omega
    have hp : a.natAbs * b.natAbs < 18446744073709551616 * 18446744073709551616 := Nat.mul_lt_mul'' ha' hb'
    refine mul_ok ha' hb' _ (fun w3 hb3 => ?_)
    have hb03 := (hb1.then hb2).then hb3
    generalize hP : a.natAbs * b.natAbs = p at *
    obtain ⟨hi, hhi⟩ : ∃ hi, hi = p / 18446744073709551616 := ⟨_, rfl⟩
    obtain ⟨lo, hlo⟩ : ∃ lo, lo = p % 18446744073709551616 := ⟨_, rfl⟩
    rw [← hhi, ← hlo]
    have hpe : p = hi * 18446744073709551616 + lo := by omega
    have hhi' : hi < 18446744073709551616 := by omega
    have hlo' : lo < 18446744073709551616 := by omega
    clear hhi hlo
    have hz : decide ((hi : Int) = 0 ∧ (lo : Int) = 0) = decide (p = 0) := decide_eq_decide.mpr (by omega)
    simp only [l_new]
    rw [l_store_to (by simp), show q_loadn 2 _ _ = some (.agg #[.int .u64 hi, .int .u64 lo]) by simp, onSome_some, show q_build _ [] = some (.agg #[.int .u64 0, .int .u64 0]) from rfl, onSome_some,
      q_neq_arr2 u190 int188 grd190, onSome_some, hz]
    have hneg : ∀ (G : Value → Prop), G (.bool (negV a b c)) → (onSome (gateQ true (.bool (!decide (p = 0))) (some (.int .i64 a))) fun t32 =>
 onSome (gateQ true (.bool (!decide (p = 0))) (q_bin .lss t32 (.int .i64 0))) fun t33 =>
 onSome (gateQ true (.bool (!decide (p = 0))) (some (.int .i64 b))) fun t34 =>
 onSome (gateQ true (.bool (!decide (p = 0))) (q_bin .lss t34 (.int .i64 0))) fun t35 =>
 onSome (gateQ true (.bool (!decide (p = 0))) (q_eq Tryz.prog .neq 4 t33 t35)) fun t36 =>
 onSome (gateQ true (.bool (!decide (p = 0))) (some (.int .i64 c))) fun t37 =>
 onSome (gateQ true (.bool (!decide (p = 0))) (q_bin .lss t37 (.int .i64 0))) fun t38 =>
 onSome (gateQ true (.bool (!decide (p = 0))) (q_eq Tryz.prog .neq 4 t36 t38)) fun t39 =>
 onSome (q_pick (.bool (!decide (p = 0))) t39 (.bool false)) fun t40 => G t40) := by
      intro G hG
      by_cases h : p = 0
      · have e : negV a b c = false := by simp [negV, hP, h]
        rw [e] at hG
        simpa [h] using hG
      · have e : negV a b c = ((decide (a < 0) != decide (b < 0)) != decide (c < 0)) := by simp [negV, hP, h]
        rw [e] at hG
        simpa [h, (q_eq_bool bool4 _ _).2] using hG
    refine hneg (fun t40 => _) ?_
    generalize negV a b c = neg at *
    have hw5 : ∀ w5 : World, w5 = (putL (w3.alloc (Obj.cells #[Value.int IntKind.u64 0, Value.int IntKind.u64 0] 190)) w3.heap.size 0 (Value.agg #[Value.int IntKind.u64 ↑hi, Value.int IntKind.u64 ↑lo]).cells.toList).drew →
        Below w.heap.size w w5 ∧ blk w5 w3.heap.size = some (.cells #[.int .u64 hi, .int .u64 lo] 190 (0, 0)) := by
      intro w5 e5
      subst e5
      refine ⟨(below_putL (hb03.alloc hb03.size _) hb03.size _ _).drew, ?_⟩
      simp
    generalize (putL (w3.alloc (Obj.cells #[Value.int IntKind.u64 0, Value.int IntKind.u64 0] 190)) w3.heap.size 0 (Value.agg #[Value.int IntKind.u64 ↑hi, Value.int IntKind.u64 ↑lo]).cells.toList).drew = w5 at *
    obtain ⟨hb5, hk5⟩ := hw5 w5 rfl
    clear hw5 hneg
    have h35 := lt_of_blk hk5
    have h03 := hb03.size
    obtain ⟨x0, e0⟩ : ∃ x0, x0 = hi / c.natAbs := ⟨_, rfl⟩
    obtain ⟨x1, e1⟩ : ∃ x1, x1 = (hi % c.natAbs * 18446744073709551616 + lo) / c.natAbs := ⟨_, rfl⟩
    obtain ⟨r, e2⟩ : ∃ r, r = (hi % c.natAbs * 18446744073709551616 + lo) % c.natAbs := ⟨_, rfl⟩
    refine joining_i (MdJ w x0 x1 r) ⟨?_, ?_⟩
    · rw [show q_loadn 2 (.pointer (some { block := w3.heap.size, off := 0 })) w5 = some (.agg #[.int .u64 hi, .int .u64 lo]) by simp [hk5], onSome_some]
      refine ⟨?_, ?_⟩
      · refine mag_ok hc.1 hc.2 _ (fun w6 hb6 => ?_)
        have hk6 : blk w6 w3.heap.size = _ := (blk_below hb6 h35).trans hk5
        have h36 := lt_of_blk hk6
        rw [show q_loadn 2 (.pointer (some { block := w3.heap.size, off := 0 })) w6 = some (.agg #[.int .u64 hi, .int .u64 lo]) by simp [hk6], eq_self, ob_true]
        refine ⟨?_, ?_⟩
        · refine divide_eq hhi' hlo' hc0 hc' e0 e1 e2 _ (fun w7 hb7 => ?_)
          have hb07 := (hb5.then hb6).then hb7
          simp
          refine ⟨below_putL (hb07.alloc hb07.size _) hb07.size _ _, _, hb07.size, rfl, rfl, ?_⟩
          simp
        · have ne6 : ¬ w3.heap.size = w6.heap.size := by omega
          have hb06 := hb5.then hb6
          have hb6a := hb06.alloc hb06.size (Obj.cells #[Value.int IntKind.u64 0, Value.int IntKind.u64 0] 190)
          rw [show q_loadn 2 (.pointer (some { block := w3.heap.size, off := 0 })) (w6.alloc (Obj.cells #[Value.int IntKind.u64 0, Value.int IntKind.u64 0] 190)) = some (.agg #[.int .u64 hi, .int .u64 lo]) by simp [hk6, ne6], eq_self, ob_true]
          have hn6 : blk (w6.alloc (Obj.cells #[Value.int IntKind.u64 0, Value.int IntKind.u64 0] 190)) w6.heap.size = some (.cells #[.int .u64 0, .int .u64 0] 190 (0, 0)) := by simp
          generalize (w6.alloc (Obj.cells #[Value.int IntKind.u64 0, Value.int IntKind.u64 0] 190)) = w6a at *
          refine divide_eq hhi' hlo' hc0 hc' e0 e1 e2 _ (fun w7 hb7 => ?_)
          have hn7 := (blk_below hb7 (lt_of_blk hn6)).trans hn6
          have hb07 := hb6a.then hb7
          simp [hn7]
          refine ⟨below_putL hb07 hb06.size _ _, _, hb06.size, rfl, rfl, ?_⟩
          simp [hn7]
      · have ne5 : ¬ w3.heap.size = w5.heap.size := by omega
        have hb5a := hb5.alloc hb5.size (Obj.cells #[Value.int IntKind.u64 0, Value.int IntKind.u64 0] 190)
        have hk5a : blk (w5.alloc (Obj.cells #[Value.int IntKind.u64 0, Value.int IntKind.u64 0] 190)) w3.heap.size = some (.cells #[.int .u64 hi, .int .u64 lo] 190 (0, 0)) := by simp [hk5, ne5]
        have hn5 : blk (w5.alloc (Obj.cells #[Value.int IntKind.u64 0, Value.int IntKind.u64 0] 190)) w5.heap.size = some (.cells #[.int .u64 0, .int .u64 0] 190 (0, 0)) := by simp
        generalize (w5.alloc (Obj.cells #[Value.int IntKind.u64 0, Value.int IntKind.u64 0] 190)) = w5a at *
        rw [show q_loadn 2 (.pointer (some { block := w3.heap.size, off := 0 })) w5a = some (.agg #[.int .u64 hi, .int .u64 lo]) by simp [hk5a], eq_self, ob_true]
        refine mag_ok hc.1 hc.2 _ (fun w6 hb6 => ?_)
        have hk6 := (blk_below hb6 (lt_of_blk hk5a)).trans hk5a
        have hn6 := (blk_below hb6 (lt_of_blk hn5)).trans hn5
        rw [show q_loadn 2 (.pointer (some { block := w3.heap.size, off := 0 })) w6 = some (.agg #[.int .u64 hi, .int .u64 lo]) by simp [hk6], eq_self, ob_true]
        refine divide_eq hhi' hlo' hc0 hc' e0 e1 e2 _ (fun w7 hb7 => ?_)
        have hn7 := (blk_below hb7 (lt_of_blk hn6)).trans hn6
        have hb07 := (hb5a.then hb6).then hb7
        simp [hn7]
        refine ⟨below_putL hb07 hb5.size _ _, _, hb5.size, rfl, rfl, ?_⟩
        simp [hn7]
    · rintro q rv W ⟨hbW, B, hB, rfl, rfl, hkW⟩
      have hr : r < c.natAbs := by rw [e2]; exact Nat.mod_lt _ hc0
      have hx0 : x0 < 18446744073709551616 := by rw [e0]; exact Nat.lt_of_le_of_lt (Nat.div_le_self _ _) hhi'
      have hx1 : x1 < 18446744073709551616 := by
        rw [e1, Nat.div_lt_iff_lt_mul hc0]
        have : hi % c.natAbs + 1 ≤ c.natAbs := Nat.mod_lt _ hc0
        have := Nat.mul_le_mul_right 18446744073709551616 this
        omega
      have hpq : p / c.natAbs = x0 * 18446744073709551616 + x1 ∧ p % c.natAbs = r := by
        have a1 := Nat.div_add_mod hi c.natAbs
        have a2 := Nat.div_add_mod (hi % c.natAbs * 18446744073709551616 + lo) c.natAbs
        rw [← e0] at a1
        rw [← e1, ← e2] at a2
        have a3 : p = c.natAbs * (x0 * 18446744073709551616 + x1) + r := by
          rw [hpe, ← a1, Nat.add_mul, Nat.add_assoc, ← a2, Nat.mul_add, Nat.mul_assoc]
          omega
        rw [a3]
        constructor
        · rw [Nat.mul_add_div hc0, Nat.div_eq_of_lt hr, Nat.add_zero]
        · rw [Nat.mul_add_mod, Nat.mod_eq_of_lt hr]
      clear e0 e1 e2
      simp [hkW]
      refine xif_ndec (fun hh => ?_) (fun hh => ?_)
      · have hbig : 18446744073709551616 ≤ rnd p c.natAbs := by
          unfold rnd
          rw [hpq.1]
          split <;> omega
        rw [sgnV_big hbig] at hK
        exact hK _ hbW
      · have hx00 : x0 = 0 := by omega
        subst hx00
        rw [Nat.zero_mul, Nat.zero_add] at hpq
        refine joining_i (fun v W' => Below w.heap.size w W' ∧ v = .int .u64 (rnd p c.natAbs) ∧ rnd p c.natAbs < 18446744073709551616) ⟨?_, ?_⟩
        · have hrem : (x1 : Int).tmod 2 = ((x1 % 2 : Nat) : Int) := rfl
          refine mag_ok hc.1 hc.2 _ (fun w8 hb8 => ?_)
          have hod : decide ((x1 : Int).tmod 2 = 1) = decide (x1 % 2 = 1) := by rw [hrem]; exact decide_eq_decide.mpr (by omega)
          rw [hod]
          refine away_ok hr hc' _ (fun w9 hb9 => ?_)
          have hb09 := (hbW.then hb8).then hb9
          have hrn : rnd p c.natAbs = if awayE (decide (x1 % 2 = 1)) r c.natAbs = true then x1 + 1 else x1 := by unfold rnd; rw [hpq.1, hpq.2]
          refine xif_bool (fun ht => ?_) (fun ht => ?_)
          · rw [if_pos ht] at hrn
            refine xif_dec (fun hz2 => ?_) (fun hz2 => ?_)
            · have hbig : 18446744073709551616 ≤ rnd p c.natAbs := by
                rw [wrap_u64_eq] at hz2
                omega
              rw [sgnV_big hbig] at hK
              exact hK _ hb09
            · rw [wrap_u64_eq] at hz2
              refine ⟨hb09, ?_, by omega⟩
              rw [wrap_u64_eq, hrn]
              congr 1
              omega
          · rw [if_neg (by rw [ht]; exact Bool.false_ne_true)] at hrn
            exact ⟨hb09, by rw [hrn], by omega⟩
        · rintro v W2 ⟨hb2', rfl, hlt⟩
          refine signed_all hlt _ (fun w9 hb9 => ?_)
          simp
          exact hK _ (hb2'.then hb9)
end Go.X
end
section
set_option linter.unusedVariables false
set_option linter.unusedSimpArgs false
namespace Go.X
open Go.Proofs Go.RowKit

/-! ### Words -/
def letterV (c : Int) : Bool := decide (97 ≤ c ∧ c ≤ 122) || decide (65 ≤ c ∧ c ≤ 90) || decide (c = 95)
def digitV (c : Int) : Bool := decide (48 ≤ c ∧ c ≤ 57)
theorem letter_ok {c : Int} {w : World} : Calc 163 [.int .u8 c] w (.bool (letterV c)) := by
  intro K hK
  refine lift163 ?_
  unfold L163
  have h := hK _ (Below.refl _ w)
  unfold letterV at h
  by_cases h1 : 97 ≤ c <;> by_cases h2 : c ≤ 122 <;> by_cases h3 : 65 ≤ c <;> by_cases h4 : c ≤ 90 <;> by_cases h5 : c = 95 <;> simp [h1, h2, h3, h4, h5] at h ⊢ <;> first | exact h | omega
theorem digit_ok {c : Int} {w : World} : Calc 164 [.int .u8 c] w (.bool (digitV c)) := by
  intro K hK
  refine lift164 ?_
  unfold L164
  have h := hK _ (Below.refl _ w)
  unfold digitV at h
  by_cases h1 : 48 ≤ c <;> by_cases h2 : c ≤ 57 <;> simp [h1, h2] at h ⊢ <;> exact h
def wordV (c : Int) : Bool := letterV c || digitV c
theorem word_ok {c : Int} {w : World} : Calc 162 [.int .u8 c] w (.bool (wordV c)) := by
  intro K hK
  refine lift162 ?_
  unfold L162
  refine letter_ok _ (fun w1 hb1 => ?_)
  unfold wordV at hK
  cases hl : letterV c with
  | true =>
    rw [hl] at hK
    simp
    exact hK _ hb1
  | false =>
    rw [hl] at hK
    simp
    refine digit_ok _ (fun w2 hb2 => ?_)
    exact hK _ (hb1.then hb2)
theorem q_index_str {P : Program} {t : TypeId} (hu : P.underlying t = some .string) {s : ByteArray} {k : IntKind} {i : Nat} (hi : i < s.size) :
    q_index P t (.string s) (.int k (i : Int)) = some (.int .u8 (s[i].toNat : Nat)) := by
  unfold q_index Instr.index
  rw [prb (a := (k, (i : Int))) rfl]
  simp only
  rw [prb (pr_underlying hu)]
  have h1 : (if (0 : Int) ≤ (i : Int) then s[((i : Int)).toNat]? else none) = some s[i] := by
    rw [if_pos (by omega)]
    simp [hi]
  simp only [h1]
  rfl
theorem str9 : Tryz.prog.underlying 9 = some .string := by kernel_rfl
theorem body162 : bodied Tryz.prog 162 = true := by kernel_rfl
def everyV (s : ByteArray) (n : Nat) : Bool := (List.range n).all fun i => if h : i < s.size then wordV (s[i].toNat : Nat) else true
theorem everyV_succ {s : ByteArray} {n : Nat} (h : n < s.size) : everyV s (n + 1) = (everyV s n && wordV (s[n].toNat : Nat)) := by
  unfold everyV
  rw [List.range_succ, List.all_append]
  simp [h]
theorem everyV_ext {s : ByteArray} {n m : Nat} (h : everyV s n = false) (hm : n ≤ m) : everyV s m = false := by
  unfold everyV at h ⊢
  rw [List.all_eq_false] at h ⊢
  obtain ⟨x, hx, h2⟩ := h
  refine ⟨x, ?_, h2⟩
  rw [List.mem_range] at hx ⊢
  omega
theorem every_ok {s : ByteArray} {w : World} (hs : (s.size : Int) < 9223372036854775807) : Calc 161 [.string s, .func (.func 162) #[] #[]] w (.bool (everyV s s.size)) := by
  intro K hK
  refine lift161 ?_
  unfold L161
  simp only [q_slen_string, onSome_some]
  refine looping_i (fun v W => ∃ i : Nat, i ≤ s.size ∧ v = .int .i64 i ∧ Below w.heap.size w W ∧ everyV s i = true) (fun v W => (s.size - (intOf v)).toNat) ⟨⟨0, by omega, rfl, Below.refl _ _, rfl⟩, ?_⟩
  rintro v W ⟨i, hi, rfl, hb, he⟩ _
  simp only [q_lss, onSome_some]
  refine xif_dec (fun hlt => ?_) (fun hlt => ?_)
  · have hi' : i < s.size := by omega
    rw [q_index_str str9 hi', onSome_some]
    refine ⟨body162, ?_⟩
    refine word_ok _ (fun w2 hb2 => ?_)
    simp
    have hes := everyV_succ hi'
    rw [he, Bool.true_and] at hes
    cases hw : wordV (s[i].toNat : Nat) with
    | false =>
      have : everyV s s.size = false := everyV_ext (n := i + 1) (by rw [hes]; exact hw) hi'
      rw [this] at hK
      simp
      exact hK _ (hb.then hb2)
    | true =>
      simp
      have e : IntKind.i64.wrap ((i : Int) + 1) = ((i + 1 : Nat) : Int) := by rw [wrap_i64 (by omega) (by omega)]; omega
      rw [e]
      refine ⟨⟨i + 1, by omega, rfl, hb.then hb2, by rw [hes]; exact hw⟩, ?_⟩
      simp only [intOf]
      omega
  · have : i = s.size := by omega
    subst this
    rw [he] at hK
    exact hK _ hb
def codeV (s : ByteArray) : Bool := decide (s.size ≠ 0 ∧ s.size ≤ 12) && everyV s s.size
theorem code_ok {s : ByteArray} {w : World} : Calc 105 [.string s] w (.bool (codeV s)) := by
  intro K hK
  refine lift105 ?_
  unfold L105
  unfold codeV at hK
  have e0 : (s = ⟨#[]⟩) ↔ s.size = 0 := by
    constructor
    · intro h; rw [h]; rfl
    · intro h
      have : s.data = #[] := Array.eq_empty_of_size_eq_zero h
      cases s
      simp_all
  by_cases h0 : s.size = 0
  · have hs : s = ⟨#[]⟩ := e0.mpr h0
    simp [h0] at hK
    simp [hs]
    exact hK _ (Below.refl _ _)
  · have hs : ¬ s = ⟨#[]⟩ := fun h => h0 (e0.mp h)
    by_cases h1 : s.size ≤ 12
    · have h1' : (s.size : Int) ≤ 12 := by omega
      simp [hs, h1']
      refine every_ok (by omega) _ (fun w2 hb2 => ?_)
      simp [h0, h1] at hK
      exact hK _ hb2
    · have h1' : ¬ (s.size : Int) ≤ 12 := by omega
      simp [h1] at hK
      simp [hs, h1']
      exact hK _ (Below.refl _ _)
end Go.X
end
section
set_option linter.unusedVariables false
set_option linter.unusedSimpArgs false
namespace Go.X
open Go.Proofs Go.RowKit
def cellInt (w : World) (b i : Nat) : Int := match cellO (blk w b) i with | some v => intOf v | none => 0
theorem cellInt_of {w : World} {b i : Nat} {c : Array Value} {t : TypeId} {f : Nat × Nat} (h : blk w b = some (.cells c t f)) {v : Value} (hv : c[i]? = some v) : cellInt w b i = intOf v := by
  unfold cellInt
  rw [h]
  simp [hv]
/-- The days of the months of a year without a leap day. -/
def monthV (m : Int) : Int := if m = 2 then 28 else if m = 4 ∨ m = 6 ∨ m = 9 ∨ m = 11 then 30 else 31
/-- The program's table of them lies where the loader has laid it. -/
def Tab (w : World) : Prop := ∀ i : Nat, i < 12 → w.cell? ⟨0, i, none⟩ = some (.int .i64 (monthV (i + 1)))
theorem Tab.pos {w : World} (h : Tab w) : 0 < w.heap.size := World.block_lt_of_cell? w ⟨0, 0, none⟩ (h 0 (by decide))
theorem Tab.below {w w' : World} (h : Tab w) (hb : Below w.heap.size w w') : Tab w' := fun i hi => (hb.cell (p := ⟨0, i, none⟩) h.pos).trans (h i hi)
def leapV (y : Int) : Bool := decide ((y % 4 = 0 ∧ y % 100 ≠ 0) ∨ y % 400 = 0)
theorem leap_ok {y : Int} {w : World} (h0 : 0 ≤ y) : Calc 231 [.int .i64 y] w (.bool (leapV y)) := by
  intro K hK
  refine lift231 ?_
  unfold L231
  have h := hK _ (Below.refl _ w)
  unfold leapV at h
  have e4 : y.tmod 4 = y % 4 := Int.tmod_eq_emod_of_nonneg h0
  have e100 : y.tmod 100 = y % 100 := Int.tmod_eq_emod_of_nonneg h0
  have e400 : y.tmod 400 = y % 400 := Int.tmod_eq_emod_of_nonneg h0
  by_cases h1 : y % 4 = 0 <;> by_cases h2 : y % 100 = 0 <;> by_cases h3 : y % 400 = 0 <;> simp [e4, e100, e400, h1, h2, h3] at h ⊢ <;> exact h
def beforeV (y : Int) : Int := 365 * (y - 1900) + ((y - 1) / 4 - (y - 1) / 100 + (y - 1) / 400 - 460)
theorem before_ok {y : Int} {w : World} (h0 : 1 ≤ y) (h1 : y ≤ 3000) : Calc 208 [.int .i64 y] w (.int .i64 (beforeV y)) := by
  intro K hK
  refine lift208 ?_
  unfold L208
  have h := hK _ (Below.refl _ w)
  simp
  have e1 : IntKind.i64.wrap (y - 1) = y - 1 := wrap_i64 (by omega) (by omega)
  have e4 : (y - 1).tdiv 4 = (y - 1) / 4 := Int.tdiv_eq_ediv_of_nonneg (by omega)
  have e100 : (y - 1).tdiv 100 = (y - 1) / 100 := Int.tdiv_eq_ediv_of_nonneg (by omega)
  have e400 : (y - 1).tdiv 400 = (y - 1) / 400 := Int.tdiv_eq_ediv_of_nonneg (by omega)
  rw [e1, e4, e100, e400]
  have e : ∀ x : Int, IntKind.i64.wrap x = (x + 9223372036854775808) % 18446744073709551616 - 9223372036854775808 := IntKind.wrap_i64
  have e5 : IntKind.i64.wrap (IntKind.i64.wrap (365 * IntKind.i64.wrap (y - 1900)) + IntKind.i64.wrap (IntKind.i64.wrap (IntKind.i64.wrap (IntKind.i64.wrap (IntKind.i64.wrap (IntKind.i64.wrap ((y - 1) / 4) - IntKind.i64.wrap ((y - 1) / 100)) + IntKind.i64.wrap ((y - 1) / 400)) - 474) + 18) - 4)) = beforeV y := by
    unfold beforeV
    simp only [e]
    omega
  rw [e5]
  exact h
def lenV (y m : Int) : Int := if m < 1 ∨ 12 < m then 0 else if m = 2 ∧ leapV y = true then 29 else monthV m
theorem len_ok {y m : Int} {w : World} (h0 : 0 ≤ y) (hm : I64 m) (ht : Tab w) : Calc 209 [.int .i64 y, .int .i64 m] w (.int .i64 (lenV y m)) := by
  intro K hK
  refine lift209 ?_
  unfold L209
  by_cases h1 : m < 1
  · have e : lenV y m = 0 := by unfold lenV; rw [if_pos (.inl h1)]
    rw [e] at hK
    simp [h1]
    exact hK _ (Below.refl _ _)
  · by_cases h12 : 12 < m
    · have e : lenV y m = 0 := by unfold lenV; rw [if_pos (.inr h12)]
      rw [e] at hK
      simp [h1, h12]
      exact hK _ (Below.refl _ _)
    · have hin : ¬ (m < 1 ∨ 12 < m) := by omega
      obtain ⟨i, hi, rfl⟩ : ∃ i : Nat, i < 12 ∧ m = (i : Int) + 1 := ⟨(m - 1).toNat, by omega, by omega⟩
      have ei : IntKind.i64.wrap ((i : Int) + 1 - 1) = i := by rw [wrap_i64 (by omega) (by omega)]; omega
      by_cases h2 : (i : Int) + 1 = 2
      · have e : lenV y ((i : Int) + 1) = if leapV y = true then 29 else monthV 2 := by unfold lenV; rw [if_neg hin, h2]; simp
        rw [e] at hK
        have hi1 : i = 1 := by omega
        subst hi1
        simp
        refine leap_ok h0 _ (fun w2 hb2 => ?_)
        refine xif_bool (fun hl => ?_) (fun hl => ?_)
        · rw [if_pos hl] at hK
          exact hK _ hb2
        · rw [if_neg (by rw [hl]; exact Bool.false_ne_true)] at hK
          have hc := (ht.below hb2) 1 (by decide)
          rw [cell_mk] at hc
          have ew : IntKind.i64.wrap 1 = 1 := by decide
          rw [ew]
          simp [hc]
          exact hK _ hb2
      · have e : lenV y ((i : Int) + 1) = monthV ((i : Int) + 1) := by unfold lenV; rw [if_neg hin, if_neg (by simp [h2])]
        rw [e] at hK
        have hc := ht i hi
        rw [cell_mk] at hc
        have ei' : IntKind.i64.wrap (i : Int) = i := wrap_i64 (by omega) (by omega)
        have hi' : (i : Int) < 12 := by omega
        simp [h1, h12, h2, ei', hi', hc]
        exact hK _ (Below.refl _ _)
theorem is_ok {n : Int} {w : World} : Calc 207 [.int .i64 n] w (.bool (decide (0 ≤ n ∧ n ≤ 109572))) := by
  intro K hK
  refine lift207 ?_
  unfold L207
  have h := hK _ (Below.refl _ w)
  by_cases h1 : 0 ≤ n <;> by_cases h2 : n ≤ 109572 <;> simp [h1, h2] at h ⊢ <;> exact h
/-- The days of a year from the month m on. -/
def restV (y m : Int) : Int := lenV y m + (if m + 1 ≤ 12 then lenV y (m + 1) else 0) + (if m + 2 ≤ 12 then lenV y (m + 2) else 0) + (if m + 3 ≤ 12 then lenV y (m + 3) else 0) + (if m + 4 ≤ 12 then lenV y (m + 4) else 0) + (if m + 5 ≤ 12 then lenV y (m + 5) else 0) +
  (if m + 6 ≤ 12 then lenV y (m + 6) else 0) + (if m + 7 ≤ 12 then lenV y (m + 7) else 0) + (if m + 8 ≤ 12 then lenV y (m + 8) else 0) + (if m + 9 ≤ 12 then lenV y (m + 9) else 0) + (if m + 10 ≤ 12 then lenV y (m + 10) else 0) + (if m + 11 ≤ 12 then lenV y (m + 11) else 0)
theorem rest_next {y m : Int} (h1 : 1 ≤ m) (h2 : m ≤ 11) : restV y m = lenV y m + restV y (m + 1) := by
  have h : m = 1 ∨ m = 2 ∨ m = 3 ∨ m = 4 ∨ m = 5 ∨ m = 6 ∨ m = 7 ∨ m = 8 ∨ m = 9 ∨ m = 10 ∨ m = 11 := by omega
  unfold restV
  rcases h with rfl | rfl | rfl | rfl | rfl | rfl | rfl | rfl | rfl | rfl | rfl <;> simp <;> omega
theorem rest_last {y : Int} : restV y 12 = 31 := by simp [restV, lenV, monthV]
theorem len_pos {y m : Int} (h1 : 1 ≤ m) (h2 : m ≤ 12) : 28 ≤ lenV y m := by
  unfold lenV monthV
  rw [if_neg (by omega)]
  split
  · omega
  · split
    · omega
    · split <;> omega
theorem rest_year {y : Int} : restV y 1 = 365 + (if leapV y = true then 1 else 0) := by
  unfold restV
  cases h : leapV y <;> simp [lenV, monthV, h]
theorem year_len {y : Int} (h : 1 ≤ y) : beforeV (y + 1) = beforeV y + 365 + (if leapV y = true then 1 else 0) := by
  have hl : (leapV y = true) ↔ ((y % 4 = 0 ∧ y % 100 ≠ 0) ∨ y % 400 = 0) := by simp [leapV]
  unfold beforeV
  by_cases h1 : leapV y = true
  · rw [if_pos h1]
    have := hl.mp h1
    omega
  · rw [if_neg h1]
    have : ¬ ((y % 4 = 0 ∧ y % 100 ≠ 0) ∨ y % 400 = 0) := fun h => h1 (hl.mpr h)
    omega
def DateA (n : Int) (w W : World) : Prop := Below w.heap.size w W ∧ ∃ y : Int, blk W w.heap.size = some (.cells #[.int .i64 y, .int .i64 0, .int .i64 0] 181 (0, 0)) ∧ 1900 ≤ y ∧ y ≤ 2199 ∧ beforeV y ≤ n
def DateB (y : Int) (w : World) (v : Value) (W : World) : Prop := Below w.heap.size w W ∧ ∃ m r : Int, v = .int .i64 r ∧ blk W w.heap.size = some (.cells #[.int .i64 y, .int .i64 m, .int .i64 0] 181 (0, 0)) ∧ 1 ≤ m ∧ m ≤ 12 ∧ 0 ≤ r ∧ r < restV y m ∧ r < 400
def dateM (w : World) (W : World) : Nat := (2199 - cellInt W w.heap.size 0).toNat
def valM (v : Value) (_ : World) : Nat := (intOf v).toNat
theorem date_ok {n : Int} {w : World} (ht : Tab w) (hn : I64 n) (K : Value → World → Prop) (hK : ∀ (w' : World) (d : Int × Int × Int), Below w.heap.size w w' → K (.tuple #[.agg #[.int .i64 d.1, .int .i64 d.2.1, .int .i64 d.2.2], .int .i64 (if 0 ≤ n ∧ n ≤ 109572 then 0 else 11)]) w') :
    Ret Tryz.prog 160 [.int .i64 n] w K := by
  refine lift160 ?_
  unfold L160
  simp [l_new]
  have hb0 := (Below.refl w.heap.size w).alloc (Nat.le_refl _) (Obj.cells #[Value.int IntKind.i64 0, Value.int IntKind.i64 0, Value.int IntKind.i64 0] 181)
  have hk0 : blk (w.alloc (Obj.cells #[Value.int IntKind.i64 0, Value.int IntKind.i64 0, Value.int IntKind.i64 0] 181)) w.heap.size = some (.cells #[.int .i64 0, .int .i64 0, .int .i64 0] 181 (0, 0)) := by simp
  generalize (w.alloc (Obj.cells #[Value.int IntKind.i64 0, Value.int IntKind.i64 0, Value.int IntKind.i64 0] 181)) = w0 at *
  refine is_ok _ (fun w1 hb1 => ?_)
  have hb01 := hb0.then hb1
  have hk1 := (blk_below hb1 (lt_of_blk hk0)).trans hk0
  simp only [q_not, onSome_some]
  refine xif_ndec (fun hin => ?_) (fun hin => ?_)
  · rw [if_neg hin] at hK
    simp [q_build, fillC, hk1]
    exact hK _ (0, 0, 0) (below_putL hb01 (Nat.le_refl _) _ _)
  · rw [if_pos hin] at hK
    have e0 : IntKind.i64.wrap (1900 + IntKind.i64.wrap (n.tdiv 366)) = 1900 + n / 366 := by
      rw [Int.tdiv_eq_ediv_of_nonneg hin.1, wrap_i64 (x := n / 366) (by omega) (by omega), wrap_i64 (by omega) (by omega)]
    simp [hk1]
    rw [e0]
    have hb1' := below_putL hb01 (Nat.le_refl _) [.int .i64 (1900 + n / 366)] 0
    have hk1' : blk (putL w1 w.heap.size 0 [.int .i64 (1900 + n / 366)]) w.heap.size = some (.cells #[.int .i64 (1900 + n / 366), .int .i64 0, .int .i64 0] 181 (0, 0)) := by simp [hk1]
    generalize (putL w1 w.heap.size 0 [.int .i64 (1900 + n / 366)]) = w2 at *
    refine looping_i (DateA n w) (dateM w) ⟨⟨hb1', _, hk1', by omega, by omega, by unfold beforeV; omega⟩, ?_⟩
    rintro W ⟨hb, y, hk, hy0, hy1, hyn⟩
    have hcond : ∀ (G : Value → World → Prop), (∀ W6, Below W.heap.size W W6 → G (.bool (decide (y < 2199 ∧ beforeV (y + 1) ≤ n))) W6) →
        (onSome (gateQ true (Value.bool (decide (y < 2199))) (some (Value.pointer (some { block := w.heap.size, off := 0 })))) fun t16 =>
    onSome (gateQ true (Value.bool (decide (y < 2199))) (q_load1 t16 W)) fun t17 =>
      onSome (gateQ true (Value.bool (decide (y < 2199))) (q_bin BinOp.add t17 (Value.int IntKind.i64 1))) fun t18 =>
        gateL true (Value.bool (decide (y < 2199))) (fun K => Ret Tryz.prog 208 [t18] W K) W fun t19 W6 =>
          onSome (gateQ true (Value.bool (decide (y < 2199))) (some (Value.int IntKind.i64 n))) fun t20 =>
            onSome (gateQ true (Value.bool (decide (y < 2199))) (q_bin BinOp.leq t19 t20)) fun t21 =>
              onSome (q_pick (Value.bool (decide (y < 2199))) t21 (Value.bool false)) fun t22 => G t22 W6) := by
      intro G hG
      by_cases h : y < 2199
      · have ey : IntKind.i64.wrap (y + 1) = y + 1 := wrap_i64 (by omega) (by omega)
        simp [h, hk, ey] at hG ⊢
        refine before_ok (by omega) (by omega) _ (fun w6 hb6 => ?_)
        exact hG _ hb6
      · simp [h] at hG ⊢
        exact hG _ (Below.refl _ _)
    simp [hk, -q_pick_bool]
    refine hcond (fun v W6 => _) (fun W6 hb6 => ?_)
    clear hcond
    have hkS := lt_of_blk hk
    have hk6 := (blk_below hb6 hkS).trans hk
    have hb06 := hb.then hb6
    refine xif_dec (fun hc => ?_) (fun hc => ?_)
    · have ey : IntKind.i64.wrap (y + 1) = y + 1 := wrap_i64 (by omega) (by omega)
      simp [hk6, ey]
      refine ⟨⟨below_putL hb06 (Nat.le_refl _) _ _, y + 1, by simp [hk6], by omega, by omega, hc.2⟩, ?_⟩
      unfold dateM
      rw [cellInt_of (v := .int .i64 (y + 1)) (show blk _ w.heap.size = some (.cells #[.int .i64 (y + 1), .int .i64 0, .int .i64 0] 181 (0, 0)) by simp [hk6]) rfl, cellInt_of (v := .int .i64 y) hk rfl]
      simp only [intOf]
      omega
    · have hyl : n < beforeV (y + 1) := by
        rcases Int.lt_or_le y 2199 with h | h
        · omega
        · have : y = 2199 := by omega
          subst this
          have : beforeV (2199 + 1) = 109573 := by decide
          omega
      simp [hk6]
      refine before_ok (by omega) (by omega) _ (fun w8 hb8 => ?_)
      have hk8 := (blk_below hb8 (lt_of_blk hk6)).trans hk6
      have hb08 := hb06.then hb8
      have hy := year_len (y := y) (by omega)
      have hry := rest_year (y := y)
      have es : IntKind.i64.wrap (n - beforeV y) = n - beforeV y := wrap_i64 (by omega) (by omega)
      simp [hk8]
      rw [es]
      refine looping_i (DateB y w) valM ⟨⟨below_putL hb08 (Nat.le_refl _) _ _, 1, _, rfl, by simp [hk8], by omega, by omega, by omega, by omega, by omega⟩, ?_⟩
      rintro v W9 ⟨hb9, m, r, rfl, hk9, hm1, hm12, hr0, hr1, hr400⟩
      simp [hk9]
      have htb := ht.below hb9
      have hI : I64 m := ⟨by omega, by omega⟩
      refine len_ok (by omega) hI htb _ (fun w10 hb10 => ?_)
      have hk10 := (blk_below hb10 (lt_of_blk hk9)).trans hk9
      have hb010 := hb9.then hb10
      have hlp := len_pos (y := y) hm1 hm12
      simp only [q_geq, onSome_some]
      refine xif_dec (fun hge => ?_) (fun hge => ?_)
      · have hm11 : m ≤ 11 := by
          rcases Int.lt_or_le m 12 with h | h
          · omega
          · exfalso
            have : m = 12 := by omega
            subst this
            have e1 := rest_last (y := y)
            have e2 : lenV y 12 = 31 := by simp [lenV, monthV]
            omega
        have hnx := rest_next (y := y) hm1 hm11
        simp [hk10]
        refine len_ok (by omega) hI (htb.below hb10) _ (fun w11 hb11 => ?_)
        have hk11 := (blk_below hb11 (lt_of_blk hk10)).trans hk10
        have hb011 := hb010.then hb11
        have e1 : IntKind.i64.wrap (r - lenV y m) = r - lenV y m := wrap_i64 (by omega) (by omega)
        have e2 : IntKind.i64.wrap (m + 1) = m + 1 := wrap_i64 (by omega) (by omega)
        simp [hk11, e1, e2]
        refine ⟨⟨below_putL hb011 (Nat.le_refl _) _ _, m + 1, _, rfl, by simp [hk11], by omega, by omega, by omega, by omega, by omega⟩, ?_⟩
        simp only [valM, intOf]
        omega
      · simp [hk10]
        have hbz := below_putL hb010 (Nat.le_refl _) [.int .i64 (IntKind.i64.wrap (r + 1))] 2
        have := hK _ (y, m, IntKind.i64.wrap (r + 1)) (below_putL hbz (Nat.le_refl _) [.int .i64 y, .int .i64 m, .int .i64 (IntKind.i64.wrap (r + 1))] 0)
        exact this
end Go.X
end
section
set_option linter.unusedVariables false
set_option linter.unusedSimpArgs false
namespace Go.X
open Go.Proofs Go.RowKit
structure Mv where
  seq : Int
  value : Int
  item : ByteArray
  kind : Int
  qty : Int
  cost : Int
  lot : ByteArray
  ref : Int
def Mv.cs (m : Mv) : Array Value := #[.int .i64 m.seq, .int .i64 m.value, .string m.item, .int .i64 m.kind, .int .i64 m.qty, .int .i64 m.cost, .string m.lot, .int .i64 m.ref]
def Mv.v (m : Mv) : Value := .agg m.cs
structure Mv.Ok (m : Mv) : Prop where
  seq : I64 m.seq
  value : I64 m.value
  kind : I64 m.kind
  qty : I64 m.qty
  cost : I64 m.cost
  ref : I64 m.ref
@[simp] theorem Mv.v_cells (m : Mv) : m.v.cells = #[.int .i64 m.seq, .int .i64 m.value, .string m.item, .int .i64 m.kind, .int .i64 m.qty, .int .i64 m.cost, .string m.lot, .int .i64 m.ref] := rfl
theorem in_ok {n lo hi : Int} {w : World} : Calc 106 [.int .i64 n, .int .i64 lo, .int .i64 hi] w (.bool (decide (lo ≤ n ∧ n ≤ hi))) := by
  intro K hK
  refine lift106 ?_
  unfold L106
  have h := hK _ (Below.refl _ w)
  by_cases h1 : lo ≤ n <;> by_cases h2 : n ≤ hi <;> simp [h1, h2] at h ⊢ <;> exact h
def refersV (k : Int) : Bool := decide (k = 3 ∨ k = 4 ∨ k = 5)
theorem refers_ok {k : Int} {w : World} : Calc 110 [.int .i64 k] w (.bool (refersV k)) := by
  intro K hK
  refine lift110 ?_
  unfold L110
  have h := hK _ (Below.refl _ w)
  unfold refersV at h
  by_cases h1 : k = 3 <;> by_cases h2 : k = 4 <;> by_cases h3 : k = 5 <;> simp [h1, h2, h3] at h ⊢ <;> exact h
theorem isday_ok {n : Int} {w : World} (ht : Tab w) (hn : I64 n) : Calc 104 [.int .i64 n] w (.bool (decide (0 ≤ n ∧ n ≤ 109572))) := by
  intro K hK
  refine lift104 ?_
  unfold L104
  refine date_ok ht hn _ (fun w1 d hb1 => ?_)
  simp [l_new]
  have e : (if 0 ≤ n ∧ n ≤ 109572 then (0 : Int) else 11) = 0 ↔ (0 ≤ n ∧ n ≤ 109572) := by split <;> simp_all
  have h := hK _ (below_putL (hb1.alloc hb1.size (Obj.cells #[Value.int IntKind.i64 0, Value.int IntKind.i64 0, Value.int IntKind.i64 0] 181)) hb1.size [.int .i64 d.1, .int .i64 d.2.1, .int .i64 d.2.2] 0)
  simpa [e] using h
def quantityV (m : Mv) : Bool := if m.kind = 5 ∨ m.kind = 6 then decide (m.qty = 0) else decide (1 ≤ m.qty ∧ m.qty ≤ 1000000000)
def costV (m : Mv) : Bool := if m.kind = 2 ∨ m.kind = 3 then decide (m.cost = 0) else if m.kind = 5 then decide (1 ≤ m.cost ∧ m.cost ≤ 1000000000000) else decide (0 ≤ m.cost ∧ m.cost ≤ 1000000000000)
def lotV (m : Mv) : Bool := decide (m.lot = ⟨#[]⟩) || (codeV m.lot && decide (m.kind = 1 ∨ m.kind = 2))
theorem quantity_ok {m : Mv} {w : World} : Calc 107 [m.v] w (.bool (quantityV m)) := by
  intro K hK
  refine lift107 ?_
  unfold L107
  unfold quantityV at hK
  have hb0 := (Below.refl w.heap.size w).alloc (Nat.le_refl _) (Obj.cells m.v.cells 47)
  have hk0 : blk (w.alloc (Obj.cells m.v.cells 47)) w.heap.size = some (.cells m.v.cells 47 (0, 0)) := by simp
  simp only [l_new]
  generalize w.alloc (Obj.cells m.v.cells 47) = w0 at *
  by_cases h5 : m.kind = 5
  · simp [h5] at hK
    simp [hk0, h5]
    exact hK _ hb0
  · by_cases h6 : m.kind = 6
    · simp [h6] at hK
      simp [hk0, h6]
      exact hK _ hb0
    · simp [h5, h6] at hK
      simp [hk0, h5, h6]
      refine in_ok _ (fun w1 hb1 => ?_)
      have := hK _ (hb0.then hb1)
      simpa using this
theorem cost_ok {m : Mv} {w : World} : Calc 108 [m.v] w (.bool (costV m)) := by
  intro K hK
  refine lift108 ?_
  unfold L108
  unfold costV at hK
  have hb0 := (Below.refl w.heap.size w).alloc (Nat.le_refl _) (Obj.cells m.v.cells 47)
  have hk0 : blk (w.alloc (Obj.cells m.v.cells 47)) w.heap.size = some (.cells m.v.cells 47 (0, 0)) := by simp
  simp only [l_new]
  generalize w.alloc (Obj.cells m.v.cells 47) = w0 at *
  simp [hk0]
  refine joining_i (fun v W => W = w0 ∧ v = .bool (decide (m.kind = 2 ∨ m.kind = 3))) ⟨?_, ?_⟩
  · refine xif_dec (fun h => ?_) (fun h => ?_)
    · simp [h]
    · simp [h]
  · rintro v W ⟨rfl, rfl⟩
    refine xif_dec (fun h => ?_) (fun h => ?_)
    · rw [if_pos h] at hK
      simp [hk0]
      exact hK _ hb0
    · rw [if_neg h] at hK
      refine xif_dec (fun h5 => ?_) (fun h5 => ?_)
      · rw [if_pos h5] at hK
        simp [hk0]
        refine in_ok _ (fun w1 hb1 => ?_)
        exact hK _ (hb0.then hb1)
      · rw [if_neg h5] at hK
        simp [hk0]
        refine in_ok _ (fun w1 hb1 => ?_)
        exact hK _ (hb0.then hb1)
theorem lot_ok {m : Mv} {w : World} : Calc 109 [m.v] w (.bool (lotV m)) := by
  intro K hK
  refine lift109 ?_
  unfold L109
  unfold lotV at hK
  have hb0 := (Below.refl w.heap.size w).alloc (Nat.le_refl _) (Obj.cells m.v.cells 47)
  have hk0 : blk (w.alloc (Obj.cells m.v.cells 47)) w.heap.size = some (.cells m.v.cells 47 (0, 0)) := by simp
  simp only [l_new]
  generalize w.alloc (Obj.cells m.v.cells 47) = w0 at *
  by_cases h : m.lot = ⟨#[]⟩
  · simp [h] at hK
    simp [hk0, h]
    exact hK _ hb0
  · simp [h] at hK
    simp [hk0, h]
    refine code_ok _ (fun w1 hb1 => ?_)
    have hk1 := (blk_below hb1 (lt_of_blk hk0)).trans hk0
    have h1 := hK _ (hb0.then hb1)
    cases hc : codeV m.lot with
    | false =>
      simp [hc] at h1 ⊢
      exact h1
    | true =>
      by_cases hk1' : m.kind = 1 <;> by_cases hk2' : m.kind = 2 <;> simp [hc, hk1, hk1', hk2'] at h1 ⊢ <;> exact h1
def oneV (m : Mv) : Int :=
  if ¬ (0 ≤ m.value ∧ m.value ≤ 109572) then 11 else
  if codeV m.item = false then 7 else
  if ¬ (1 ≤ m.kind ∧ m.kind ≤ 6) then 10 else
  if quantityV m = false ∨ costV m = false then 3 else
  if lotV m = false then 22 else
  if (refersV m.kind = true ∧ m.ref < 1) ∨ (refersV m.kind = false ∧ m.ref ≠ 0) then 28 else 0
theorem one_ok {m : Mv} {w : World} (ht : Tab w) (hm : m.Ok) : Calc 61 [m.v] w (.int .i64 (oneV m)) := by
  intro K hK
  refine lift61 ?_
  unfold L61
  unfold oneV at hK
  have hb0 := (Below.refl w.heap.size w).alloc (Nat.le_refl _) (Obj.cells m.v.cells 47)
  have hk0 : blk (w.alloc (Obj.cells m.v.cells 47)) w.heap.size = some (.cells m.v.cells 47 (0, 0)) := by simp
  have ht0 := ht.below hb0
  simp only [l_new]
  generalize w.alloc (Obj.cells m.v.cells 47) = w0 at *
  simp [hk0]
  refine isday_ok ht0 hm.value _ (fun w1 hb1 => ?_)
  have hk1 := (blk_below hb1 (lt_of_blk hk0)).trans hk0
  have hb01 := hb0.then hb1
  simp only [q_not, onSome_some]
  refine xif_ndec (fun h => ?_) (fun h => ?_)
  · rw [if_pos h] at hK
    exact hK _ hb01
  · rw [if_neg (fun hh => hh h)] at hK
    simp [hk1]
    refine code_ok _ (fun w2 hb2 => ?_)
    have hk2 := (blk_below hb2 (lt_of_blk hk1)).trans hk1
    have hb02 := hb01.then hb2
    simp only [q_not, onSome_some]
    refine xif_bool (fun h => ?_) (fun h => ?_)
    · rw [if_pos (by simpa using h)] at hK
      exact hK _ hb02
    · rw [if_neg (by simpa using h)] at hK
      simp [hk2]
      refine in_ok _ (fun w3 hb3 => ?_)
      have hk3 := (blk_below hb3 (lt_of_blk hk2)).trans hk2
      have hb03 := hb02.then hb3
      simp only [q_not, onSome_some]
      refine xif_ndec (fun h => ?_) (fun h => ?_)
      · rw [if_pos h] at hK
        exact hK _ hb03
      · rw [if_neg (fun hh => hh h)] at hK
        simp [hk3]
        refine quantity_ok (m := m) _ (fun w4 hb4 => ?_)
        have hk4 := (blk_below hb4 (lt_of_blk hk3)).trans hk3
        have hb04 := hb03.then hb4
        have hqc : ∀ (G : Value → World → Prop), (∀ W6, Below w4.heap.size w4 W6 → G (.bool (decide (quantityV m = false ∨ costV m = false))) W6) →
          (onSome (gateQ false (.bool (!quantityV m)) (loadO 8 (blk w4 w.heap.size) 0)) fun t23 =>
          gateL false (.bool (!quantityV m)) (fun K => Ret Tryz.prog 108 [t23] w4 K) w4 fun t24 W6 =>
            onSome (gateQ false (.bool (!quantityV m)) (q_un UnOp.not t24)) fun t25 =>
              onSome (q_pick (.bool (!quantityV m)) (Value.bool true) t25) fun t26 => G t26 W6) := by
          intro G hG
          cases hq : quantityV m with
          | false =>
            simp [hq] at hG ⊢
            exact hG _ (Below.refl _ _)
          | true =>
            simp [hq, hk4] at hG ⊢
            refine cost_ok (m := m) _ (fun w5 hb5 => ?_)
            have := hG _ hb5
            cases hc : costV m <;> simp [hc] at this ⊢ <;> exact this
        simp only [q_not, onSome_some]
        refine hqc (fun v W => _) (fun w6 hb6 => ?_)
        have hk6 := (blk_below hb6 (lt_of_blk hk4)).trans hk4
        have hb06 := hb04.then hb6
        refine xif_dec (fun h => ?_) (fun h => ?_)
        · rw [if_pos h] at hK
          exact hK _ hb06
        · rw [if_neg h] at hK
          simp [hk6]
          refine lot_ok (m := m) _ (fun w7 hb7 => ?_)
          have hk7 := (blk_below hb7 (lt_of_blk hk6)).trans hk6
          have hb07 := hb06.then hb7
          simp only [q_not, onSome_some]
          refine xif_bool (fun h => ?_) (fun h => ?_)
          · rw [if_pos (by simpa using h)] at hK
            exact hK _ hb07
          · rw [if_neg (by simpa using h)] at hK
            simp [hk7]
            refine refers_ok _ (fun w8 hb8 => ?_)
            have hk8 := (blk_below hb8 (lt_of_blk hk7)).trans hk7
            have hb08 := hb07.then hb8
            cases hr : refersV m.kind with
            | true =>
              simp only [hr, true_and, Bool.true_eq_false, false_and, or_false] at hK
              by_cases h1 : m.ref < 1
              · rw [if_pos h1] at hK
                simp [hk8, h1]
                exact hK _ hb08
              · rw [if_neg h1] at hK
                simp [hk8, h1]
                refine refers_ok _ (fun w9 hb9 => ?_)
                simp [hr]
                exact hK _ (hb08.then hb9)
            | false =>
              simp only [hr, true_and, Bool.false_eq_true, false_and, false_or] at hK
              simp [hk8]
              refine refers_ok _ (fun w9 hb9 => ?_)
              have hk9 := (blk_below hb9 (lt_of_blk hk8)).trans hk8
              by_cases h0 : m.ref = 0
              · simp [h0] at hK
                simp [hr, hk9, h0]
                exact hK _ (hb08.then hb9)
              · rw [if_pos h0] at hK
                simp [hr, hk9, h0]
                exact hK _ (hb08.then hb9)
end Go.X
end
section
set_option linter.unusedVariables false
set_option linter.unusedSimpArgs false
namespace Go.X
open Go.Proofs Go.RowKit
instance (n : Int) : Decidable (I64 n) := by unfold I64; exact inferInstance
/-- A value where it fits, else 0 and false. -/
def fitV (n : Int) : Int × Bool := if I64 n then (n, true) else (0, false)
def fitR (n : Int) : Value := .tuple #[.int .i64 (fitV n).1, .bool (fitV n).2]
theorem fitR_in {n : Int} (h : I64 n) : fitR n = .tuple #[.int .i64 n, .bool true] := by simp [fitR, fitV, h]
theorem fitR_out {n : Int} (h : ¬ I64 n) : fitR n = .tuple #[.int .i64 0, .bool false] := by simp [fitR, fitV, h]
theorem add_ok {a b : Int} {w : World} (ha : I64 a) (hb : I64 b) : Calc 78 [.int .i64 a, .int .i64 b] w (fitR (a + b)) := by
  intro K hK
  refine lift78 ?_
  unfold L78
  have h := hK _ (Below.refl _ w)
  simp [(q_eq_bool bool4 _ _).2]
  have e := IntKind.wrap_i64 (a + b)
  generalize hx : IntKind.i64.wrap (a + b) = x at *
  by_cases hin : I64 (a + b)
  · rw [fitR_in hin] at h
    unfold I64 at *
    have ex : x = a + b := by omega
    by_cases hb0 : b = 0
    · have h1 : ¬ a < x := by omega
      have h2 : ¬ 0 < b := by omega
      have h3 : decide (a < x) = decide (0 < b) := by rw [decide_eq_false h1, decide_eq_false h2]
      simp [h3]
      rw [ex]
      exact h
    · have h3 : decide (a < x) = decide (0 < b) := decide_eq_decide.mpr (by omega)
      simp [h3]
      rw [ex]
      exact h
  · rw [fitR_out hin] at h
    unfold I64 at *
    have h0 : b ≠ 0 := by omega
    by_cases h1 : a < x <;> by_cases h2 : 0 < b <;> simp [h1, h2, h0] <;> first | exact h | (exfalso; omega)
theorem sub_ok {a b : Int} {w : World} (ha : I64 a) (hb : I64 b) : Calc 178 [.int .i64 a, .int .i64 b] w (fitR (a - b)) := by
  intro K hK
  refine lift178 ?_
  unfold L178
  have h := hK _ (Below.refl _ w)
  simp [(q_eq_bool bool4 _ _).2]
  have e := IntKind.wrap_i64 (a - b)
  generalize hx : IntKind.i64.wrap (a - b) = x at *
  by_cases hin : I64 (a - b)
  · rw [fitR_in hin] at h
    unfold I64 at *
    have ex : x = a - b := by omega
    by_cases hb0 : b = 0
    · have h1 : ¬ x < a := by omega
      have h2 : ¬ 0 < b := by omega
      have h3 : decide (x < a) = decide (0 < b) := by rw [decide_eq_false h1, decide_eq_false h2]
      simp [h3]
      rw [ex]
      exact h
    · have h3 : decide (x < a) = decide (0 < b) := decide_eq_decide.mpr (by omega)
      simp [h3]
      rw [ex]
      exact h
  · rw [fitR_out hin] at h
    unfold I64 at *
    have h0 : b ≠ 0 := by omega
    by_cases h1 : x < a <;> by_cases h2 : 0 < b <;> simp [h1, h2, h0] <;> first | exact h | (exfalso; omega)
theorem size_ok {n : Int} {w : World} (h : I64 n) : Calc 212 [.int .i64 n] w (.int .u64 n.natAbs) := by
  intro K hK
  refine lift212 ?_
  unfold L212
  unfold I64 at h
  simp
  refine xif_dec (fun h => ?_) (fun h => ?_)
  · have e : IntKind.u64.wrap (-IntKind.u64.wrap n) = n.natAbs := by rw [wrap_u64_eq, wrap_u64_eq]; omega
    rw [e]
    exact hK _ (Below.refl _ _)
  · have e : IntKind.u64.wrap n = n.natAbs := by rw [wrap_u64_eq]; omega
    rw [e]
    exact hK _ (Below.refl _ _)
theorem mul64_ok {a b : Nat} {w : World} (ha : a < 18446744073709551616) (hb : b < 18446744073709551616) :
    Calc 211 [.int .u64 a, .int .u64 b] w (.tuple #[.int .u64 (a * b / 18446744073709551616 : Nat), .int .u64 (a * b % 18446744073709551616 : Nat)]) := by
  intro K hK
  refine lift211 ?_
  unfold L211
  obtain ⟨a1, a0, b1, b0, e1, e2, e3, e4, e5, e6, h1, h2, h3, h4⟩ := mul_words a b ha hb
  have p00 := prod_lt h2 h4
  have p10 := prod_lt h1 h4
  have p01 := prod_lt h2 h3
  have p11 := prod_lt h1 h3
  have c32 : (32 : Int) = ((32 : Nat) : Int) := rfl
  have elast : q_bin .mul (.int .u64 (a : Int)) (.int .u64 (b : Int)) = some (.int .u64 (a * b % 18446744073709551616 : Nat)) := by
    rw [q_mul, wrap_u64_eq, ← Int.natCast_mul]
    rfl
  rw [elast, c32, u_mask ha, onSome_some, u_shr 32 (by decide), onSome_some, u_mask hb, onSome_some, u_shr 32 (by decide), onSome_some, ← e1, ← e2, ← e3, ← e4]
  have ab : a * b = (a1 * b1) * 18446744073709551616 + (a1 * b0 + a0 * b1) * 4294967296 + a0 * b0 := by
    rw [e5, e6]
    simp only [Nat.add_mul, Nat.mul_add]
    have : a1 * 4294967296 * (b1 * 4294967296) = a1 * b1 * 18446744073709551616 := by
      rw [show (18446744073709551616 : Nat) = 4294967296 * 4294967296 by decide]
      rw [Nat.mul_assoc, Nat.mul_assoc, Nat.mul_left_comm 4294967296 b1]
    have h2 : a1 * 4294967296 * b0 = a1 * b0 * 4294967296 := by rw [Nat.mul_assoc, Nat.mul_comm 4294967296 b0, Nat.mul_assoc]
    have h3 : a0 * (b1 * 4294967296) = a0 * b1 * 4294967296 := by rw [Nat.mul_assoc]
    omega
  clear e1 e2 e3 e4 e5 e6
  generalize hm00 : a0 * b0 = m00 at *
  generalize hm10 : a1 * b0 = m10 at *
  generalize hm01 : a0 * b1 = m01 at *
  generalize hm11 : a1 * b1 = m11 at *
  have bound2 : a * b < 18446744073709551616 * 18446744073709551616 := Nat.mul_lt_mul'' ha hb
  rw [u_mul (by omega), onSome_some, hm00, u_mul (by omega), onSome_some, hm10, u_shr 32 (by decide), onSome_some, u_add (by omega), onSome_some]
  generalize hmid : m10 + m00 / 2 ^ 32 = mid at *
  rw [u_mask (by omega), onSome_some, u_shr 32 (by decide), onSome_some, u_mul (by omega), onSome_some, hm01, u_add (by omega), onSome_some]
  generalize hoth : mid % 4294967296 + m01 = oth at *
  have bound : m11 + mid / 2 ^ 32 + oth / 2 ^ 32 = a * b / 18446744073709551616 := by omega
  rw [u_mul (by omega), onSome_some, hm11, u_add (by omega), onSome_some, u_shr 32 (by decide), onSome_some, u_add (by omega), onSome_some, onSome_some, bound]
  exact hK _ (Below.refl _ _)
theorem mul_ok' {a b : Int} {w : World} (ha : I64 a) (hb : I64 b) : Calc 179 [.int .i64 a, .int .i64 b] w (fitR (a * b)) := by
  intro K hK
  refine lift179 ?_
  unfold L179
  refine size_ok ha _ (fun w1 hb1 => ?_)
  refine size_ok hb _ (fun w2 hb2 => ?_)
  have ha' : a.natAbs < 18446744073709551616 := by unfold I64 at ha; omega
  have hb' : b.natAbs < 18446744073709551616 := by unfold I64 at hb; omega
  refine mul64_ok ha' hb' _ (fun w3 hb3 => ?_)
  have hb03 := (hb1.then hb2).then hb3
  have hsg : decide (a < 0) ≠ decide (b < 0) → a * b = -((a.natAbs * b.natAbs : Nat) : Int) := by
    intro h
    rw [Int.natCast_mul]
    by_cases h1 : a < 0
    · have h2 : ¬ b < 0 := by intro h2; simp [h1, h2] at h
      rw [show (a.natAbs : Int) = -a by omega, show (b.natAbs : Int) = b by omega, Int.neg_mul, Int.neg_neg]
    · have h2 : b < 0 := by
        rcases Int.lt_or_le b 0 with h2 | h2
        · exact h2
        · have : ¬ b < 0 := by omega
          simp [h1, this] at h
      rw [show (a.natAbs : Int) = a by omega, show (b.natAbs : Int) = -b by omega, Int.mul_neg, Int.neg_neg]
  have hsg2 : decide (a < 0) = decide (b < 0) → a * b = ((a.natAbs * b.natAbs : Nat) : Int) := by
    intro h
    rw [Int.natCast_mul]
    by_cases h1 : a < 0
    · have h2 : b < 0 := by simpa [h1] using h
      rw [show (a.natAbs : Int) = -a by omega, show (b.natAbs : Int) = -b by omega, Int.neg_mul, Int.mul_neg, Int.neg_neg]
    · have h2 : ¬ b < 0 := by simpa [h1] using h
      rw [show (a.natAbs : Int) = a by omega, show (b.natAbs : Int) = b by omega]
  have hp : a.natAbs * b.natAbs < 18446744073709551616 * 18446744073709551616 := Nat.mul_lt_mul'' ha' hb'
  have hwm : q_bin .mul (.int .i64 a) (.int .i64 b) = some (.int .i64 (IntKind.i64.wrap (a * b))) := q_mul
  rw [hwm]
  generalize a.natAbs * b.natAbs = p at *
  obtain ⟨hi, ehi⟩ : ∃ hi, hi = p / 18446744073709551616 := ⟨_, rfl⟩
  obtain ⟨lo, elo⟩ : ∃ lo, lo = p % 18446744073709551616 := ⟨_, rfl⟩
  rw [← ehi, ← elo]
  have epp : p = hi * 18446744073709551616 + lo := by omega
  have hlo : lo < 18446744073709551616 := by omega
  clear ehi elo
  simp only [q_extract_tuple, onSome_some, q_lss, (q_eq_bool bool4 _ _).2, List.getElem?_toArray, List.getElem?_cons_zero, List.getElem?_cons_succ]
  have fin : ∀ (most : Nat) (W : World), Below w.heap.size w W → (I64 (a * b) ↔ p ≤ most) → most < 18446744073709551616 → (onSome (q_bin .gtr (.int .u64 hi) (.int .u64 0)) fun t25 =>
 onSome (gateQ false t25 (some (.int .u64 lo))) fun t27 =>
 onSome (gateQ false t25 (some (.int .u64 most))) fun t28 =>
 onSome (gateQ false t25 (q_bin .gtr t27 t28)) fun t29 =>
 onSome (q_pick t25 (.bool true) t29) fun t30 =>
 xif t30
 (K (.tuple #[(.int .i64 0), (.bool false)]) W)
 (onSome (some (.int .i64 (IntKind.i64.wrap (a * b)))) fun t33 =>
 K (.tuple #[t33, (.bool true)]) W)) := by
    intro most W hbW hiff hm
    have h := hK _ hbW
    by_cases h1 : 0 < hi
    · rw [fitR_out (fun hh => by have := hiff.mp hh; omega)] at h
      simp [h1]
      exact h
    · by_cases h2 : most < lo
      · rw [fitR_out (fun hh => by have := hiff.mp hh; omega)] at h
        simp [h1, h2]
        exact h
      · have hin : I64 (a * b) := hiff.mpr (by omega)
        rw [fitR_in hin] at h
        rw [hin.same]
        simp [h1, h2]
        exact h
  have e9 : q_bin .add (.int .u64 9223372036854775807) (.int .u64 1) = some (.int .u64 ((9223372036854775808 : Nat) : Int)) := by
    rw [q_add, wrap_u64_eq]
    rfl
  rw [e9]
  simp only [onSome_some]
  refine joining_i (fun v W => W = w3 ∧ ∃ most : Nat, v = .int .u64 most ∧ (I64 (a * b) ↔ p ≤ most) ∧ most < 18446744073709551616) ⟨?_, ?_⟩
  · refine xif_bool (fun h => ?_) (fun h => ?_)
    · have hab := hsg (by simpa using h)
      exact ⟨rfl, 9223372036854775808, rfl, by rw [hab]; unfold I64; omega, by omega⟩
    · have hab := hsg2 (by simpa using h)
      exact ⟨rfl, 9223372036854775807, rfl, by rw [hab]; unfold I64; omega, by omega⟩
  · rintro v W ⟨rfl, most, rfl, hiff, hm⟩ _
    exact fin most _ hb03 hiff hm
def nearV (n lo hi : Int) : Int := if n < lo then lo else if hi < n then hi else n
theorem near_ok {n lo hi : Int} {w : World} : Calc 171 [.int .i64 n, .int .i64 lo, .int .i64 hi] w (.int .i64 (nearV n lo hi)) := by
  intro K hK
  refine lift171 ?_
  unfold L171
  have h := hK _ (Below.refl _ w)
  unfold nearV at h
  by_cases h1 : n < lo <;> by_cases h2 : hi < n <;> simp [h1, h2] at h ⊢ <;> exact h
end Go.X
end
section
set_option linter.unusedVariables false
set_option linter.unusedSimpArgs false
namespace Go.X
open Go.Proofs Go.RowKit
structure Ly where
  seq : Int
  lot : ByteArray
  qty : Int
  value : Int
structure Pa where
  seq : Int
  kind : Int
  lot : ByteArray
  qty : Int
  value : Int
  used : Int
  usedV : Int
structure Co where
  seq : Int
  qty : Int
  value : Int
  var : Int
deriving DecidableEq
structure St where
  qty : Int
  value : Int
  price : Int
  layers : List Ly
  past : List Pa
def Ly.cs (a : Ly) : List Value := [.int .i64 a.seq, .string a.lot, .int .i64 a.qty, .int .i64 a.value]
def Pa.cs (a : Pa) : List Value := [.int .i64 a.seq, .int .i64 a.kind, .string a.lot, .int .i64 a.qty, .int .i64 a.value, .int .i64 a.used, .int .i64 a.usedV]
def Co.cs (a : Co) : List Value := [.int .i64 a.seq, .int .i64 a.qty, .int .i64 a.value, .int .i64 a.var]
def LyE : Enc Ly := { sz := 4, cells := Ly.cs, len := fun _ => rfl, one := by intro a v hv; simp [Ly.cs] at hv; rcases hv with rfl | rfl | rfl | rfl <;> rfl }
def PaE : Enc Pa := { sz := 7, cells := Pa.cs, len := fun _ => rfl, one := by intro a v hv; simp [Pa.cs] at hv; rcases hv with rfl | rfl | rfl | rfl | rfl | rfl | rfl <;> rfl }
def CoE : Enc Co := { sz := 4, cells := Co.cs, len := fun _ => rfl, one := by intro a v hv; simp [Co.cs] at hv; rcases hv with rfl | rfl | rfl | rfl <;> rfl }
def MvE : Enc Mv := { sz := 8, cells := fun m => m.cs.toList, len := fun _ => rfl, one := by intro a v hv; simp [Mv.cs] at hv; rcases hv with rfl | rfl | rfl | rfl | rfl | rfl | rfl | rfl <;> rfl }
theorem lySl : SlT Tryz.prog 25 103 4 40 (.agg #[.int .i64 0, .string ⟨#[]⟩, .int .i64 0, .int .i64 0]) := ⟨by kernel_rfl, by kernel_rfl, rfl, by decide⟩
theorem paSl : SlT Tryz.prog 26 105 7 64 (.agg #[.int .i64 0, .int .i64 0, .string ⟨#[]⟩, .int .i64 0, .int .i64 0, .int .i64 0, .int .i64 0]) := ⟨by kernel_rfl, by kernel_rfl, rfl, by decide⟩
theorem coSl : SlT Tryz.prog 34 43 4 32 (.agg #[.int .i64 0, .int .i64 0, .int .i64 0, .int .i64 0]) := ⟨by kernel_rfl, by kernel_rfl, rfl, by decide⟩
theorem mvSl : SlT Tryz.prog 22 47 8 80 (.agg #[.int .i64 0, .int .i64 0, .string ⟨#[]⟩, .int .i64 0, .int .i64 0, .int .i64 0, .string ⟨#[]⟩, .int .i64 0]) := ⟨by kernel_rfl, by kernel_rfl, rfl, by decide⟩
structure Ly.Ok (a : Ly) : Prop where
  seq : I64 a.seq
  qty : I64 a.qty
  value : I64 a.value
structure Pa.Ok (a : Pa) : Prop where
  seq : I64 a.seq
  kind : I64 a.kind
  qty : I64 a.qty
  value : I64 a.value
  used : I64 a.used
  usedV : I64 a.usedV
structure Co.Ok (a : Co) : Prop where
  seq : I64 a.seq
  qty : I64 a.qty
  value : I64 a.value
  var : I64 a.var
/-- A stock of whole numbers in range, with rows of some length. -/
structure St.Ok (n : Nat) (s : St) : Prop where
  qty : I64 s.qty
  value : I64 s.value
  price : I64 s.price
  layers : ∀ a ∈ s.layers, a.Ok
  past : ∀ a ∈ s.past, a.Ok
  nl : s.layers.length ≤ n
  np : s.past.length ≤ n
/-- Blocks of other types than T are kept. -/
def Keeps (T : List TypeId) (w w' : World) : Prop := w.heap.size ≤ w'.heap.size ∧ ∀ b c t f, blk w b = some (.cells c t f) → t ∉ T → blk w' b = some (.cells c t f)
namespace Keeps
variable {T : List TypeId} {a b c w w' : World}
theorem refl (T : List TypeId) (w : World) : Keeps T w w := ⟨Nat.le_refl _, fun _ _ _ _ h _ => h⟩
theorem trans (h : Keeps T a b) (h' : Keeps T b c) : Keeps T a c := ⟨Nat.le_trans h.1 h'.1, fun x cs t f hx ht => h'.2 _ _ _ _ (h.2 _ _ _ _ hx ht) ht⟩
theorem of_below (h : Below w.heap.size w w') : Keeps T w w' := ⟨h.size, fun x cs t f hx ht => (blk_below h (lt_of_blk hx)).trans hx⟩
theorem alloc (h : Keeps T a w) (o : Obj) : Keeps T a (w.alloc o) :=
  h.trans ⟨by simp, fun x cs t f hx ht => by rw [blk_alloc, if_neg (Nat.ne_of_lt (lt_of_blk hx))]; exact hx⟩
theorem drew (h : Keeps T a w) : Keeps T a w.drew := ⟨h.1, h.2⟩
theorem putL (h : Keeps T a w) {g o : Nat} {vs : List Value} {cs : Array Value} {t : TypeId} {f : Nat × Nat} (hg : blk w g = some (.cells cs t f)) (ht : t ∈ T) : Keeps T a (putL w g o vs) :=
  h.trans ⟨by simp, fun x cs' t' f' hx ht' => by
    rw [blk_putL, if_neg (ne_of_type hg hx (fun e => ht' (e ▸ ht)))]
    exact hx⟩
theorem grown (h : Keeps T a w) {row : Option Nat} (hg : w.grownBy w' row) (hr : ∀ k, row = some k → ∃ cs t f, blk w k = some (.cells cs t f) ∧ t ∈ T) : Keeps T a w' :=
  h.trans ⟨hg.size, fun x cs t f hx ht => by
    rw [← hx]
    refine hg.block x (lt_of_blk hx) (fun e => ?_)
    obtain ⟨cs', t', f', h1, h2⟩ := hr x e.symm
    rw [hx] at h1
    injection h1 with h1
    injection h1 with _ h1 _
    exact ht (h1 ▸ h2)⟩
theorem blk (h : Keeps T a w) {b : Nat} {cs : Array Value} {t : TypeId} {f : Nat × Nat} (hb : X.blk a b = some (.cells cs t f)) (ht : t ∉ T) : X.blk w b = some (.cells cs t f) := h.2 _ _ _ _ hb ht
end Keeps
end Go.X
end
