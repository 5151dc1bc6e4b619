/- The lifted forms of Go functions, printed by a program (lift.py); each is held against the loaded program by the kernel. -/
import Derived.Test.YtbglbbmlohfemaaGreatDoorA2
set_option linter.unusedVariables false
set_option linter.unusedSimpArgs false
set_option maxRecDepth 100000
namespace Go.X
open Go.Proofs
/-- muldiv.MulDiv -/
def L116 (a0 b1 c2 mode3 : Value) (w : World) (K : Value → World → Prop) : Prop :=
 onSome (q_bin .lss mode3 (.int .i64 1)) fun t16 =>
 onSome (gateQ false t16 (some mode3)) fun t18 =>
 onSome (gateQ false t16 (q_bin .gtr t18 (.int .i64 5))) fun t19 =>
 onSome (q_pick t16 (.bool true) t19) fun t20 =>
 xif t20
 (K (.tuple #[(.int .i64 0), (.int .i64 10)]) w)
 (onSome (q_bin .eql c2 (.int .i64 0)) fun t22 =>
 xif t22
 (K (.tuple #[(.int .i64 0), (.int .i64 2)]) w)
 (Ret Tryz.prog 167 [a0] w fun t24 W1 =>
 Ret Tryz.prog 167 [b1] W1 fun t26 W2 =>
 Ret Tryz.prog 166 [t24, t26] W2 fun t27 W3 =>
 l_new 190 #[.int .u64 0, .int .u64 0] W3 fun p10 W4 =>
 l_store 2 p10 t27 W4 fun _ W5 =>
 onSome (q_loadn 2 p10 W5) fun t28 =>
 onSome (q_build #[.int .u64 0, .int .u64 0] []) fun t29 =>
 onSome (q_eq Tryz.prog .neq 190 t28 t29) fun t30 =>
 onSome (gateQ true t30 (some a0)) fun t32 =>
 onSome (gateQ true t30 (q_bin .lss t32 (.int .i64 0))) fun t33 =>
 onSome (gateQ true t30 (some b1)) fun t34 =>
 onSome (gateQ true t30 (q_bin .lss t34 (.int .i64 0))) fun t35 =>
 onSome (gateQ true t30 (q_eq Tryz.prog .neq 4 t33 t35)) fun t36 =>
 onSome (gateQ true t30 (some c2)) fun t37 =>
 onSome (gateQ true t30 (q_bin .lss t37 (.int .i64 0))) fun t38 =>
 onSome (gateQ true t30 (q_eq Tryz.prog .neq 4 t36 t38)) fun t39 =>
 onSome (q_pick t30 t39 (.bool false)) fun t40 =>
 joining fun (J : Value → Value → World → Prop) => (onSome (q_loadn 2 p10 W5.drew) fun t42 =>
 (Ret Tryz.prog 167 [c2] W5.drew fun t44 W6 =>
 ob (q_loadn 2 p10 W6 = some t42) (
 (Ret Tryz.prog 168 [t42, t44] W6 fun t45 W7 =>
 onSome (q_extract t45 0) fun t46 =>
 onSome (q_extract t45 1) fun t47 =>
 l_new 190 #[.int .u64 0, .int .u64 0] W7 fun q12 W8 =>
 l_store 2 q12 t46 W8 fun _ W9 =>
 J q12 t47 W9) ∧
 (l_new 190 #[.int .u64 0, .int .u64 0] W6 fun q12_1 W10 =>
 ob (q_loadn 2 p10 W10 = some t42) (
 Ret Tryz.prog 168 [t42, t44] W10 fun t45_1 W11 =>
 onSome (q_extract t45_1 0) fun t46_1 =>
 onSome (q_extract t45_1 1) fun t47_1 =>
 l_store 2 q12_1 t46_1 W11 fun _ W12 =>
 J q12_1 t47_1 W12)))) ∧
 (l_new 190 #[.int .u64 0, .int .u64 0] W5.drew fun q12_2 W13 =>
 ob (q_loadn 2 p10 W13 = some t42) (
 Ret Tryz.prog 167 [c2] W13 fun t44_1 W14 =>
 ob (q_loadn 2 p10 W14 = some t42) (
 Ret Tryz.prog 168 [t42, t44_1] W14 fun t45_2 W15 =>
 onSome (q_extract t45_2 0) fun t46_2 =>
 onSome (q_extract t45_2 1) fun t47_2 =>
 l_store 2 q12_2 t46_2 W15 fun _ W16 =>
 J q12_2 t47_2 W16)))) ∧
 ∀ (q12_3 r13 : Value) (W17 : World), J q12_3 r13 W17 → ∀ _ : Env,
 onSome (q_iaddra 2 1 q12_3 (.int .i64 0)) fun t48 =>
 onSome (q_load1 t48 W17) fun t49 =>
 onSome (q_bin .neq t49 (.int .u64 0)) fun t50 =>
 xif t50
 (K (.tuple #[(.int .i64 0), (.int .i64 4)]) W17)
 (onSome (q_iaddra 2 1 q12_3 (.int .i64 1)) fun t51 =>
 onSome (q_load1 t51 W17) fun t52 =>
 joining fun (J1 : Value → World → Prop) => (onSome (q_bin .rem t52 (.int .u64 2)) fun t56 =>
 onSome (q_bin .eql t56 (.int .u64 1)) fun t57 =>
 Ret Tryz.prog 167 [c2] W17 fun t60 W18 =>
 Ret Tryz.prog 169 [mode3, t40, t57, r13, t60] W18 fun t61 W19 =>
 xif t61
 (onSome (q_bin .add t52 (.int .u64 1)) fun t63 =>
 onSome (q_bin .eql t63 (.int .u64 0)) fun t65 =>
 xif t65
 (K (.tuple #[(.int .i64 0), (.int .i64 4)]) W19)
 (J1 t63 W19))
 (J1 t52 W19)) ∧
 ∀ (size14 : Value) (W20 : World), J1 size14 W20 → ∀ _ : Env,
 Ret Tryz.prog 170 [t40, size14] W20 fun t68 W21 =>
 onSome (q_extract t68 0) fun t69 =>
 onSome (q_extract t68 1) fun t70 =>
 K (.tuple #[t69, t70]) W21)))
theorem lift116 {a0 b1 c2 mode3 : Value} {w : World} {K : Value → World → Prop} (h : L116 a0 b1 c2 mode3 w K) : Ret Tryz.prog 116 [a0, b1, c2, mode3] w K := by
  have e : xfun Tryz.prog Tryz.f116 (.s .r (.s (.s .r (.c (.s .r .r) .r)) (.s (.s .r (.c (.s .r .r) .r)) (.s .r (.s .r (.s (.d [12, 13] 279275953467392 [0, 0, 2, 7, 15, 31, 31, 0, 191, 511] (.q 0 (.q 1 (.alt (.l 2 2 (.alt (.l 3 7 (.q 4 (.q 5 (.q 6 (.l 7 0 (.l 8 191 (.q 9 .nil))))))) (.l 7 0 (.l 3 7 (.q 4 (.q 5 (.q 6 (.l 8 191 (.q 9 .nil))))))))) (.l 7 0 (.l 2 2 (.l 3 7 (.q 4 (.q 5 (.q 6 (.l 8 191 (.q 9 .nil)))))))))))) (.s (.s .r (.c (.s .r .r) .r)) (.s .r (.j [14] 73777969095583482624 (.s .r (.c (.s .r (.s .r (.c (.s .r .r) .r))) .r)) (.s .r .r)))))))))) [a0, b1, c2, mode3] w K = L116 a0 b1 c2 mode3 w K := by kernel_rfl
  exact xfun_sound (an := (.s .r (.s (.s .r (.c (.s .r .r) .r)) (.s (.s .r (.c (.s .r .r) .r)) (.s .r (.s .r (.s (.d [12, 13] 279275953467392 [0, 0, 2, 7, 15, 31, 31, 0, 191, 511] (.q 0 (.q 1 (.alt (.l 2 2 (.alt (.l 3 7 (.q 4 (.q 5 (.q 6 (.l 7 0 (.l 8 191 (.q 9 .nil))))))) (.l 7 0 (.l 3 7 (.q 4 (.q 5 (.q 6 (.l 8 191 (.q 9 .nil))))))))) (.l 7 0 (.l 2 2 (.l 3 7 (.q 4 (.q 5 (.q 6 (.l 8 191 (.q 9 .nil)))))))))))) (.s (.s .r (.c (.s .r .r) .r)) (.s .r (.j [14] 73777969095583482624 (.s .r (.c (.s .r (.s .r (.c (.s .r .r) .r))) .r)) (.s .r .r))))))))))) Tryz.func116 mixed (by kernel_rfl) (by simp only [Tryz.ntmps116, List.length_cons, List.length_nil]; omega) (by rw [e]; exact h)
/-- muldiv.multiply -/
def L166 (a0 b1 : Value) (w : World) (K : Value → World → Prop) : Prop :=
 l_new 190 #[.int .u64 0, .int .u64 0] w fun t4 W1 =>
 onSome (q_bin .shr a0 (.int .u64 32)) fun t13 =>
 onSome (q_bin .and a0 (.int .u64 4294967295)) fun t15 =>
 onSome (q_bin .shr b1 (.int .u64 32)) fun t17 =>
 onSome (q_bin .and b1 (.int .u64 4294967295)) fun t19 =>
 onSome (q_bin .mul t15 t19) fun t22 =>
 onSome (q_bin .mul t13 t19) fun t25 =>
 onSome (q_bin .shr t22 (.int .u64 32)) fun t27 =>
 onSome (q_bin .add t25 t27) fun t28 =>
 onSome (q_bin .mul t15 t17) fun t31 =>
 onSome (q_bin .and t28 (.int .u64 4294967295)) fun t33 =>
 onSome (q_bin .add t31 t33) fun t34 =>
 onSome (q_bin .mul t13 t17) fun t37 =>
 onSome (q_bin .shr t28 (.int .u64 32)) fun t39 =>
 onSome (q_bin .add t37 t39) fun t40 =>
 onSome (q_bin .shr t34 (.int .u64 32)) fun t42 =>
 onSome (q_bin .add t40 t42) fun t43 =>
 onSome (q_bin .shl t34 (.int .u64 32)) fun t45 =>
 onSome (q_bin .and t22 (.int .u64 4294967295)) fun t47 =>
 onSome (q_bin .or t45 t47) fun t48 =>
 onSome (q_build #[.int .u64 0, .int .u64 0] [(0, 1, t43), (1, 1, t48)]) fun t49 =>
 l_store 2 t4 t49 W1 fun _ W2 =>
 onSome (q_loadn 2 t4 W2) fun t4_1 =>
 K t4_1 W2
theorem lift166 {a0 b1 : Value} {w : World} {K : Value → World → Prop} (h : L166 a0 b1 w K) : Ret Tryz.prog 166 [a0, b1] w K := by
  have e : xfun Tryz.prog Tryz.f166 (.s .r (.s .r (.s .r (.s .r (.s .r (.s .r (.s .r .r))))))) [a0, b1] w K = L166 a0 b1 w K := by kernel_rfl
  exact xfun_sound (an := (.s .r (.s .r (.s .r (.s .r (.s .r (.s .r (.s .r .r)))))))) Tryz.func166 mixed (by kernel_rfl) (by simp only [Tryz.ntmps166, List.length_cons, List.length_nil]; omega) (by rw [e]; exact h)
/-- muldiv.magnitude -/
def L167 (n0 : Value) (w : World) (K : Value → World → Prop) : Prop :=
 onSome (q_bin .lss n0 (.int .i64 0)) fun t4 =>
 xif t4
 (onSome (q_toint .u64 n0) fun t6 =>
 onSome (q_un .neg t6) fun t7 =>
 K t7 w)
 (onSome (q_toint .u64 n0) fun t9 =>
 K t9 w)
theorem lift167 {n0 : Value} {w : World} {K : Value → World → Prop} (h : L167 n0 w K) : Ret Tryz.prog 167 [n0] w K := by
  have e : xfun Tryz.prog Tryz.f167 (.s .r (.s (.s .r (.c (.s .r .r) .r)) (.s .r .r))) [n0] w K = L167 n0 w K := by kernel_rfl
  exact xfun_sound (an := (.s .r (.s (.s .r (.c (.s .r .r) .r)) (.s .r .r)))) Tryz.func167 mixed (by kernel_rfl) (by simp only [Tryz.ntmps167, List.length_cons, List.length_nil]; omega) (by rw [e]; exact h)
/-- muldiv.divide -/
def L168 (p0 c1 : Value) (w : World) (K : Value → World → Prop) : Prop :=
 l_new 190 (p0 : Value).cells w fun p2 W1 =>
 l_new 190 #[.int .u64 0, .int .u64 0] W1 fun q4 W2 =>
 onSome (q_loadn 2 p2 W2) fun t10 =>
 looping fun (I : Value → Value → World → Prop) (μ : Value → Value → World → Nat) => I (.int .u64 0) (.int .i64 0) W2 ∧
 ∀ (r5 t11 : Value) (W3 : World), I r5 t11 W3 → ∀ _ : Env,
 onSome (q_bin .lss t11 (.int .i64 2)) fun t12 =>
 xif t12
 (onSome (q_index Tryz.prog 190 t10 t11) fun t14 =>
 looping fun (I1 : Value → Value → World → Prop) (μ1 : Value → Value → World → Nat) => I1 r5 (.int .i64 63) W3 ∧
 ∀ (r5_1 bit8 : Value) (W4 : World), I1 r5_1 bit8 W4 → ∀ _ : Env,
 onSome (q_bin .geq bit8 (.int .i64 0)) fun t16 =>
 xif t16
 (onSome (q_bin .eql r5_1 (.int .u64 0)) fun t20 =>
 onSome (gateQ true t20 (some t14)) fun t22 =>
 onSome (gateQ true t20 (some bit8)) fun t23 =>
 onSome (gateQ true t20 (q_bin .sub (.int .i64 63) t23)) fun t24 =>
 onSome (gateQ true t20 (q_bin .shl t22 t24)) fun t25 =>
 onSome (gateQ true t20 (q_bin .eql t25 (.int .u64 0))) fun t26 =>
 onSome (q_pick t20 t26 (.bool false)) fun t27 =>
 xif t27
 (onSome (q_iaddra 2 1 q4 t11) fun t29 =>
 onSome (q_load1 t29 W4) fun t30 =>
 onSome (q_bin .add bit8 (.int .i64 1)) fun t32 =>
 onSome (q_bin .shl t30 t32) fun t33 =>
 onSome (q_iaddra 2 1 q4 t11) fun t34 =>
 l_store 1 t34 t33 W4 fun _ W5 =>
 onSome (q_bin .add t11 (.int .i64 1)) fun t64 =>
 I r5_1 t64 W5 ∧ μ r5_1 t64 W5 < μ r5 t11 W3)
 (onSome (q_bin .shr r5_1 (.int .u64 63)) fun t36 =>
 onSome (q_bin .shl r5_1 (.int .u64 1)) fun t38 =>
 onSome (q_bin .shr t14 bit8) fun t41 =>
 onSome (q_bin .and t41 (.int .u64 1)) fun t42 =>
 onSome (q_bin .or t38 t42) fun t43 =>
 onSome (q_iaddra 2 1 q4 t11) fun t45 =>
 onSome (q_load1 t45 W4) fun t46 =>
 onSome (q_bin .shl t46 (.int .u64 1)) fun t47 =>
 onSome (q_iaddra 2 1 q4 t11) fun t48 =>
 l_store 1 t48 t47 W4 fun _ W6 =>
 onSome (q_bin .eql t36 (.int .u64 1)) fun t50 =>
 onSome (gateQ false t50 (some t43)) fun t52 =>
 onSome (gateQ false t50 (some c1)) fun t53 =>
 onSome (gateQ false t50 (q_bin .geq t52 t53)) fun t54 =>
 onSome (q_pick t50 (.bool true) t54) fun t55 =>
 xif t55
 (onSome (q_bin .sub t43 c1) fun t58 =>
 onSome (q_iaddra 2 1 q4 t11) fun t60 =>
 onSome (q_load1 t60 W6) fun t61 =>
 onSome (q_bin .or t61 (.int .u64 1)) fun t62 =>
 onSome (q_iaddra 2 1 q4 t11) fun t63 =>
 l_store 1 t63 t62 W6 fun _ W7 =>
 onSome (q_bin .sub bit8 (.int .i64 1)) fun t18 =>
 I1 t58 t18 W7 ∧ μ1 t58 t18 W7 < μ1 r5_1 bit8 W4)
 (onSome (q_bin .sub bit8 (.int .i64 1)) fun t18_1 =>
 I1 t43 t18_1 W6 ∧ μ1 t43 t18_1 W6 < μ1 r5_1 bit8 W4)))
 (onSome (q_bin .add t11 (.int .i64 1)) fun t64_1 =>
 I r5_1 t64_1 W4 ∧ μ r5_1 t64_1 W4 < μ r5 t11 W3))
 (onSome (q_loadn 2 q4 W3) fun t65 =>
 l_store 2 q4 t65 W3 fun _ W8 =>
 onSome (q_loadn 2 q4 W8) fun q4_1 =>
 K (.tuple #[q4_1, r5]) W8)
theorem lift168 {p0 c1 : Value} {w : World} {K : Value → World → Prop} (h : L168 p0 c1 w K) : Ret Tryz.prog 168 [p0, c1] w K := by
  have e : xfun Tryz.prog Tryz.f168 (.s .r (.b (.s .r (.s (.s .r (.b (.l [5, 11] 36893488147419102176 (.s .r (.s (.c .r .r) (.s (.b (.s .r (.s .r (.b (.l [5, 8] 18446744073709519648 (.s (.s .r (.c .r .r)) (.s (.b (.s (.s .r (.c (.s .r .r) .r)) (.s .r (.s .r (.s .r (.s .r (.c (.s .r .r) .r))))))) .r))))))) .r)))))) (.s .r .r))))) [p0, c1] w K = L168 p0 c1 w K := by kernel_rfl
  exact xfun_sound (an := (.s .r (.b (.s .r (.s (.s .r (.b (.l [5, 11] 36893488147419102176 (.s .r (.s (.c .r .r) (.s (.b (.s .r (.s .r (.b (.l [5, 8] 18446744073709519648 (.s (.s .r (.c .r .r)) (.s (.b (.s (.s .r (.c (.s .r .r) .r)) (.s .r (.s .r (.s .r (.s .r (.c (.s .r .r) .r))))))) .r))))))) .r)))))) (.s .r .r)))))) Tryz.func168 mixed (by kernel_rfl) (by simp only [Tryz.ntmps168, List.length_cons, List.length_nil]; omega) (by rw [e]; exact h)
/-- muldiv.away -/
def L169 (mode0 neg1 odd2 r3 c4 : Value) (w : World) (K : Value → World → Prop) : Prop :=
 onSome (q_bin .eql r3 (.int .u64 0)) fun t13 =>
 xif t13
 (K (.bool false) w)
 (onSome (q_bin .sub c4 r3) fun t16 =>
 onSome (q_bin .eql mode0 (.int .i64 2)) fun t19 =>
 xif t19
 (K (.bool true) w)
 (onSome (q_bin .eql mode0 (.int .i64 3)) fun t21 =>
 xif t21
 (onSome (q_bin .geq r3 t16) fun t24 =>
 K t24 w)
 (onSome (q_bin .eql mode0 (.int .i64 4)) fun t26 =>
 xif t26
 (onSome (q_bin .gtr r3 t16) fun t29 =>
 onSome (gateQ false t29 (some r3)) fun t31 =>
 onSome (gateQ false t29 (some t16)) fun t32 =>
 onSome (gateQ false t29 (q_bin .eql t31 t32)) fun t33 =>
 onSome (gateQ false t29 (some t33)) fun t34 =>
 onSome (gateQ true t34 (some odd2)) fun t35 =>
 onSome (gateQ false t29 (q_pick t34 t35 (.bool false))) fun t36 =>
 onSome (q_pick t29 (.bool true) t36) fun t37 =>
 K t37 w)
 (onSome (q_bin .eql mode0 (.int .i64 5)) fun t39 =>
 xif t39
 (K neg1 w)
 (K (.bool false) w)))))
theorem lift169 {mode0 neg1 odd2 r3 c4 : Value} {w : World} {K : Value → World → Prop} (h : L169 mode0 neg1 odd2 r3 c4 w K) : Ret Tryz.prog 169 [mode0, neg1, odd2, r3, c4] w K := by
  have e : xfun Tryz.prog Tryz.f169 (.s .r (.s (.s .r (.c (.s .r .r) .r)) (.s .r (.s (.s .r (.b (.s .r (.c (.s .r .r) (.s .r (.c (.s .r .r) (.s .r (.c (.s .r .r) (.s .r (.c (.s .r .r) .r)))))))))) (.s .r .r))))) [mode0, neg1, odd2, r3, c4] w K = L169 mode0 neg1 odd2 r3 c4 w K := by kernel_rfl
  exact xfun_sound (an := (.s .r (.s (.s .r (.c (.s .r .r) .r)) (.s .r (.s (.s .r (.b (.s .r (.c (.s .r .r) (.s .r (.c (.s .r .r) (.s .r (.c (.s .r .r) (.s .r (.c (.s .r .r) .r)))))))))) (.s .r .r)))))) Tryz.func169 mixed (by kernel_rfl) (by simp only [Tryz.ntmps169, List.length_cons, List.length_nil]; omega) (by rw [e]; exact h)
/-- muldiv.signed -/
def L170 (neg0 size1 : Value) (w : World) (K : Value → World → Prop) : Prop :=
 xif neg0
 (onSome (q_bin .gtr size1 (.int .u64 9223372036854775808)) fun t8 =>
 xif t8
 (K (.tuple #[(.int .i64 0), (.int .i64 4)]) w)
 (onSome (q_bin .sub size1 (.int .u64 1)) fun t10 =>
 onSome (q_toint .i64 t10) fun t11 =>
 onSome (q_un .neg t11) fun t12 =>
 onSome (q_bin .sub t12 (.int .i64 1)) fun t13 =>
 K (.tuple #[t13, (.int .i64 0)]) w))
 (onSome (q_bin .geq size1 (.int .u64 9223372036854775808)) fun t15 =>
 xif t15
 (K (.tuple #[(.int .i64 0), (.int .i64 4)]) w)
 (onSome (q_toint .i64 size1) fun t17 =>
 K (.tuple #[t17, (.int .i64 0)]) w))
theorem lift170 {neg0 size1 : Value} {w : World} {K : Value → World → Prop} (h : L170 neg0 size1 w K) : Ret Tryz.prog 170 [neg0, size1] w K := by
  have e : xfun Tryz.prog Tryz.f170 (.s .r (.s (.s .r (.c (.s (.s .r (.c (.s .r .r) .r)) (.s .r .r)) .r)) (.s (.s .r (.c (.s .r .r) .r)) (.s .r .r)))) [neg0, size1] w K = L170 neg0 size1 w K := by kernel_rfl
  exact xfun_sound (an := (.s .r (.s (.s .r (.c (.s (.s .r (.c (.s .r .r) .r)) (.s .r .r)) .r)) (.s (.s .r (.c (.s .r .r) .r)) (.s .r .r))))) Tryz.func170 mixed (by kernel_rfl) (by simp only [Tryz.ntmps170, List.length_cons, List.length_nil]; omega) (by rw [e]; exact h)
/-- num.Near -/
def L171 (n0 lo1 hi2 : Value) (w : World) (K : Value → World → Prop) : Prop :=
 onSome (q_bin .lss n0 lo1) fun t10 =>
 xif t10
 (K lo1 w)
 (onSome (q_bin .gtr n0 hi2) fun t15 =>
 xif t15
 (K hi2 w)
 (K n0 w))
theorem lift171 {n0 lo1 hi2 : Value} {w : World} {K : Value → World → Prop} (h : L171 n0 lo1 hi2 w K) : Ret Tryz.prog 171 [n0, lo1, hi2] w K := by
  have e : xfun Tryz.prog Tryz.f171 (.s .r (.s (.b (.s .r (.c (.s .r .r) (.s .r (.c (.s .r .r) .r))))) (.s .r .r))) [n0, lo1, hi2] w K = L171 n0 lo1 hi2 w K := by kernel_rfl
  exact xfun_sound (an := (.s .r (.s (.b (.s .r (.c (.s .r .r) (.s .r (.c (.s .r .r) .r))))) (.s .r .r)))) Tryz.func171 mixed (by kernel_rfl) (by simp only [Tryz.ntmps171, List.length_cons, List.length_nil]; omega) (by rw [e]; exact h)
/-- average.part -/
def L172 (value0 n1 of2 : Value) (w : World) (K : Value → World → Prop) : Prop :=
 onSome (q_bin .eql n1 of2) fun t11 =>
 xif t11
 (K value0 w)
 (Ret Tryz.prog 116 [value0, n1, of2, (.int .i64 4)] w fun t17 W1 =>
 onSome (q_extract t17 0) fun t18 =>
 onSome (q_extract t17 1) fun t19 =>
 K t18 W1)
theorem lift172 {value0 n1 of2 : Value} {w : World} {K : Value → World → Prop} (h : L172 value0 n1 of2 w K) : Ret Tryz.prog 172 [value0, n1, of2] w K := by
  have e : xfun Tryz.prog Tryz.f172 (.s .r (.s (.s .r (.c (.s .r .r) .r)) (.s .r (.s .r .r)))) [value0, n1, of2] w K = L172 value0 n1 of2 w K := by kernel_rfl
  exact xfun_sound (an := (.s .r (.s (.s .r (.c (.s .r .r) .r)) (.s .r (.s .r .r))))) Tryz.func172 mixed (by kernel_rfl) (by simp only [Tryz.ntmps172, List.length_cons, List.length_nil]; omega) (by rw [e]; exact h)
/-- standard.share -/
def L177 (p0 q1 : Value) (w : World) (K : Value → World → Prop) : Prop :=
 l_new 105 (p0 : Value).cells w fun p2 W1 =>
 onSome (q_faddr 3 p2) fun t9 =>
 onSome (q_load1 t9 W1.drew) fun t10 =>
 onSome (q_faddr 5 p2) fun t11 =>
 onSome (q_load1 t11 W1.drew) fun t12 =>
 onSome (q_bin .sub t10 t12) fun t13 =>
 onSome (q_faddr 4 p2) fun t14 =>
 onSome (q_load1 t14 W1.drew) fun t15 =>
 onSome (q_faddr 6 p2) fun t16 =>
 onSome (q_load1 t16 W1.drew) fun t17 =>
 onSome (q_bin .sub t15 t17) fun t18 =>
 onSome (q_bin .eql q1 t13) fun t21 =>
 xif t21
 (K t18 W1.drew)
 (Ret Tryz.prog 116 [t18, q1, t13, (.int .i64 4)] W1.drew fun t27 W2 =>
 onSome (q_extract t27 0) fun t28 =>
 onSome (q_extract t27 1) fun t29 =>
 K t28 W2)
theorem lift177 {p0 q1 : Value} {w : World} {K : Value → World → Prop} (h : L177 p0 q1 w K) : Ret Tryz.prog 177 [p0, q1] w K := by
  have e : xfun Tryz.prog Tryz.f177 (.s .r (.s (.x [0, 1, 0, 4, 15, 0, 32, 0, 128, 480, 31, 2047] (.q 0 (.q 1 (.q 2 (.q 3 (.q 4 (.q 5 (.q 6 (.q 7 (.q 8 (.q 9 (.q 10 (.q 11 .nil))))))))))))) (.s (.s .r (.c (.s .r .r) .r)) (.s .r (.s .r .r))))) [p0, q1] w K = L177 p0 q1 w K := by kernel_rfl
  exact xfun_sound (an := (.s .r (.s (.x [0, 1, 0, 4, 15, 0, 32, 0, 128, 480, 31, 2047] (.q 0 (.q 1 (.q 2 (.q 3 (.q 4 (.q 5 (.q 6 (.q 7 (.q 8 (.q 9 (.q 10 (.q 11 .nil))))))))))))) (.s (.s .r (.c (.s .r .r) .r)) (.s .r (.s .r .r)))))) Tryz.func177 mixed (by kernel_rfl) (by simp only [Tryz.ntmps177, List.length_cons, List.length_nil]; omega) (by rw [e]; exact h)
/-- num.Sub -/
def L178 (a0 b1 : Value) (w : World) (K : Value → World → Prop) : Prop :=
 onSome (q_bin .sub a0 b1) fun t8 =>
 onSome (q_bin .lss t8 a0) fun t11 =>
 onSome (q_bin .gtr b1 (.int .i64 0)) fun t13 =>
 onSome (q_eq Tryz.prog .neq 4 t11 t13) fun t14 =>
 onSome (gateQ true t14 (some b1)) fun t16 =>
 onSome (gateQ true t14 (q_bin .neq t16 (.int .i64 0))) fun t17 =>
 onSome (q_pick t14 t17 (.bool false)) fun t18 =>
 xif t18
 (K (.tuple #[(.int .i64 0), (.bool false)]) w)
 (K (.tuple #[t8, (.bool true)]) w)
theorem lift178 {a0 b1 : Value} {w : World} {K : Value → World → Prop} (h : L178 a0 b1 w K) : Ret Tryz.prog 178 [a0, b1] w K := by
  have e : xfun Tryz.prog Tryz.f178 (.s .r (.s .r (.s (.s .r (.c (.s .r .r) .r)) (.s .r .r)))) [a0, b1] w K = L178 a0 b1 w K := by kernel_rfl
  exact xfun_sound (an := (.s .r (.s .r (.s (.s .r (.c (.s .r .r) .r)) (.s .r .r))))) Tryz.func178 mixed (by kernel_rfl) (by simp only [Tryz.ntmps178, List.length_cons, List.length_nil]; omega) (by rw [e]; exact h)
/-- num.Mul -/
def L179 (a0 b1 : Value) (w : World) (K : Value → World → Prop) : Prop :=
 Ret Tryz.prog 212 [a0] w fun t11 W1 =>
 Ret Tryz.prog 212 [b1] W1 fun t13 W2 =>
 Ret Tryz.prog 211 [t11, t13] W2 fun t14 W3 =>
 onSome (q_extract t14 0) fun t15 =>
 onSome (q_extract t14 1) fun t16 =>
 joining fun (J : Value → World → Prop) => (onSome (q_bin .lss a0 (.int .i64 0)) fun t18 =>
 onSome (q_bin .lss b1 (.int .i64 0)) fun t20 =>
 onSome (q_eq Tryz.prog .neq 4 t18 t20) fun t21 =>
 xif t21
 (onSome (q_bin .add (.int .u64 9223372036854775807) (.int .u64 1)) fun t23 =>
 J t23 W3)
 (J (.int .u64 9223372036854775807) W3)) ∧
 ∀ (most8 : Value) (W4 : World), J most8 W4 → ∀ _ : Env,
 onSome (q_bin .gtr t15 (.int .u64 0)) fun t25 =>
 onSome (gateQ false t25 (some t16)) fun t27 =>
 onSome (gateQ false t25 (some most8)) fun t28 =>
 onSome (gateQ false t25 (q_bin .gtr t27 t28)) fun t29 =>
 onSome (q_pick t25 (.bool true) t29) fun t30 =>
 xif t30
 (K (.tuple #[(.int .i64 0), (.bool false)]) W4)
 (onSome (q_bin .mul a0 b1) fun t33 =>
 K (.tuple #[t33, (.bool true)]) W4)
theorem lift179 {a0 b1 : Value} {w : World} {K : Value → World → Prop} (h : L179 a0 b1 w K) : Ret Tryz.prog 179 [a0, b1] w K := by
  have e : xfun Tryz.prog Tryz.f179 (.s .r (.s .r (.s .r (.j [8] 16646400 (.s .r (.c .r .r)) (.s (.s .r (.c (.s .r .r) .r)) (.s .r .r)))))) [a0, b1] w K = L179 a0 b1 w K := by kernel_rfl
  exact xfun_sound (an := (.s .r (.s .r (.s .r (.j [8] 16646400 (.s .r (.c .r .r)) (.s (.s .r (.c (.s .r .r) .r)) (.s .r .r))))))) Tryz.func179 mixed (by kernel_rfl) (by simp only [Tryz.ntmps179, List.length_cons, List.length_nil]; omega) (by rw [e]; exact h)
/-- num.Add -/
def L78 (a0 b1 : Value) (w : World) (K : Value → World → Prop) : Prop :=
 onSome (q_bin .add a0 b1) fun t8 =>
 onSome (q_bin .gtr t8 a0) fun t11 =>
 onSome (q_bin .gtr b1 (.int .i64 0)) fun t13 =>
 onSome (q_eq Tryz.prog .neq 4 t11 t13) fun t14 =>
 onSome (gateQ true t14 (some b1)) fun t16 =>
 onSome (gateQ true t14 (q_bin .neq t16 (.int .i64 0))) fun t17 =>
 onSome (q_pick t14 t17 (.bool false)) fun t18 =>
 xif t18
 (K (.tuple #[(.int .i64 0), (.bool false)]) w)
 (K (.tuple #[t8, (.bool true)]) w)
theorem lift78 {a0 b1 : Value} {w : World} {K : Value → World → Prop} (h : L78 a0 b1 w K) : Ret Tryz.prog 78 [a0, b1] w K := by
  have e : xfun Tryz.prog Tryz.f78 (.s .r (.s .r (.s (.s .r (.c (.s .r .r) .r)) (.s .r .r)))) [a0, b1] w K = L78 a0 b1 w K := by kernel_rfl
  exact xfun_sound (an := (.s .r (.s .r (.s (.s .r (.c (.s .r .r) .r)) (.s .r .r))))) Tryz.func78 mixed (by kernel_rfl) (by simp only [Tryz.ntmps78, List.length_cons, List.length_nil]; omega) (by rw [e]; exact h)
/-- math/bits.Mul64 -/
def L211 (x0 y1 : Value) (w : World) (K : Value → World → Prop) : Prop :=
 onSome (q_bin .and x0 (.int .u64 4294967295)) fun t15 =>
 onSome (q_bin .shr x0 (.int .u64 32)) fun t17 =>
 onSome (q_bin .and y1 (.int .u64 4294967295)) fun t19 =>
 onSome (q_bin .shr y1 (.int .u64 32)) fun t21 =>
 onSome (q_bin .mul t15 t19) fun t24 =>
 onSome (q_bin .mul t17 t19) fun t27 =>
 onSome (q_bin .shr t24 (.int .u64 32)) fun t29 =>
 onSome (q_bin .add t27 t29) fun t30 =>
 onSome (q_bin .and t30 (.int .u64 4294967295)) fun t32 =>
 onSome (q_bin .shr t30 (.int .u64 32)) fun t34 =>
 onSome (q_bin .mul t15 t21) fun t38 =>
 onSome (q_bin .add t32 t38) fun t39 =>
 onSome (q_bin .mul t17 t21) fun t42 =>
 onSome (q_bin .add t42 t34) fun t44 =>
 onSome (q_bin .shr t39 (.int .u64 32)) fun t46 =>
 onSome (q_bin .add t44 t46) fun t47 =>
 onSome (q_bin .mul x0 y1) fun t50 =>
 K (.tuple #[t47, t50]) w
theorem lift211 {x0 y1 : Value} {w : World} {K : Value → World → Prop} (h : L211 x0 y1 w K) : Ret Tryz.prog 211 [x0, y1] w K := by
  have e : xfun Tryz.prog Tryz.f211 (.s .r (.s .r (.s .r (.s .r (.s .r (.s .r (.s .r (.s .r (.s .r (.s .r (.s .r (.s .r .r)))))))))))) [x0, y1] w K = L211 x0 y1 w K := by kernel_rfl
  exact xfun_sound (an := (.s .r (.s .r (.s .r (.s .r (.s .r (.s .r (.s .r (.s .r (.s .r (.s .r (.s .r (.s .r .r))))))))))))) Tryz.func211 mixed (by kernel_rfl) (by simp only [Tryz.ntmps211, List.length_cons, List.length_nil]; omega) (by rw [e]; exact h)
/-- num.size -/
def L212 (n0 : Value) (w : World) (K : Value → World → Prop) : Prop :=
 onSome (q_bin .lss n0 (.int .i64 0)) fun t4 =>
 xif t4
 (onSome (q_toint .u64 n0) fun t6 =>
 onSome (q_un .neg t6) fun t7 =>
 K t7 w)
 (onSome (q_toint .u64 n0) fun t9 =>
 K t9 w)
theorem lift212 {n0 : Value} {w : World} {K : Value → World → Prop} (h : L212 n0 w K) : Ret Tryz.prog 212 [n0] w K := by
  have e : xfun Tryz.prog Tryz.f212 (.s .r (.s (.s .r (.c (.s .r .r) .r)) (.s .r .r))) [n0] w K = L212 n0 w K := by kernel_rfl
  exact xfun_sound (an := (.s .r (.s (.s .r (.c (.s .r .r) .r)) (.s .r .r)))) Tryz.func212 mixed (by kernel_rfl) (by simp only [Tryz.ntmps212, List.length_cons, List.length_nil]; omega) (by rw [e]; exact h)
/-- fifo.part -/
def L114 (value0 q1 n2 : Value) (w : World) (K : Value → World → Prop) : Prop :=
 onSome (q_bin .eql q1 n2) fun t11 =>
 xif t11
 (K value0 w)
 (Ret Tryz.prog 116 [value0, q1, n2, (.int .i64 4)] w fun t17 W1 =>
 onSome (q_extract t17 0) fun t18 =>
 onSome (q_extract t17 1) fun t19 =>
 K t18 W1)
theorem lift114 {value0 q1 n2 : Value} {w : World} {K : Value → World → Prop} (h : L114 value0 q1 n2 w K) : Ret Tryz.prog 114 [value0, q1, n2] w K := by
  have e : xfun Tryz.prog Tryz.f114 (.s .r (.s (.s .r (.c (.s .r .r) .r)) (.s .r (.s .r .r)))) [value0, q1, n2] w K = L114 value0 q1 n2 w K := by kernel_rfl
  exact xfun_sound (an := (.s .r (.s (.s .r (.c (.s .r .r) .r)) (.s .r (.s .r .r))))) Tryz.func114 mixed (by kernel_rfl) (by simp only [Tryz.ntmps114, List.length_cons, List.length_nil]; omega) (by rw [e]; exact h)
/-- lots.part -/
def L185 (value0 q1 n2 : Value) (w : World) (K : Value → World → Prop) : Prop :=
 onSome (q_bin .eql q1 n2) fun t11 =>
 xif t11
 (K value0 w)
 (Ret Tryz.prog 116 [value0, q1, n2, (.int .i64 4)] w fun t17 W1 =>
 onSome (q_extract t17 0) fun t18 =>
 onSome (q_extract t17 1) fun t19 =>
 K t18 W1)
theorem lift185 {value0 q1 n2 : Value} {w : World} {K : Value → World → Prop} (h : L185 value0 q1 n2 w K) : Ret Tryz.prog 185 [value0, q1, n2] w K := by
  have e : xfun Tryz.prog Tryz.f185 (.s .r (.s (.s .r (.c (.s .r .r) .r)) (.s .r (.s .r .r)))) [value0, q1, n2] w K = L185 value0 q1 n2 w K := by kernel_rfl
  exact xfun_sound (an := (.s .r (.s (.s .r (.c (.s .r .r) .r)) (.s .r (.s .r .r))))) Tryz.func185 mixed (by kernel_rfl) (by simp only [Tryz.ntmps185, List.length_cons, List.length_nil]; omega) (by rw [e]; exact h)
end Go.X
