/- The lifted forms of Go functions, printed by a program (lift.py); each is held against the loaded program by the kernel. -/
import Derived.Test.YtbglbbmlohfemaaGreatDoorA2
set_option linter.unusedVariables false
set_option linter.unusedSimpArgs false
set_option maxRecDepth 100000
namespace Go.X
open Go.Proofs
/-- costing.Start -/
def L21 (method0 price1 : Value) (w : World) (K : Value → World → Prop) : Prop :=
 l_new 28 #[.int .i64 0, .int .i64 0, .int .i64 0, .slice none 0 0, .slice none 0 0] w fun s4 W1 =>
 onSome (q_bin .lss method0 (.int .i64 1)) fun t8 =>
 onSome (gateQ false t8 (some method0)) fun t10 =>
 onSome (gateQ false t8 (q_bin .gtr t10 (.int .i64 4))) fun t11 =>
 onSome (q_pick t8 (.bool true) t11) fun t12 =>
 xif t12
 (onSome (q_build #[.int .i64 0, .int .i64 0, .int .i64 0, .slice none 0 0, .slice none 0 0] []) fun t13 =>
 l_store 5 s4 t13 W1 fun _ W2 =>
 onSome (q_loadn 5 s4 W2) fun s4_1 =>
 K (.tuple #[s4_1, (.int .i64 10)]) W2)
 (onSome (q_bin .lss price1 (.int .i64 0)) fun t16 =>
 onSome (gateQ false t16 (some price1)) fun t18 =>
 onSome (gateQ false t16 (q_bin .gtr t18 (.int .i64 1000000000000))) fun t19 =>
 onSome (q_pick t16 (.bool true) t19) fun t20 =>
 xif t20
 (onSome (q_build #[.int .i64 0, .int .i64 0, .int .i64 0, .slice none 0 0, .slice none 0 0] []) fun t21 =>
 l_store 5 s4 t21 W1 fun _ W3 =>
 onSome (q_loadn 5 s4 W3) fun s4_2 =>
 K (.tuple #[s4_2, (.int .i64 3)]) W3)
 (onSome (q_bin .eql method0 (.int .i64 3)) fun t24 =>
 xif t24
 (onSome (q_build #[.int .i64 0, .int .i64 0, .int .i64 0, .slice none 0 0, .slice none 0 0] [(2, 1, price1)]) fun t26 =>
 l_store 5 s4 t26 W1 fun _ W4 =>
 onSome (q_loadn 5 s4 W4) fun s4_3 =>
 K (.tuple #[s4_3, (.int .i64 0)]) W4)
 (onSome (q_build #[.int .i64 0, .int .i64 0, .int .i64 0, .slice none 0 0, .slice none 0 0] []) fun t27 =>
 l_store 5 s4 t27 W1 fun _ W5 =>
 onSome (q_loadn 5 s4 W5) fun s4_4 =>
 K (.tuple #[s4_4, (.int .i64 0)]) W5)))
theorem lift21 {method0 price1 : Value} {w : World} {K : Value → World → Prop} (h : L21 method0 price1 w K) : Ret Tryz.prog 21 [method0, price1] w K := by
  have e : xfun Tryz.prog Tryz.f21 (.s .r (.s (.b (.s .r (.c (.s .r .r) (.s .r (.c (.s .r .r) (.s .r (.c (.s .r .r) .r))))))) (.s .r .r))) [method0, price1] w K = L21 method0 price1 w K := by kernel_rfl
  exact xfun_sound (an := (.s .r (.s (.b (.s .r (.c (.s .r .r) (.s .r (.c (.s .r .r) (.s .r (.c (.s .r .r) .r))))))) (.s .r .r)))) Tryz.func21 mixed (by kernel_rfl) (by simp only [Tryz.ntmps21, List.length_cons, List.length_nil]; omega) (by rw [e]; exact h)
/-- costing.Run -/
def L23 (method0 price1 l2 : Value) (w : World) (K : Value → World → Prop) : Prop :=
 l_new 28 #[.int .i64 0, .int .i64 0, .int .i64 0, .slice none 0 0, .slice none 0 0] w fun s6 W1 =>
 Ret Tryz.prog 21 [method0, price1] W1 fun t14 W2 =>
 onSome (q_extract t14 0) fun t15 =>
 onSome (q_extract t14 1) fun t16 =>
 l_store 5 s6 t15 W2 fun _ W3 =>
 onSome (q_bin .neq t16 (.int .i64 0)) fun t18 =>
 xif t18
 (onSome (q_build #[.int .i64 0, .int .i64 0, .int .i64 0, .slice none 0 0, .slice none 0 0] []) fun t19 =>
 l_store 5 s6 t19 W3 fun _ W4 =>
 onSome (q_loadn 5 s6 W4) fun s6_1 =>
 K (.tuple #[s6_1, (.slice none 0 0), (.int .i64 (-1)), t16]) W4)
 (onSome (q_loadn 5 s6 W3) fun t22 =>
 onSome (q_build #[.int .i64 0, .int .i64 0, .int .i64 0, .int .i64 0, .slice none 0 0, .slice none 0 0, .slice none 0 0] [(0, 1, method0), (1, 5, t22)]) fun t23 =>
 l_new 95 (t23 : Value).cells W3 fun t24 W5 =>
 Ret Tryz.prog 56 [t24, (.func (.func 57) #[] #[]), l2] W5 fun t28 W6 =>
 onSome (q_extract t28 0) fun t29 =>
 onSome (q_extract t28 1) fun t30 =>
 onSome (q_bin .neq t30 (.int .i64 0)) fun t32 =>
 xif t32
 (onSome (q_build #[.int .i64 0, .int .i64 0, .int .i64 0, .slice none 0 0, .slice none 0 0] []) fun t33 =>
 l_store 5 s6 t33 W6 fun _ W7 =>
 onSome (q_loadn 5 s6 W7) fun s6_2 =>
 K (.tuple #[s6_2, (.slice none 0 0), t29, t30]) W7)
 (onSome (q_nil t24) fun t37 =>
 onSome (q_faddr 1 t37) fun t38 =>
 onSome (q_loadn 5 t38 W6.drew) fun t39 =>
 onSome (q_nil t24) fun t41 =>
 onSome (q_faddr 6 t41) fun t42 =>
 onSome (q_load1 t42 W6.drew) fun t43 =>
 l_store 5 s6 t39 W6.drew fun _ W8 =>
 ob (q_load1 t42 W8 = some t43) (
 onSome (q_loadn 5 s6 W8) fun s6_3 =>
 K (.tuple #[s6_3, t43, (.int .i64 (-1)), (.int .i64 0)]) W8)))
theorem lift23 {method0 price1 l2 : Value} {w : World} {K : Value → World → Prop} (h : L23 method0 price1 l2 w K) : Ret Tryz.prog 23 [method0, price1, l2] w K := by
  have e : xfun Tryz.prog Tryz.f23 (.s .r (.s .r (.s (.s .r (.c (.s .r .r) .r)) (.s .r (.s .r (.s (.s .r (.c (.s .r .r) .r)) (.s (.x [0, 1, 3, 7, 0, 16, 48, 112, 15, 511, 1023, 2047] (.q 0 (.q 1 (.q 2 (.q 3 (.q 4 (.q 5 (.q 6 (.q 7 (.l 8 15 (.q 9 (.q 10 (.q 11 .nil))))))))))))) .r))))))) [method0, price1, l2] w K = L23 method0 price1 l2 w K := by kernel_rfl
  exact xfun_sound (an := (.s .r (.s .r (.s (.s .r (.c (.s .r .r) .r)) (.s .r (.s .r (.s (.s .r (.c (.s .r .r) .r)) (.s (.x [0, 1, 3, 7, 0, 16, 48, 112, 15, 511, 1023, 2047] (.q 0 (.q 1 (.q 2 (.q 3 (.q 4 (.q 5 (.q 6 (.q 7 (.l 8 15 (.q 9 (.q 10 (.q 11 .nil))))))))))))) .r)))))))) Tryz.func23 mixed (by kernel_rfl) (by simp only [Tryz.ntmps23, List.length_cons, List.length_nil]; omega) (by rw [e]; exact h)
/-- accountingref34.SameStock -/
def L25 (a0 b1 : Value) (w : World) (K : Value → World → Prop) : Prop :=
 l_new 28 (a0 : Value).cells w fun a2 W1 =>
 l_new 28 (b1 : Value).cells W1 fun b3 W2 =>
 onSome (q_faddr 0 a2) fun t7 =>
 onSome (q_load1 t7 W2) fun t8 =>
 onSome (q_faddr 0 b3) fun t9 =>
 onSome (q_load1 t9 W2) fun t10 =>
 onSome (q_bin .neq t8 t10) fun t11 =>
 onSome (gateQ false t11 (q_faddr 1 a2)) fun t13 =>
 onSome (gateQ false t11 (q_load1 t13 W2)) fun t14 =>
 onSome (gateQ false t11 (q_faddr 1 b3)) fun t15 =>
 onSome (gateQ false t11 (q_load1 t15 W2)) fun t16 =>
 onSome (gateQ false t11 (q_bin .neq t14 t16)) fun t17 =>
 onSome (q_pick t11 (.bool true) t17) fun t18 =>
 onSome (gateQ false t18 (q_faddr 2 a2)) fun t20 =>
 onSome (gateQ false t18 (q_load1 t20 W2)) fun t21 =>
 onSome (gateQ false t18 (q_faddr 2 b3)) fun t22 =>
 onSome (gateQ false t18 (q_load1 t22 W2)) fun t23 =>
 onSome (gateQ false t18 (q_bin .neq t21 t23)) fun t24 =>
 onSome (q_pick t18 (.bool true) t24) fun t25 =>
 onSome (gateQ false t25 (q_faddr 3 a2)) fun t27 =>
 onSome (gateQ false t25 (q_load1 t27 W2)) fun t28 =>
 onSome (gateQ false t25 (q_len t28)) fun t29 =>
 onSome (gateQ false t25 (q_faddr 3 b3)) fun t30 =>
 onSome (gateQ false t25 (q_load1 t30 W2)) fun t31 =>
 onSome (gateQ false t25 (q_len t31)) fun t32 =>
 onSome (gateQ false t25 (q_bin .neq t29 t32)) fun t33 =>
 onSome (q_pick t25 (.bool true) t33) fun t34 =>
 onSome (gateQ false t34 (q_faddr 4 a2)) fun t36 =>
 onSome (gateQ false t34 (q_load1 t36 W2)) fun t37 =>
 onSome (gateQ false t34 (q_len t37)) fun t38 =>
 onSome (gateQ false t34 (q_faddr 4 b3)) fun t39 =>
 onSome (gateQ false t34 (q_load1 t39 W2)) fun t40 =>
 onSome (gateQ false t34 (q_len t40)) fun t41 =>
 onSome (gateQ false t34 (q_bin .neq t38 t41)) fun t42 =>
 onSome (q_pick t34 (.bool true) t42) fun t43 =>
 xif t43
 (K (.bool false) W2)
 (looping fun (I : Value → World → Prop) (μ : Value → World → Nat) => I (.int .i64 0) W2 ∧
 ∀ (i5 : Value) (W3 : World), I i5 W3 → ∀ _ : Env,
 onSome (q_faddr 3 a2) fun t45 =>
 onSome (q_load1 t45 W3) fun t46 =>
 onSome (q_len t46) fun t47 =>
 onSome (q_bin .lss i5 t47) fun t48 =>
 xif t48
 (onSome (q_faddr 3 a2) fun t51 =>
 onSome (q_load1 t51 W3.drew) fun t52 =>
 onSome (q_iaddr 4 t52 i5) fun t54 =>
 onSome (q_loadn 4 t54 W3.drew) fun t55 =>
 onSome (q_faddr 3 b3) fun t56 =>
 onSome (q_load1 t56 W3.drew) fun t57 =>
 onSome (q_iaddr 4 t57 i5) fun t59 =>
 onSome (q_loadn 4 t59 W3.drew) fun t60 =>
 onSome (q_eq Tryz.prog .neq 103 t55 t60) fun t61 =>
 xif t61
 (K (.bool false) W3.drew)
 (onSome (q_bin .add i5 (.int .i64 1)) fun t50 =>
 I t50 W3.drew ∧ μ t50 W3.drew < μ i5 W3))
 (looping fun (I1 : Value → World → Prop) (μ1 : Value → World → Nat) => I1 (.int .i64 0) W3 ∧
 ∀ (i6 : Value) (W4 : World), I1 i6 W4 → ∀ _ : Env,
 onSome (q_faddr 4 a2) fun t63 =>
 onSome (q_load1 t63 W4) fun t64 =>
 onSome (q_len t64) fun t65 =>
 onSome (q_bin .lss i6 t65) fun t66 =>
 xif t66
 (onSome (q_faddr 4 a2) fun t69 =>
 onSome (q_load1 t69 W4.drew) fun t70 =>
 onSome (q_iaddr 7 t70 i6) fun t72 =>
 onSome (q_loadn 7 t72 W4.drew) fun t73 =>
 onSome (q_faddr 4 b3) fun t74 =>
 onSome (q_load1 t74 W4.drew) fun t75 =>
 onSome (q_iaddr 7 t75 i6) fun t77 =>
 onSome (q_loadn 7 t77 W4.drew) fun t78 =>
 onSome (q_eq Tryz.prog .neq 105 t73 t78) fun t79 =>
 xif t79
 (K (.bool false) W4.drew)
 (onSome (q_bin .add i6 (.int .i64 1)) fun t68 =>
 I1 t68 W4.drew ∧ μ1 t68 W4.drew < μ1 i6 W4))
 (K (.bool true) W4)))
theorem lift25 {a0 b1 : Value} {w : World} {K : Value → World → Prop} (h : L25 a0 b1 w K) : Ret Tryz.prog 25 [a0, b1] w K := by
  have e : xfun Tryz.prog Tryz.f25 (.s .r (.s (.s .r (.c (.s .r .r) .r)) (.s (.s .r (.b (.l [5] 4611668426241343536 (.s (.s .r (.c .r .r)) (.s (.b (.s (.x [0, 1, 0, 7, 15, 0, 32, 0, 224, 480, 1023] (.q 0 (.q 1 (.q 2 (.q 3 (.q 4 (.q 5 (.q 6 (.q 7 (.q 8 (.q 9 (.q 10 .nil)))))))))))) (.c (.s .r .r) .r))) .r))))) (.s (.s .r (.b (.l [6] 1208921207928610747318352 (.s (.s .r (.c .r .r)) (.s (.b (.s (.x [0, 1, 0, 7, 15, 0, 32, 0, 224, 480, 1023] (.q 0 (.q 1 (.q 2 (.q 3 (.q 4 (.q 5 (.q 6 (.q 7 (.q 8 (.q 9 (.q 10 .nil)))))))))))) (.c (.s .r .r) .r))) .r))))) (.s .r .r))))) [a0, b1] w K = L25 a0 b1 w K := by kernel_rfl
  exact xfun_sound (an := (.s .r (.s (.s .r (.c (.s .r .r) .r)) (.s (.s .r (.b (.l [5] 4611668426241343536 (.s (.s .r (.c .r .r)) (.s (.b (.s (.x [0, 1, 0, 7, 15, 0, 32, 0, 224, 480, 1023] (.q 0 (.q 1 (.q 2 (.q 3 (.q 4 (.q 5 (.q 6 (.q 7 (.q 8 (.q 9 (.q 10 .nil)))))))))))) (.c (.s .r .r) .r))) .r))))) (.s (.s .r (.b (.l [6] 1208921207928610747318352 (.s (.s .r (.c .r .r)) (.s (.b (.s (.x [0, 1, 0, 7, 15, 0, 32, 0, 224, 480, 1023] (.q 0 (.q 1 (.q 2 (.q 3 (.q 4 (.q 5 (.q 6 (.q 7 (.q 8 (.q 9 (.q 10 .nil)))))))))))) (.c (.s .r .r) .r))) .r))))) (.s .r .r)))))) Tryz.func25 mixed (by kernel_rfl) (by simp only [Tryz.ntmps25, List.length_cons, List.length_nil]; omega) (by rw [e]; exact h)
/-- costing.Step -/
def L27 (method0 s1 m2 : Value) (w : World) (K : Value → World → Prop) : Prop :=
 l_new 28 (s1 : Value).cells w fun s4 W1 =>
 l_new 47 (m2 : Value).cells W1 fun m5 W2 =>
 l_new 28 #[.int .i64 0, .int .i64 0, .int .i64 0, .slice none 0 0, .slice none 0 0] W2 fun t6 W3 =>
 l_new 43 #[.int .i64 0, .int .i64 0, .int .i64 0, .int .i64 0] W3 fun c7 W4 =>
 onSome (q_bin .eql method0 (.int .i64 1)) fun t11 =>
 xif t11
 (onSome (q_loadn 5 s4 W4) fun t12 =>
 onSome (q_loadn 8 m5 W4) fun t13 =>
 Ret Tryz.prog 32 [t12, t13] W4 fun t14 W5 =>
 onSome (q_extract t14 0) fun t15 =>
 onSome (q_extract t14 1) fun t16 =>
 onSome (q_extract t14 2) fun t17 =>
 l_store 5 t6 t15 W5 fun _ W6 =>
 l_store 4 c7 t16 W6 fun _ W7 =>
 onSome (q_loadn 5 t6 W7) fun t6_1 =>
 onSome (q_loadn 4 c7 W7) fun c7_1 =>
 K (.tuple #[t6_1, c7_1, t17]) W7)
 (onSome (q_bin .eql method0 (.int .i64 2)) fun t19 =>
 xif t19
 (onSome (q_loadn 5 s4 W4) fun t20 =>
 onSome (q_loadn 8 m5 W4) fun t21 =>
 Ret Tryz.prog 33 [t20, t21] W4 fun t22 W8 =>
 onSome (q_extract t22 0) fun t23 =>
 onSome (q_extract t22 1) fun t24 =>
 onSome (q_extract t22 2) fun t25 =>
 l_store 5 t6 t23 W8 fun _ W9 =>
 l_store 4 c7 t24 W9 fun _ W10 =>
 onSome (q_loadn 5 t6 W10) fun t6_2 =>
 onSome (q_loadn 4 c7 W10) fun c7_2 =>
 K (.tuple #[t6_2, c7_2, t25]) W10)
 (onSome (q_bin .eql method0 (.int .i64 3)) fun t27 =>
 xif t27
 (onSome (q_loadn 5 s4 W4) fun t28 =>
 onSome (q_loadn 8 m5 W4) fun t29 =>
 Ret Tryz.prog 34 [t28, t29] W4 fun t30 W11 =>
 onSome (q_extract t30 0) fun t31 =>
 onSome (q_extract t30 1) fun t32 =>
 onSome (q_extract t30 2) fun t33 =>
 l_store 5 t6 t31 W11 fun _ W12 =>
 l_store 4 c7 t32 W12 fun _ W13 =>
 onSome (q_loadn 5 t6 W13) fun t6_3 =>
 onSome (q_loadn 4 c7 W13) fun c7_3 =>
 K (.tuple #[t6_3, c7_3, t33]) W13)
 (onSome (q_bin .eql method0 (.int .i64 4)) fun t35 =>
 xif t35
 (onSome (q_loadn 5 s4 W4) fun t36 =>
 onSome (q_loadn 8 m5 W4) fun t37 =>
 Ret Tryz.prog 35 [t36, t37] W4 fun t38 W14 =>
 onSome (q_extract t38 0) fun t39 =>
 onSome (q_extract t38 1) fun t40 =>
 onSome (q_extract t38 2) fun t41 =>
 l_store 5 t6 t39 W14 fun _ W15 =>
 l_store 4 c7 t40 W15 fun _ W16 =>
 onSome (q_loadn 5 t6 W16) fun t6_4 =>
 onSome (q_loadn 4 c7 W16) fun c7_4 =>
 K (.tuple #[t6_4, c7_4, t41]) W16)
 (onSome (q_build #[.int .i64 0, .int .i64 0, .int .i64 0, .slice none 0 0, .slice none 0 0] []) fun t42 =>
 onSome (q_build #[.int .i64 0, .int .i64 0, .int .i64 0, .int .i64 0] []) fun t43 =>
 l_store 5 t6 t42 W4 fun _ W17 =>
 l_store 4 c7 t43 W17 fun _ W18 =>
 onSome (q_loadn 5 t6 W18) fun t6_5 =>
 onSome (q_loadn 4 c7 W18) fun c7_5 =>
 K (.tuple #[t6_5, c7_5, (.int .i64 10)]) W18))))
theorem lift27 {method0 s1 m2 : Value} {w : World} {K : Value → World → Prop} (h : L27 method0 s1 m2 w K) : Ret Tryz.prog 27 [method0, s1, m2] w K := by
  have e : xfun Tryz.prog Tryz.f27 (.s .r (.s (.s .r (.b (.s .r (.c (.s .r .r) (.s .r (.c (.s .r .r) (.s .r (.c (.s .r .r) (.s .r (.c (.s .r .r) .r)))))))))) (.s .r .r))) [method0, s1, m2] w K = L27 method0 s1 m2 w K := by kernel_rfl
  exact xfun_sound (an := (.s .r (.s (.s .r (.b (.s .r (.c (.s .r .r) (.s .r (.c (.s .r .r) (.s .r (.c (.s .r .r) (.s .r (.c (.s .r .r) .r)))))))))) (.s .r .r)))) Tryz.func27 mixed (by kernel_rfl) (by simp only [Tryz.ntmps27, List.length_cons, List.length_nil]; omega) (by rw [e]; exact h)
/-- costing.each -/
def L56 (r0 action1 l2 : Value) (w : World) (K : Value → World → Prop) : Prop :=
 onSome (q_len l2) fun t12 =>
 looping fun (I : Value → World → Prop) (μ : Value → World → Nat) => I (.int .i64 0) w ∧
 ∀ (t13 : Value) (W1 : World), I t13 W1 → ∀ _ : Env,
 onSome (q_bin .lss t13 t12) fun t14 =>
 xif t14
 (onSome (q_iaddr 8 l2 t13) fun t16 =>
 onSome (q_loadn 8 t16 W1) fun t17 =>
 l_new 47 #[.int .i64 0, .int .i64 0, .string ⟨#[]⟩, .int .i64 0, .int .i64 0, .int .i64 0, .string ⟨#[]⟩, .int .i64 0] W1 fun m9 W2 =>
 l_store 8 m9 t17 W2 fun _ W3 =>
 onSome (q_loadn 8 m9 W3) fun t20 =>
 l_callv Tryz.prog action1 [r0, t20] W3 fun t21 W4 =>
 onSome (q_bin .neq t21 (.int .i64 0)) fun t23 =>
 xif t23
 (K (.tuple #[t13, t21]) W4)
 (onSome (q_bin .add t13 (.int .i64 1)) fun t26 =>
 I t26 W4 ∧ μ t26 W4 < μ t13 W1))
 (K (.tuple #[(.int .i64 (-1)), (.int .i64 0)]) W1)
theorem lift56 {r0 action1 l2 : Value} {w : World} {K : Value → World → Prop} (h : L56 r0 action1 l2 w K) : Ret Tryz.prog 56 [r0, action1, l2] w K := by
  have e : xfun Tryz.prog Tryz.f56 (.s .r (.s (.s .r (.b (.l [13] 134211520 (.s .r (.s (.c .r .r) (.s (.b (.s .r (.s .r (.s .r (.c (.s .r .r) .r))))) .r)))))) (.s .r .r))) [r0, action1, l2] w K = L56 r0 action1 l2 w K := by kernel_rfl
  exact xfun_sound (an := (.s .r (.s (.s .r (.b (.l [13] 134211520 (.s .r (.s (.c .r .r) (.s (.b (.s .r (.s .r (.s .r (.c (.s .r .r) .r))))) .r)))))) (.s .r .r)))) Tryz.func56 mixed (by kernel_rfl) (by simp only [Tryz.ntmps56, List.length_cons, List.length_nil]; omega) (by rw [e]; exact h)
/-- (*costing.replay).perform -/
def L57 (r0 m1 : Value) (w : World) (K : Value → World → Prop) : Prop :=
 l_new 47 (m1 : Value).cells w fun m3 W1 =>
 joining fun (J : Value → Value → Value → World → Prop) => (onSome (q_nil r0) fun t10 =>
 onSome (q_faddr 0 t10) fun t11 =>
 onSome (q_load1 t11 W1.drew) fun t12 =>
 onSome (q_nil r0) fun t14 =>
 onSome (q_faddr 1 t14) fun t15 =>
 onSome (q_loadn 5 t15 W1.drew) fun t16 =>
 onSome (q_loadn 8 m3 W1.drew) fun t17 =>
 (Ret Tryz.prog 27 [t12, t16, t17] W1.drew fun t18 W2 =>
 onSome (q_extract t18 0) fun t19 =>
 onSome (q_extract t18 1) fun t20 =>
 onSome (q_extract t18 2) fun t21 =>
 (l_new 28 #[.int .i64 0, .int .i64 0, .int .i64 0, .slice none 0 0, .slice none 0 0] W2 fun t5 W3 =>
 l_new 43 #[.int .i64 0, .int .i64 0, .int .i64 0, .int .i64 0] W3 fun c6 W4 =>
 l_store 5 t5 t19 W4 fun _ W5 =>
 l_store 4 c6 t20 W5 fun _ W6 =>
 J t5 c6 t21 W6) ∧
 (l_new 43 #[.int .i64 0, .int .i64 0, .int .i64 0, .int .i64 0] W2 fun c6_1 W7 =>
 l_new 28 #[.int .i64 0, .int .i64 0, .int .i64 0, .slice none 0 0, .slice none 0 0] W7 fun t5_1 W8 =>
 l_store 5 t5_1 t19 W8 fun _ W9 =>
 l_store 4 c6_1 t20 W9 fun _ W10 =>
 J t5_1 c6_1 t21 W10)) ∧
 ((l_new 28 #[.int .i64 0, .int .i64 0, .int .i64 0, .slice none 0 0, .slice none 0 0] W1.drew fun t5_2 W11 =>
 ob (q_loadn 8 m3 W11 = some t17) (
 ob (q_loadn 5 t15 W11 = some t16) (
 ob (q_load1 t11 W11 = some t12) (
 (Ret Tryz.prog 27 [t12, t16, t17] W11 fun t18_1 W12 =>
 onSome (q_extract t18_1 0) fun t19_1 =>
 onSome (q_extract t18_1 1) fun t20_1 =>
 onSome (q_extract t18_1 2) fun t21_1 =>
 l_new 43 #[.int .i64 0, .int .i64 0, .int .i64 0, .int .i64 0] W12 fun c6_2 W13 =>
 l_store 5 t5_2 t19_1 W13 fun _ W14 =>
 l_store 4 c6_2 t20_1 W14 fun _ W15 =>
 J t5_2 c6_2 t21_1 W15) ∧
 (l_new 43 #[.int .i64 0, .int .i64 0, .int .i64 0, .int .i64 0] W11 fun c6_3 W16 =>
 ob (q_loadn 8 m3 W16 = some t17) (
 ob (q_loadn 5 t15 W16 = some t16) (
 ob (q_load1 t11 W16 = some t12) (
 Ret Tryz.prog 27 [t12, t16, t17] W16 fun t18_2 W17 =>
 onSome (q_extract t18_2 0) fun t19_2 =>
 onSome (q_extract t18_2 1) fun t20_2 =>
 onSome (q_extract t18_2 2) fun t21_2 =>
 l_store 5 t5_2 t19_2 W17 fun _ W18 =>
 l_store 4 c6_3 t20_2 W18 fun _ W19 =>
 J t5_2 c6_3 t21_2 W19)))))))) ∧
 (l_new 43 #[.int .i64 0, .int .i64 0, .int .i64 0, .int .i64 0] W1.drew fun c6_4 W20 =>
 ob (q_loadn 8 m3 W20 = some t17) (
 ob (q_loadn 5 t15 W20 = some t16) (
 ob (q_load1 t11 W20 = some t12) (
 (Ret Tryz.prog 27 [t12, t16, t17] W20 fun t18_3 W21 =>
 onSome (q_extract t18_3 0) fun t19_3 =>
 onSome (q_extract t18_3 1) fun t20_3 =>
 onSome (q_extract t18_3 2) fun t21_3 =>
 l_new 28 #[.int .i64 0, .int .i64 0, .int .i64 0, .slice none 0 0, .slice none 0 0] W21 fun t5_3 W22 =>
 l_store 5 t5_3 t19_3 W22 fun _ W23 =>
 l_store 4 c6_4 t20_3 W23 fun _ W24 =>
 J t5_3 c6_4 t21_3 W24) ∧
 (l_new 28 #[.int .i64 0, .int .i64 0, .int .i64 0, .slice none 0 0, .slice none 0 0] W20 fun t5_4 W25 =>
 ob (q_loadn 8 m3 W25 = some t17) (
 ob (q_loadn 5 t15 W25 = some t16) (
 ob (q_load1 t11 W25 = some t12) (
 Ret Tryz.prog 27 [t12, t16, t17] W25 fun t18_4 W26 =>
 onSome (q_extract t18_4 0) fun t19_4 =>
 onSome (q_extract t18_4 1) fun t20_4 =>
 onSome (q_extract t18_4 2) fun t21_4 =>
 l_store 5 t5_4 t19_4 W26 fun _ W27 =>
 l_store 4 c6_4 t20_4 W27 fun _ W28 =>
 J t5_4 c6_4 t21_4 W28)))))))))) ∧
 ∀ (t5_5 c6_5 e7 : Value) (W29 : World), J t5_5 c6_5 e7 W29 → ∀ _ : Env,
 onSome (q_bin .neq e7 (.int .i64 0)) fun t23 =>
 xif t23
 (K e7 W29)
 (onSome (q_loadn 5 t5_5 W29) fun t26 =>
 onSome (q_nil r0) fun t27 =>
 onSome (q_faddr 1 t27) fun t28 =>
 l_store 5 t28 t26 W29 fun _ W30 =>
 onSome (q_nil r0) fun t31 =>
 onSome (q_faddr 6 t31) fun t32 =>
 onSome (q_load1 t32 W30.drew) fun t33 =>
 onSome (q_loadn 4 c6_5 W30.drew) fun t34 =>
 l_lit 43 1 #[.int .i64 0, .int .i64 0, .int .i64 0, .int .i64 0] [(0, 4, t34)] W30.drew fun t35 W31 =>
 ob (q_load1 t32 W31 = some t33) (
 l_append Tryz.prog #[34, 34] 34 t33 t35 W31 fun t36 W32 =>
 onSome (q_nil r0) fun t37 =>
 onSome (q_faddr 6 t37) fun t38 =>
 l_store 1 t38 t36 W32 fun _ W33 =>
 K (.int .i64 0) W33))
theorem lift57 {r0 m1 : Value} {w : World} {K : Value → World → Prop} (h : L57 r0 m1 w K) : Ret Tryz.prog 57 [r0, m1] w K := by
  have e : xfun Tryz.prog Tryz.f57 (.s .r (.s (.d [5, 6, 7] 4194272 [0, 1, 3, 7, 0, 16, 48, 112, 0, 511, 1023, 2047, 2047, 2047, 0, 0, 53247, 122879, 262143] (.q 0 (.q 1 (.q 2 (.q 3 (.q 4 (.q 5 (.q 6 (.q 7 (.q 8 (.alt (.l 9 511 (.q 10 (.q 11 (.q 12 (.q 13 (.alt (.l 14 0 (.l 15 0 (.l 16 53247 (.l 17 122879 (.q 18 .nil))))) (.l 15 0 (.l 14 0 (.l 16 53247 (.l 17 122879 (.q 18 .nil))))))))))) (.alt (.l 14 0 (.alt (.l 9 511 (.q 10 (.q 11 (.q 12 (.q 13 (.l 15 0 (.l 16 53247 (.l 17 122879 (.q 18 .nil))))))))) (.l 15 0 (.l 9 511 (.q 10 (.q 11 (.q 12 (.q 13 (.l 16 53247 (.l 17 122879 (.q 18 .nil))))))))))) (.l 15 0 (.alt (.l 9 511 (.q 10 (.q 11 (.q 12 (.q 13 (.l 14 0 (.l 16 53247 (.l 17 122879 (.q 18 .nil))))))))) (.l 14 0 (.l 9 511 (.q 10 (.q 11 (.q 12 (.q 13 (.l 16 53247 (.l 17 122879 (.q 18 .nil))))))))))))))))))))))) (.s (.s .r (.c (.s .r .r) .r)) (.s .r (.s (.x [0, 0, 2, 6, 14, 0, 32, 126, 255, 511, 1023] (.q 0 (.q 1 (.q 2 (.q 3 (.q 4 (.q 5 (.l 6 32 (.l 7 126 (.q 8 (.q 9 (.l 10 1023 .nil)))))))))))) (.s .r .r)))))) [r0, m1] w K = L57 r0 m1 w K := by kernel_rfl
  exact xfun_sound (an := (.s .r (.s (.d [5, 6, 7] 4194272 [0, 1, 3, 7, 0, 16, 48, 112, 0, 511, 1023, 2047, 2047, 2047, 0, 0, 53247, 122879, 262143] (.q 0 (.q 1 (.q 2 (.q 3 (.q 4 (.q 5 (.q 6 (.q 7 (.q 8 (.alt (.l 9 511 (.q 10 (.q 11 (.q 12 (.q 13 (.alt (.l 14 0 (.l 15 0 (.l 16 53247 (.l 17 122879 (.q 18 .nil))))) (.l 15 0 (.l 14 0 (.l 16 53247 (.l 17 122879 (.q 18 .nil))))))))))) (.alt (.l 14 0 (.alt (.l 9 511 (.q 10 (.q 11 (.q 12 (.q 13 (.l 15 0 (.l 16 53247 (.l 17 122879 (.q 18 .nil))))))))) (.l 15 0 (.l 9 511 (.q 10 (.q 11 (.q 12 (.q 13 (.l 16 53247 (.l 17 122879 (.q 18 .nil))))))))))) (.l 15 0 (.alt (.l 9 511 (.q 10 (.q 11 (.q 12 (.q 13 (.l 14 0 (.l 16 53247 (.l 17 122879 (.q 18 .nil))))))))) (.l 14 0 (.l 9 511 (.q 10 (.q 11 (.q 12 (.q 13 (.l 16 53247 (.l 17 122879 (.q 18 .nil))))))))))))))))))))))) (.s (.s .r (.c (.s .r .r) .r)) (.s .r (.s (.x [0, 0, 2, 6, 14, 0, 32, 126, 255, 511, 1023] (.q 0 (.q 1 (.q 2 (.q 3 (.q 4 (.q 5 (.l 6 32 (.l 7 126 (.q 8 (.q 9 (.l 10 1023 .nil)))))))))))) (.s .r .r))))))) Tryz.func57 mixed (by kernel_rfl) (by simp only [Tryz.ntmps57, List.length_cons, List.length_nil]; omega) (by rw [e]; exact h)
end Go.X
