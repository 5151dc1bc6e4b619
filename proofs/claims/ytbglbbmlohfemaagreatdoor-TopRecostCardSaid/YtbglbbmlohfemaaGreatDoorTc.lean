/- The lifted forms of Go functions, printed by a program (lift.py); each is held against the loaded program by the kernel. -/
import Derived.Test.YtbglbbmlohfemaaGreatDoorA2
set_option linter.unusedVariables false
set_option linter.unusedSimpArgs false
set_option maxRecDepth 100000
namespace Go.X
open Go.Proofs
/-- costing.Start -/
def L21 (method0 price1 : Value) (w : World) (K : Value → World → Prop) : Prop :=
 l_new 28 #[.int .i64 0, .int .i64 0, .int .i64 0, .slice none 0 0, .slice none 0 0] w fun s4 W1 =>
 onSome (q_bin .lss method0 (.int .i64 1)) fun t8 =>
 onSome (gateQ false t8 (some method0)) fun t10 =>
 onSome (gateQ false t8 (q_bin .gtr t10 (.int .i64 4))) fun t11 =>
 onSome (q_pick t8 (.bool true) t11) fun t12 =>
 xif t12
 (onSome (q_build #[.int .i64 0, .int .i64 0, .int .i64 0, .slice none 0 0, .slice none 0 0] []) fun t13 =>
 l_store 5 s4 t13 W1 fun _ W2 =>
 onSome (q_loadn 5 s4 W2) fun s4_1 =>
 K (.tuple #[s4_1, (.int .i64 10)]) W2)
 (onSome (q_bin .lss price1 (.int .i64 0)) fun t16 =>
 onSome (gateQ false t16 (some price1)) fun t18 =>
 onSome (gateQ false t16 (q_bin .gtr t18 (.int .i64 1000000000000))) fun t19 =>
 onSome (q_pick t16 (.bool true) t19) fun t20 =>
 xif t20
 (onSome (q_build #[.int .i64 0, .int .i64 0, .int .i64 0, .slice none 0 0, .slice none 0 0] []) fun t21 =>
 l_store 5 s4 t21 W1 fun _ W3 =>
 onSome (q_loadn 5 s4 W3) fun s4_2 =>
 K (.tuple #[s4_2, (.int .i64 3)]) W3)
 (onSome (q_bin .eql method0 (.int .i64 3)) fun t24 =>
 xif t24
 (onSome (q_build #[.int .i64 0, .int .i64 0, .int .i64 0, .slice none 0 0, .slice none 0 0] [(2, 1, price1)]) fun t26 =>
 l_store 5 s4 t26 W1 fun _ W4 =>
 onSome (q_loadn 5 s4 W4) fun s4_3 =>
 K (.tuple #[s4_3, (.int .i64 0)]) W4)
 (onSome (q_build #[.int .i64 0, .int .i64 0, .int .i64 0, .slice none 0 0, .slice none 0 0] []) fun t27 =>
 l_store 5 s4 t27 W1 fun _ W5 =>
 onSome (q_loadn 5 s4 W5) fun s4_4 =>
 K (.tuple #[s4_4, (.int .i64 0)]) W5)))
theorem lift21 {method0 price1 : Value} {w : World} {K : Value → World → Prop} (h : L21 method0 price1 w K) : Ret Tryz.prog 21 [method0, price1] w K := by
  have e : xfun Tryz.prog Tryz.f21 (.s .r (.s (.b (.s .r (.c (.s .r .r) (.s .r (.c (.s .r .r) (.s .r (.c (.s .r .r) .r))))))) (.s .r .r))) [method0, price1] w K = L21 method0 price1 w K := by kernel_rfl
  exact xfun_sound (an := (.s .r (.s (.b (.s .r (.c (.s .r .r) (.s .r (.c (.s .r .r) (.s .r (.c (.s .r .r) .r))))))) (.s .r .r)))) Tryz.func21 mixed (by kernel_rfl) (by simp only [Tryz.ntmps21, List.length_cons, List.length_nil]; omega) (by rw [e]; exact h)
/-- costing.Step -/
def L27 (method0 s1 m2 : Value) (w : World) (K : Value → World → Prop) : Prop :=
 l_new 28 (s1 : Value).cells w fun s4 W1 =>
 l_new 47 (m2 : Value).cells W1 fun m5 W2 =>
 l_new 28 #[.int .i64 0, .int .i64 0, .int .i64 0, .slice none 0 0, .slice none 0 0] W2 fun t6 W3 =>
 l_new 43 #[.int .i64 0, .int .i64 0, .int .i64 0, .int .i64 0] W3 fun c7 W4 =>
 onSome (q_bin .eql method0 (.int .i64 1)) fun t11 =>
 xif t11
 (onSome (q_loadn 5 s4 W4) fun t12 =>
 onSome (q_loadn 8 m5 W4) fun t13 =>
 Ret Tryz.prog 32 [t12, t13] W4 fun t14 W5 =>
 onSome (q_extract t14 0) fun t15 =>
 onSome (q_extract t14 1) fun t16 =>
 onSome (q_extract t14 2) fun t17 =>
 l_store 5 t6 t15 W5 fun _ W6 =>
 l_store 4 c7 t16 W6 fun _ W7 =>
 onSome (q_loadn 5 t6 W7) fun t6_1 =>
 onSome (q_loadn 4 c7 W7) fun c7_1 =>
 K (.tuple #[t6_1, c7_1, t17]) W7)
 (onSome (q_bin .eql method0 (.int .i64 2)) fun t19 =>
 xif t19
 (onSome (q_loadn 5 s4 W4) fun t20 =>
 onSome (q_loadn 8 m5 W4) fun t21 =>
 Ret Tryz.prog 33 [t20, t21] W4 fun t22 W8 =>
 onSome (q_extract t22 0) fun t23 =>
 onSome (q_extract t22 1) fun t24 =>
 onSome (q_extract t22 2) fun t25 =>
 l_store 5 t6 t23 W8 fun _ W9 =>
 l_store 4 c7 t24 W9 fun _ W10 =>
 onSome (q_loadn 5 t6 W10) fun t6_2 =>
 onSome (q_loadn 4 c7 W10) fun c7_2 =>
 K (.tuple #[t6_2, c7_2, t25]) W10)
 (onSome (q_bin .eql method0 (.int .i64 3)) fun t27 =>
 xif t27
 (onSome (q_loadn 5 s4 W4) fun t28 =>
 onSome (q_loadn 8 m5 W4) fun t29 =>
 Ret Tryz.prog 34 [t28, t29] W4 fun t30 W11 =>
 onSome (q_extract t30 0) fun t31 =>
 onSome (q_extract t30 1) fun t32 =>
 onSome (q_extract t30 2) fun t33 =>
 l_store 5 t6 t31 W11 fun _ W12 =>
 l_store 4 c7 t32 W12 fun _ W13 =>
 onSome (q_loadn 5 t6 W13) fun t6_3 =>
 onSome (q_loadn 4 c7 W13) fun c7_3 =>
 K (.tuple #[t6_3, c7_3, t33]) W13)
 (onSome (q_bin .eql method0 (.int .i64 4)) fun t35 =>
 xif t35
 (onSome (q_loadn 5 s4 W4) fun t36 =>
 onSome (q_loadn 8 m5 W4) fun t37 =>
 Ret Tryz.prog 35 [t36, t37] W4 fun t38 W14 =>
 onSome (q_extract t38 0) fun t39 =>
 onSome (q_extract t38 1) fun t40 =>
 onSome (q_extract t38 2) fun t41 =>
 l_store 5 t6 t39 W14 fun _ W15 =>
 l_store 4 c7 t40 W15 fun _ W16 =>
 onSome (q_loadn 5 t6 W16) fun t6_4 =>
 onSome (q_loadn 4 c7 W16) fun c7_4 =>
 K (.tuple #[t6_4, c7_4, t41]) W16)
 (onSome (q_build #[.int .i64 0, .int .i64 0, .int .i64 0, .slice none 0 0, .slice none 0 0] []) fun t42 =>
 onSome (q_build #[.int .i64 0, .int .i64 0, .int .i64 0, .int .i64 0] []) fun t43 =>
 l_store 5 t6 t42 W4 fun _ W17 =>
 l_store 4 c7 t43 W17 fun _ W18 =>
 onSome (q_loadn 5 t6 W18) fun t6_5 =>
 onSome (q_loadn 4 c7 W18) fun c7_5 =>
 K (.tuple #[t6_5, c7_5, (.int .i64 10)]) W18))))
theorem lift27 {method0 s1 m2 : Value} {w : World} {K : Value → World → Prop} (h : L27 method0 s1 m2 w K) : Ret Tryz.prog 27 [method0, s1, m2] w K := by
  have e : xfun Tryz.prog Tryz.f27 (.s .r (.s (.s .r (.b (.s .r (.c (.s .r .r) (.s .r (.c (.s .r .r) (.s .r (.c (.s .r .r) (.s .r (.c (.s .r .r) .r)))))))))) (.s .r .r))) [method0, s1, m2] w K = L27 method0 s1 m2 w K := by kernel_rfl
  exact xfun_sound (an := (.s .r (.s (.s .r (.b (.s .r (.c (.s .r .r) (.s .r (.c (.s .r .r) (.s .r (.c (.s .r .r) (.s .r (.c (.s .r .r) .r)))))))))) (.s .r .r)))) Tryz.func27 mixed (by kernel_rfl) (by simp only [Tryz.ntmps27, List.length_cons, List.length_nil]; omega) (by rw [e]; exact h)
end Go.X
