/- The lifted forms of Go functions, printed by a program (lift.py); each is held against the loaded program by the kernel. -/
import Derived.Test.YtbglbbmlohfemaaGreatDoorA2
set_option linter.unusedVariables false
set_option linter.unusedSimpArgs false
set_option maxRecDepth 100000
namespace Go.X
open Go.Proofs
/-- lots.Step -/
def L35 (s0 m1 : Value) (w : World) (K : Value → World → Prop) : Prop :=
 l_new 28 (s0 : Value).cells w fun s2 W1 =>
 l_new 47 (m1 : Value).cells W1 fun m3 W2 =>
 l_new 28 #[.int .i64 0, .int .i64 0, .int .i64 0, .slice none 0 0, .slice none 0 0] W2 fun t4 W3 =>
 l_new 43 #[.int .i64 0, .int .i64 0, .int .i64 0, .int .i64 0] W3 fun c5 W4 =>
 onSome (q_loadn 5 s2 W4) fun t9 =>
 Ret Tryz.prog 80 [t9] W4 fun t10 W5 =>
 onSome (q_loadn 8 m3 W5) fun t11 =>
 Ret Tryz.prog 61 [t11] W5 fun t12 W6 =>
 onSome (q_bin .neq t12 (.int .i64 0)) fun t14 =>
 xif t14
 (onSome (q_build #[.int .i64 0, .int .i64 0, .int .i64 0, .slice none 0 0, .slice none 0 0] []) fun t15 =>
 onSome (q_build #[.int .i64 0, .int .i64 0, .int .i64 0, .int .i64 0] []) fun t16 =>
 l_store 5 t4 t15 W6 fun _ W7 =>
 l_store 4 c5 t16 W7 fun _ W8 =>
 onSome (q_loadn 5 t4 W8) fun t4_1 =>
 onSome (q_loadn 4 c5 W8) fun c5_1 =>
 K (.tuple #[t4_1, c5_1, t12]) W8)
 (onSome (q_faddr 0 m3) fun t19 =>
 onSome (q_load1 t19 W6) fun t20 =>
 Ret Tryz.prog 81 [t10, (.int .i64 0), t20] W6 fun t21 W9 =>
 onSome (q_eq Tryz.prog .neq 114 t21 (.pointer none)) fun t22 =>
 xif t22
 (onSome (q_build #[.int .i64 0, .int .i64 0, .int .i64 0, .slice none 0 0, .slice none 0 0] []) fun t23 =>
 onSome (q_build #[.int .i64 0, .int .i64 0, .int .i64 0, .int .i64 0] []) fun t24 =>
 l_store 5 t4 t23 W9 fun _ W10 =>
 l_store 4 c5 t24 W10 fun _ W11 =>
 onSome (q_loadn 5 t4 W11) fun t4_2 =>
 onSome (q_loadn 4 c5 W11) fun c5_2 =>
 K (.tuple #[t4_2, c5_2, (.int .i64 8)]) W11)
 (onSome (q_loadn 8 m3 W9) fun t27 =>
 Ret Tryz.prog 82 [t10, t27] W9 fun t28 W12 =>
 onSome (q_extract t28 0) fun t29 =>
 onSome (q_extract t28 1) fun t30 =>
 l_store 4 c5 t29 W12 fun _ W13 =>
 onSome (q_bin .neq t30 (.int .i64 0)) fun t32 =>
 xif t32
 (onSome (q_build #[.int .i64 0, .int .i64 0, .int .i64 0, .slice none 0 0, .slice none 0 0] []) fun t33 =>
 onSome (q_build #[.int .i64 0, .int .i64 0, .int .i64 0, .int .i64 0] []) fun t34 =>
 l_store 5 t4 t33 W13 fun _ W14 =>
 l_store 4 c5 t34 W14 fun _ W15 =>
 onSome (q_loadn 5 t4 W15) fun t4_3 =>
 onSome (q_loadn 4 c5 W15) fun c5_3 =>
 K (.tuple #[t4_3, c5_3, t30]) W15)
 (onSome (q_faddr 0 m3) fun t36 =>
 onSome (q_load1 t36 W13) fun t37 =>
 onSome (q_faddr 0 c5) fun t38 =>
 l_store 1 t38 t37 W13 fun _ W16 =>
 onSome (q_nil t10) fun t40 =>
 onSome (q_faddr 0 t40) fun t41 =>
 onSome (q_faddr 0 t41) fun t42 =>
 onSome (q_load1 t42 W16.drew) fun t43 =>
 onSome (q_faddr 1 c5) fun t44 =>
 onSome (q_load1 t44 W16.drew) fun t45 =>
 onSome (q_bin .add t43 t45) fun t46 =>
 onSome (q_nil t10) fun t47 =>
 onSome (q_faddr 0 t47) fun t48 =>
 onSome (q_faddr 0 t48) fun t49 =>
 l_store 1 t49 t46 W16.drew fun _ W17 =>
 onSome (q_nil t10) fun t51 =>
 onSome (q_faddr 0 t51) fun t52 =>
 onSome (q_faddr 1 t52) fun t53 =>
 onSome (q_load1 t53 W17.drew) fun t54 =>
 onSome (q_faddr 2 c5) fun t55 =>
 onSome (q_load1 t55 W17.drew) fun t56 =>
 onSome (q_bin .add t54 t56) fun t57 =>
 onSome (q_nil t10) fun t58 =>
 onSome (q_faddr 0 t58) fun t59 =>
 onSome (q_faddr 1 t59) fun t60 =>
 l_store 1 t60 t57 W17.drew fun _ W18 =>
 onSome (q_loadn 4 c5 W18) fun t62 =>
 Ret Tryz.prog 83 [t10, t62] W18 fun t63 W19 =>
 xif t63
 (onSome (q_build #[.int .i64 0, .int .i64 0, .int .i64 0, .slice none 0 0, .slice none 0 0] []) fun t64 =>
 onSome (q_build #[.int .i64 0, .int .i64 0, .int .i64 0, .int .i64 0] []) fun t65 =>
 l_store 5 t4 t64 W19 fun _ W20 =>
 l_store 4 c5 t65 W20 fun _ W21 =>
 onSome (q_loadn 5 t4 W21) fun t4_4 =>
 onSome (q_loadn 4 c5 W21) fun c5_4 =>
 K (.tuple #[t4_4, c5_4, (.int .i64 4)]) W21)
 (onSome (q_nil t10) fun t67 =>
 onSome (q_faddr 0 t67) fun t68 =>
 onSome (q_loadn 5 t68 W19.drew) fun t69 =>
 onSome (q_loadn 4 c5 W19.drew) fun t70 =>
 l_store 5 t4 t69 W19.drew fun _ W22 =>
 ob (q_loadn 4 c5 W22 = some t70) (
 l_store 4 c5 t70 W22 fun _ W23 =>
 onSome (q_loadn 5 t4 W23) fun t4_5 =>
 onSome (q_loadn 4 c5 W23) fun c5_5 =>
 K (.tuple #[t4_5, c5_5, (.int .i64 0)]) W23)))))
theorem lift35 {s0 m1 : Value} {w : World} {K : Value → World → Prop} (h : L35 s0 m1 w K) : Ret Tryz.prog 35 [s0, m1] w K := by
  have e : xfun Tryz.prog Tryz.f35 (.s .r (.s .r (.s (.s .r (.s .r (.c (.s .r .r) .r))) (.s (.s .r (.c (.s .r .r) .r)) (.s .r (.s (.s .r (.c (.s .r .r) .r)) (.s .r (.s (.x [0, 1, 3, 7, 15, 0, 32, 127, 255, 511, 1023, 2047] (.q 0 (.q 1 (.q 2 (.q 3 (.q 4 (.q 5 (.q 6 (.q 7 (.q 8 (.q 9 (.q 10 (.l 11 2047 .nil))))))))))))) (.s (.x [0, 1, 3, 7, 15, 0, 32, 127, 255, 511, 1023, 2047] (.q 0 (.q 1 (.q 2 (.q 3 (.q 4 (.q 5 (.q 6 (.q 7 (.q 8 (.q 9 (.q 10 (.l 11 2047 .nil))))))))))))) (.s (.s .r (.c (.s .r .r) .r)) (.s (.x [0, 1, 3, 7, 0, 15, 63, 127] (.q 0 (.q 1 (.q 2 (.q 3 (.q 4 (.l 5 15 (.l 6 63 (.q 7 .nil))))))))) .r))))))))))) [s0, m1] w K = L35 s0 m1 w K := by kernel_rfl
  exact xfun_sound (an := (.s .r (.s .r (.s (.s .r (.s .r (.c (.s .r .r) .r))) (.s (.s .r (.c (.s .r .r) .r)) (.s .r (.s (.s .r (.c (.s .r .r) .r)) (.s .r (.s (.x [0, 1, 3, 7, 15, 0, 32, 127, 255, 511, 1023, 2047] (.q 0 (.q 1 (.q 2 (.q 3 (.q 4 (.q 5 (.q 6 (.q 7 (.q 8 (.q 9 (.q 10 (.l 11 2047 .nil))))))))))))) (.s (.x [0, 1, 3, 7, 15, 0, 32, 127, 255, 511, 1023, 2047] (.q 0 (.q 1 (.q 2 (.q 3 (.q 4 (.q 5 (.q 6 (.q 7 (.q 8 (.q 9 (.q 10 (.l 11 2047 .nil))))))))))))) (.s (.s .r (.c (.s .r .r) .r)) (.s (.x [0, 1, 3, 7, 0, 15, 63, 127] (.q 0 (.q 1 (.q 2 (.q 3 (.q 4 (.l 5 15 (.l 6 63 (.q 7 .nil))))))))) .r)))))))))))) Tryz.func35 mixed (by kernel_rfl) (by simp only [Tryz.ntmps35, List.length_cons, List.length_nil]; omega) (by rw [e]; exact h)
/-- lots.open -/
def L80 (s0 : Value) (w : World) (K : Value → World → Prop) : Prop :=
 l_new 28 (s0 : Value).cells w fun s1 W1 =>
 onSome (q_loadn 5 s1 W1) fun t4 =>
 onSome (q_build #[.int .i64 0, .int .i64 0, .int .i64 0, .slice none 0 0, .slice none 0 0] [(0, 5, t4)]) fun t5 =>
 l_new 135 (t5 : Value).cells W1 fun t6 W2 =>
 joining fun (J : World → Prop) => (onSome (q_faddr 3 s1) fun t9 =>
 onSome (q_load1 t9 W2.drew) fun t10 =>
 onSome (q_len t10) fun t11 =>
 onSome (q_faddr 4 s1) fun t13 =>
 onSome (q_load1 t13 W2.drew) fun t14 =>
 onSome (q_len t14) fun t15 =>
 (l_make Tryz.prog 25 t11 t11 W2.drew fun t12 W3 =>
 ob (q_load1 t13 W3 = some t14) (
 onSome (q_nil t6) fun t17 =>
 onSome (q_faddr 0 t17) fun t18 =>
 onSome (q_faddr 3 t18) fun t19 =>
 (l_make Tryz.prog 26 t15 t15 W3 fun t16 W4 =>
 l_store 1 t19 t12 W4 fun _ W5 =>
 onSome (q_nil t6) fun t20 =>
 onSome (q_faddr 0 t20) fun t21 =>
 onSome (q_faddr 4 t21) fun t22 =>
 l_store 1 t22 t16 W5 fun _ W6 =>
 J W6) ∧
 (l_store 1 t19 t12 W3 fun _ W7 =>
 ob (q_load1 t13 W7 = some t14) (
 l_make Tryz.prog 26 t15 t15 W7 fun t16_1 W8 =>
 onSome (q_nil t6) fun t20_1 =>
 onSome (q_faddr 0 t20_1) fun t21_1 =>
 onSome (q_faddr 4 t21_1) fun t22_1 =>
 l_store 1 t22_1 t16_1 W8 fun _ W9 =>
 J W9)))) ∧
 (l_make Tryz.prog 26 t15 t15 W2.drew fun t16_2 W10 =>
 ob (q_load1 t9 W10 = some t10) (
 l_make Tryz.prog 25 t11 t11 W10 fun t12_1 W11 =>
 onSome (q_nil t6) fun t17_1 =>
 onSome (q_faddr 0 t17_1) fun t18_1 =>
 onSome (q_faddr 3 t18_1) fun t19_1 =>
 l_store 1 t19_1 t12_1 W11 fun _ W12 =>
 onSome (q_nil t6) fun t20_2 =>
 onSome (q_faddr 0 t20_2) fun t21_2 =>
 onSome (q_faddr 4 t21_2) fun t22_2 =>
 l_store 1 t22_2 t16_2 W12 fun _ W13 =>
 J W13))) ∧
 ∀ (W14 : World), J W14 → ∀ _ : Env,
 onSome (q_nil t6) fun t24 =>
 onSome (q_faddr 0 t24) fun t25 =>
 onSome (q_faddr 3 t25) fun t26 =>
 onSome (q_load1 t26 W14.drew) fun t27 =>
 onSome (q_faddr 3 s1) fun t28 =>
 onSome (q_load1 t28 W14.drew) fun t29 =>
 l_copy Tryz.prog #[25, 25] 3 t27 t29 W14.drew fun t30 W15 =>
 onSome (q_nil t6) fun t32 =>
 onSome (q_faddr 0 t32) fun t33 =>
 onSome (q_faddr 4 t33) fun t34 =>
 onSome (q_load1 t34 W15.drew) fun t35 =>
 onSome (q_faddr 4 s1) fun t36 =>
 onSome (q_load1 t36 W15.drew) fun t37 =>
 l_copy Tryz.prog #[26, 26] 3 t35 t37 W15.drew fun t38 W16 =>
 K t6 W16
theorem lift80 {s0 : Value} {w : World} {K : Value → World → Prop} (h : L80 s0 w K) : Ret Tryz.prog 80 [s0] w K := by
  have e : xfun Tryz.prog Tryz.f80 (.s .r (.s .r (.s (.d [] 8388480 [0, 0, 0, 4, 12, 28, 0, 64, 192, 448, 61, 1085, 3133, 7229, 16383, 32767, 65535, 131071] (.q 0 (.q 1 (.q 2 (.q 3 (.q 4 (.q 6 (.q 7 (.q 8 (.alt (.l 5 28 (.q 10 (.q 11 (.q 12 (.alt (.l 9 448 (.l 13 7229 (.q 14 (.q 15 (.q 16 (.l 17 131071 .nil)))))) (.l 13 7229 (.l 9 448 (.q 14 (.q 15 (.q 16 (.l 17 131071 .nil))))))))))) (.l 9 448 (.l 5 28 (.q 10 (.q 11 (.q 12 (.l 13 7229 (.q 14 (.q 15 (.q 16 (.l 17 131071 .nil)))))))))))))))))))) (.s (.x [0, 1, 3, 7, 15, 0, 32, 127] (.q 0 (.q 1 (.q 2 (.q 3 (.q 4 (.q 5 (.q 6 (.l 7 127 .nil))))))))) (.s (.x [0, 1, 3, 7, 15, 0, 32, 127] (.q 0 (.q 1 (.q 2 (.q 3 (.q 4 (.q 5 (.q 6 (.l 7 127 .nil))))))))) (.s .r .r)))))) [s0] w K = L80 s0 w K := by kernel_rfl
  exact xfun_sound (an := (.s .r (.s .r (.s (.d [] 8388480 [0, 0, 0, 4, 12, 28, 0, 64, 192, 448, 61, 1085, 3133, 7229, 16383, 32767, 65535, 131071] (.q 0 (.q 1 (.q 2 (.q 3 (.q 4 (.q 6 (.q 7 (.q 8 (.alt (.l 5 28 (.q 10 (.q 11 (.q 12 (.alt (.l 9 448 (.l 13 7229 (.q 14 (.q 15 (.q 16 (.l 17 131071 .nil)))))) (.l 13 7229 (.l 9 448 (.q 14 (.q 15 (.q 16 (.l 17 131071 .nil))))))))))) (.l 9 448 (.l 5 28 (.q 10 (.q 11 (.q 12 (.l 13 7229 (.q 14 (.q 15 (.q 16 (.l 17 131071 .nil)))))))))))))))))))) (.s (.x [0, 1, 3, 7, 15, 0, 32, 127] (.q 0 (.q 1 (.q 2 (.q 3 (.q 4 (.q 5 (.q 6 (.l 7 127 .nil))))))))) (.s (.x [0, 1, 3, 7, 15, 0, 32, 127] (.q 0 (.q 1 (.q 2 (.q 3 (.q 4 (.q 5 (.q 6 (.l 7 127 .nil))))))))) (.s .r .r))))))) Tryz.func80 mixed (by kernel_rfl) (by simp only [Tryz.ntmps80, List.length_cons, List.length_nil]; omega) (by rw [e]; exact h)
/-- (*lots.book).past -/
def L81 (b0 kind1 seq2 : Value) (w : World) (K : Value → World → Prop) : Prop :=
 onSome (q_nil b0) fun t10 =>
 onSome (q_faddr 0 t10) fun t11 =>
 onSome (q_faddr 4 t11) fun t12 =>
 onSome (q_load1 t12 w) fun t13 =>
 onSome (q_len t13) fun t14 =>
 looping fun (I : Value → World → Prop) (μ : Value → World → Nat) => I (.int .i64 0) w ∧
 ∀ (t15 : Value) (W1 : World), I t15 W1 → ∀ _ : Env,
 onSome (q_bin .lss t15 t14) fun t16 =>
 xif t16
 (onSome (q_nil b0) fun t19 =>
 onSome (q_faddr 0 t19) fun t20 =>
 onSome (q_faddr 4 t20) fun t21 =>
 onSome (q_load1 t21 W1) fun t22 =>
 onSome (q_iaddr 7 t22 t15) fun t24 =>
 onSome (q_nil t24) fun t26 =>
 onSome (q_faddr 0 t26) fun t27 =>
 onSome (q_load1 t27 W1) fun t28 =>
 onSome (q_bin .eql t28 seq2) fun t30 =>
 onSome (gateQ true t30 (some kind1)) fun t32 =>
 onSome (gateQ true t30 (q_bin .eql t32 (.int .i64 0))) fun t33 =>
 onSome (gateQ true t30 (some t33)) fun t34 =>
 onSome (gateQ false t34 (some t24)) fun t35 =>
 onSome (gateQ false t34 (q_nil t35)) fun t36 =>
 onSome (gateQ false t34 (q_faddr 1 t36)) fun t37 =>
 onSome (gateQ false t34 (q_load1 t37 W1)) fun t38 =>
 onSome (gateQ false t34 (some kind1)) fun t39 =>
 onSome (gateQ false t34 (q_bin .eql t38 t39)) fun t40 =>
 onSome (gateQ true t30 (q_pick t34 (.bool true) t40)) fun t41 =>
 onSome (q_pick t30 t41 (.bool false)) fun t42 =>
 xif t42
 (K t24 W1)
 (onSome (q_bin .add t15 (.int .i64 1)) fun t44 =>
 I t44 W1 ∧ μ t44 W1 < μ t15 W1))
 (K (.pointer none) W1)
theorem lift81 {b0 kind1 seq2 : Value} {w : World} {K : Value → World → Prop} (h : L81 b0 kind1 seq2 w K) : Ret Tryz.prog 81 [b0, kind1, seq2] w K := by
  have e : xfun Tryz.prog Tryz.f81 (.s .r (.s (.s .r (.b (.l [15] 35184372056512 (.s .r (.s (.c .r .r) (.s (.b (.s .r (.s .r (.s .r (.c (.s .r .r) .r))))) .r)))))) (.s .r .r))) [b0, kind1, seq2] w K = L81 b0 kind1 seq2 w K := by kernel_rfl
  exact xfun_sound (an := (.s .r (.s (.s .r (.b (.l [15] 35184372056512 (.s .r (.s (.c .r .r) (.s (.b (.s .r (.s .r (.s .r (.c (.s .r .r) .r))))) .r)))))) (.s .r .r)))) Tryz.func81 mixed (by kernel_rfl) (by simp only [Tryz.ntmps81, List.length_cons, List.length_nil]; omega) (by rw [e]; exact h)
/-- (*lots.book).do -/
def L82 (b0 m1 : Value) (w : World) (K : Value → World → Prop) : Prop :=
 l_new 131 (b0 : Value).cells w fun b2 W1 =>
 l_new 47 (m1 : Value).cells W1 fun m3 W2 =>
 l_new 43 #[.int .i64 0, .int .i64 0, .int .i64 0, .int .i64 0] W2 fun c4 W3 =>
 onSome (q_func (.func 130) [] [b2, m3]) fun t7 =>
 onSome (q_faddr 3 m3) fun t8 =>
 onSome (q_load1 t8 W3) fun t9 =>
 onSome (q_bin .eql t9 (.int .i64 1)) fun t11 =>
 xif t11
 (onSome (q_load1 b2 W3) fun t12 =>
 onSome (q_loadn 8 m3 W3) fun t13 =>
 Ret Tryz.prog 131 [t12, t13] W3 fun t14 W4 =>
 onSome (q_extract t14 0) fun t15 =>
 onSome (q_extract t14 1) fun t16 =>
 l_store 4 c4 t15 W4 fun _ W5 =>
 onSome (q_loadn 4 c4 W5) fun c4_1 =>
 K (.tuple #[c4_1, t16]) W5)
 (onSome (q_bin .eql t9 (.int .i64 2)) fun t18 =>
 xif t18
 (onSome (q_load1 b2 W3) fun t19 =>
 onSome (q_loadn 8 m3 W3) fun t20 =>
 Ret Tryz.prog 132 [t19, t20] W3 fun t21 W6 =>
 onSome (q_extract t21 0) fun t22 =>
 onSome (q_extract t21 1) fun t23 =>
 l_store 4 c4 t22 W6 fun _ W7 =>
 onSome (q_loadn 4 c4 W7) fun c4_2 =>
 K (.tuple #[c4_2, t23]) W7)
 (onSome (q_bin .eql t9 (.int .i64 3)) fun t25 =>
 xif t25
 (onSome (q_load1 b2 W3) fun t27 =>
 onSome (q_func (.func 133) [t27] []) fun t28 =>
 l_callv Tryz.prog t7 [(.int .i64 2), t28] W3 fun t29 W8 =>
 onSome (q_extract t29 0) fun t30 =>
 onSome (q_extract t29 1) fun t31 =>
 l_store 4 c4 t30 W8 fun _ W9 =>
 onSome (q_loadn 4 c4 W9) fun c4_3 =>
 K (.tuple #[c4_3, t31]) W9)
 (onSome (q_bin .eql t9 (.int .i64 4)) fun t33 =>
 xif t33
 (onSome (q_load1 b2 W3) fun t35 =>
 onSome (q_func (.func 134) [t35] []) fun t36 =>
 l_callv Tryz.prog t7 [(.int .i64 1), t36] W3 fun t37 W10 =>
 onSome (q_extract t37 0) fun t38 =>
 onSome (q_extract t37 1) fun t39 =>
 l_store 4 c4 t38 W10 fun _ W11 =>
 onSome (q_loadn 4 c4 W11) fun c4_4 =>
 K (.tuple #[c4_4, t39]) W11)
 (onSome (q_bin .eql t9 (.int .i64 5)) fun t41 =>
 xif t41
 (onSome (q_load1 b2 W3) fun t43 =>
 onSome (q_func (.func 135) [t43] []) fun t44 =>
 l_callv Tryz.prog t7 [(.int .i64 1), t44] W3 fun t45 W12 =>
 onSome (q_extract t45 0) fun t46 =>
 onSome (q_extract t45 1) fun t47 =>
 l_store 4 c4 t46 W12 fun _ W13 =>
 onSome (q_loadn 4 c4 W13) fun c4_5 =>
 K (.tuple #[c4_5, t47]) W13)
 (onSome (q_loadn 4 c4 W3) fun t48 =>
 l_store 4 c4 t48 W3 fun _ W14 =>
 onSome (q_loadn 4 c4 W14) fun c4_6 =>
 K (.tuple #[c4_6, (.int .i64 10)]) W14)))))
theorem lift82 {b0 m1 : Value} {w : World} {K : Value → World → Prop} (h : L82 b0 m1 w K) : Ret Tryz.prog 82 [b0, m1] w K := by
  have e : xfun Tryz.prog Tryz.f82 (.s .r (.s .r (.s (.s .r (.b (.s .r (.c (.s .r .r) (.s .r (.c (.s .r .r) (.s .r (.c (.s .r .r) (.s .r (.c (.s .r .r) (.s .r (.c (.s .r .r) .r)))))))))))) (.s .r .r)))) [b0, m1] w K = L82 b0 m1 w K := by kernel_rfl
  exact xfun_sound (an := (.s .r (.s .r (.s (.s .r (.b (.s .r (.c (.s .r .r) (.s .r (.c (.s .r .r) (.s .r (.c (.s .r .r) (.s .r (.c (.s .r .r) (.s .r (.c (.s .r .r) .r)))))))))))) (.s .r .r))))) Tryz.func82 mixed (by kernel_rfl) (by simp only [Tryz.ntmps82, List.length_cons, List.length_nil]; omega) (by rw [e]; exact h)
/-- (*lots.book).over -/
def L83 (b0 c1 : Value) (w : World) (K : Value → World → Prop) : Prop :=
 l_new 43 (c1 : Value).cells w fun c3 W1 =>
 onSome (q_nil b0) fun t8 =>
 onSome (q_faddr 0 t8) fun t9 =>
 onSome (q_faddr 3 t9) fun t10 =>
 onSome (q_load1 t10 W1) fun t11 =>
 onSome (q_len t11) fun t12 =>
 looping fun (I : Value → World → Prop) (μ : Value → World → Nat) => I (.int .i64 0) W1 ∧
 ∀ (t13 : Value) (W2 : World), I t13 W2 → ∀ _ : Env,
 onSome (q_bin .lss t13 t12) fun t14 =>
 xif t14
 (onSome (q_iaddr 4 t11 t13) fun t15 =>
 onSome (q_loadn 4 t15 W2) fun t16 =>
 l_new 103 #[.int .i64 0, .string ⟨#[]⟩, .int .i64 0, .int .i64 0] W2 fun l6 W3 =>
 l_store 4 l6 t16 W3 fun _ W4 =>
 onSome (q_faddr 3 l6) fun t17 =>
 onSome (q_load1 t17 W4) fun t18 =>
 Ret Tryz.prog 136 [t18] W4 fun t19 W5 =>
 xif t19
 (K (.bool true) W5)
 (onSome (q_bin .add t13 (.int .i64 1)) fun t20 =>
 I t20 W5 ∧ μ t20 W5 < μ t13 W2))
 (onSome (q_nil b0) fun t22 =>
 onSome (q_faddr 0 t22) fun t23 =>
 onSome (q_faddr 0 t23) fun t24 =>
 onSome (q_load1 t24 W2) fun t25 =>
 onSome (q_bin .gtr t25 (.int .i64 1000000000)) fun t26 =>
 onSome (gateQ false t26 (some b0)) fun t28 =>
 onSome (gateQ false t26 (q_nil t28)) fun t29 =>
 onSome (gateQ false t26 (q_faddr 0 t29)) fun t30 =>
 onSome (gateQ false t26 (q_faddr 1 t30)) fun t31 =>
 onSome (gateQ false t26 (q_load1 t31 W2)) fun t32 =>
 gateL false t26 (fun K => Ret Tryz.prog 136 [t32] W2 K) W2 fun t33 W6 =>
 onSome (q_pick t26 (.bool true) t33) fun t34 =>
 onSome (gateQ false t34 (q_faddr 3 c3)) fun t36 =>
 onSome (gateQ false t34 (q_load1 t36 W6)) fun t37 =>
 gateL false t34 (fun K => Ret Tryz.prog 136 [t37] W6 K) W6 fun t38 W7 =>
 onSome (q_pick t34 (.bool true) t38) fun t39 =>
 K t39 W7)
theorem lift83 {b0 c1 : Value} {w : World} {K : Value → World → Prop} (h : L83 b0 c1 w K) : Ret Tryz.prog 83 [b0, c1] w K := by
  have e : xfun Tryz.prog Tryz.f83 (.s .r (.s (.s .r (.b (.l [13] 2089040 (.s .r (.s (.c .r .r) (.s (.b (.s .r (.s .r (.c (.s .r .r) .r)))) .r)))))) (.s .r .r))) [b0, c1] w K = L83 b0 c1 w K := by kernel_rfl
  exact xfun_sound (an := (.s .r (.s (.s .r (.b (.l [13] 2089040 (.s .r (.s (.c .r .r) (.s (.b (.s .r (.s .r (.c (.s .r .r) .r)))) .r)))))) (.s .r .r)))) Tryz.func83 mixed (by kernel_rfl) (by simp only [Tryz.ntmps83, List.length_cons, List.length_nil]; omega) (by rw [e]; exact h)
/-- (*lots.book).do$1 -/
def L130 (kind0 then1 a2 a3 : Value) (w : World) (K : Value → World → Prop) : Prop :=
 l_new 43 #[.int .i64 0, .int .i64 0, .int .i64 0, .int .i64 0] w fun t6 W1 =>
 onSome (q_load1 a2 W1) fun t9 =>
 onSome (q_faddr 7 a3) fun t11 =>
 onSome (q_load1 t11 W1) fun t12 =>
 Ret Tryz.prog 81 [t9, kind0, t12] W1 fun t13 W2 =>
 onSome (q_eq Tryz.prog .eql 114 t13 (.pointer none)) fun t16 =>
 xif t16
 (onSome (q_build #[.int .i64 0, .int .i64 0, .int .i64 0, .int .i64 0] []) fun t17 =>
 l_store 4 t6 t17 W2 fun _ W3 =>
 onSome (q_loadn 4 t6 W3) fun t6_1 =>
 K (.tuple #[t6_1, (.int .i64 28)]) W3)
 (onSome (q_faddr 4 a3) fun t19 =>
 onSome (q_load1 t19 W2.drew) fun t20 =>
 onSome (q_nil t13) fun t22 =>
 onSome (q_faddr 3 t22) fun t23 =>
 onSome (q_load1 t23 W2.drew) fun t24 =>
 onSome (q_nil t13) fun t26 =>
 onSome (q_faddr 5 t26) fun t27 =>
 onSome (q_load1 t27 W2.drew) fun t28 =>
 onSome (q_bin .sub t24 t28) fun t29 =>
 onSome (q_bin .gtr t20 t29) fun t30 =>
 xif t30
 (onSome (q_build #[.int .i64 0, .int .i64 0, .int .i64 0, .int .i64 0] []) fun t31 =>
 l_store 4 t6 t31 W2.drew fun _ W4 =>
 onSome (q_loadn 4 t6 W4) fun t6_2 =>
 K (.tuple #[t6_2, (.int .i64 21)]) W4)
 (onSome (q_loadn 8 a3 W2.drew) fun t33 =>
 l_callv Tryz.prog then1 [t33, t13] W2.drew fun t35 W5 =>
 onSome (q_extract t35 0) fun t36 =>
 onSome (q_extract t35 1) fun t37 =>
 l_store 4 t6 t36 W5 fun _ W6 =>
 onSome (q_loadn 4 t6 W6) fun t6_3 =>
 K (.tuple #[t6_3, t37]) W6))
theorem lift130 {kind0 then1 a2 a3 : Value} {w : World} {K : Value → World → Prop} (h : L130 kind0 then1 a2 a3 w K) : Ret Tryz.prog 130 [kind0, then1, a2, a3] w K := by
  have e : xfun Tryz.prog Tryz.f130 (.s .r (.s .r (.s (.b (.s .r (.c (.s .r .r) (.s (.x [0, 1, 0, 4, 12, 28, 0, 64, 192, 448, 1020, 2047, 4095] (.q 0 (.q 1 (.q 2 (.q 3 (.q 4 (.q 5 (.q 6 (.q 7 (.q 8 (.q 9 (.q 10 (.q 11 (.q 12 .nil)))))))))))))) (.c (.s .r .r) .r))))) (.s .r .r)))) [kind0, then1, a2, a3] w K = L130 kind0 then1 a2 a3 w K := by kernel_rfl
  exact xfun_sound (an := (.s .r (.s .r (.s (.b (.s .r (.c (.s .r .r) (.s (.x [0, 1, 0, 4, 12, 28, 0, 64, 192, 448, 1020, 2047, 4095] (.q 0 (.q 1 (.q 2 (.q 3 (.q 4 (.q 5 (.q 6 (.q 7 (.q 8 (.q 9 (.q 10 (.q 11 (.q 12 .nil)))))))))))))) (.c (.s .r .r) .r))))) (.s .r .r))))) Tryz.func130 mixed (by kernel_rfl) (by simp only [Tryz.ntmps130, List.length_cons, List.length_nil]; omega) (by rw [e]; exact h)
/-- (*lots.book).receive -/
def L131 (b0 m1 : Value) (w : World) (K : Value → World → Prop) : Prop :=
 l_new 47 (m1 : Value).cells w fun m3 W1 =>
 l_new 43 #[.int .i64 0, .int .i64 0, .int .i64 0, .int .i64 0] W1 fun c4 W2 =>
 onSome (q_faddr 6 m3) fun t6 =>
 onSome (q_load1 t6 W2) fun t7 =>
 onSome (q_bin .eql t7 (.string ⟨#[]⟩)) fun t8 =>
 xif t8
 (onSome (q_loadn 4 c4 W2) fun t9 =>
 l_store 4 c4 t9 W2 fun _ W3 =>
 onSome (q_loadn 4 c4 W3) fun c4_1 =>
 K (.tuple #[c4_1, (.int .i64 22)]) W3)
 (onSome (q_faddr 6 m3) fun t11 =>
 onSome (q_load1 t11 W2) fun t12 =>
 onSome (q_faddr 4 m3) fun t13 =>
 onSome (q_load1 t13 W2) fun t14 =>
 onSome (q_faddr 5 m3) fun t15 =>
 onSome (q_load1 t15 W2) fun t16 =>
 Ret Tryz.prog 180 [b0, t12, t14, t16] W2 fun t17 W4 =>
 onSome (q_loadn 8 m3 W4) fun t19 =>
 onSome (q_faddr 5 m3) fun t20 =>
 onSome (q_load1 t20 W4) fun t21 =>
 Ret Tryz.prog 181 [b0, t19, t21] W4 fun t22 W5 =>
 onSome (q_faddr 4 m3) fun t23 =>
 onSome (q_load1 t23 W5) fun t24 =>
 onSome (q_faddr 5 m3) fun t25 =>
 onSome (q_load1 t25 W5) fun t26 =>
 onSome (q_build #[.int .i64 0, .int .i64 0, .int .i64 0, .int .i64 0] [(1, 1, t24), (2, 1, t26)]) fun t27 =>
 l_store 4 c4 t27 W5 fun _ W6 =>
 onSome (q_loadn 4 c4 W6) fun c4_2 =>
 K (.tuple #[c4_2, (.int .i64 0)]) W6)
theorem lift131 {b0 m1 : Value} {w : World} {K : Value → World → Prop} (h : L131 b0 m1 w K) : Ret Tryz.prog 131 [b0, m1] w K := by
  have e : xfun Tryz.prog Tryz.f131 (.s .r (.s (.s .r (.c (.s .r .r) .r)) (.s .r (.s .r (.s .r .r))))) [b0, m1] w K = L131 b0 m1 w K := by kernel_rfl
  exact xfun_sound (an := (.s .r (.s (.s .r (.c (.s .r .r) .r)) (.s .r (.s .r (.s .r .r)))))) Tryz.func131 mixed (by kernel_rfl) (by simp only [Tryz.ntmps131, List.length_cons, List.length_nil]; omega) (by rw [e]; exact h)
/-- (*lots.book).issue -/
def L132 (b0 m1 : Value) (w : World) (K : Value → World → Prop) : Prop :=
 l_new 47 (m1 : Value).cells w fun m3 W1 =>
 l_new 43 #[.int .i64 0, .int .i64 0, .int .i64 0, .int .i64 0] W1 fun c4 W2 =>
 onSome (q_faddr 6 m3) fun t11 =>
 onSome (q_load1 t11 W2) fun t12 =>
 Ret Tryz.prog 182 [b0, t12] W2 fun t13 W3 =>
 onSome (q_extract t13 0) fun t14 =>
 onSome (q_extract t13 1) fun t15 =>
 onSome (q_un .not t15) fun t18 =>
 onSome (gateQ false t18 (q_faddr 6 m3)) fun t20 =>
 onSome (gateQ false t18 (q_load1 t20 W3)) fun t21 =>
 onSome (gateQ false t18 (q_bin .eql t21 (.string ⟨#[]⟩))) fun t22 =>
 onSome (q_pick t18 (.bool true) t22) fun t23 =>
 xif t23
 (onSome (q_loadn 4 c4 W3) fun t24 =>
 l_store 4 c4 t24 W3 fun _ W4 =>
 onSome (q_loadn 4 c4 W4) fun c4_1 =>
 K (.tuple #[c4_1, (.int .i64 22)]) W4)
 (onSome (q_faddr 6 m3) fun t27 =>
 onSome (q_load1 t27 W3.drew) fun t28 =>
 onSome (q_faddr 4 m3) fun t30 =>
 onSome (q_load1 t30 W3.drew) fun t31 =>
 Ret Tryz.prog 183 [b0, t28] W3.drew fun t29 W5 =>
 ob (q_load1 t30 W5 = some t31) (
 onSome (q_bin .lss t29 t31) fun t32 =>
 xif t32
 (onSome (q_loadn 4 c4 W5) fun t33 =>
 l_store 4 c4 t33 W5 fun _ W6 =>
 onSome (q_loadn 4 c4 W6) fun c4_2 =>
 K (.tuple #[c4_2, (.int .i64 21)]) W6)
 (onSome (q_faddr 6 m3) fun t35 =>
 onSome (q_load1 t35 W5) fun t36 =>
 onSome (q_faddr 4 m3) fun t37 =>
 onSome (q_load1 t37 W5) fun t38 =>
 Ret Tryz.prog 184 [b0, t36, t38] W5 fun t39 W7 =>
 onSome (q_loadn 8 m3 W7) fun t41 =>
 Ret Tryz.prog 181 [b0, t41, t39] W7 fun t43 W8 =>
 onSome (q_faddr 4 m3) fun t44 =>
 onSome (q_load1 t44 W8) fun t45 =>
 onSome (q_un .neg t45) fun t46 =>
 onSome (q_un .neg t39) fun t48 =>
 onSome (q_build #[.int .i64 0, .int .i64 0, .int .i64 0, .int .i64 0] [(1, 1, t46), (2, 1, t48)]) fun t49 =>
 l_store 4 c4 t49 W8 fun _ W9 =>
 onSome (q_loadn 4 c4 W9) fun c4_3 =>
 K (.tuple #[c4_3, (.int .i64 0)]) W9)))
theorem lift132 {b0 m1 : Value} {w : World} {K : Value → World → Prop} (h : L132 b0 m1 w K) : Ret Tryz.prog 132 [b0, m1] w K := by
  have e : xfun Tryz.prog Tryz.f132 (.s .r (.s (.s .r (.b (.s .r (.c (.s .r .r) (.s (.x [0, 0, 2, 7, 0, 16, 63, 127] (.q 0 (.q 1 (.q 2 (.q 4 (.q 5 (.l 3 7 (.q 6 (.q 7 .nil))))))))) (.c (.s .r .r) .r)))))) (.s .r (.s .r (.s .r .r))))) [b0, m1] w K = L132 b0 m1 w K := by kernel_rfl
  exact xfun_sound (an := (.s .r (.s (.s .r (.b (.s .r (.c (.s .r .r) (.s (.x [0, 0, 2, 7, 0, 16, 63, 127] (.q 0 (.q 1 (.q 2 (.q 4 (.q 5 (.l 3 7 (.q 6 (.q 7 .nil))))))))) (.c (.s .r .r) .r)))))) (.s .r (.s .r (.s .r .r)))))) Tryz.func132 mixed (by kernel_rfl) (by simp only [Tryz.ntmps132, List.length_cons, List.length_nil]; omega) (by rw [e]; exact h)
/-- (*lots.book).back -/
def L133 (b0 m1 p2 : Value) (w : World) (K : Value → World → Prop) : Prop :=
 l_new 47 (m1 : Value).cells w fun m4 W1 =>
 l_new 43 #[.int .i64 0, .int .i64 0, .int .i64 0, .int .i64 0] W1 fun c6 W2 =>
 onSome (q_nil p2) fun t10 =>
 onSome (q_faddr 4 t10) fun t11 =>
 onSome (q_load1 t11 W2.drew) fun t12 =>
 onSome (q_nil p2) fun t14 =>
 onSome (q_faddr 6 t14) fun t15 =>
 onSome (q_load1 t15 W2.drew) fun t16 =>
 onSome (q_bin .sub t12 t16) fun t17 =>
 onSome (q_faddr 4 m4) fun t18 =>
 onSome (q_load1 t18 W2.drew) fun t19 =>
 onSome (q_nil p2) fun t21 =>
 onSome (q_faddr 3 t21) fun t22 =>
 onSome (q_load1 t22 W2.drew) fun t23 =>
 onSome (q_nil p2) fun t25 =>
 onSome (q_faddr 5 t25) fun t26 =>
 onSome (q_load1 t26 W2.drew) fun t27 =>
 onSome (q_bin .sub t23 t27) fun t28 =>
 Ret Tryz.prog 185 [t17, t19, t28] W2.drew fun t29 W3 =>
 onSome (q_nil p2) fun t31 =>
 onSome (q_faddr 5 t31) fun t32 =>
 onSome (q_load1 t32 W3.drew) fun t33 =>
 onSome (q_faddr 4 m4) fun t34 =>
 onSome (q_load1 t34 W3.drew) fun t35 =>
 onSome (q_bin .add t33 t35) fun t36 =>
 onSome (q_nil p2) fun t37 =>
 onSome (q_faddr 5 t37) fun t38 =>
 l_store 1 t38 t36 W3.drew fun _ W4 =>
 onSome (q_nil p2) fun t40 =>
 onSome (q_faddr 6 t40) fun t41 =>
 onSome (q_load1 t41 W4) fun t42 =>
 onSome (q_bin .add t42 t29) fun t44 =>
 onSome (q_nil p2) fun t45 =>
 onSome (q_faddr 6 t45) fun t46 =>
 l_store 1 t46 t44 W4 fun _ W5 =>
 onSome (q_nil p2) fun t49 =>
 onSome (q_faddr 2 t49) fun t50 =>
 onSome (q_load1 t50 W5.drew) fun t51 =>
 onSome (q_faddr 4 m4) fun t52 =>
 onSome (q_load1 t52 W5.drew) fun t53 =>
 Ret Tryz.prog 180 [b0, t51, t53, t29] W5.drew fun t55 W6 =>
 onSome (q_faddr 4 m4) fun t56 =>
 onSome (q_load1 t56 W6) fun t57 =>
 onSome (q_build #[.int .i64 0, .int .i64 0, .int .i64 0, .int .i64 0] [(1, 1, t57), (2, 1, t29)]) fun t59 =>
 l_store 4 c6 t59 W6 fun _ W7 =>
 onSome (q_loadn 4 c6 W7) fun c6_1 =>
 K (.tuple #[c6_1, (.int .i64 0)]) W7
theorem lift133 {b0 m1 p2 : Value} {w : World} {K : Value → World → Prop} (h : L133 b0 m1 p2 w K) : Ret Tryz.prog 133 [b0, m1, p2] w K := by
  have e : xfun Tryz.prog Tryz.f133 (.s .r (.s (.x [0, 1, 3, 7, 0, 16, 48, 112, 255, 0, 512, 0, 2048, 6144, 14336, 0, 32768, 98304, 229376, 522240, 1048575, 2097151] (.q 0 (.q 1 (.q 2 (.q 3 (.q 4 (.q 5 (.q 6 (.q 7 (.q 8 (.q 9 (.q 10 (.q 11 (.q 12 (.q 13 (.q 14 (.q 15 (.q 16 (.q 17 (.q 18 (.q 19 (.l 20 1048575 (.q 21 .nil))))))))))))))))))))))) (.s (.x [0, 1, 3, 7, 0, 16, 63, 127, 255, 511] (.q 0 (.q 1 (.q 2 (.q 3 (.q 4 (.q 5 (.q 6 (.q 7 (.q 8 (.l 9 511 .nil))))))))))) (.s .r (.s (.x [0, 0, 2, 6, 14, 0, 32, 0, 255] (.q 0 (.q 1 (.q 2 (.q 3 (.q 4 (.q 5 (.q 6 (.q 7 (.l 8 255 .nil)))))))))) (.s .r .r)))))) [b0, m1, p2] w K = L133 b0 m1 p2 w K := by kernel_rfl
  exact xfun_sound (an := (.s .r (.s (.x [0, 1, 3, 7, 0, 16, 48, 112, 255, 0, 512, 0, 2048, 6144, 14336, 0, 32768, 98304, 229376, 522240, 1048575, 2097151] (.q 0 (.q 1 (.q 2 (.q 3 (.q 4 (.q 5 (.q 6 (.q 7 (.q 8 (.q 9 (.q 10 (.q 11 (.q 12 (.q 13 (.q 14 (.q 15 (.q 16 (.q 17 (.q 18 (.q 19 (.l 20 1048575 (.q 21 .nil))))))))))))))))))))))) (.s (.x [0, 1, 3, 7, 0, 16, 63, 127, 255, 511] (.q 0 (.q 1 (.q 2 (.q 3 (.q 4 (.q 5 (.q 6 (.q 7 (.q 8 (.l 9 511 .nil))))))))))) (.s .r (.s (.x [0, 0, 2, 6, 14, 0, 32, 0, 255] (.q 0 (.q 1 (.q 2 (.q 3 (.q 4 (.q 5 (.q 6 (.q 7 (.l 8 255 .nil)))))))))) (.s .r .r))))))) Tryz.func133 mixed (by kernel_rfl) (by simp only [Tryz.ntmps133, List.length_cons, List.length_nil]; omega) (by rw [e]; exact h)
/-- (*lots.book).send -/
def L134 (b0 m1 p2 : Value) (w : World) (K : Value → World → Prop) : Prop :=
 l_new 47 (m1 : Value).cells w fun m4 W1 =>
 l_new 43 #[.int .i64 0, .int .i64 0, .int .i64 0, .int .i64 0] W1 fun c6 W2 =>
 onSome (q_nil p2) fun t11 =>
 onSome (q_faddr 2 t11) fun t12 =>
 onSome (q_load1 t12 W2.drew) fun t13 =>
 onSome (q_faddr 4 m4) fun t15 =>
 onSome (q_load1 t15 W2.drew) fun t16 =>
 Ret Tryz.prog 183 [b0, t13] W2.drew fun t14 W3 =>
 ob (q_load1 t15 W3 = some t16) (
 onSome (q_bin .lss t14 t16) fun t17 =>
 xif t17
 (onSome (q_loadn 4 c6 W3) fun t18 =>
 l_store 4 c6 t18 W3 fun _ W4 =>
 onSome (q_loadn 4 c6 W4) fun c6_1 =>
 K (.tuple #[c6_1, (.int .i64 21)]) W4)
 (onSome (q_nil p2) fun t20 =>
 onSome (q_faddr 5 t20) fun t21 =>
 onSome (q_load1 t21 W3.drew) fun t22 =>
 onSome (q_faddr 4 m4) fun t23 =>
 onSome (q_load1 t23 W3.drew) fun t24 =>
 onSome (q_bin .add t22 t24) fun t25 =>
 onSome (q_nil p2) fun t26 =>
 onSome (q_faddr 5 t26) fun t27 =>
 l_store 1 t27 t25 W3.drew fun _ W5 =>
 onSome (q_nil p2) fun t30 =>
 onSome (q_faddr 2 t30) fun t31 =>
 onSome (q_load1 t31 W5.drew) fun t32 =>
 onSome (q_faddr 4 m4) fun t33 =>
 onSome (q_load1 t33 W5.drew) fun t34 =>
 Ret Tryz.prog 184 [b0, t32, t34] W5.drew fun t35 W6 =>
 onSome (q_faddr 4 m4) fun t36 =>
 onSome (q_load1 t36 W6) fun t37 =>
 onSome (q_un .neg t37) fun t38 =>
 onSome (q_un .neg t35) fun t40 =>
 onSome (q_faddr 5 m4) fun t42 =>
 onSome (q_load1 t42 W6) fun t43 =>
 onSome (q_bin .sub t35 t43) fun t44 =>
 onSome (q_build #[.int .i64 0, .int .i64 0, .int .i64 0, .int .i64 0] [(1, 1, t38), (2, 1, t40), (3, 1, t44)]) fun t45 =>
 l_store 4 c6 t45 W6 fun _ W7 =>
 onSome (q_loadn 4 c6 W7) fun c6_2 =>
 K (.tuple #[c6_2, (.int .i64 0)]) W7))
theorem lift134 {b0 m1 p2 : Value} {w : World} {K : Value → World → Prop} (h : L134 b0 m1 p2 w K) : Ret Tryz.prog 134 [b0, m1, p2] w K := by
  have e : xfun Tryz.prog Tryz.f134 (.s .r (.s (.s (.x [0, 0, 2, 6, 14, 31, 0, 64, 255] (.q 0 (.q 1 (.q 2 (.q 3 (.q 4 (.q 6 (.q 7 (.l 5 31 (.q 8 .nil)))))))))) (.c (.s .r .r) .r)) (.s (.x [0, 1, 3, 7, 0, 16, 63, 127, 255, 511] (.q 0 (.q 1 (.q 2 (.q 3 (.q 4 (.q 5 (.q 6 (.q 7 (.q 8 (.l 9 511 .nil))))))))))) (.s (.x [0, 0, 2, 6, 14, 0, 32, 127, 255] (.q 0 (.q 1 (.q 2 (.q 3 (.q 4 (.q 5 (.q 6 (.l 7 127 (.q 8 .nil)))))))))) (.s .r .r))))) [b0, m1, p2] w K = L134 b0 m1 p2 w K := by kernel_rfl
  exact xfun_sound (an := (.s .r (.s (.s (.x [0, 0, 2, 6, 14, 31, 0, 64, 255] (.q 0 (.q 1 (.q 2 (.q 3 (.q 4 (.q 6 (.q 7 (.l 5 31 (.q 8 .nil)))))))))) (.c (.s .r .r) .r)) (.s (.x [0, 1, 3, 7, 0, 16, 63, 127, 255, 511] (.q 0 (.q 1 (.q 2 (.q 3 (.q 4 (.q 5 (.q 6 (.q 7 (.q 8 (.l 9 511 .nil))))))))))) (.s (.x [0, 0, 2, 6, 14, 0, 32, 127, 255] (.q 0 (.q 1 (.q 2 (.q 3 (.q 4 (.q 5 (.q 6 (.l 7 127 (.q 8 .nil)))))))))) (.s .r .r)))))) Tryz.func134 mixed (by kernel_rfl) (by simp only [Tryz.ntmps134, List.length_cons, List.length_nil]; omega) (by rw [e]; exact h)
/-- (*lots.book).land -/
def L135 (b0 m1 p2 : Value) (w : World) (K : Value → World → Prop) : Prop :=
 l_new 47 (m1 : Value).cells w fun m4 W1 =>
 l_new 43 #[.int .i64 0, .int .i64 0, .int .i64 0, .int .i64 0] W1 fun c6 W2 =>
 onSome (q_nil p2) fun t11 =>
 onSome (q_faddr 3 t11) fun t12 =>
 onSome (q_load1 t12 W2.drew) fun t13 =>
 onSome (q_nil p2) fun t16 =>
 onSome (q_faddr 2 t16) fun t17 =>
 onSome (q_load1 t17 W2.drew) fun t18 =>
 Ret Tryz.prog 183 [b0, t18] W2.drew fun t19 W3 =>
 ob (q_load1 t12 W3 = some t13) (
 onSome (q_min t13 t19) fun t20 =>
 onSome (q_bin .eql t20 (.int .i64 0)) fun t22 =>
 xif t22
 (onSome (q_faddr 5 m4) fun t23 =>
 onSome (q_load1 t23 W3) fun t24 =>
 onSome (q_build #[.int .i64 0, .int .i64 0, .int .i64 0, .int .i64 0] [(3, 1, t24)]) fun t25 =>
 l_store 4 c6 t25 W3 fun _ W4 =>
 onSome (q_loadn 4 c6 W4) fun c6_1 =>
 K (.tuple #[c6_1, (.int .i64 0)]) W4)
 (onSome (q_faddr 5 m4) fun t26 =>
 onSome (q_load1 t26 W3.drew) fun t27 =>
 onSome (q_nil p2) fun t30 =>
 onSome (q_faddr 3 t30) fun t31 =>
 onSome (q_load1 t31 W3.drew) fun t32 =>
 Ret Tryz.prog 185 [t27, t20, t32] W3.drew fun t33 W5 =>
 onSome (q_nil p2) fun t36 =>
 onSome (q_faddr 2 t36) fun t37 =>
 onSome (q_load1 t37 W5) fun t38 =>
 Ret Tryz.prog 180 [b0, t38, (.int .i64 0), t33] W5 fun t40 W6 =>
 onSome (q_faddr 5 m4) fun t42 =>
 onSome (q_load1 t42 W6) fun t43 =>
 onSome (q_bin .sub t43 t33) fun t45 =>
 onSome (q_build #[.int .i64 0, .int .i64 0, .int .i64 0, .int .i64 0] [(2, 1, t33), (3, 1, t45)]) fun t46 =>
 l_store 4 c6 t46 W6 fun _ W7 =>
 onSome (q_loadn 4 c6 W7) fun c6_2 =>
 K (.tuple #[c6_2, (.int .i64 0)]) W7))
theorem lift135 {b0 m1 p2 : Value} {w : World} {K : Value → World → Prop} (h : L135 b0 m1 p2 w K) : Ret Tryz.prog 135 [b0, m1, p2] w K := by
  have e : xfun Tryz.prog Tryz.f135 (.s .r (.s (.x [0, 1, 3, 7, 0, 0, 32, 96, 224, 496, 1023, 2047] (.q 0 (.q 1 (.q 2 (.q 3 (.q 4 (.q 5 (.q 6 (.q 7 (.q 8 (.l 9 496 (.q 10 (.q 11 .nil))))))))))))) (.s (.s .r (.c (.s .r .r) .r)) (.s (.x [0, 1, 0, 0, 8, 24, 56, 127, 255] (.q 0 (.q 1 (.q 2 (.q 3 (.q 4 (.q 5 (.q 6 (.l 7 127 (.q 8 .nil)))))))))) (.s .r (.s .r .r)))))) [b0, m1, p2] w K = L135 b0 m1 p2 w K := by kernel_rfl
  exact xfun_sound (an := (.s .r (.s (.x [0, 1, 3, 7, 0, 0, 32, 96, 224, 496, 1023, 2047] (.q 0 (.q 1 (.q 2 (.q 3 (.q 4 (.q 5 (.q 6 (.q 7 (.q 8 (.l 9 496 (.q 10 (.q 11 .nil))))))))))))) (.s (.s .r (.c (.s .r .r) .r)) (.s (.x [0, 1, 0, 0, 8, 24, 56, 127, 255] (.q 0 (.q 1 (.q 2 (.q 3 (.q 4 (.q 5 (.q 6 (.l 7 127 (.q 8 .nil)))))))))) (.s .r (.s .r .r))))))) Tryz.func135 mixed (by kernel_rfl) (by simp only [Tryz.ntmps135, List.length_cons, List.length_nil]; omega) (by rw [e]; exact h)
/-- lots.far -/
def L136 (n0 : Value) (w : World) (K : Value → World → Prop) : Prop :=
 Ret Tryz.prog 171 [n0, (.int .i64 (-1000000000000000)), (.int .i64 1000000000000000)] w fun t4 W1 =>
 onSome (q_bin .neq t4 n0) fun t6 =>
 K t6 W1
theorem lift136 {n0 : Value} {w : World} {K : Value → World → Prop} (h : L136 n0 w K) : Ret Tryz.prog 136 [n0] w K := by
  have e : xfun Tryz.prog Tryz.f136 (.s .r (.s .r .r)) [n0] w K = L136 n0 w K := by kernel_rfl
  exact xfun_sound (an := (.s .r (.s .r .r))) Tryz.func136 mixed (by kernel_rfl) (by simp only [Tryz.ntmps136, List.length_cons, List.length_nil]; omega) (by rw [e]; exact h)
/-- (*lots.book).add -/
def L180 (b0 lot1 q2 v3 : Value) (w : World) (K : Value → World → Prop) : Prop :=
 Ret Tryz.prog 182 [b0, lot1] w fun t13 W1 =>
 onSome (q_extract t13 0) fun t14 =>
 onSome (q_extract t13 1) fun t15 =>
 joining fun (J : World → Prop) => (onSome (q_un .not t15) fun t17 =>
 xif t17
 (onSome (q_nil b0) fun t20 =>
 onSome (q_faddr 0 t20) fun t21 =>
 onSome (q_faddr 3 t21) fun t22 =>
 onSome (q_load1 t22 W1) fun t23 =>
 onSome (q_build #[.int .i64 0, .string ⟨#[]⟩, .int .i64 0, .int .i64 0] []) fun t24 =>
 l_lit 103 1 #[.int .i64 0, .string ⟨#[]⟩, .int .i64 0, .int .i64 0] [(0, 4, t24)] W1 fun t25 W2 =>
 l_append Tryz.prog #[25, 25] 25 t23 t25 W2 fun t26 W3 =>
 onSome (q_nil b0) fun t27 =>
 onSome (q_faddr 0 t27) fun t28 =>
 onSome (q_faddr 3 t28) fun t29 =>
 l_store 1 t29 t26 W3 fun _ W4 =>
 onSome (q_nil b0) fun t31 =>
 onSome (q_faddr 0 t31) fun t32 =>
 onSome (q_faddr 3 t32) fun t33 =>
 onSome (q_load1 t33 W4.drew) fun t34 =>
 onSome (q_bin .add t14 (.int .i64 1)) fun t36 =>
 onSome (q_slice Tryz.prog 25 t34 (some t36) none none) fun t37 =>
 onSome (q_nil b0) fun t39 =>
 onSome (q_faddr 0 t39) fun t40 =>
 onSome (q_faddr 3 t40) fun t41 =>
 onSome (q_load1 t41 W4.drew) fun t42 =>
 onSome (q_slice Tryz.prog 25 t42 (some t14) none none) fun t44 =>
 l_copy Tryz.prog #[25, 25] 3 t37 t44 W4.drew fun t45 W5 =>
 onSome (q_nil b0) fun t47 =>
 onSome (q_faddr 0 t47) fun t48 =>
 onSome (q_faddr 3 t48) fun t49 =>
 onSome (q_load1 t49 W5) fun t50 =>
 onSome (q_build #[.int .i64 0, .string ⟨#[]⟩, .int .i64 0, .int .i64 0] [(1, 1, lot1)]) fun t53 =>
 onSome (q_iaddr 4 t50 t14) fun t54 =>
 l_store 4 t54 t53 W5 fun _ W6 =>
 J W6)
 (J W1)) ∧
 ∀ (W7 : World), J W7 → ∀ _ : Env,
 onSome (q_nil b0) fun t56 =>
 onSome (q_faddr 0 t56) fun t57 =>
 onSome (q_faddr 3 t57) fun t58 =>
 onSome (q_load1 t58 W7) fun t59 =>
 onSome (q_iaddr 4 t59 t14) fun t61 =>
 onSome (q_faddr 2 t61) fun t62 =>
 onSome (q_load1 t62 W7) fun t63 =>
 onSome (q_bin .add t63 q2) fun t65 =>
 onSome (q_iaddr 4 t59 t14) fun t66 =>
 onSome (q_faddr 2 t66) fun t67 =>
 l_store 1 t67 t65 W7 fun _ W8 =>
 onSome (q_nil b0) fun t69 =>
 onSome (q_faddr 0 t69) fun t70 =>
 onSome (q_faddr 3 t70) fun t71 =>
 onSome (q_load1 t71 W8) fun t72 =>
 onSome (q_iaddr 4 t72 t14) fun t74 =>
 onSome (q_faddr 3 t74) fun t75 =>
 onSome (q_load1 t75 W8) fun t76 =>
 onSome (q_bin .add t76 v3) fun t78 =>
 onSome (q_iaddr 4 t72 t14) fun t79 =>
 onSome (q_faddr 3 t79) fun t80 =>
 l_store 1 t80 t78 W8 fun _ W9 =>
 K (.tuple #[]) W9
theorem lift180 {b0 lot1 q2 v3 : Value} {w : World} {K : Value → World → Prop} (h : L180 b0 lot1 q2 v3 w K) : Ret Tryz.prog 180 [b0, lot1, q2, v3] w K := by
  have e : xfun Tryz.prog Tryz.f180 (.s .r (.j [] 36028797018898432 (.s .r (.c (.s .r (.s (.x [0, 1, 3, 7, 15, 0, 32, 127, 0, 256, 768, 1792, 3840, 0, 16128, 32767] (.q 0 (.q 1 (.q 2 (.q 3 (.q 4 (.q 5 (.q 6 (.q 7 (.q 8 (.q 9 (.q 10 (.q 11 (.q 12 (.q 13 (.q 14 (.l 15 32767 .nil))))))))))))))))) .r)) .r)) (.s .r .r))) [b0, lot1, q2, v3] w K = L180 b0 lot1 q2 v3 w K := by kernel_rfl
  exact xfun_sound (an := (.s .r (.j [] 36028797018898432 (.s .r (.c (.s .r (.s (.x [0, 1, 3, 7, 15, 0, 32, 127, 0, 256, 768, 1792, 3840, 0, 16128, 32767] (.q 0 (.q 1 (.q 2 (.q 3 (.q 4 (.q 5 (.q 6 (.q 7 (.q 8 (.q 9 (.q 10 (.q 11 (.q 12 (.q 13 (.q 14 (.l 15 32767 .nil))))))))))))))))) .r)) .r)) (.s .r .r)))) Tryz.func180 mixed (by kernel_rfl) (by simp only [Tryz.ntmps180, List.length_cons, List.length_nil]; omega) (by rw [e]; exact h)
/-- (*lots.book).record -/
def L181 (b0 m1 v2 : Value) (w : World) (K : Value → World → Prop) : Prop :=
 l_new 47 (m1 : Value).cells w fun m4 W1 =>
 onSome (q_nil b0) fun t8 =>
 onSome (q_faddr 0 t8) fun t9 =>
 onSome (q_faddr 4 t9) fun t10 =>
 onSome (q_load1 t10 W1.drew) fun t11 =>
 onSome (q_faddr 0 m4) fun t12 =>
 onSome (q_load1 t12 W1.drew) fun t13 =>
 onSome (q_faddr 3 m4) fun t14 =>
 onSome (q_load1 t14 W1.drew) fun t15 =>
 onSome (q_faddr 6 m4) fun t16 =>
 onSome (q_load1 t16 W1.drew) fun t17 =>
 onSome (q_faddr 4 m4) fun t18 =>
 onSome (q_load1 t18 W1.drew) fun t19 =>
 onSome (q_build #[.int .i64 0, .int .i64 0, .string ⟨#[]⟩, .int .i64 0, .int .i64 0, .int .i64 0, .int .i64 0] [(0, 1, t13), (1, 1, t15), (2, 1, t17), (3, 1, t19), (4, 1, v2)]) fun t21 =>
 l_lit 105 1 #[.int .i64 0, .int .i64 0, .string ⟨#[]⟩, .int .i64 0, .int .i64 0, .int .i64 0, .int .i64 0] [(0, 7, t21)] W1.drew fun t22 W2 =>
 ob (q_load1 t10 W2 = some t11) (
 l_append Tryz.prog #[26, 26] 26 t11 t22 W2 fun t23 W3 =>
 onSome (q_nil b0) fun t24 =>
 onSome (q_faddr 0 t24) fun t25 =>
 onSome (q_faddr 4 t25) fun t26 =>
 l_store 1 t26 t23 W3 fun _ W4 =>
 K (.tuple #[]) W4)
theorem lift181 {b0 m1 v2 : Value} {w : World} {K : Value → World → Prop} (h : L181 b0 m1 v2 w K) : Ret Tryz.prog 181 [b0, m1, v2] w K := by
  have e : xfun Tryz.prog Tryz.f181 (.s .r (.x [0, 0, 2, 6, 14, 30, 0, 64, 0, 256, 0, 1024, 0, 4096, 0, 32704, 65472, 131070, 262143, 524287, 1048575, 2097151] (.q 0 (.q 1 (.q 2 (.q 3 (.q 4 (.q 5 (.q 6 (.q 7 (.q 8 (.q 9 (.q 10 (.q 11 (.q 12 (.q 13 (.q 14 (.q 15 (.l 16 65472 (.l 17 131070 (.q 18 (.q 19 (.q 20 (.l 21 2097151 .nil)))))))))))))))))))))))) [b0, m1, v2] w K = L181 b0 m1 v2 w K := by kernel_rfl
  exact xfun_sound (an := (.s .r (.x [0, 0, 2, 6, 14, 30, 0, 64, 0, 256, 0, 1024, 0, 4096, 0, 32704, 65472, 131070, 262143, 524287, 1048575, 2097151] (.q 0 (.q 1 (.q 2 (.q 3 (.q 4 (.q 5 (.q 6 (.q 7 (.q 8 (.q 9 (.q 10 (.q 11 (.q 12 (.q 13 (.q 14 (.q 15 (.l 16 65472 (.l 17 131070 (.q 18 (.q 19 (.q 20 (.l 21 2097151 .nil))))))))))))))))))))))))) Tryz.func181 mixed (by kernel_rfl) (by simp only [Tryz.ntmps181, List.length_cons, List.length_nil]; omega) (by rw [e]; exact h)
/-- (*lots.book).find -/
def L182 (b0 lot1 : Value) (w : World) (K : Value → World → Prop) : Prop :=
 joining fun (J : Value → Value → World → Prop) => (onSome (q_nil b0) fun t9 =>
 onSome (q_faddr 0 t9) fun t10 =>
 onSome (q_faddr 3 t10) fun t11 =>
 onSome (q_load1 t11 w) fun t12 =>
 onSome (q_len t12) fun t13 =>
 looping fun (I : Value → Value → Value → World → Prop) (μ : Value → Value → Value → World → Nat) => I (.int .i64 0) (.bool false) (.int .i64 0) w ∧
 ∀ (at4 ok5 t14 : Value) (W1 : World), I at4 ok5 t14 W1 → ∀ _ : Env,
 onSome (q_bin .lss t14 t13) fun t15 =>
 xif t15
 (onSome (q_iaddr 4 t12 t14) fun t17 =>
 onSome (q_loadn 4 t17 W1) fun t18 =>
 l_new 103 #[.int .i64 0, .string ⟨#[]⟩, .int .i64 0, .int .i64 0] W1 fun l7 W2 =>
 l_store 4 l7 t18 W2 fun _ W3 =>
 onSome (q_faddr 1 l7) fun t20 =>
 onSome (q_load1 t20 W3) fun t21 =>
 onSome (q_bin .eql t21 lot1) fun t23 =>
 xif t23
 (J t14 (.bool true) W3)
 (onSome (q_faddr 1 l7) fun t26 =>
 onSome (q_load1 t26 W3) fun t27 =>
 onSome (q_bin .gtr t27 lot1) fun t29 =>
 xif t29
 (J at4 ok5 W3)
 (onSome (q_bin .add t14 (.int .i64 1)) fun t31 =>
 onSome (q_bin .add t14 (.int .i64 1)) fun t32 =>
 I t31 ok5 t32 W3 ∧ μ t31 ok5 t32 W3 < μ at4 ok5 t14 W1)))
 (J at4 ok5 W1)) ∧
 ∀ (at4_1 ok5_1 : Value) (W4 : World), J at4_1 ok5_1 W4 → ∀ _ : Env,
 K (.tuple #[at4_1, ok5_1]) W4
theorem lift182 {b0 lot1 : Value} {w : World} {K : Value → World → Prop} (h : L182 b0 lot1 w K) : Ret Tryz.prog 182 [b0, lot1] w K := by
  have e : xfun Tryz.prog Tryz.f182 (.s .r (.b (.s .r (.j [4, 5] 8589934576 (.s .r (.b (.l [4, 5, 14] 8589918448 (.s .r (.s (.c .r .r) (.s (.b (.s .r (.s (.b (.s .r (.c (.s .r .r) (.s .r (.c .r .r))))) .r))) .r)))))) (.s .r .r))))) [b0, lot1] w K = L182 b0 lot1 w K := by kernel_rfl
  exact xfun_sound (an := (.s .r (.b (.s .r (.j [4, 5] 8589934576 (.s .r (.b (.l [4, 5, 14] 8589918448 (.s .r (.s (.c .r .r) (.s (.b (.s .r (.s (.b (.s .r (.c (.s .r .r) (.s .r (.c .r .r))))) .r))) .r)))))) (.s .r .r)))))) Tryz.func182 mixed (by kernel_rfl) (by simp only [Tryz.ntmps182, List.length_cons, List.length_nil]; omega) (by rw [e]; exact h)
/-- (*lots.book).qty -/
def L183 (b0 lot1 : Value) (w : World) (K : Value → World → Prop) : Prop :=
 Ret Tryz.prog 182 [b0, lot1] w fun t10 W1 =>
 onSome (q_extract t10 0) fun t11 =>
 onSome (q_extract t10 1) fun t12 =>
 xif t12
 (onSome (q_nil b0) fun t15 =>
 onSome (q_faddr 0 t15) fun t16 =>
 onSome (q_faddr 3 t16) fun t17 =>
 onSome (q_load1 t17 W1) fun t18 =>
 onSome (q_iaddr 4 t18 t11) fun t20 =>
 onSome (q_faddr 2 t20) fun t21 =>
 onSome (q_load1 t21 W1) fun t22 =>
 K t22 W1)
 (K (.int .i64 0) W1)
theorem lift183 {b0 lot1 : Value} {w : World} {K : Value → World → Prop} (h : L183 b0 lot1 w K) : Ret Tryz.prog 183 [b0, lot1] w K := by
  have e : xfun Tryz.prog Tryz.f183 (.s .r (.s (.s .r (.s .r (.c (.s .r .r) .r))) (.s .r .r))) [b0, lot1] w K = L183 b0 lot1 w K := by kernel_rfl
  exact xfun_sound (an := (.s .r (.s (.s .r (.s .r (.c (.s .r .r) .r))) (.s .r .r)))) Tryz.func183 mixed (by kernel_rfl) (by simp only [Tryz.ntmps183, List.length_cons, List.length_nil]; omega) (by rw [e]; exact h)
/-- (*lots.book).take -/
def L184 (b0 lot1 q2 : Value) (w : World) (K : Value → World → Prop) : Prop :=
 Ret Tryz.prog 182 [b0, lot1] w fun t14 W1 =>
 onSome (q_extract t14 0) fun t15 =>
 onSome (q_extract t14 1) fun t16 =>
 onSome (q_nil b0) fun t18 =>
 onSome (q_faddr 0 t18) fun t19 =>
 onSome (q_faddr 3 t19) fun t20 =>
 onSome (q_load1 t20 W1) fun t21 =>
 onSome (q_iaddr 4 t21 t15) fun t23 =>
 onSome (q_nil t23) fun t25 =>
 onSome (q_faddr 3 t25) fun t26 =>
 onSome (q_load1 t26 W1.drew) fun t27 =>
 onSome (q_nil t23) fun t30 =>
 onSome (q_faddr 2 t30) fun t31 =>
 onSome (q_load1 t31 W1.drew) fun t32 =>
 Ret Tryz.prog 185 [t27, q2, t32] W1.drew fun t33 W2 =>
 onSome (q_nil t23) fun t35 =>
 onSome (q_faddr 2 t35) fun t36 =>
 onSome (q_load1 t36 W2) fun t37 =>
 onSome (q_bin .sub t37 q2) fun t39 =>
 onSome (q_nil t23) fun t40 =>
 onSome (q_faddr 2 t40) fun t41 =>
 l_store 1 t41 t39 W2 fun _ W3 =>
 onSome (q_nil t23) fun t43 =>
 onSome (q_faddr 3 t43) fun t44 =>
 onSome (q_load1 t44 W3) fun t45 =>
 onSome (q_bin .sub t45 t33) fun t47 =>
 onSome (q_nil t23) fun t48 =>
 onSome (q_faddr 3 t48) fun t49 =>
 l_store 1 t49 t47 W3 fun _ W4 =>
 onSome (q_nil t23) fun t51 =>
 onSome (q_faddr 2 t51) fun t52 =>
 onSome (q_load1 t52 W4) fun t53 =>
 onSome (q_bin .eql t53 (.int .i64 0)) fun t54 =>
 xif t54
 (onSome (q_nil b0) fun t57 =>
 onSome (q_faddr 0 t57) fun t58 =>
 onSome (q_faddr 3 t58) fun t59 =>
 onSome (q_load1 t59 W4.drew) fun t60 =>
 onSome (q_slice Tryz.prog 25 t60 none (some t15) none) fun t62 =>
 onSome (q_nil b0) fun t64 =>
 onSome (q_faddr 0 t64) fun t65 =>
 onSome (q_faddr 3 t65) fun t66 =>
 onSome (q_load1 t66 W4.drew) fun t67 =>
 onSome (q_bin .add t15 (.int .i64 1)) fun t69 =>
 onSome (q_slice Tryz.prog 25 t67 (some t69) none none) fun t70 =>
 l_append Tryz.prog #[25, 25] 25 t62 t70 W4.drew fun t71 W5 =>
 onSome (q_nil b0) fun t72 =>
 onSome (q_faddr 0 t72) fun t73 =>
 onSome (q_faddr 3 t73) fun t74 =>
 l_store 1 t74 t71 W5 fun _ W6 =>
 K t33 W6)
 (K t33 W4)
theorem lift184 {b0 lot1 q2 : Value} {w : World} {K : Value → World → Prop} (h : L184 b0 lot1 q2 w K) : Ret Tryz.prog 184 [b0, lot1, q2] w K := by
  have e : xfun Tryz.prog Tryz.f184 (.s .r (.s .r (.s .r (.s (.x [0, 1, 3, 7, 0, 0, 32, 96, 224, 511, 1023] (.q 0 (.q 1 (.q 2 (.q 3 (.q 4 (.q 5 (.q 6 (.q 7 (.q 8 (.l 9 511 (.q 10 .nil)))))))))))) (.s .r (.s .r (.s (.s .r (.c (.x [0, 0, 2, 6, 14, 30, 0, 126, 0, 256, 768, 1792, 3840, 0, 8192, 32512, 65534, 131071, 262143, 524287, 1048575] (.q 0 (.q 1 (.q 2 (.q 3 (.q 4 (.q 5 (.q 6 (.q 7 (.q 8 (.q 9 (.q 10 (.q 11 (.q 12 (.q 13 (.q 14 (.q 15 (.l 16 65534 (.q 17 (.q 18 (.q 19 (.l 20 1048575 .nil)))))))))))))))))))))) .r)) (.s .r .r)))))))) [b0, lot1, q2] w K = L184 b0 lot1 q2 w K := by kernel_rfl
  exact xfun_sound (an := (.s .r (.s .r (.s .r (.s (.x [0, 1, 3, 7, 0, 0, 32, 96, 224, 511, 1023] (.q 0 (.q 1 (.q 2 (.q 3 (.q 4 (.q 5 (.q 6 (.q 7 (.q 8 (.l 9 511 (.q 10 .nil)))))))))))) (.s .r (.s .r (.s (.s .r (.c (.x [0, 0, 2, 6, 14, 30, 0, 126, 0, 256, 768, 1792, 3840, 0, 8192, 32512, 65534, 131071, 262143, 524287, 1048575] (.q 0 (.q 1 (.q 2 (.q 3 (.q 4 (.q 5 (.q 6 (.q 7 (.q 8 (.q 9 (.q 10 (.q 11 (.q 12 (.q 13 (.q 14 (.q 15 (.l 16 65534 (.q 17 (.q 18 (.q 19 (.l 20 1048575 .nil)))))))))))))))))))))) .r)) (.s .r .r))))))))) Tryz.func184 mixed (by kernel_rfl) (by simp only [Tryz.ntmps184, List.length_cons, List.length_nil]; omega) (by rw [e]; exact h)
end Go.X
