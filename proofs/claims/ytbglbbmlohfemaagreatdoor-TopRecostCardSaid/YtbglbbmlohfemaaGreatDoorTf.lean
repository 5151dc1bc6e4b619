/- The lifted forms of Go functions, printed by a program (lift.py); each is held against the loaded program by the kernel. -/
import Derived.Test.YtbglbbmlohfemaaGreatDoorA2
set_option linter.unusedVariables false
set_option linter.unusedSimpArgs false
set_option maxRecDepth 100000
namespace Go.X
open Go.Proofs
/-- fifo.Step -/
def L32 (s0 m1 : Value) (w : World) (K : Value → World → Prop) : Prop :=
 l_new 28 (s0 : Value).cells w fun s2 W1 =>
 l_new 47 (m1 : Value).cells W1 fun m3 W2 =>
 l_new 28 #[.int .i64 0, .int .i64 0, .int .i64 0, .slice none 0 0, .slice none 0 0] W2 fun t4 W3 =>
 l_new 43 #[.int .i64 0, .int .i64 0, .int .i64 0, .int .i64 0] W3 fun c5 W4 =>
 onSome (q_loadn 5 s2 W4.drew) fun t11 =>
 onSome (q_loadn 8 m3 W4.drew) fun t13 =>
 onSome (q_faddr 0 m3) fun t14 =>
 onSome (q_load1 t14 W4.drew) fun t15 =>
 onSome (q_build #[.int .i64 0, .int .i64 0, .int .i64 0, .int .i64 0] [(0, 1, t15)]) fun t16 =>
 Ret Tryz.prog 60 [t11] W4.drew fun t12 W5 =>
 ob (q_load1 t14 W5 = some t15) (
 ob (q_loadn 8 m3 W5 = some t13) (
 onSome (q_build #[.int .i64 0, .int .i64 0, .int .i64 0, .slice none 0 0, .slice none 0 0, .int .i64 0, .int .i64 0, .string ⟨#[]⟩, .int .i64 0, .int .i64 0, .int .i64 0, .string ⟨#[]⟩, .int .i64 0, .int .i64 0, .int .i64 0, .int .i64 0, .int .i64 0] [(0, 5, t12), (5, 8, t13), (13, 4, t16)]) fun t17 =>
 l_new 113 (t17 : Value).cells W5 fun t18 W6 =>
 onSome (q_loadn 8 m3 W6) fun t19 =>
 Ret Tryz.prog 61 [t19] W6 fun t20 W7 =>
 onSome (q_bin .neq t20 (.int .i64 0)) fun t22 =>
 xif t22
 (onSome (q_build #[.int .i64 0, .int .i64 0, .int .i64 0, .slice none 0 0, .slice none 0 0] []) fun t23 =>
 onSome (q_build #[.int .i64 0, .int .i64 0, .int .i64 0, .int .i64 0] []) fun t24 =>
 l_store 5 t4 t23 W7 fun _ W8 =>
 l_store 4 c5 t24 W8 fun _ W9 =>
 onSome (q_loadn 5 t4 W9) fun t4_1 =>
 onSome (q_loadn 4 c5 W9) fun c5_1 =>
 K (.tuple #[t4_1, c5_1, t20]) W9)
 (onSome (q_faddr 0 m3) fun t27 =>
 onSome (q_load1 t27 W7) fun t28 =>
 Ret Tryz.prog 62 [t18, (.int .i64 0), t28] W7 fun t29 W10 =>
 onSome (q_eq Tryz.prog .neq 114 t29 (.pointer none)) fun t30 =>
 xif t30
 (onSome (q_build #[.int .i64 0, .int .i64 0, .int .i64 0, .slice none 0 0, .slice none 0 0] []) fun t31 =>
 onSome (q_build #[.int .i64 0, .int .i64 0, .int .i64 0, .int .i64 0] []) fun t32 =>
 l_store 5 t4 t31 W10 fun _ W11 =>
 l_store 4 c5 t32 W11 fun _ W12 =>
 onSome (q_loadn 5 t4 W12) fun t4_2 =>
 onSome (q_loadn 4 c5 W12) fun c5_2 =>
 K (.tuple #[t4_2, c5_2, (.int .i64 8)]) W12)
 (joining fun (J : Value → World → Prop) => (onSome (q_faddr 3 m3) fun t33 =>
 onSome (q_load1 t33 W10) fun t34 =>
 onSome (q_bin .eql t34 (.int .i64 1)) fun t36 =>
 xif t36
 (onSome (q_func (.func 64) [t18] []) fun t38 =>
 J t38 W10)
 (onSome (q_bin .eql t34 (.int .i64 2)) fun t40 =>
 xif t40
 (onSome (q_func (.func 65) [t18] []) fun t42 =>
 J t42 W10)
 (onSome (q_bin .eql t34 (.int .i64 3)) fun t44 =>
 xif t44
 (onSome (q_func (.func 66) [t18] []) fun t46 =>
 J t46 W10)
 (onSome (q_bin .eql t34 (.int .i64 4)) fun t48 =>
 xif t48
 (onSome (q_func (.func 67) [t18] []) fun t50 =>
 J t50 W10)
 (onSome (q_bin .eql t34 (.int .i64 5)) fun t52 =>
 xif t52
 (onSome (q_func (.func 68) [t18] []) fun t54 =>
 J t54 W10)
 (J (.func (.func 63) #[] #[]) W10)))))) ∧
 ∀ (do9 : Value) (W13 : World), J do9 W13 → ∀ _ : Env,
 l_callv Tryz.prog do9 [] W13 fun t56 W14 =>
 onSome (q_bin .neq t56 (.int .i64 0)) fun t58 =>
 xif t58
 (onSome (q_build #[.int .i64 0, .int .i64 0, .int .i64 0, .slice none 0 0, .slice none 0 0] []) fun t59 =>
 onSome (q_build #[.int .i64 0, .int .i64 0, .int .i64 0, .int .i64 0] []) fun t60 =>
 l_store 5 t4 t59 W14 fun _ W15 =>
 l_store 4 c5 t60 W15 fun _ W16 =>
 onSome (q_loadn 5 t4 W16) fun t4_3 =>
 onSome (q_loadn 4 c5 W16) fun c5_3 =>
 K (.tuple #[t4_3, c5_3, t56]) W16)
 (onSome (q_nil t18) fun t63 =>
 onSome (q_faddr 0 t63) fun t64 =>
 onSome (q_faddr 0 t64) fun t65 =>
 onSome (q_load1 t65 W14.drew) fun t66 =>
 onSome (q_nil t18) fun t68 =>
 onSome (q_faddr 13 t68) fun t69 =>
 onSome (q_faddr 1 t69) fun t70 =>
 onSome (q_load1 t70 W14.drew) fun t71 =>
 onSome (q_bin .add t66 t71) fun t72 =>
 onSome (q_nil t18) fun t73 =>
 onSome (q_faddr 0 t73) fun t74 =>
 onSome (q_faddr 0 t74) fun t75 =>
 l_store 1 t75 t72 W14.drew fun _ W17 =>
 onSome (q_nil t18) fun t77 =>
 onSome (q_faddr 0 t77) fun t78 =>
 onSome (q_faddr 1 t78) fun t79 =>
 onSome (q_load1 t79 W17.drew) fun t80 =>
 onSome (q_nil t18) fun t82 =>
 onSome (q_faddr 13 t82) fun t83 =>
 onSome (q_faddr 2 t83) fun t84 =>
 onSome (q_load1 t84 W17.drew) fun t85 =>
 onSome (q_bin .add t80 t85) fun t86 =>
 onSome (q_nil t18) fun t87 =>
 onSome (q_faddr 0 t87) fun t88 =>
 onSome (q_faddr 1 t88) fun t89 =>
 l_store 1 t89 t86 W17.drew fun _ W18 =>
 Ret Tryz.prog 69 [t18] W18 fun t91 W19 =>
 xif t91
 (onSome (q_build #[.int .i64 0, .int .i64 0, .int .i64 0, .slice none 0 0, .slice none 0 0] []) fun t92 =>
 onSome (q_build #[.int .i64 0, .int .i64 0, .int .i64 0, .int .i64 0] []) fun t93 =>
 l_store 5 t4 t92 W19 fun _ W20 =>
 l_store 4 c5 t93 W20 fun _ W21 =>
 onSome (q_loadn 5 t4 W21) fun t4_4 =>
 onSome (q_loadn 4 c5 W21) fun c5_4 =>
 K (.tuple #[t4_4, c5_4, (.int .i64 4)]) W21)
 (onSome (q_nil t18) fun t95 =>
 onSome (q_faddr 0 t95) fun t96 =>
 onSome (q_loadn 5 t96 W19.drew) fun t97 =>
 onSome (q_nil t18) fun t99 =>
 onSome (q_faddr 13 t99) fun t100 =>
 onSome (q_loadn 4 t100 W19.drew) fun t101 =>
 l_store 5 t4 t97 W19.drew fun _ W22 =>
 ob (q_loadn 4 t100 W22 = some t101) (
 l_store 4 c5 t101 W22 fun _ W23 =>
 onSome (q_loadn 5 t4 W23) fun t4_5 =>
 onSome (q_loadn 4 c5 W23) fun c5_5 =>
 K (.tuple #[t4_5, c5_5, (.int .i64 0)]) W23)))))))
theorem lift32 {s0 m1 : Value} {w : World} {K : Value → World → Prop} (h : L32 s0 m1 w K) : Ret Tryz.prog 32 [s0, m1] w K := by
  have e : xfun Tryz.prog Tryz.f32 (.s .r (.s (.x [0, 1, 0, 0, 8, 24, 63, 127, 255] (.q 0 (.q 2 (.q 3 (.q 4 (.q 5 (.l 1 1 (.q 6 (.l 7 127 (.q 8 .nil)))))))))) (.s (.s .r (.s .r (.c (.s .r .r) .r))) (.s (.s .r (.c (.s .r .r) .r)) (.s .r (.j [9] 36028788429029888 (.s .r (.b (.s .r (.c .r (.s .r (.c .r (.s .r (.c .r (.s .r (.c .r (.s .r (.c .r .r)))))))))))) (.s (.s .r (.s .r (.c (.s .r .r) .r))) (.s (.x [0, 1, 3, 7, 15, 0, 32, 96, 224, 480, 1023, 2047, 4095, 8191, 16383] (.q 0 (.q 1 (.q 2 (.q 3 (.q 4 (.q 5 (.q 6 (.q 7 (.q 8 (.q 9 (.q 10 (.q 11 (.q 12 (.q 13 (.l 14 16383 .nil)))))))))))))))) (.s (.x [0, 1, 3, 7, 15, 0, 32, 96, 224, 480, 1023, 2047, 4095, 8191, 16383] (.q 0 (.q 1 (.q 2 (.q 3 (.q 4 (.q 5 (.q 6 (.q 7 (.q 8 (.q 9 (.q 10 (.q 11 (.q 12 (.q 13 (.l 14 16383 .nil)))))))))))))))) (.s (.s .r (.c (.s .r .r) .r)) (.s (.x [0, 1, 3, 7, 0, 16, 48, 112, 15, 511, 1023] (.q 0 (.q 1 (.q 2 (.q 3 (.q 4 (.q 5 (.q 6 (.q 7 (.l 8 15 (.l 9 511 (.q 10 .nil)))))))))))) .r))))))))))) [s0, m1] w K = L32 s0 m1 w K := by kernel_rfl
  exact xfun_sound (an := (.s .r (.s (.x [0, 1, 0, 0, 8, 24, 63, 127, 255] (.q 0 (.q 2 (.q 3 (.q 4 (.q 5 (.l 1 1 (.q 6 (.l 7 127 (.q 8 .nil)))))))))) (.s (.s .r (.s .r (.c (.s .r .r) .r))) (.s (.s .r (.c (.s .r .r) .r)) (.s .r (.j [9] 36028788429029888 (.s .r (.b (.s .r (.c .r (.s .r (.c .r (.s .r (.c .r (.s .r (.c .r (.s .r (.c .r .r)))))))))))) (.s (.s .r (.s .r (.c (.s .r .r) .r))) (.s (.x [0, 1, 3, 7, 15, 0, 32, 96, 224, 480, 1023, 2047, 4095, 8191, 16383] (.q 0 (.q 1 (.q 2 (.q 3 (.q 4 (.q 5 (.q 6 (.q 7 (.q 8 (.q 9 (.q 10 (.q 11 (.q 12 (.q 13 (.l 14 16383 .nil)))))))))))))))) (.s (.x [0, 1, 3, 7, 15, 0, 32, 96, 224, 480, 1023, 2047, 4095, 8191, 16383] (.q 0 (.q 1 (.q 2 (.q 3 (.q 4 (.q 5 (.q 6 (.q 7 (.q 8 (.q 9 (.q 10 (.q 11 (.q 12 (.q 13 (.l 14 16383 .nil)))))))))))))))) (.s (.s .r (.c (.s .r .r) .r)) (.s (.x [0, 1, 3, 7, 0, 16, 48, 112, 15, 511, 1023] (.q 0 (.q 1 (.q 2 (.q 3 (.q 4 (.q 5 (.q 6 (.q 7 (.l 8 15 (.l 9 511 (.q 10 .nil)))))))))))) .r)))))))))))) Tryz.func32 mixed (by kernel_rfl) (by simp only [Tryz.ntmps32, List.length_cons, List.length_nil]; omega) (by rw [e]; exact h)
/-- fifo.cloned -/
def L60 (s0 : Value) (w : World) (K : Value → World → Prop) : Prop :=
 l_new 28 (s0 : Value).cells w fun s1 W1 =>
 l_new 28 #[.int .i64 0, .int .i64 0, .int .i64 0, .slice none 0 0, .slice none 0 0] W1 fun t2 W2 =>
 joining fun (J : Value → Value → World → Prop) => (onSome (q_faddr 3 s1) fun t5 =>
 onSome (q_load1 t5 W2.drew) fun t6 =>
 onSome (q_len t6) fun t7 =>
 onSome (q_faddr 4 s1) fun t9 =>
 onSome (q_load1 t9 W2.drew) fun t10 =>
 onSome (q_len t10) fun t11 =>
 (l_make Tryz.prog 25 t7 t7 W2.drew fun t8 W3 =>
 ob (q_load1 t9 W3 = some t10) (
 l_make Tryz.prog 26 t11 t11 W3 fun t12 W4 =>
 J t8 t12 W4)) ∧
 (l_make Tryz.prog 26 t11 t11 W2.drew fun t12_1 W5 =>
 ob (q_load1 t5 W5 = some t6) (
 l_make Tryz.prog 25 t7 t7 W5 fun t8_1 W6 =>
 J t8_1 t12_1 W6))) ∧
 ∀ (layers3 past4 : Value) (W7 : World), J layers3 past4 W7 → ∀ _ : Env,
 onSome (q_faddr 3 s1) fun t14 =>
 onSome (q_load1 t14 W7) fun t15 =>
 l_copy Tryz.prog #[25, 25] 3 layers3 t15 W7 fun t16 W8 =>
 onSome (q_faddr 4 s1) fun t18 =>
 onSome (q_load1 t18 W8) fun t19 =>
 l_copy Tryz.prog #[26, 26] 3 past4 t19 W8 fun t20 W9 =>
 onSome (q_faddr 3 s1) fun t23 =>
 l_store 1 t23 layers3 W9 fun _ W10 =>
 onSome (q_faddr 4 s1) fun t24 =>
 l_store 1 t24 past4 W10 fun _ W11 =>
 onSome (q_loadn 5 s1 W11) fun t25 =>
 l_store 5 t2 t25 W11 fun _ W12 =>
 onSome (q_loadn 5 t2 W12) fun t2_1 =>
 K t2_1 W12
theorem lift60 {s0 : Value} {w : World} {K : Value → World → Prop} (h : L60 s0 w K) : Ret Tryz.prog 60 [s0] w K := by
  have e : xfun Tryz.prog Tryz.f60 (.s .r (.s (.d [3, 4] 8184 [0, 1, 3, 7, 0, 16, 48, 112, 15, 511] (.q 0 (.q 1 (.q 2 (.q 4 (.q 5 (.q 6 (.alt (.l 3 7 (.q 8 (.l 7 112 (.q 9 .nil)))) (.l 7 112 (.l 3 7 (.q 8 (.q 9 .nil)))))))))))) (.s .r (.s .r (.s .r (.s .r .r)))))) [s0] w K = L60 s0 w K := by kernel_rfl
  exact xfun_sound (an := (.s .r (.s (.d [3, 4] 8184 [0, 1, 3, 7, 0, 16, 48, 112, 15, 511] (.q 0 (.q 1 (.q 2 (.q 4 (.q 5 (.q 6 (.alt (.l 3 7 (.q 8 (.l 7 112 (.q 9 .nil)))) (.l 7 112 (.l 3 7 (.q 8 (.q 9 .nil)))))))))))) (.s .r (.s .r (.s .r (.s .r .r))))))) Tryz.func60 mixed (by kernel_rfl) (by simp only [Tryz.ntmps60, List.length_cons, List.length_nil]; omega) (by rw [e]; exact h)
/-- (*fifo.step).past -/
def L62 (x0 kind1 seq2 : Value) (w : World) (K : Value → World → Prop) : Prop :=
 onSome (q_nil x0) fun t10 =>
 onSome (q_faddr 0 t10) fun t11 =>
 onSome (q_faddr 4 t11) fun t12 =>
 onSome (q_load1 t12 w) fun t13 =>
 onSome (q_len t13) fun t14 =>
 looping fun (I : Value → World → Prop) (μ : Value → World → Nat) => I (.int .i64 0) w ∧
 ∀ (t15 : Value) (W1 : World), I t15 W1 → ∀ _ : Env,
 onSome (q_bin .lss t15 t14) fun t16 =>
 xif t16
 (onSome (q_nil x0) fun t19 =>
 onSome (q_faddr 0 t19) fun t20 =>
 onSome (q_faddr 4 t20) fun t21 =>
 onSome (q_load1 t21 W1) fun t22 =>
 onSome (q_iaddr 7 t22 t15) fun t24 =>
 onSome (q_nil t24) fun t26 =>
 onSome (q_faddr 0 t26) fun t27 =>
 onSome (q_load1 t27 W1) fun t28 =>
 onSome (q_bin .eql t28 seq2) fun t30 =>
 onSome (gateQ true t30 (some kind1)) fun t32 =>
 onSome (gateQ true t30 (q_bin .eql t32 (.int .i64 0))) fun t33 =>
 onSome (gateQ true t30 (some t33)) fun t34 =>
 onSome (gateQ false t34 (some t24)) fun t35 =>
 onSome (gateQ false t34 (q_nil t35)) fun t36 =>
 onSome (gateQ false t34 (q_faddr 1 t36)) fun t37 =>
 onSome (gateQ false t34 (q_load1 t37 W1)) fun t38 =>
 onSome (gateQ false t34 (some kind1)) fun t39 =>
 onSome (gateQ false t34 (q_bin .eql t38 t39)) fun t40 =>
 onSome (gateQ true t30 (q_pick t34 (.bool true) t40)) fun t41 =>
 onSome (q_pick t30 t41 (.bool false)) fun t42 =>
 xif t42
 (K t24 W1)
 (onSome (q_bin .add t15 (.int .i64 1)) fun t44 =>
 I t44 W1 ∧ μ t44 W1 < μ t15 W1))
 (K (.pointer none) W1)
theorem lift62 {x0 kind1 seq2 : Value} {w : World} {K : Value → World → Prop} (h : L62 x0 kind1 seq2 w K) : Ret Tryz.prog 62 [x0, kind1, seq2] w K := by
  have e : xfun Tryz.prog Tryz.f62 (.s .r (.s (.s .r (.b (.l [15] 35184372056512 (.s .r (.s (.c .r .r) (.s (.b (.s .r (.s .r (.s .r (.c (.s .r .r) .r))))) .r)))))) (.s .r .r))) [x0, kind1, seq2] w K = L62 x0 kind1 seq2 w K := by kernel_rfl
  exact xfun_sound (an := (.s .r (.s (.s .r (.b (.l [15] 35184372056512 (.s .r (.s (.c .r .r) (.s (.b (.s .r (.s .r (.s .r (.c (.s .r .r) .r))))) .r)))))) (.s .r .r)))) Tryz.func62 mixed (by kernel_rfl) (by simp only [Tryz.ntmps62, List.length_cons, List.length_nil]; omega) (by rw [e]; exact h)
/-- fifo.Step$1 -/
def L63 (w : World) (K : Value → World → Prop) : Prop :=
 K (.int .i64 10) w
theorem lift63 {w : World} {K : Value → World → Prop} (h : L63 w K) : Ret Tryz.prog 63 [] w K := by
  have e : xfun Tryz.prog Tryz.f63 (.s .r (.s .r .r)) [] w K = L63 w K := by kernel_rfl
  exact xfun_sound (an := (.s .r (.s .r .r))) Tryz.func63 mixed (by kernel_rfl) (by simp only [Tryz.ntmps63, List.length_cons, List.length_nil]; omega) (by rw [e]; exact h)
/-- (*fifo.step).receive -/
def L64 (x0 : Value) (w : World) (K : Value → World → Prop) : Prop :=
 onSome (q_nil x0) fun t5 =>
 onSome (q_faddr 5 t5) fun t6 =>
 onSome (q_loadn 8 t6 w) fun t7 =>
 l_new 47 #[.int .i64 0, .int .i64 0, .string ⟨#[]⟩, .int .i64 0, .int .i64 0, .int .i64 0, .string ⟨#[]⟩, .int .i64 0] w fun m3 W1 =>
 l_store 8 m3 t7 W1 fun _ W2 =>
 onSome (q_faddr 0 m3) fun t9 =>
 onSome (q_load1 t9 W2) fun t10 =>
 onSome (q_faddr 6 m3) fun t11 =>
 onSome (q_load1 t11 W2) fun t12 =>
 onSome (q_faddr 4 m3) fun t13 =>
 onSome (q_load1 t13 W2) fun t14 =>
 onSome (q_faddr 5 m3) fun t15 =>
 onSome (q_load1 t15 W2) fun t16 =>
 onSome (q_build #[.int .i64 0, .string ⟨#[]⟩, .int .i64 0, .int .i64 0] [(0, 1, t10), (1, 1, t12), (2, 1, t14), (3, 1, t16)]) fun t17 =>
 Ret Tryz.prog 111 [x0, t17] W2 fun t18 W3 =>
 onSome (q_nil x0) fun t21 =>
 onSome (q_faddr 0 t21) fun t22 =>
 onSome (q_faddr 4 t22) fun t23 =>
 onSome (q_load1 t23 W3.drew) fun t24 =>
 onSome (q_faddr 0 m3) fun t25 =>
 onSome (q_load1 t25 W3.drew) fun t26 =>
 onSome (q_faddr 3 m3) fun t27 =>
 onSome (q_load1 t27 W3.drew) fun t28 =>
 onSome (q_faddr 6 m3) fun t29 =>
 onSome (q_load1 t29 W3.drew) fun t30 =>
 onSome (q_faddr 4 m3) fun t31 =>
 onSome (q_load1 t31 W3.drew) fun t32 =>
 onSome (q_faddr 5 m3) fun t33 =>
 onSome (q_load1 t33 W3.drew) fun t34 =>
 onSome (q_build #[.int .i64 0, .int .i64 0, .string ⟨#[]⟩, .int .i64 0, .int .i64 0, .int .i64 0, .int .i64 0] [(0, 1, t26), (1, 1, t28), (2, 1, t30), (3, 1, t32), (4, 1, t34)]) fun t35 =>
 l_lit 105 1 #[.int .i64 0, .int .i64 0, .string ⟨#[]⟩, .int .i64 0, .int .i64 0, .int .i64 0, .int .i64 0] [(0, 7, t35)] W3.drew fun t36 W4 =>
 ob (q_load1 t23 W4 = some t24) (
 l_append Tryz.prog #[26, 26] 26 t24 t36 W4 fun t37 W5 =>
 onSome (q_nil x0) fun t38 =>
 onSome (q_faddr 0 t38) fun t39 =>
 onSome (q_faddr 4 t39) fun t40 =>
 l_store 1 t40 t37 W5 fun _ W6 =>
 onSome (q_faddr 4 m3) fun t43 =>
 onSome (q_load1 t43 W6.drew) fun t44 =>
 onSome (q_faddr 5 m3) fun t45 =>
 onSome (q_load1 t45 W6.drew) fun t46 =>
 onSome (q_nil x0) fun t47 =>
 onSome (q_faddr 13 t47) fun t48 =>
 onSome (q_faddr 1 t48) fun t49 =>
 l_store 1 t49 t44 W6.drew fun _ W7 =>
 ob (q_load1 t45 W7 = some t46) (
 onSome (q_nil x0) fun t50 =>
 onSome (q_faddr 13 t50) fun t51 =>
 onSome (q_faddr 2 t51) fun t52 =>
 l_store 1 t52 t46 W7 fun _ W8 =>
 K (.int .i64 0) W8))
theorem lift64 {x0 : Value} {w : World} {K : Value → World → Prop} (h : L64 x0 w K) : Ret Tryz.prog 64 [x0] w K := by
  have e : xfun Tryz.prog Tryz.f64 (.s .r (.s .r (.s .r (.s (.x [0, 0, 2, 6, 14, 30, 0, 64, 0, 256, 0, 1024, 0, 4096, 0, 16384, 65472, 131008, 262142, 524287, 1048575, 2097151, 4194303] (.q 0 (.q 1 (.q 2 (.q 3 (.q 4 (.q 5 (.q 6 (.q 7 (.q 8 (.q 9 (.q 10 (.q 11 (.q 12 (.q 13 (.q 14 (.q 15 (.q 16 (.l 17 131008 (.l 18 262142 (.q 19 (.q 20 (.q 21 (.l 22 4194303 .nil)))))))))))))))))))))))) (.s (.x [0, 0, 0, 4, 0, 16, 13, 77, 205, 461, 1023, 2047, 4095, 8191] (.q 0 (.q 1 (.q 2 (.q 3 (.q 4 (.q 5 (.q 6 (.q 7 (.q 8 (.l 9 461 (.q 10 (.q 11 (.q 12 (.l 13 8191 .nil))))))))))))))) (.s .r .r)))))) [x0] w K = L64 x0 w K := by kernel_rfl
  exact xfun_sound (an := (.s .r (.s .r (.s .r (.s (.x [0, 0, 2, 6, 14, 30, 0, 64, 0, 256, 0, 1024, 0, 4096, 0, 16384, 65472, 131008, 262142, 524287, 1048575, 2097151, 4194303] (.q 0 (.q 1 (.q 2 (.q 3 (.q 4 (.q 5 (.q 6 (.q 7 (.q 8 (.q 9 (.q 10 (.q 11 (.q 12 (.q 13 (.q 14 (.q 15 (.q 16 (.l 17 131008 (.l 18 262142 (.q 19 (.q 20 (.q 21 (.l 22 4194303 .nil)))))))))))))))))))))))) (.s (.x [0, 0, 0, 4, 0, 16, 13, 77, 205, 461, 1023, 2047, 4095, 8191] (.q 0 (.q 1 (.q 2 (.q 3 (.q 4 (.q 5 (.q 6 (.q 7 (.q 8 (.l 9 461 (.q 10 (.q 11 (.q 12 (.l 13 8191 .nil))))))))))))))) (.s .r .r))))))) Tryz.func64 mixed (by kernel_rfl) (by simp only [Tryz.ntmps64, List.length_cons, List.length_nil]; omega) (by rw [e]; exact h)
/-- (*fifo.step).issue -/
def L65 (x0 : Value) (w : World) (K : Value → World → Prop) : Prop :=
 onSome (q_nil x0) fun t8 =>
 onSome (q_faddr 5 t8) fun t9 =>
 onSome (q_loadn 8 t9 w) fun t10 =>
 l_new 47 #[.int .i64 0, .int .i64 0, .string ⟨#[]⟩, .int .i64 0, .int .i64 0, .int .i64 0, .string ⟨#[]⟩, .int .i64 0] w fun m3 W1 =>
 l_store 8 m3 t10 W1 fun _ W2 =>
 onSome (q_nil x0) fun t12 =>
 onSome (q_faddr 0 t12) fun t13 =>
 onSome (q_faddr 0 t13) fun t14 =>
 onSome (q_load1 t14 W2.drew) fun t15 =>
 onSome (q_faddr 4 m3) fun t16 =>
 onSome (q_load1 t16 W2.drew) fun t17 =>
 onSome (q_bin .lss t15 t17) fun t18 =>
 xif t18
 (K (.int .i64 21) W2.drew)
 (onSome (q_faddr 4 m3) fun t19 =>
 onSome (q_load1 t19 W2.drew) fun t20 =>
 looping fun (I : Value → Value → World → Prop) (μ : Value → Value → World → Nat) => I t20 (.int .i64 0) W2.drew ∧
 ∀ (left4 v5 : Value) (W3 : World), I left4 v5 W3 → ∀ _ : Env,
 onSome (q_bin .gtr left4 (.int .i64 0)) fun t22 =>
 onSome (gateQ true t22 (some x0)) fun t24 =>
 onSome (gateQ true t22 (q_nil t24)) fun t25 =>
 onSome (gateQ true t22 (q_faddr 0 t25)) fun t26 =>
 onSome (gateQ true t22 (q_faddr 3 t26)) fun t27 =>
 onSome (gateQ true t22 (q_load1 t27 W3)) fun t28 =>
 onSome (gateQ true t22 (q_len t28)) fun t29 =>
 onSome (gateQ true t22 (q_bin .gtr t29 (.int .i64 0))) fun t30 =>
 onSome (q_pick t22 t30 (.bool false)) fun t31 =>
 xif t31
 (onSome (q_nil x0) fun t34 =>
 onSome (q_faddr 0 t34) fun t35 =>
 onSome (q_faddr 3 t35) fun t36 =>
 onSome (q_load1 t36 W3) fun t37 =>
 onSome (q_iaddr 4 t37 (.int .i64 0)) fun t38 =>
 onSome (q_faddr 2 t38) fun t39 =>
 onSome (q_load1 t39 W3) fun t40 =>
 onSome (q_min left4 t40) fun t41 =>
 Ret Tryz.prog 112 [x0, (.int .i64 0), t41] W3 fun t45 W4 =>
 onSome (q_bin .add v5 t45) fun t46 =>
 onSome (q_bin .sub left4 t41) fun t49 =>
 I t49 t46 W4 ∧ μ t49 t46 W4 < μ left4 v5 W3)
 (onSome (q_nil x0) fun t52 =>
 onSome (q_faddr 0 t52) fun t53 =>
 onSome (q_faddr 4 t53) fun t54 =>
 onSome (q_load1 t54 W3.drew) fun t55 =>
 onSome (q_faddr 0 m3) fun t56 =>
 onSome (q_load1 t56 W3.drew) fun t57 =>
 onSome (q_faddr 3 m3) fun t58 =>
 onSome (q_load1 t58 W3.drew) fun t59 =>
 onSome (q_faddr 6 m3) fun t60 =>
 onSome (q_load1 t60 W3.drew) fun t61 =>
 onSome (q_faddr 4 m3) fun t62 =>
 onSome (q_load1 t62 W3.drew) fun t63 =>
 onSome (q_build #[.int .i64 0, .int .i64 0, .string ⟨#[]⟩, .int .i64 0, .int .i64 0, .int .i64 0, .int .i64 0] [(0, 1, t57), (1, 1, t59), (2, 1, t61), (3, 1, t63), (4, 1, v5)]) fun t65 =>
 l_lit 105 1 #[.int .i64 0, .int .i64 0, .string ⟨#[]⟩, .int .i64 0, .int .i64 0, .int .i64 0, .int .i64 0] [(0, 7, t65)] W3.drew fun t66 W5 =>
 ob (q_load1 t54 W5 = some t55) (
 l_append Tryz.prog #[26, 26] 26 t55 t66 W5 fun t67 W6 =>
 onSome (q_nil x0) fun t68 =>
 onSome (q_faddr 0 t68) fun t69 =>
 onSome (q_faddr 4 t69) fun t70 =>
 l_store 1 t70 t67 W6 fun _ W7 =>
 onSome (q_faddr 4 m3) fun t73 =>
 onSome (q_load1 t73 W7) fun t74 =>
 onSome (q_un .neg t74) fun t75 =>
 onSome (q_un .neg v5) fun t77 =>
 onSome (q_nil x0) fun t78 =>
 onSome (q_faddr 13 t78) fun t79 =>
 onSome (q_faddr 1 t79) fun t80 =>
 l_store 1 t80 t75 W7 fun _ W8 =>
 onSome (q_nil x0) fun t81 =>
 onSome (q_faddr 13 t81) fun t82 =>
 onSome (q_faddr 2 t82) fun t83 =>
 l_store 1 t83 t77 W8 fun _ W9 =>
 K (.int .i64 0) W9)))
theorem lift65 {x0 : Value} {w : World} {K : Value → World → Prop} (h : L65 x0 w K) : Ret Tryz.prog 65 [x0] w K := by
  have e : xfun Tryz.prog Tryz.f65 (.s .r (.s .r (.s (.s (.x [0, 1, 3, 7, 15, 0, 32, 127] (.q 0 (.q 1 (.q 2 (.q 3 (.q 4 (.q 5 (.q 6 (.q 7 .nil))))))))) (.c (.s .r .r) .r)) (.s .r (.s (.b (.l [4, 5] 1125899904745584 (.s (.s .r (.c .r .r)) (.b (.s .r (.s .r .r)))))) (.s (.x [0, 0, 2, 6, 14, 30, 0, 64, 0, 256, 0, 1024, 0, 4096, 0, 32704, 65472, 131070, 262143, 524287, 1048575, 2097151] (.q 0 (.q 1 (.q 2 (.q 3 (.q 4 (.q 5 (.q 6 (.q 7 (.q 8 (.q 9 (.q 10 (.q 11 (.q 12 (.q 13 (.q 14 (.q 15 (.l 16 65472 (.l 17 131070 (.q 18 (.q 19 (.q 20 (.l 21 2097151 .nil))))))))))))))))))))))) (.s .r (.s .r .r)))))))) [x0] w K = L65 x0 w K := by kernel_rfl
  exact xfun_sound (an := (.s .r (.s .r (.s (.s (.x [0, 1, 3, 7, 15, 0, 32, 127] (.q 0 (.q 1 (.q 2 (.q 3 (.q 4 (.q 5 (.q 6 (.q 7 .nil))))))))) (.c (.s .r .r) .r)) (.s .r (.s (.b (.l [4, 5] 1125899904745584 (.s (.s .r (.c .r .r)) (.b (.s .r (.s .r .r)))))) (.s (.x [0, 0, 2, 6, 14, 30, 0, 64, 0, 256, 0, 1024, 0, 4096, 0, 32704, 65472, 131070, 262143, 524287, 1048575, 2097151] (.q 0 (.q 1 (.q 2 (.q 3 (.q 4 (.q 5 (.q 6 (.q 7 (.q 8 (.q 9 (.q 10 (.q 11 (.q 12 (.q 13 (.q 14 (.q 15 (.l 16 65472 (.l 17 131070 (.q 18 (.q 19 (.q 20 (.l 21 2097151 .nil))))))))))))))))))))))) (.s .r (.s .r .r))))))))) Tryz.func65 mixed (by kernel_rfl) (by simp only [Tryz.ntmps65, List.length_cons, List.length_nil]; omega) (by rw [e]; exact h)
/-- (*fifo.step).back -/
def L66 (x0 : Value) (w : World) (K : Value → World → Prop) : Prop :=
 Ret Tryz.prog 113 [x0, (.int .i64 2)] w fun t8 W1 =>
 onSome (q_extract t8 0) fun t9 =>
 onSome (q_extract t8 1) fun t10 =>
 onSome (q_bin .neq t10 (.int .i64 0)) fun t12 =>
 xif t12
 (K t10 W1)
 (onSome (q_nil t9) fun t15 =>
 onSome (q_faddr 4 t15) fun t16 =>
 onSome (q_load1 t16 W1.drew) fun t17 =>
 onSome (q_nil t9) fun t19 =>
 onSome (q_faddr 6 t19) fun t20 =>
 onSome (q_load1 t20 W1.drew) fun t21 =>
 onSome (q_bin .sub t17 t21) fun t22 =>
 onSome (q_nil x0) fun t24 =>
 onSome (q_faddr 5 t24) fun t25 =>
 onSome (q_faddr 4 t25) fun t26 =>
 onSome (q_load1 t26 W1.drew) fun t27 =>
 onSome (q_nil t9) fun t29 =>
 onSome (q_faddr 3 t29) fun t30 =>
 onSome (q_load1 t30 W1.drew) fun t31 =>
 onSome (q_nil t9) fun t33 =>
 onSome (q_faddr 5 t33) fun t34 =>
 onSome (q_load1 t34 W1.drew) fun t35 =>
 onSome (q_bin .sub t31 t35) fun t36 =>
 Ret Tryz.prog 114 [t22, t27, t36] W1.drew fun t37 W2 =>
 onSome (q_nil t9) fun t39 =>
 onSome (q_faddr 5 t39) fun t40 =>
 onSome (q_load1 t40 W2.drew) fun t41 =>
 onSome (q_nil x0) fun t43 =>
 onSome (q_faddr 5 t43) fun t44 =>
 onSome (q_faddr 4 t44) fun t45 =>
 onSome (q_load1 t45 W2.drew) fun t46 =>
 onSome (q_bin .add t41 t46) fun t47 =>
 onSome (q_nil t9) fun t48 =>
 onSome (q_faddr 5 t48) fun t49 =>
 l_store 1 t49 t47 W2.drew fun _ W3 =>
 onSome (q_nil t9) fun t51 =>
 onSome (q_faddr 6 t51) fun t52 =>
 onSome (q_load1 t52 W3) fun t53 =>
 onSome (q_bin .add t53 t37) fun t55 =>
 onSome (q_nil t9) fun t56 =>
 onSome (q_faddr 6 t56) fun t57 =>
 l_store 1 t57 t55 W3 fun _ W4 =>
 onSome (q_nil x0) fun t60 =>
 onSome (q_faddr 5 t60) fun t61 =>
 onSome (q_faddr 0 t61) fun t62 =>
 onSome (q_load1 t62 W4.drew) fun t63 =>
 onSome (q_nil t9) fun t65 =>
 onSome (q_faddr 2 t65) fun t66 =>
 onSome (q_load1 t66 W4.drew) fun t67 =>
 onSome (q_nil x0) fun t69 =>
 onSome (q_faddr 5 t69) fun t70 =>
 onSome (q_faddr 4 t70) fun t71 =>
 onSome (q_load1 t71 W4.drew) fun t72 =>
 onSome (q_build #[.int .i64 0, .string ⟨#[]⟩, .int .i64 0, .int .i64 0] [(0, 1, t63), (1, 1, t67), (2, 1, t72), (3, 1, t37)]) fun t74 =>
 Ret Tryz.prog 111 [x0, t74] W4.drew fun t75 W5 =>
 onSome (q_nil x0) fun t79 =>
 onSome (q_faddr 5 t79) fun t80 =>
 onSome (q_faddr 4 t80) fun t81 =>
 onSome (q_load1 t81 W5) fun t82 =>
 onSome (q_nil x0) fun t84 =>
 onSome (q_faddr 13 t84) fun t85 =>
 onSome (q_faddr 1 t85) fun t86 =>
 l_store 1 t86 t82 W5 fun _ W6 =>
 onSome (q_nil x0) fun t87 =>
 onSome (q_faddr 13 t87) fun t88 =>
 onSome (q_faddr 2 t88) fun t89 =>
 l_store 1 t89 t37 W6 fun _ W7 =>
 K (.int .i64 0) W7)
theorem lift66 {x0 : Value} {w : World} {K : Value → World → Prop} (h : L66 x0 w K) : Ret Tryz.prog 66 [x0] w K := by
  have e : xfun Tryz.prog Tryz.f66 (.s .r (.s .r (.s (.s .r (.c (.s .r .r) .r)) (.s (.x [0, 1, 3, 7, 0, 16, 48, 112, 255, 0, 512, 1536, 3584, 7680, 0, 16384, 49152, 114688, 0, 262144, 786432, 1835008, 4177920, 8388607, 16777215] (.q 0 (.q 1 (.q 2 (.q 3 (.q 4 (.q 5 (.q 6 (.q 7 (.q 8 (.q 9 (.q 10 (.q 11 (.q 12 (.q 13 (.q 14 (.q 15 (.q 16 (.q 17 (.q 18 (.q 19 (.q 20 (.q 21 (.q 22 (.l 23 8388607 (.q 24 .nil)))))))))))))))))))))))))) (.s (.x [0, 1, 3, 7, 0, 16, 48, 112, 240, 511, 1023, 2047, 4095] (.q 0 (.q 1 (.q 2 (.q 3 (.q 4 (.q 5 (.q 6 (.q 7 (.q 8 (.q 9 (.q 10 (.q 11 (.l 12 4095 .nil)))))))))))))) (.s .r (.s (.x [0, 0, 2, 6, 14, 30, 0, 64, 192, 448, 0, 1024, 3072, 7168, 15360, 0, 65534, 131071] (.q 0 (.q 1 (.q 2 (.q 3 (.q 4 (.q 5 (.q 6 (.q 7 (.q 8 (.q 9 (.q 10 (.q 11 (.q 12 (.q 13 (.q 14 (.q 15 (.q 16 (.l 17 131071 .nil))))))))))))))))))) (.s .r (.s .r .r))))))))) [x0] w K = L66 x0 w K := by kernel_rfl
  exact xfun_sound (an := (.s .r (.s .r (.s (.s .r (.c (.s .r .r) .r)) (.s (.x [0, 1, 3, 7, 0, 16, 48, 112, 255, 0, 512, 1536, 3584, 7680, 0, 16384, 49152, 114688, 0, 262144, 786432, 1835008, 4177920, 8388607, 16777215] (.q 0 (.q 1 (.q 2 (.q 3 (.q 4 (.q 5 (.q 6 (.q 7 (.q 8 (.q 9 (.q 10 (.q 11 (.q 12 (.q 13 (.q 14 (.q 15 (.q 16 (.q 17 (.q 18 (.q 19 (.q 20 (.q 21 (.q 22 (.l 23 8388607 (.q 24 .nil)))))))))))))))))))))))))) (.s (.x [0, 1, 3, 7, 0, 16, 48, 112, 240, 511, 1023, 2047, 4095] (.q 0 (.q 1 (.q 2 (.q 3 (.q 4 (.q 5 (.q 6 (.q 7 (.q 8 (.q 9 (.q 10 (.q 11 (.l 12 4095 .nil)))))))))))))) (.s .r (.s (.x [0, 0, 2, 6, 14, 30, 0, 64, 192, 448, 0, 1024, 3072, 7168, 15360, 0, 65534, 131071] (.q 0 (.q 1 (.q 2 (.q 3 (.q 4 (.q 5 (.q 6 (.q 7 (.q 8 (.q 9 (.q 10 (.q 11 (.q 12 (.q 13 (.q 14 (.q 15 (.q 16 (.l 17 131071 .nil))))))))))))))))))) (.s .r (.s .r .r)))))))))) Tryz.func66 mixed (by kernel_rfl) (by simp only [Tryz.ntmps66, List.length_cons, List.length_nil]; omega) (by rw [e]; exact h)
/-- (*fifo.step).send -/
def L67 (x0 : Value) (w : World) (K : Value → World → Prop) : Prop :=
 Ret Tryz.prog 113 [x0, (.int .i64 1)] w fun t9 W1 =>
 onSome (q_extract t9 0) fun t10 =>
 onSome (q_extract t9 1) fun t11 =>
 onSome (q_bin .neq t11 (.int .i64 0)) fun t13 =>
 xif t13
 (K t11 W1)
 (onSome (q_nil x0) fun t17 =>
 onSome (q_faddr 5 t17) fun t18 =>
 onSome (q_faddr 7 t18) fun t19 =>
 onSome (q_load1 t19 W1) fun t20 =>
 Ret Tryz.prog 115 [x0, t20] W1 fun t21 W2 =>
 onSome (q_bin .lss t21 (.int .i64 0)) fun t23 =>
 onSome (gateQ false t23 (some x0)) fun t25 =>
 onSome (gateQ false t23 (q_nil t25)) fun t26 =>
 onSome (gateQ false t23 (q_faddr 0 t26)) fun t27 =>
 onSome (gateQ false t23 (q_faddr 3 t27)) fun t28 =>
 onSome (gateQ false t23 (q_load1 t28 W2.drew)) fun t29 =>
 onSome (gateQ false t23 (some t21)) fun t30 =>
 onSome (gateQ false t23 (q_iaddr 4 t29 t30)) fun t31 =>
 onSome (gateQ false t23 (q_faddr 2 t31)) fun t32 =>
 onSome (gateQ false t23 (q_load1 t32 W2.drew)) fun t33 =>
 onSome (gateQ false t23 (some x0)) fun t34 =>
 onSome (gateQ false t23 (q_nil t34)) fun t35 =>
 onSome (gateQ false t23 (q_faddr 5 t35)) fun t36 =>
 onSome (gateQ false t23 (q_faddr 4 t36)) fun t37 =>
 onSome (gateQ false t23 (q_load1 t37 W2.drew)) fun t38 =>
 onSome (gateQ false t23 (q_bin .lss t33 t38)) fun t39 =>
 onSome (q_pick t23 (.bool true) t39) fun t40 =>
 xif t40
 (K (.int .i64 21) W2.drew)
 (onSome (q_nil t10) fun t42 =>
 onSome (q_faddr 5 t42) fun t43 =>
 onSome (q_load1 t43 W2.drew.drew) fun t44 =>
 onSome (q_nil x0) fun t46 =>
 onSome (q_faddr 5 t46) fun t47 =>
 onSome (q_faddr 4 t47) fun t48 =>
 onSome (q_load1 t48 W2.drew.drew) fun t49 =>
 onSome (q_bin .add t44 t49) fun t50 =>
 onSome (q_nil t10) fun t51 =>
 onSome (q_faddr 5 t51) fun t52 =>
 l_store 1 t52 t50 W2.drew.drew fun _ W3 =>
 onSome (q_nil x0) fun t56 =>
 onSome (q_faddr 5 t56) fun t57 =>
 onSome (q_faddr 4 t57) fun t58 =>
 onSome (q_load1 t58 W3) fun t59 =>
 Ret Tryz.prog 112 [x0, t21, t59] W3 fun t60 W4 =>
 onSome (q_nil x0) fun t65 =>
 onSome (q_faddr 5 t65) fun t66 =>
 onSome (q_faddr 4 t66) fun t67 =>
 onSome (q_load1 t67 W4.drew) fun t68 =>
 onSome (q_un .neg t68) fun t69 =>
 onSome (q_un .neg t60) fun t71 =>
 onSome (q_nil x0) fun t74 =>
 onSome (q_faddr 5 t74) fun t75 =>
 onSome (q_faddr 5 t75) fun t76 =>
 onSome (q_load1 t76 W4.drew) fun t77 =>
 onSome (q_bin .sub t60 t77) fun t78 =>
 onSome (q_nil x0) fun t79 =>
 onSome (q_faddr 13 t79) fun t80 =>
 onSome (q_faddr 1 t80) fun t81 =>
 l_store 1 t81 t69 W4.drew fun _ W5 =>
 onSome (q_nil x0) fun t82 =>
 onSome (q_faddr 13 t82) fun t83 =>
 onSome (q_faddr 2 t83) fun t84 =>
 l_store 1 t84 t71 W5 fun _ W6 =>
 onSome (q_nil x0) fun t85 =>
 onSome (q_faddr 13 t85) fun t86 =>
 onSome (q_faddr 3 t86) fun t87 =>
 l_store 1 t87 t78 W6 fun _ W7 =>
 K (.int .i64 0) W7))
theorem lift67 {x0 : Value} {w : World} {K : Value → World → Prop} (h : L67 x0 w K) : Ret Tryz.prog 67 [x0] w K := by
  have e : xfun Tryz.prog Tryz.f67 (.s .r (.s .r (.s (.s .r (.c (.s .r .r) .r)) (.s .r (.s (.s (.x [0, 1, 3, 7, 15, 31, 63, 127, 7, 511, 1023, 2047, 7, 4103, 12295, 28679, 61447, 131071, 262143] (.q 0 (.q 1 (.q 2 (.q 3 (.q 4 (.q 5 (.q 6 (.q 7 (.q 8 (.q 9 (.q 10 (.q 11 (.q 12 (.q 13 (.q 14 (.q 15 (.q 16 (.q 17 (.q 18 .nil)))))))))))))))))))) (.c (.s .r .r) .r)) (.s (.x [0, 1, 3, 7, 0, 16, 48, 112, 240, 511, 1023, 2047, 4095] (.q 0 (.q 1 (.q 2 (.q 3 (.q 4 (.q 5 (.q 6 (.q 7 (.q 8 (.q 9 (.q 10 (.q 11 (.l 12 4095 .nil)))))))))))))) (.s .r (.s (.x [0, 0, 0, 0, 8, 24, 56, 120, 248, 0, 512, 0, 0, 4096, 12288, 28672, 61440, 129024, 127481, 389625, 913913, 1962489, 4061179, 8255483, 16644091, 33421307, 67108863, 134217727, 268435455, 536870911] (.q 0 (.q 1 (.q 2 (.q 3 (.q 4 (.q 5 (.q 6 (.q 7 (.q 8 (.q 9 (.q 10 (.q 11 (.q 12 (.q 13 (.q 14 (.q 15 (.q 16 (.q 17 (.q 18 (.q 19 (.q 20 (.l 21 1962489 (.q 22 (.q 23 (.q 24 (.l 25 33421307 (.q 26 (.q 27 (.q 28 (.l 29 536870911 .nil))))))))))))))))))))))))))))))) (.s .r .r))))))))) [x0] w K = L67 x0 w K := by kernel_rfl
  exact xfun_sound (an := (.s .r (.s .r (.s (.s .r (.c (.s .r .r) .r)) (.s .r (.s (.s (.x [0, 1, 3, 7, 15, 31, 63, 127, 7, 511, 1023, 2047, 7, 4103, 12295, 28679, 61447, 131071, 262143] (.q 0 (.q 1 (.q 2 (.q 3 (.q 4 (.q 5 (.q 6 (.q 7 (.q 8 (.q 9 (.q 10 (.q 11 (.q 12 (.q 13 (.q 14 (.q 15 (.q 16 (.q 17 (.q 18 .nil)))))))))))))))))))) (.c (.s .r .r) .r)) (.s (.x [0, 1, 3, 7, 0, 16, 48, 112, 240, 511, 1023, 2047, 4095] (.q 0 (.q 1 (.q 2 (.q 3 (.q 4 (.q 5 (.q 6 (.q 7 (.q 8 (.q 9 (.q 10 (.q 11 (.l 12 4095 .nil)))))))))))))) (.s .r (.s (.x [0, 0, 0, 0, 8, 24, 56, 120, 248, 0, 512, 0, 0, 4096, 12288, 28672, 61440, 129024, 127481, 389625, 913913, 1962489, 4061179, 8255483, 16644091, 33421307, 67108863, 134217727, 268435455, 536870911] (.q 0 (.q 1 (.q 2 (.q 3 (.q 4 (.q 5 (.q 6 (.q 7 (.q 8 (.q 9 (.q 10 (.q 11 (.q 12 (.q 13 (.q 14 (.q 15 (.q 16 (.q 17 (.q 18 (.q 19 (.q 20 (.l 21 1962489 (.q 22 (.q 23 (.q 24 (.l 25 33421307 (.q 26 (.q 27 (.q 28 (.l 29 536870911 .nil))))))))))))))))))))))))))))))) (.s .r .r)))))))))) Tryz.func67 mixed (by kernel_rfl) (by simp only [Tryz.ntmps67, List.length_cons, List.length_nil]; omega) (by rw [e]; exact h)
/-- (*fifo.step).land -/
def L68 (x0 : Value) (w : World) (K : Value → World → Prop) : Prop :=
 Ret Tryz.prog 113 [x0, (.int .i64 1)] w fun t10 W1 =>
 onSome (q_extract t10 0) fun t11 =>
 onSome (q_extract t10 1) fun t12 =>
 onSome (q_bin .neq t12 (.int .i64 0)) fun t14 =>
 xif t14
 (K t12 W1)
 (joining fun (J : World → Prop) => (onSome (q_nil x0) fun t18 =>
 onSome (q_faddr 5 t18) fun t19 =>
 onSome (q_faddr 7 t19) fun t20 =>
 onSome (q_load1 t20 W1) fun t21 =>
 Ret Tryz.prog 115 [x0, t21] W1 fun t22 W2 =>
 onSome (q_bin .geq t22 (.int .i64 0)) fun t24 =>
 xif t24
 (onSome (q_nil x0) fun t26 =>
 onSome (q_faddr 5 t26) fun t27 =>
 onSome (q_faddr 5 t27) fun t28 =>
 onSome (q_load1 t28 W2) fun t29 =>
 joining fun (J1 : Value → World → Prop) => (onSome (q_nil x0) fun t31 =>
 onSome (q_faddr 0 t31) fun t32 =>
 onSome (q_faddr 3 t32) fun t33 =>
 onSome (q_load1 t33 W2) fun t34 =>
 onSome (q_iaddr 4 t34 t22) fun t36 =>
 onSome (q_faddr 2 t36) fun t37 =>
 onSome (q_load1 t37 W2) fun t38 =>
 onSome (q_nil t11) fun t41 =>
 onSome (q_faddr 3 t41) fun t42 =>
 onSome (q_load1 t42 W2) fun t43 =>
 onSome (q_bin .neq t38 t43) fun t44 =>
 xif t44
 (onSome (q_nil x0) fun t47 =>
 onSome (q_faddr 5 t47) fun t48 =>
 onSome (q_faddr 5 t48) fun t49 =>
 onSome (q_load1 t49 W2.drew) fun t50 =>
 onSome (q_nil t11) fun t53 =>
 onSome (q_faddr 3 t53) fun t54 =>
 onSome (q_load1 t54 W2.drew) fun t55 =>
 Ret Tryz.prog 116 [t50, t38, t55, (.int .i64 4)] W2.drew fun t56 W3 =>
 onSome (q_extract t56 0) fun t57 =>
 onSome (q_extract t56 1) fun t58 =>
 onSome (q_bin .neq t58 (.int .i64 0)) fun t60 =>
 xif t60
 (K (.int .i64 4) W3)
 (J1 t57 W3))
 (J1 t29 W2)) ∧
 ∀ (v6 : Value) (W4 : World), J1 v6 W4 → ∀ _ : Env,
 onSome (q_nil x0) fun t63 =>
 onSome (q_faddr 13 t63) fun t64 =>
 onSome (q_faddr 2 t64) fun t65 =>
 l_store 1 t65 v6 W4 fun _ W5 =>
 onSome (q_nil x0) fun t67 =>
 onSome (q_faddr 0 t67) fun t68 =>
 onSome (q_faddr 3 t68) fun t69 =>
 onSome (q_load1 t69 W5.drew) fun t70 =>
 onSome (q_iaddr 4 t70 t22) fun t72 =>
 onSome (q_faddr 3 t72) fun t73 =>
 onSome (q_load1 t73 W5.drew) fun t74 =>
 onSome (q_nil x0) fun t76 =>
 onSome (q_faddr 13 t76) fun t77 =>
 onSome (q_faddr 2 t77) fun t78 =>
 onSome (q_load1 t78 W5.drew) fun t79 =>
 onSome (q_bin .add t74 t79) fun t80 =>
 onSome (q_iaddr 4 t70 t22) fun t81 =>
 onSome (q_faddr 3 t81) fun t82 =>
 l_store 1 t82 t80 W5.drew fun _ W6 =>
 J W6)
 (J W2)) ∧
 ∀ (W7 : World), J W7 → ∀ _ : Env,
 onSome (q_nil x0) fun t85 =>
 onSome (q_faddr 5 t85) fun t86 =>
 onSome (q_faddr 5 t86) fun t87 =>
 onSome (q_load1 t87 W7.drew) fun t88 =>
 onSome (q_nil x0) fun t90 =>
 onSome (q_faddr 13 t90) fun t91 =>
 onSome (q_faddr 2 t91) fun t92 =>
 onSome (q_load1 t92 W7.drew) fun t93 =>
 onSome (q_bin .sub t88 t93) fun t94 =>
 onSome (q_nil x0) fun t95 =>
 onSome (q_faddr 13 t95) fun t96 =>
 onSome (q_faddr 3 t96) fun t97 =>
 l_store 1 t97 t94 W7.drew fun _ W8 =>
 K (.int .i64 0) W8)
theorem lift68 {x0 : Value} {w : World} {K : Value → World → Prop} (h : L68 x0 w K) : Ret Tryz.prog 68 [x0] w K := by
  have e : xfun Tryz.prog Tryz.f68 (.s .r (.s .r (.s (.s .r (.c (.s .r .r) .r)) (.j [] 9671406556917033397584116 (.s .r (.s .r (.c (.s .r (.j [6] 2305843008139952340 (.s .r (.s .r (.c (.s (.x [0, 1, 3, 7, 15, 0, 0, 64, 192, 448, 1023, 2047, 4095, 4095, 8191, 32767] (.q 0 (.q 1 (.q 2 (.q 3 (.q 4 (.q 5 (.q 6 (.q 7 (.q 8 (.q 9 (.l 10 1023 (.q 11 (.q 12 (.q 13 (.q 14 (.q 15 .nil))))))))))))))))) (.s .r (.c (.s .r .r) .r))) .r))) (.s .r (.x [0, 1, 3, 7, 15, 0, 63, 127, 255, 0, 512, 1536, 3584, 7680, 16383, 32767, 65535, 131071] (.q 0 (.q 1 (.q 2 (.q 3 (.q 4 (.q 5 (.q 6 (.q 7 (.q 8 (.q 9 (.q 10 (.q 11 (.q 12 (.q 13 (.q 14 (.q 15 (.q 16 (.l 17 131071 .nil)))))))))))))))))))))) .r))) (.s (.x [0, 0, 2, 6, 14, 30, 0, 64, 192, 448, 960, 2046, 4095, 8191, 16383, 32767] (.q 0 (.q 1 (.q 2 (.q 3 (.q 4 (.q 5 (.q 6 (.q 7 (.q 8 (.q 9 (.q 10 (.q 11 (.q 12 (.q 13 (.q 14 (.l 15 32767 .nil))))))))))))))))) (.s .r .r)))))) [x0] w K = L68 x0 w K := by kernel_rfl
  exact xfun_sound (an := (.s .r (.s .r (.s (.s .r (.c (.s .r .r) .r)) (.j [] 9671406556917033397584116 (.s .r (.s .r (.c (.s .r (.j [6] 2305843008139952340 (.s .r (.s .r (.c (.s (.x [0, 1, 3, 7, 15, 0, 0, 64, 192, 448, 1023, 2047, 4095, 4095, 8191, 32767] (.q 0 (.q 1 (.q 2 (.q 3 (.q 4 (.q 5 (.q 6 (.q 7 (.q 8 (.q 9 (.l 10 1023 (.q 11 (.q 12 (.q 13 (.q 14 (.q 15 .nil))))))))))))))))) (.s .r (.c (.s .r .r) .r))) .r))) (.s .r (.x [0, 1, 3, 7, 15, 0, 63, 127, 255, 0, 512, 1536, 3584, 7680, 16383, 32767, 65535, 131071] (.q 0 (.q 1 (.q 2 (.q 3 (.q 4 (.q 5 (.q 6 (.q 7 (.q 8 (.q 9 (.q 10 (.q 11 (.q 12 (.q 13 (.q 14 (.q 15 (.q 16 (.l 17 131071 .nil)))))))))))))))))))))) .r))) (.s (.x [0, 0, 2, 6, 14, 30, 0, 64, 192, 448, 960, 2046, 4095, 8191, 16383, 32767] (.q 0 (.q 1 (.q 2 (.q 3 (.q 4 (.q 5 (.q 6 (.q 7 (.q 8 (.q 9 (.q 10 (.q 11 (.q 12 (.q 13 (.q 14 (.l 15 32767 .nil))))))))))))))))) (.s .r .r))))))) Tryz.func68 mixed (by kernel_rfl) (by simp only [Tryz.ntmps68, List.length_cons, List.length_nil]; omega) (by rw [e]; exact h)
/-- (*fifo.step).over -/
def L69 (x0 : Value) (w : World) (K : Value → World → Prop) : Prop :=
 onSome (q_nil x0) fun t6 =>
 onSome (q_faddr 0 t6) fun t7 =>
 onSome (q_faddr 3 t7) fun t8 =>
 onSome (q_load1 t8 w) fun t9 =>
 onSome (q_len t9) fun t10 =>
 looping fun (I : Value → World → Prop) (μ : Value → World → Nat) => I (.int .i64 0) w ∧
 ∀ (t11 : Value) (W1 : World), I t11 W1 → ∀ _ : Env,
 onSome (q_bin .lss t11 t10) fun t12 =>
 xif t12
 (onSome (q_iaddr 4 t9 t11) fun t13 =>
 onSome (q_loadn 4 t13 W1) fun t14 =>
 l_new 103 #[.int .i64 0, .string ⟨#[]⟩, .int .i64 0, .int .i64 0] W1 fun l4 W2 =>
 l_store 4 l4 t14 W2 fun _ W3 =>
 onSome (q_faddr 3 l4) fun t15 =>
 onSome (q_load1 t15 W3) fun t16 =>
 Ret Tryz.prog 117 [t16] W3 fun t17 W4 =>
 xif t17
 (K (.bool true) W4)
 (onSome (q_bin .add t11 (.int .i64 1)) fun t18 =>
 I t18 W4 ∧ μ t18 W4 < μ t11 W1))
 (onSome (q_nil x0) fun t20 =>
 onSome (q_faddr 0 t20) fun t21 =>
 onSome (q_faddr 0 t21) fun t22 =>
 onSome (q_load1 t22 W1) fun t23 =>
 onSome (q_bin .gtr t23 (.int .i64 1000000000)) fun t24 =>
 onSome (gateQ false t24 (some x0)) fun t26 =>
 onSome (gateQ false t24 (q_nil t26)) fun t27 =>
 onSome (gateQ false t24 (q_faddr 0 t27)) fun t28 =>
 onSome (gateQ false t24 (q_faddr 1 t28)) fun t29 =>
 onSome (gateQ false t24 (q_load1 t29 W1)) fun t30 =>
 gateL false t24 (fun K => Ret Tryz.prog 117 [t30] W1 K) W1 fun t31 W5 =>
 onSome (q_pick t24 (.bool true) t31) fun t32 =>
 onSome (gateQ false t32 (some x0)) fun t34 =>
 onSome (gateQ false t32 (q_nil t34)) fun t35 =>
 onSome (gateQ false t32 (q_faddr 13 t35)) fun t36 =>
 onSome (gateQ false t32 (q_faddr 3 t36)) fun t37 =>
 onSome (gateQ false t32 (q_load1 t37 W5)) fun t38 =>
 gateL false t32 (fun K => Ret Tryz.prog 117 [t38] W5 K) W5 fun t39 W6 =>
 onSome (q_pick t32 (.bool true) t39) fun t40 =>
 K t40 W6)
theorem lift69 {x0 : Value} {w : World} {K : Value → World → Prop} (h : L69 x0 w K) : Ret Tryz.prog 69 [x0] w K := by
  have e : xfun Tryz.prog Tryz.f69 (.s .r (.s (.s .r (.b (.l [11] 522260 (.s .r (.s (.c .r .r) (.s (.b (.s .r (.s .r (.c (.s .r .r) .r)))) .r)))))) (.s .r .r))) [x0] w K = L69 x0 w K := by kernel_rfl
  exact xfun_sound (an := (.s .r (.s (.s .r (.b (.l [11] 522260 (.s .r (.s (.c .r .r) (.s (.b (.s .r (.s .r (.c (.s .r .r) .r)))) .r)))))) (.s .r .r)))) Tryz.func69 mixed (by kernel_rfl) (by simp only [Tryz.ntmps69, List.length_cons, List.length_nil]; omega) (by rw [e]; exact h)
/-- (*fifo.step).put -/
def L111 (x0 l1 : Value) (w : World) (K : Value → World → Prop) : Prop :=
 l_new 103 (l1 : Value).cells w fun l3 W1 =>
 onSome (q_nil x0) fun t6 =>
 onSome (q_faddr 0 t6) fun t7 =>
 onSome (q_faddr 3 t7) fun t8 =>
 onSome (q_load1 t8 W1.drew) fun t9 =>
 onSome (q_loadn 4 l3 W1.drew) fun t10 =>
 l_lit 103 1 #[.int .i64 0, .string ⟨#[]⟩, .int .i64 0, .int .i64 0] [(0, 4, t10)] W1.drew fun t11 W2 =>
 ob (q_load1 t8 W2 = some t9) (
 l_append Tryz.prog #[25, 25] 25 t9 t11 W2 fun t12 W3 =>
 onSome (q_nil x0) fun t13 =>
 onSome (q_faddr 0 t13) fun t14 =>
 onSome (q_faddr 3 t14) fun t15 =>
 l_store 1 t15 t12 W3 fun _ W4 =>
 K (.tuple #[]) W4)
theorem lift111 {x0 l1 : Value} {w : World} {K : Value → World → Prop} (h : L111 x0 l1 w K) : Ret Tryz.prog 111 [x0, l1] w K := by
  have e : xfun Tryz.prog Tryz.f111 (.s .r (.x [0, 0, 2, 6, 14, 30, 0, 64, 254, 511, 1023, 2047, 4095] (.q 0 (.q 1 (.q 2 (.q 3 (.q 4 (.q 5 (.q 6 (.l 7 64 (.l 8 254 (.q 9 (.q 10 (.q 11 (.l 12 4095 .nil))))))))))))))) [x0, l1] w K = L111 x0 l1 w K := by kernel_rfl
  exact xfun_sound (an := (.s .r (.x [0, 0, 2, 6, 14, 30, 0, 64, 254, 511, 1023, 2047, 4095] (.q 0 (.q 1 (.q 2 (.q 3 (.q 4 (.q 5 (.q 6 (.l 7 64 (.l 8 254 (.q 9 (.q 10 (.q 11 (.l 12 4095 .nil)))))))))))))))) Tryz.func111 mixed (by kernel_rfl) (by simp only [Tryz.ntmps111, List.length_cons, List.length_nil]; omega) (by rw [e]; exact h)
/-- (*fifo.step).take -/
def L112 (x0 i1 q2 : Value) (w : World) (K : Value → World → Prop) : Prop :=
 onSome (q_nil x0) fun t10 =>
 onSome (q_faddr 0 t10) fun t11 =>
 onSome (q_faddr 3 t11) fun t12 =>
 onSome (q_load1 t12 w) fun t13 =>
 onSome (q_iaddr 4 t13 i1) fun t15 =>
 onSome (q_nil t15) fun t17 =>
 onSome (q_faddr 3 t17) fun t18 =>
 onSome (q_load1 t18 w.drew) fun t19 =>
 onSome (q_nil t15) fun t22 =>
 onSome (q_faddr 2 t22) fun t23 =>
 onSome (q_load1 t23 w.drew) fun t24 =>
 Ret Tryz.prog 114 [t19, q2, t24] w.drew fun t25 W1 =>
 onSome (q_nil t15) fun t27 =>
 onSome (q_faddr 2 t27) fun t28 =>
 onSome (q_load1 t28 W1) fun t29 =>
 onSome (q_bin .sub t29 q2) fun t31 =>
 onSome (q_nil t15) fun t32 =>
 onSome (q_faddr 2 t32) fun t33 =>
 l_store 1 t33 t31 W1 fun _ W2 =>
 onSome (q_nil t15) fun t35 =>
 onSome (q_faddr 3 t35) fun t36 =>
 onSome (q_load1 t36 W2) fun t37 =>
 onSome (q_bin .sub t37 t25) fun t39 =>
 onSome (q_nil t15) fun t40 =>
 onSome (q_faddr 3 t40) fun t41 =>
 l_store 1 t41 t39 W2 fun _ W3 =>
 onSome (q_nil t15) fun t43 =>
 onSome (q_faddr 2 t43) fun t44 =>
 onSome (q_load1 t44 W3) fun t45 =>
 onSome (q_bin .eql t45 (.int .i64 0)) fun t46 =>
 xif t46
 (Ret Tryz.prog 165 [x0, i1] W3 fun t49 W4 =>
 K t25 W4)
 (K t25 W3)
theorem lift112 {x0 i1 q2 : Value} {w : World} {K : Value → World → Prop} (h : L112 x0 i1 q2 w K) : Ret Tryz.prog 112 [x0, i1, q2] w K := by
  have e : xfun Tryz.prog Tryz.f112 (.s .r (.s .r (.s (.x [0, 1, 3, 7, 0, 0, 32, 96, 224, 511, 1023] (.q 0 (.q 1 (.q 2 (.q 3 (.q 4 (.q 5 (.q 6 (.q 7 (.q 8 (.l 9 511 (.q 10 .nil)))))))))))) (.s .r (.s .r (.s (.s .r (.c .r .r)) (.s .r .r))))))) [x0, i1, q2] w K = L112 x0 i1 q2 w K := by kernel_rfl
  exact xfun_sound (an := (.s .r (.s .r (.s (.x [0, 1, 3, 7, 0, 0, 32, 96, 224, 511, 1023] (.q 0 (.q 1 (.q 2 (.q 3 (.q 4 (.q 5 (.q 6 (.q 7 (.q 8 (.l 9 511 (.q 10 .nil)))))))))))) (.s .r (.s .r (.s (.s .r (.c .r .r)) (.s .r .r)))))))) Tryz.func112 mixed (by kernel_rfl) (by simp only [Tryz.ntmps112, List.length_cons, List.length_nil]; omega) (by rw [e]; exact h)
/-- (*fifo.step).referred -/
def L113 (x0 kind1 : Value) (w : World) (K : Value → World → Prop) : Prop :=
 onSome (q_nil x0) fun t10 =>
 onSome (q_faddr 5 t10) fun t11 =>
 onSome (q_faddr 7 t11) fun t12 =>
 onSome (q_load1 t12 w) fun t13 =>
 Ret Tryz.prog 62 [x0, kind1, t13] w fun t14 W1 =>
 onSome (q_eq Tryz.prog .eql 114 t14 (.pointer none)) fun t17 =>
 xif t17
 (K (.tuple #[(.pointer none), (.int .i64 28)]) W1)
 (onSome (q_nil x0) fun t20 =>
 onSome (q_faddr 5 t20) fun t21 =>
 onSome (q_faddr 4 t21) fun t22 =>
 onSome (q_load1 t22 W1.drew) fun t23 =>
 onSome (q_nil t14) fun t25 =>
 onSome (q_faddr 3 t25) fun t26 =>
 onSome (q_load1 t26 W1.drew) fun t27 =>
 onSome (q_nil t14) fun t29 =>
 onSome (q_faddr 5 t29) fun t30 =>
 onSome (q_load1 t30 W1.drew) fun t31 =>
 onSome (q_bin .sub t27 t31) fun t32 =>
 onSome (q_bin .gtr t23 t32) fun t33 =>
 xif t33
 (K (.tuple #[(.pointer none), (.int .i64 21)]) W1.drew)
 (K (.tuple #[t14, (.int .i64 0)]) W1.drew))
theorem lift113 {x0 kind1 : Value} {w : World} {K : Value → World → Prop} (h : L113 x0 kind1 w K) : Ret Tryz.prog 113 [x0, kind1] w K := by
  have e : xfun Tryz.prog Tryz.f113 (.s .r (.s .r (.s (.b (.s .r (.c (.s .r .r) (.s (.x [0, 1, 3, 7, 15, 0, 32, 96, 224, 0, 512, 1536, 3584, 8160, 16383, 32767] (.q 0 (.q 1 (.q 2 (.q 3 (.q 4 (.q 5 (.q 6 (.q 7 (.q 8 (.q 9 (.q 10 (.q 11 (.q 12 (.q 13 (.q 14 (.q 15 .nil))))))))))))))))) (.c (.s .r .r) .r))))) (.s .r .r)))) [x0, kind1] w K = L113 x0 kind1 w K := by kernel_rfl
  exact xfun_sound (an := (.s .r (.s .r (.s (.b (.s .r (.c (.s .r .r) (.s (.x [0, 1, 3, 7, 15, 0, 32, 96, 224, 0, 512, 1536, 3584, 8160, 16383, 32767] (.q 0 (.q 1 (.q 2 (.q 3 (.q 4 (.q 5 (.q 6 (.q 7 (.q 8 (.q 9 (.q 10 (.q 11 (.q 12 (.q 13 (.q 14 (.q 15 .nil))))))))))))))))) (.c (.s .r .r) .r))))) (.s .r .r))))) Tryz.func113 mixed (by kernel_rfl) (by simp only [Tryz.ntmps113, List.length_cons, List.length_nil]; omega) (by rw [e]; exact h)
/-- (*fifo.step).layer -/
def L115 (x0 seq1 : Value) (w : World) (K : Value → World → Prop) : Prop :=
 onSome (q_nil x0) fun t8 =>
 onSome (q_faddr 0 t8) fun t9 =>
 onSome (q_faddr 3 t9) fun t10 =>
 onSome (q_load1 t10 w) fun t11 =>
 onSome (q_len t11) fun t12 =>
 looping fun (I : Value → World → Prop) (μ : Value → World → Nat) => I (.int .i64 0) w ∧
 ∀ (t13 : Value) (W1 : World), I t13 W1 → ∀ _ : Env,
 onSome (q_bin .lss t13 t12) fun t14 =>
 xif t14
 (onSome (q_iaddr 4 t11 t13) fun t16 =>
 onSome (q_loadn 4 t16 W1) fun t17 =>
 l_new 103 #[.int .i64 0, .string ⟨#[]⟩, .int .i64 0, .int .i64 0] W1 fun l6 W2 =>
 l_store 4 l6 t17 W2 fun _ W3 =>
 onSome (q_faddr 0 l6) fun t18 =>
 onSome (q_load1 t18 W3) fun t19 =>
 onSome (q_bin .eql t19 seq1) fun t21 =>
 xif t21
 (K t13 W3)
 (onSome (q_bin .add t13 (.int .i64 1)) fun t23 =>
 I t23 W3 ∧ μ t23 W3 < μ t13 W1))
 (K (.int .i64 (-1)) W1)
theorem lift115 {x0 seq1 : Value} {w : World} {K : Value → World → Prop} (h : L115 x0 seq1 w K) : Ret Tryz.prog 115 [x0, seq1] w K := by
  have e : xfun Tryz.prog Tryz.f115 (.s .r (.s (.s .r (.b (.l [13] 16769136 (.s .r (.s (.c .r .r) (.s (.b (.s .r (.s .r (.c (.s .r .r) .r)))) .r)))))) (.s .r .r))) [x0, seq1] w K = L115 x0 seq1 w K := by kernel_rfl
  exact xfun_sound (an := (.s .r (.s (.s .r (.b (.l [13] 16769136 (.s .r (.s (.c .r .r) (.s (.b (.s .r (.s .r (.c (.s .r .r) .r)))) .r)))))) (.s .r .r)))) Tryz.func115 mixed (by kernel_rfl) (by simp only [Tryz.ntmps115, List.length_cons, List.length_nil]; omega) (by rw [e]; exact h)
/-- fifo.far -/
def L117 (n0 : Value) (w : World) (K : Value → World → Prop) : Prop :=
 Ret Tryz.prog 171 [n0, (.int .i64 (-1000000000000000)), (.int .i64 1000000000000000)] w fun t4 W1 =>
 onSome (q_bin .neq t4 n0) fun t6 =>
 K t6 W1
theorem lift117 {n0 : Value} {w : World} {K : Value → World → Prop} (h : L117 n0 w K) : Ret Tryz.prog 117 [n0] w K := by
  have e : xfun Tryz.prog Tryz.f117 (.s .r (.s .r .r)) [n0] w K = L117 n0 w K := by kernel_rfl
  exact xfun_sound (an := (.s .r (.s .r .r))) Tryz.func117 mixed (by kernel_rfl) (by simp only [Tryz.ntmps117, List.length_cons, List.length_nil]; omega) (by rw [e]; exact h)
/-- (*fifo.step).remove -/
def L165 (x0 i1 : Value) (w : World) (K : Value → World → Prop) : Prop :=
 onSome (q_nil x0) fun t6 =>
 onSome (q_faddr 0 t6) fun t7 =>
 onSome (q_faddr 3 t7) fun t8 =>
 onSome (q_load1 t8 w.drew) fun t9 =>
 onSome (q_slice Tryz.prog 25 t9 none (some i1) (some i1)) fun t12 =>
 onSome (q_nil x0) fun t14 =>
 onSome (q_faddr 0 t14) fun t15 =>
 onSome (q_faddr 3 t15) fun t16 =>
 onSome (q_load1 t16 w.drew) fun t17 =>
 onSome (q_bin .add i1 (.int .i64 1)) fun t19 =>
 onSome (q_slice Tryz.prog 25 t17 (some t19) none none) fun t20 =>
 l_append Tryz.prog #[25, 25] 25 t12 t20 w.drew fun t21 W1 =>
 onSome (q_nil x0) fun t22 =>
 onSome (q_faddr 0 t22) fun t23 =>
 onSome (q_faddr 3 t23) fun t24 =>
 l_store 1 t24 t21 W1 fun _ W2 =>
 K (.tuple #[]) W2
theorem lift165 {x0 i1 : Value} {w : World} {K : Value → World → Prop} (h : L165 x0 i1 w K) : Ret Tryz.prog 165 [x0, i1] w K := by
  have e : xfun Tryz.prog Tryz.f165 (.x [0, 0, 2, 6, 14, 30, 0, 0, 254, 0, 512, 1536, 3584, 7680, 0, 16384, 65024, 131070, 262143, 524287, 1048575, 2097151] (.q 0 (.q 1 (.q 2 (.q 3 (.q 4 (.q 5 (.q 6 (.q 7 (.q 8 (.q 9 (.q 10 (.q 11 (.q 12 (.q 13 (.q 14 (.q 15 (.q 16 (.l 17 131070 (.q 18 (.q 19 (.q 20 (.l 21 2097151 .nil))))))))))))))))))))))) [x0, i1] w K = L165 x0 i1 w K := by kernel_rfl
  exact xfun_sound (an := (.x [0, 0, 2, 6, 14, 30, 0, 0, 254, 0, 512, 1536, 3584, 7680, 0, 16384, 65024, 131070, 262143, 524287, 1048575, 2097151] (.q 0 (.q 1 (.q 2 (.q 3 (.q 4 (.q 5 (.q 6 (.q 7 (.q 8 (.q 9 (.q 10 (.q 11 (.q 12 (.q 13 (.q 14 (.q 15 (.q 16 (.l 17 131070 (.q 18 (.q 19 (.q 20 (.l 21 2097151 .nil)))))))))))))))))))))))) Tryz.func165 mixed (by kernel_rfl) (by simp only [Tryz.ntmps165, List.length_cons, List.length_nil]; omega) (by rw [e]; exact h)
end Go.X
