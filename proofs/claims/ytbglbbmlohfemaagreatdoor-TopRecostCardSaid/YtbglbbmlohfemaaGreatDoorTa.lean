/- The lifted forms of Go functions, printed by a program (lift.py); each is held against the loaded program by the kernel. -/
import Derived.Test.YtbglbbmlohfemaaGreatDoorA2
set_option linter.unusedVariables false
set_option linter.unusedSimpArgs false
set_option maxRecDepth 100000
namespace Go.X
open Go.Proofs
/-- average.Step -/
def L33 (s0 m1 : Value) (w : World) (K : Value → World → Prop) : Prop :=
 l_new 28 (s0 : Value).cells w fun s2 W1 =>
 l_new 47 (m1 : Value).cells W1 fun m3 W2 =>
 l_new 28 #[.int .i64 0, .int .i64 0, .int .i64 0, .slice none 0 0, .slice none 0 0] W2 fun t4 W3 =>
 l_new 43 #[.int .i64 0, .int .i64 0, .int .i64 0, .int .i64 0] W3 fun c5 W4 =>
 onSome (q_loadn 8 m3 W4) fun t8 =>
 Ret Tryz.prog 61 [t8] W4 fun t9 W5 =>
 onSome (q_bin .neq t9 (.int .i64 0)) fun t11 =>
 xif t11
 (onSome (q_build #[.int .i64 0, .int .i64 0, .int .i64 0, .slice none 0 0, .slice none 0 0] []) fun t12 =>
 onSome (q_build #[.int .i64 0, .int .i64 0, .int .i64 0, .int .i64 0] []) fun t13 =>
 l_store 5 t4 t12 W5 fun _ W6 =>
 l_store 4 c5 t13 W6 fun _ W7 =>
 onSome (q_loadn 5 t4 W7) fun t4_1 =>
 onSome (q_loadn 4 c5 W7) fun c5_1 =>
 K (.tuple #[t4_1, c5_1, t9]) W7)
 (onSome (q_faddr 4 s2) fun t15 =>
 onSome (q_load1 t15 W5) fun t16 =>
 onSome (q_func (.func 71) [] [m3]) fun t17 =>
 Ret Tryz.prog 70 [t16, t17] W5 fun t18 W8 =>
 onSome (q_bin .geq t18 (.int .i64 0)) fun t19 =>
 xif t19
 (onSome (q_build #[.int .i64 0, .int .i64 0, .int .i64 0, .slice none 0 0, .slice none 0 0] []) fun t20 =>
 onSome (q_build #[.int .i64 0, .int .i64 0, .int .i64 0, .int .i64 0] []) fun t21 =>
 l_store 5 t4 t20 W8 fun _ W9 =>
 l_store 4 c5 t21 W9 fun _ W10 =>
 onSome (q_loadn 5 t4 W10) fun t4_2 =>
 onSome (q_loadn 4 c5 W10) fun c5_2 =>
 K (.tuple #[t4_2, c5_2, (.int .i64 8)]) W10)
 (onSome (q_loadn 5 s2 W8) fun t22 =>
 Ret Tryz.prog 72 [t22] W8 fun t23 W11 =>
 l_store 5 t4 t23 W11 fun _ W12 =>
 onSome (q_loadn 8 m3 W12) fun t25 =>
 Ret Tryz.prog 73 [t4, t25] W12 fun t26 W13 =>
 onSome (q_extract t26 0) fun t27 =>
 onSome (q_extract t26 1) fun t28 =>
 l_store 4 c5 t27 W13 fun _ W14 =>
 onSome (q_bin .neq t28 (.int .i64 0)) fun t30 =>
 xif t30
 (onSome (q_build #[.int .i64 0, .int .i64 0, .int .i64 0, .slice none 0 0, .slice none 0 0] []) fun t31 =>
 onSome (q_build #[.int .i64 0, .int .i64 0, .int .i64 0, .int .i64 0] []) fun t32 =>
 l_store 5 t4 t31 W14 fun _ W15 =>
 l_store 4 c5 t32 W15 fun _ W16 =>
 onSome (q_loadn 5 t4 W16) fun t4_3 =>
 onSome (q_loadn 4 c5 W16) fun c5_3 =>
 K (.tuple #[t4_3, c5_3, t28]) W16)
 (onSome (q_faddr 0 t4) fun t34 =>
 onSome (q_load1 t34 W14) fun t35 =>
 onSome (q_faddr 1 c5) fun t36 =>
 onSome (q_load1 t36 W14) fun t37 =>
 onSome (q_bin .add t35 t37) fun t38 =>
 onSome (q_faddr 0 t4) fun t39 =>
 l_store 1 t39 t38 W14 fun _ W17 =>
 onSome (q_faddr 1 t4) fun t40 =>
 onSome (q_load1 t40 W17) fun t41 =>
 onSome (q_faddr 2 c5) fun t42 =>
 onSome (q_load1 t42 W17) fun t43 =>
 onSome (q_bin .add t41 t43) fun t44 =>
 onSome (q_faddr 1 t4) fun t45 =>
 l_store 1 t45 t44 W17 fun _ W18 =>
 onSome (q_faddr 0 t4) fun t46 =>
 onSome (q_load1 t46 W18) fun t47 =>
 onSome (q_bin .gtr t47 (.int .i64 1000000000)) fun t48 =>
 onSome (gateQ false t48 (q_faddr 1 t4)) fun t50 =>
 onSome (gateQ false t48 (q_load1 t50 W18)) fun t51 =>
 gateL false t48 (fun K => Ret Tryz.prog 74 [t51] W18 K) W18 fun t52 W19 =>
 onSome (q_pick t48 (.bool true) t52) fun t53 =>
 onSome (gateQ false t53 (q_faddr 3 c5)) fun t55 =>
 onSome (gateQ false t53 (q_load1 t55 W19)) fun t56 =>
 gateL false t53 (fun K => Ret Tryz.prog 74 [t56] W19 K) W19 fun t57 W20 =>
 onSome (q_pick t53 (.bool true) t57) fun t58 =>
 xif t58
 (onSome (q_build #[.int .i64 0, .int .i64 0, .int .i64 0, .slice none 0 0, .slice none 0 0] []) fun t59 =>
 onSome (q_build #[.int .i64 0, .int .i64 0, .int .i64 0, .int .i64 0] []) fun t60 =>
 l_store 5 t4 t59 W20 fun _ W21 =>
 l_store 4 c5 t60 W21 fun _ W22 =>
 onSome (q_loadn 5 t4 W22) fun t4_4 =>
 onSome (q_loadn 4 c5 W22) fun c5_4 =>
 K (.tuple #[t4_4, c5_4, (.int .i64 4)]) W22)
 (onSome (q_loadn 5 t4 W20.drew) fun t61 =>
 onSome (q_loadn 4 c5 W20.drew) fun t62 =>
 l_store 5 t4 t61 W20.drew fun _ W23 =>
 ob (q_loadn 4 c5 W23 = some t62) (
 l_store 4 c5 t62 W23 fun _ W24 =>
 onSome (q_loadn 5 t4 W24) fun t4_5 =>
 onSome (q_loadn 4 c5 W24) fun c5_5 =>
 K (.tuple #[t4_5, c5_5, (.int .i64 0)]) W24)))))
theorem lift33 {s0 m1 : Value} {w : World} {K : Value → World → Prop} (h : L33 s0 m1 w K) : Ret Tryz.prog 33 [s0, m1] w K := by
  have e : xfun Tryz.prog Tryz.f33 (.s .r (.s (.s .r (.s .r (.c (.s .r .r) .r))) (.s (.s .r (.c (.s .r .r) .r)) (.s .r (.s .r (.s (.s .r (.c (.s .r .r) .r)) (.s .r (.s .r (.s (.s .r (.c (.s .r .r) .r)) (.s (.x [0, 0, 1, 7, 15] (.q 0 (.q 1 (.l 2 1 (.l 3 7 (.q 4 .nil)))))) .r)))))))))) [s0, m1] w K = L33 s0 m1 w K := by kernel_rfl
  exact xfun_sound (an := (.s .r (.s (.s .r (.s .r (.c (.s .r .r) .r))) (.s (.s .r (.c (.s .r .r) .r)) (.s .r (.s .r (.s (.s .r (.c (.s .r .r) .r)) (.s .r (.s .r (.s (.s .r (.c (.s .r .r) .r)) (.s (.x [0, 0, 1, 7, 15] (.q 0 (.q 1 (.l 2 1 (.l 3 7 (.q 4 .nil)))))) .r))))))))))) Tryz.func33 mixed (by kernel_rfl) (by simp only [Tryz.ntmps33, List.length_cons, List.length_nil]; omega) (by rw [e]; exact h)
/-- average.find -/
def L70 (past0 is1 : Value) (w : World) (K : Value → World → Prop) : Prop :=
 Ret Tryz.prog 118 [past0, is1] w fun t7 W1 =>
 K t7 W1
theorem lift70 {past0 is1 : Value} {w : World} {K : Value → World → Prop} (h : L70 past0 is1 w K) : Ret Tryz.prog 70 [past0, is1] w K := by
  have e : xfun Tryz.prog Tryz.f70 (.s .r (.s .r .r)) [past0, is1] w K = L70 past0 is1 w K := by kernel_rfl
  exact xfun_sound (an := (.s .r (.s .r .r))) Tryz.func70 mixed (by kernel_rfl) (by simp only [Tryz.ntmps70, List.length_cons, List.length_nil]; omega) (by rw [e]; exact h)
/-- average.Step$1 -/
def L71 (p0 a1 : Value) (w : World) (K : Value → World → Prop) : Prop :=
 l_new 105 (p0 : Value).cells w fun p2 W1 =>
 onSome (q_faddr 0 p2) fun t4 =>
 onSome (q_load1 t4 W1) fun t5 =>
 onSome (q_faddr 0 a1) fun t6 =>
 onSome (q_load1 t6 W1) fun t7 =>
 onSome (q_bin .eql t5 t7) fun t8 =>
 K t8 W1
theorem lift71 {p0 a1 : Value} {w : World} {K : Value → World → Prop} (h : L71 p0 a1 w K) : Ret Tryz.prog 71 [p0, a1] w K := by
  have e : xfun Tryz.prog Tryz.f71 (.s .r (.s .r .r)) [p0, a1] w K = L71 p0 a1 w K := by kernel_rfl
  exact xfun_sound (an := (.s .r (.s .r .r))) Tryz.func71 mixed (by kernel_rfl) (by simp only [Tryz.ntmps71, List.length_cons, List.length_nil]; omega) (by rw [e]; exact h)
/-- average.copied -/
def L72 (s0 : Value) (w : World) (K : Value → World → Prop) : Prop :=
 l_new 28 (s0 : Value).cells w fun s1 W1 =>
 l_new 28 #[.int .i64 0, .int .i64 0, .int .i64 0, .slice none 0 0, .slice none 0 0] W1 fun t2 W2 =>
 onSome (q_faddr 4 s1) fun t4 =>
 onSome (q_load1 t4 W2) fun t5 =>
 onSome (q_len t5) fun t6 =>
 l_make Tryz.prog 26 t6 t6 W2 fun t7 W3 =>
 onSome (q_faddr 4 s1) fun t9 =>
 onSome (q_load1 t9 W3) fun t10 =>
 l_copy Tryz.prog #[26, 26] 3 t7 t10 W3 fun t11 W4 =>
 onSome (q_faddr 4 s1) fun t13 =>
 l_store 1 t13 t7 W4 fun _ W5 =>
 onSome (q_faddr 3 s1) fun t14 =>
 onSome (q_load1 t14 W5) fun t15 =>
 Ret Tryz.prog 96 [t15] W5 fun t16 W6 =>
 onSome (q_faddr 3 s1) fun t17 =>
 l_store 1 t17 t16 W6 fun _ W7 =>
 onSome (q_loadn 5 s1 W7) fun t18 =>
 l_store 5 t2 t18 W7 fun _ W8 =>
 onSome (q_loadn 5 t2 W8) fun t2_1 =>
 K t2_1 W8
theorem lift72 {s0 : Value} {w : World} {K : Value → World → Prop} (h : L72 s0 w K) : Ret Tryz.prog 72 [s0] w K := by
  have e : xfun Tryz.prog Tryz.f72 (.s .r (.s .r (.s .r (.s .r (.s .r (.s .r .r)))))) [s0] w K = L72 s0 w K := by kernel_rfl
  exact xfun_sound (an := (.s .r (.s .r (.s .r (.s .r (.s .r (.s .r .r))))))) Tryz.func72 mixed (by kernel_rfl) (by simp only [Tryz.ntmps72, List.length_cons, List.length_nil]; omega) (by rw [e]; exact h)
/-- average.perform -/
def L73 (s0 m1 : Value) (w : World) (K : Value → World → Prop) : Prop :=
 l_new 47 (m1 : Value).cells w fun m3 W1 =>
 l_new 43 #[.int .i64 0, .int .i64 0, .int .i64 0, .int .i64 0] W1 fun c4 W2 =>
 onSome (q_faddr 3 m3) fun t6 =>
 onSome (q_load1 t6 W2) fun t7 =>
 onSome (q_bin .eql t7 (.int .i64 1)) fun t9 =>
 xif t9
 (onSome (q_loadn 8 m3 W2) fun t11 =>
 Ret Tryz.prog 119 [s0, t11] W2 fun t12 W3 =>
 l_store 4 c4 t12 W3 fun _ W4 =>
 onSome (q_loadn 4 c4 W4) fun c4_1 =>
 K (.tuple #[c4_1, (.int .i64 0)]) W4)
 (onSome (q_bin .eql t7 (.int .i64 2)) fun t14 =>
 xif t14
 (onSome (q_loadn 8 m3 W2) fun t16 =>
 Ret Tryz.prog 120 [s0, t16] W2 fun t17 W5 =>
 onSome (q_extract t17 0) fun t18 =>
 onSome (q_extract t17 1) fun t19 =>
 l_store 4 c4 t18 W5 fun _ W6 =>
 onSome (q_loadn 4 c4 W6) fun c4_2 =>
 K (.tuple #[c4_2, t19]) W6)
 (onSome (q_bin .eql t7 (.int .i64 3)) fun t21 =>
 xif t21
 (onSome (q_loadn 8 m3 W2) fun t23 =>
 Ret Tryz.prog 121 [s0, t23] W2 fun t24 W7 =>
 onSome (q_extract t24 0) fun t25 =>
 onSome (q_extract t24 1) fun t26 =>
 l_store 4 c4 t25 W7 fun _ W8 =>
 onSome (q_loadn 4 c4 W8) fun c4_3 =>
 K (.tuple #[c4_3, t26]) W8)
 (onSome (q_bin .eql t7 (.int .i64 4)) fun t28 =>
 xif t28
 (onSome (q_loadn 8 m3 W2) fun t30 =>
 Ret Tryz.prog 122 [s0, t30] W2 fun t31 W9 =>
 onSome (q_extract t31 0) fun t32 =>
 onSome (q_extract t31 1) fun t33 =>
 l_store 4 c4 t32 W9 fun _ W10 =>
 onSome (q_loadn 4 c4 W10) fun c4_4 =>
 K (.tuple #[c4_4, t33]) W10)
 (onSome (q_bin .eql t7 (.int .i64 5)) fun t35 =>
 xif t35
 (onSome (q_loadn 8 m3 W2) fun t37 =>
 Ret Tryz.prog 123 [s0, t37] W2 fun t38 W11 =>
 onSome (q_extract t38 0) fun t39 =>
 onSome (q_extract t38 1) fun t40 =>
 l_store 4 c4 t39 W11 fun _ W12 =>
 onSome (q_loadn 4 c4 W12) fun c4_5 =>
 K (.tuple #[c4_5, t40]) W12)
 (onSome (q_build #[.int .i64 0, .int .i64 0, .int .i64 0, .int .i64 0] []) fun t41 =>
 l_store 4 c4 t41 W2 fun _ W13 =>
 onSome (q_loadn 4 c4 W13) fun c4_6 =>
 K (.tuple #[c4_6, (.int .i64 10)]) W13)))))
theorem lift73 {s0 m1 : Value} {w : World} {K : Value → World → Prop} (h : L73 s0 m1 w K) : Ret Tryz.prog 73 [s0, m1] w K := by
  have e : xfun Tryz.prog Tryz.f73 (.s .r (.s (.s .r (.b (.s .r (.c (.s .r .r) (.s .r (.c (.s .r .r) (.s .r (.c (.s .r .r) (.s .r (.c (.s .r .r) (.s .r (.c (.s .r .r) .r)))))))))))) (.s .r .r))) [s0, m1] w K = L73 s0 m1 w K := by kernel_rfl
  exact xfun_sound (an := (.s .r (.s (.s .r (.b (.s .r (.c (.s .r .r) (.s .r (.c (.s .r .r) (.s .r (.c (.s .r .r) (.s .r (.c (.s .r .r) (.s .r (.c (.s .r .r) .r)))))))))))) (.s .r .r)))) Tryz.func73 mixed (by kernel_rfl) (by simp only [Tryz.ntmps73, List.length_cons, List.length_nil]; omega) (by rw [e]; exact h)
/-- average.large -/
def L74 (n0 : Value) (w : World) (K : Value → World → Prop) : Prop :=
 onSome (q_bin .gtr n0 (.int .i64 1000000000000000)) fun t4 =>
 onSome (gateQ false t4 (some n0)) fun t6 =>
 onSome (gateQ false t4 (q_bin .lss t6 (.int .i64 (-1000000000000000)))) fun t7 =>
 onSome (q_pick t4 (.bool true) t7) fun t8 =>
 K t8 w
theorem lift74 {n0 : Value} {w : World} {K : Value → World → Prop} (h : L74 n0 w K) : Ret Tryz.prog 74 [n0] w K := by
  have e : xfun Tryz.prog Tryz.f74 (.s .r (.s .r .r)) [n0] w K = L74 n0 w K := by kernel_rfl
  exact xfun_sound (an := (.s .r (.s .r .r))) Tryz.func74 mixed (by kernel_rfl) (by simp only [Tryz.ntmps74, List.length_cons, List.length_nil]; omega) (by rw [e]; exact h)
/-- slices.Clone[[]api.Layer,api.Layer] -/
def L96 (s0 : Value) (w : World) (K : Value → World → Prop) : Prop :=
 onSome (q_eq Tryz.prog .eql 25 s0 (.slice none 0 0)) fun t4 =>
 xif t4
 (K (.slice none 0 0) w)
 (l_lit 103 0 #[] [] w fun t5 W1 =>
 l_append Tryz.prog #[25, 25] 25 t5 s0 W1 fun t7 W2 =>
 K t7 W2)
theorem lift96 {s0 : Value} {w : World} {K : Value → World → Prop} (h : L96 s0 w K) : Ret Tryz.prog 96 [s0] w K := by
  have e : xfun Tryz.prog Tryz.f96 (.s .r (.s (.s .r (.c (.s .r .r) .r)) (.s .r .r))) [s0] w K = L96 s0 w K := by kernel_rfl
  exact xfun_sound (an := (.s .r (.s (.s .r (.c (.s .r .r) .r)) (.s .r .r)))) Tryz.func96 mixed (by kernel_rfl) (by simp only [Tryz.ntmps96, List.length_cons, List.length_nil]; omega) (by rw [e]; exact h)
/-- slices.IndexFunc[[]api.Past,api.Past] -/
def L118 (s0 f1 : Value) (w : World) (K : Value → World → Prop) : Prop :=
 onSome (q_len s0) fun t7 =>
 looping fun (I : Value → World → Prop) (μ : Value → World → Nat) => I (.int .i64 0) w ∧
 ∀ (t8 : Value) (W1 : World), I t8 W1 → ∀ _ : Env,
 onSome (q_bin .lss t8 t7) fun t9 =>
 xif t9
 (onSome (q_iaddr 7 s0 t8) fun t14 =>
 onSome (q_loadn 7 t14 W1) fun t15 =>
 l_callv Tryz.prog f1 [t15] W1 fun t16 W2 =>
 xif t16
 (K t8 W2)
 (onSome (q_bin .add t8 (.int .i64 1)) fun t18 =>
 I t18 W2 ∧ μ t18 W2 < μ t8 W1))
 (K (.int .i64 (-1)) W1)
theorem lift118 {s0 f1 : Value} {w : World} {K : Value → World → Prop} (h : L118 s0 f1 w K) : Ret Tryz.prog 118 [s0, f1] w K := by
  have e : xfun Tryz.prog Tryz.f118 (.s .r (.s (.s .r (.b (.l [8] 524080 (.s .r (.s (.c .r .r) (.s (.b (.s .r (.s .r (.c (.s .r .r) .r)))) .r)))))) (.s .r .r))) [s0, f1] w K = L118 s0 f1 w K := by kernel_rfl
  exact xfun_sound (an := (.s .r (.s (.s .r (.b (.l [8] 524080 (.s .r (.s (.c .r .r) (.s (.b (.s .r (.s .r (.c (.s .r .r) .r)))) .r)))))) (.s .r .r)))) Tryz.func118 mixed (by kernel_rfl) (by simp only [Tryz.ntmps118, List.length_cons, List.length_nil]; omega) (by rw [e]; exact h)
/-- average.receive -/
def L119 (s0 m1 : Value) (w : World) (K : Value → World → Prop) : Prop :=
 l_new 47 (m1 : Value).cells w fun m3 W1 =>
 l_new 43 #[.int .i64 0, .int .i64 0, .int .i64 0, .int .i64 0] W1 fun t4 W2 =>
 onSome (q_nil s0) fun t7 =>
 onSome (q_faddr 4 t7) fun t8 =>
 onSome (q_load1 t8 W2.drew) fun t9 =>
 onSome (q_faddr 0 m3) fun t10 =>
 onSome (q_load1 t10 W2.drew) fun t11 =>
 onSome (q_faddr 3 m3) fun t12 =>
 onSome (q_load1 t12 W2.drew) fun t13 =>
 onSome (q_faddr 6 m3) fun t14 =>
 onSome (q_load1 t14 W2.drew) fun t15 =>
 onSome (q_faddr 4 m3) fun t16 =>
 onSome (q_load1 t16 W2.drew) fun t17 =>
 onSome (q_faddr 5 m3) fun t18 =>
 onSome (q_load1 t18 W2.drew) fun t19 =>
 onSome (q_build #[.int .i64 0, .int .i64 0, .string ⟨#[]⟩, .int .i64 0, .int .i64 0, .int .i64 0, .int .i64 0] [(0, 1, t11), (1, 1, t13), (2, 1, t15), (3, 1, t17), (4, 1, t19)]) fun t20 =>
 l_lit 105 1 #[.int .i64 0, .int .i64 0, .string ⟨#[]⟩, .int .i64 0, .int .i64 0, .int .i64 0, .int .i64 0] [(0, 7, t20)] W2.drew fun t21 W3 =>
 ob (q_load1 t8 W3 = some t9) (
 l_append Tryz.prog #[26, 26] 26 t9 t21 W3 fun t22 W4 =>
 onSome (q_nil s0) fun t23 =>
 onSome (q_faddr 4 t23) fun t24 =>
 l_store 1 t24 t22 W4 fun _ W5 =>
 onSome (q_faddr 0 m3) fun t25 =>
 onSome (q_load1 t25 W5) fun t26 =>
 onSome (q_faddr 4 m3) fun t27 =>
 onSome (q_load1 t27 W5) fun t28 =>
 onSome (q_faddr 5 m3) fun t29 =>
 onSome (q_load1 t29 W5) fun t30 =>
 onSome (q_build #[.int .i64 0, .int .i64 0, .int .i64 0, .int .i64 0] [(0, 1, t26), (1, 1, t28), (2, 1, t30)]) fun t31 =>
 l_store 4 t4 t31 W5 fun _ W6 =>
 onSome (q_loadn 4 t4 W6) fun t4_1 =>
 K t4_1 W6)
theorem lift119 {s0 m1 : Value} {w : World} {K : Value → World → Prop} (h : L119 s0 m1 w K) : Ret Tryz.prog 119 [s0, m1] w K := by
  have e : xfun Tryz.prog Tryz.f119 (.s .r (.s (.x [0, 0, 2, 6, 14, 0, 32, 0, 128, 0, 512, 0, 2048, 0, 8192, 32736, 65504, 131070, 262143, 524287, 1048575] (.q 0 (.q 1 (.q 2 (.q 3 (.q 4 (.q 5 (.q 6 (.q 7 (.q 8 (.q 9 (.q 10 (.q 11 (.q 12 (.q 13 (.q 14 (.q 15 (.l 16 65504 (.l 17 131070 (.q 18 (.q 19 (.l 20 1048575 .nil)))))))))))))))))))))) (.s .r .r))) [s0, m1] w K = L119 s0 m1 w K := by kernel_rfl
  exact xfun_sound (an := (.s .r (.s (.x [0, 0, 2, 6, 14, 0, 32, 0, 128, 0, 512, 0, 2048, 0, 8192, 32736, 65504, 131070, 262143, 524287, 1048575] (.q 0 (.q 1 (.q 2 (.q 3 (.q 4 (.q 5 (.q 6 (.q 7 (.q 8 (.q 9 (.q 10 (.q 11 (.q 12 (.q 13 (.q 14 (.q 15 (.l 16 65504 (.l 17 131070 (.q 18 (.q 19 (.l 20 1048575 .nil)))))))))))))))))))))) (.s .r .r)))) Tryz.func119 mixed (by kernel_rfl) (by simp only [Tryz.ntmps119, List.length_cons, List.length_nil]; omega) (by rw [e]; exact h)
/-- average.issue -/
def L120 (s0 m1 : Value) (w : World) (K : Value → World → Prop) : Prop :=
 l_new 47 (m1 : Value).cells w fun m3 W1 =>
 l_new 43 #[.int .i64 0, .int .i64 0, .int .i64 0, .int .i64 0] W1 fun c4 W2 =>
 onSome (q_nil s0) fun t8 =>
 onSome (q_faddr 0 t8) fun t9 =>
 onSome (q_load1 t9 W2.drew) fun t10 =>
 onSome (q_faddr 4 m3) fun t11 =>
 onSome (q_load1 t11 W2.drew) fun t12 =>
 onSome (q_bin .lss t10 t12) fun t13 =>
 xif t13
 (onSome (q_build #[.int .i64 0, .int .i64 0, .int .i64 0, .int .i64 0] []) fun t14 =>
 l_store 4 c4 t14 W2.drew fun _ W3 =>
 onSome (q_loadn 4 c4 W3) fun c4_1 =>
 K (.tuple #[c4_1, (.int .i64 21)]) W3)
 (onSome (q_nil s0) fun t16 =>
 onSome (q_faddr 1 t16) fun t17 =>
 onSome (q_load1 t17 W2.drew.drew) fun t18 =>
 onSome (q_faddr 4 m3) fun t19 =>
 onSome (q_load1 t19 W2.drew.drew) fun t20 =>
 onSome (q_nil s0) fun t22 =>
 onSome (q_faddr 0 t22) fun t23 =>
 onSome (q_load1 t23 W2.drew.drew) fun t24 =>
 Ret Tryz.prog 172 [t18, t20, t24] W2.drew.drew fun t25 W4 =>
 onSome (q_nil s0) fun t28 =>
 onSome (q_faddr 4 t28) fun t29 =>
 onSome (q_load1 t29 W4.drew) fun t30 =>
 onSome (q_faddr 0 m3) fun t31 =>
 onSome (q_load1 t31 W4.drew) fun t32 =>
 onSome (q_faddr 3 m3) fun t33 =>
 onSome (q_load1 t33 W4.drew) fun t34 =>
 onSome (q_faddr 6 m3) fun t35 =>
 onSome (q_load1 t35 W4.drew) fun t36 =>
 onSome (q_faddr 4 m3) fun t37 =>
 onSome (q_load1 t37 W4.drew) fun t38 =>
 onSome (q_build #[.int .i64 0, .int .i64 0, .string ⟨#[]⟩, .int .i64 0, .int .i64 0, .int .i64 0, .int .i64 0] [(0, 1, t32), (1, 1, t34), (2, 1, t36), (3, 1, t38), (4, 1, t25)]) fun t40 =>
 l_lit 105 1 #[.int .i64 0, .int .i64 0, .string ⟨#[]⟩, .int .i64 0, .int .i64 0, .int .i64 0, .int .i64 0] [(0, 7, t40)] W4.drew fun t41 W5 =>
 ob (q_load1 t29 W5 = some t30) (
 l_append Tryz.prog #[26, 26] 26 t30 t41 W5 fun t42 W6 =>
 onSome (q_nil s0) fun t43 =>
 onSome (q_faddr 4 t43) fun t44 =>
 l_store 1 t44 t42 W6 fun _ W7 =>
 onSome (q_faddr 0 m3) fun t45 =>
 onSome (q_load1 t45 W7) fun t46 =>
 onSome (q_faddr 4 m3) fun t47 =>
 onSome (q_load1 t47 W7) fun t48 =>
 onSome (q_un .neg t48) fun t49 =>
 onSome (q_un .neg t25) fun t51 =>
 onSome (q_build #[.int .i64 0, .int .i64 0, .int .i64 0, .int .i64 0] [(0, 1, t46), (1, 1, t49), (2, 1, t51)]) fun t52 =>
 l_store 4 c4 t52 W7 fun _ W8 =>
 onSome (q_loadn 4 c4 W8) fun c4_2 =>
 K (.tuple #[c4_2, (.int .i64 0)]) W8))
theorem lift120 {s0 m1 : Value} {w : World} {K : Value → World → Prop} (h : L120 s0 m1 w K) : Ret Tryz.prog 120 [s0, m1] w K := by
  have e : xfun Tryz.prog Tryz.f120 (.s .r (.s (.s (.x [0, 1, 3, 7, 0, 16, 63] (.q 0 (.q 1 (.q 2 (.q 3 (.q 4 (.q 5 (.q 6 .nil)))))))) (.c (.s .r .r) .r)) (.s (.x [0, 1, 3, 7, 0, 16, 0, 64, 192, 448, 1023, 2047] (.q 0 (.q 1 (.q 2 (.q 3 (.q 4 (.q 5 (.q 6 (.q 7 (.q 8 (.q 9 (.l 10 1023 (.q 11 .nil))))))))))))) (.s (.x [0, 0, 2, 6, 14, 0, 32, 0, 128, 0, 512, 0, 2048, 0, 16352, 32736, 65534, 131071, 262143, 524287] (.q 0 (.q 1 (.q 2 (.q 3 (.q 4 (.q 5 (.q 6 (.q 7 (.q 8 (.q 9 (.q 10 (.q 11 (.q 12 (.q 13 (.q 14 (.l 15 32736 (.l 16 65534 (.q 17 (.q 18 (.l 19 524287 .nil))))))))))))))))))))) (.s .r .r))))) [s0, m1] w K = L120 s0 m1 w K := by kernel_rfl
  exact xfun_sound (an := (.s .r (.s (.s (.x [0, 1, 3, 7, 0, 16, 63] (.q 0 (.q 1 (.q 2 (.q 3 (.q 4 (.q 5 (.q 6 .nil)))))))) (.c (.s .r .r) .r)) (.s (.x [0, 1, 3, 7, 0, 16, 0, 64, 192, 448, 1023, 2047] (.q 0 (.q 1 (.q 2 (.q 3 (.q 4 (.q 5 (.q 6 (.q 7 (.q 8 (.q 9 (.l 10 1023 (.q 11 .nil))))))))))))) (.s (.x [0, 0, 2, 6, 14, 0, 32, 0, 128, 0, 512, 0, 2048, 0, 16352, 32736, 65534, 131071, 262143, 524287] (.q 0 (.q 1 (.q 2 (.q 3 (.q 4 (.q 5 (.q 6 (.q 7 (.q 8 (.q 9 (.q 10 (.q 11 (.q 12 (.q 13 (.q 14 (.l 15 32736 (.l 16 65534 (.q 17 (.q 18 (.l 19 524287 .nil))))))))))))))))))))) (.s .r .r)))))) Tryz.func120 mixed (by kernel_rfl) (by simp only [Tryz.ntmps120, List.length_cons, List.length_nil]; omega) (by rw [e]; exact h)
/-- average.back -/
def L121 (s0 m1 : Value) (w : World) (K : Value → World → Prop) : Prop :=
 l_new 47 (m1 : Value).cells w fun m3 W1 =>
 l_new 43 #[.int .i64 0, .int .i64 0, .int .i64 0, .int .i64 0] W1 fun c4 W2 =>
 onSome (q_loadn 8 m3 W2) fun t11 =>
 Ret Tryz.prog 173 [s0, t11, (.int .i64 2)] W2 fun t12 W3 =>
 onSome (q_extract t12 0) fun t13 =>
 onSome (q_extract t12 1) fun t14 =>
 onSome (q_bin .neq t14 (.int .i64 0)) fun t16 =>
 xif t16
 (onSome (q_build #[.int .i64 0, .int .i64 0, .int .i64 0, .int .i64 0] []) fun t17 =>
 l_store 4 c4 t17 W3 fun _ W4 =>
 onSome (q_loadn 4 c4 W4) fun c4_1 =>
 K (.tuple #[c4_1, t14]) W4)
 (onSome (q_nil s0) fun t20 =>
 onSome (q_faddr 4 t20) fun t21 =>
 onSome (q_load1 t21 W3) fun t22 =>
 onSome (q_iaddr 7 t22 t13) fun t24 =>
 onSome (q_nil t24) fun t26 =>
 onSome (q_faddr 4 t26) fun t27 =>
 onSome (q_load1 t27 W3.drew) fun t28 =>
 onSome (q_nil t24) fun t30 =>
 onSome (q_faddr 6 t30) fun t31 =>
 onSome (q_load1 t31 W3.drew) fun t32 =>
 onSome (q_bin .sub t28 t32) fun t33 =>
 onSome (q_faddr 4 m3) fun t34 =>
 onSome (q_load1 t34 W3.drew) fun t35 =>
 onSome (q_nil t24) fun t37 =>
 onSome (q_faddr 3 t37) fun t38 =>
 onSome (q_load1 t38 W3.drew) fun t39 =>
 onSome (q_nil t24) fun t41 =>
 onSome (q_faddr 5 t41) fun t42 =>
 onSome (q_load1 t42 W3.drew) fun t43 =>
 onSome (q_bin .sub t39 t43) fun t44 =>
 Ret Tryz.prog 172 [t33, t35, t44] W3.drew fun t45 W5 =>
 onSome (q_nil t24) fun t47 =>
 onSome (q_faddr 5 t47) fun t48 =>
 onSome (q_load1 t48 W5.drew) fun t49 =>
 onSome (q_faddr 4 m3) fun t50 =>
 onSome (q_load1 t50 W5.drew) fun t51 =>
 onSome (q_bin .add t49 t51) fun t52 =>
 onSome (q_nil t24) fun t53 =>
 onSome (q_faddr 5 t53) fun t54 =>
 l_store 1 t54 t52 W5.drew fun _ W6 =>
 onSome (q_nil t24) fun t56 =>
 onSome (q_faddr 6 t56) fun t57 =>
 onSome (q_load1 t57 W6) fun t58 =>
 onSome (q_bin .add t58 t45) fun t60 =>
 onSome (q_nil t24) fun t61 =>
 onSome (q_faddr 6 t61) fun t62 =>
 l_store 1 t62 t60 W6 fun _ W7 =>
 onSome (q_faddr 0 m3) fun t63 =>
 onSome (q_load1 t63 W7) fun t64 =>
 onSome (q_faddr 4 m3) fun t65 =>
 onSome (q_load1 t65 W7) fun t66 =>
 onSome (q_build #[.int .i64 0, .int .i64 0, .int .i64 0, .int .i64 0] [(0, 1, t64), (1, 1, t66), (2, 1, t45)]) fun t68 =>
 l_store 4 c4 t68 W7 fun _ W8 =>
 onSome (q_loadn 4 c4 W8) fun c4_2 =>
 K (.tuple #[c4_2, (.int .i64 0)]) W8)
theorem lift121 {s0 m1 : Value} {w : World} {K : Value → World → Prop} (h : L121 s0 m1 w K) : Ret Tryz.prog 121 [s0, m1] w K := by
  have e : xfun Tryz.prog Tryz.f121 (.s .r (.s .r (.s (.s .r (.c (.s .r .r) .r)) (.s .r (.s (.x [0, 1, 3, 7, 0, 16, 48, 112, 255, 0, 512, 0, 2048, 6144, 14336, 0, 32768, 98304, 229376, 522240, 1048575, 2097151] (.q 0 (.q 1 (.q 2 (.q 3 (.q 4 (.q 5 (.q 6 (.q 7 (.q 8 (.q 9 (.q 10 (.q 11 (.q 12 (.q 13 (.q 14 (.q 15 (.q 16 (.q 17 (.q 18 (.q 19 (.l 20 1048575 (.q 21 .nil))))))))))))))))))))))) (.s (.x [0, 1, 3, 7, 0, 16, 63, 127, 255, 511] (.q 0 (.q 1 (.q 2 (.q 3 (.q 4 (.q 5 (.q 6 (.q 7 (.q 8 (.l 9 511 .nil))))))))))) (.s .r (.s .r .r)))))))) [s0, m1] w K = L121 s0 m1 w K := by kernel_rfl
  exact xfun_sound (an := (.s .r (.s .r (.s (.s .r (.c (.s .r .r) .r)) (.s .r (.s (.x [0, 1, 3, 7, 0, 16, 48, 112, 255, 0, 512, 0, 2048, 6144, 14336, 0, 32768, 98304, 229376, 522240, 1048575, 2097151] (.q 0 (.q 1 (.q 2 (.q 3 (.q 4 (.q 5 (.q 6 (.q 7 (.q 8 (.q 9 (.q 10 (.q 11 (.q 12 (.q 13 (.q 14 (.q 15 (.q 16 (.q 17 (.q 18 (.q 19 (.l 20 1048575 (.q 21 .nil))))))))))))))))))))))) (.s (.x [0, 1, 3, 7, 0, 16, 63, 127, 255, 511] (.q 0 (.q 1 (.q 2 (.q 3 (.q 4 (.q 5 (.q 6 (.q 7 (.q 8 (.l 9 511 .nil))))))))))) (.s .r (.s .r .r))))))))) Tryz.func121 mixed (by kernel_rfl) (by simp only [Tryz.ntmps121, List.length_cons, List.length_nil]; omega) (by rw [e]; exact h)
/-- average.send -/
def L122 (s0 m1 : Value) (w : World) (K : Value → World → Prop) : Prop :=
 l_new 47 (m1 : Value).cells w fun m3 W1 =>
 l_new 43 #[.int .i64 0, .int .i64 0, .int .i64 0, .int .i64 0] W1 fun c4 W2 =>
 onSome (q_loadn 8 m3 W2) fun t10 =>
 Ret Tryz.prog 173 [s0, t10, (.int .i64 1)] W2 fun t11 W3 =>
 onSome (q_extract t11 0) fun t12 =>
 onSome (q_extract t11 1) fun t13 =>
 onSome (q_bin .neq t13 (.int .i64 0)) fun t15 =>
 xif t15
 (onSome (q_build #[.int .i64 0, .int .i64 0, .int .i64 0, .int .i64 0] []) fun t16 =>
 l_store 4 c4 t16 W3 fun _ W4 =>
 onSome (q_loadn 4 c4 W4) fun c4_1 =>
 K (.tuple #[c4_1, t13]) W4)
 (onSome (q_nil s0) fun t19 =>
 onSome (q_faddr 0 t19) fun t20 =>
 onSome (q_load1 t20 W3.drew) fun t21 =>
 onSome (q_faddr 4 m3) fun t22 =>
 onSome (q_load1 t22 W3.drew) fun t23 =>
 onSome (q_bin .lss t21 t23) fun t24 =>
 xif t24
 (onSome (q_build #[.int .i64 0, .int .i64 0, .int .i64 0, .int .i64 0] []) fun t25 =>
 l_store 4 c4 t25 W3.drew fun _ W5 =>
 onSome (q_loadn 4 c4 W5) fun c4_2 =>
 K (.tuple #[c4_2, (.int .i64 21)]) W5)
 (onSome (q_nil s0) fun t27 =>
 onSome (q_faddr 1 t27) fun t28 =>
 onSome (q_load1 t28 W3.drew.drew) fun t29 =>
 onSome (q_faddr 4 m3) fun t30 =>
 onSome (q_load1 t30 W3.drew.drew) fun t31 =>
 onSome (q_nil s0) fun t33 =>
 onSome (q_faddr 0 t33) fun t34 =>
 onSome (q_load1 t34 W3.drew.drew) fun t35 =>
 Ret Tryz.prog 172 [t29, t31, t35] W3.drew.drew fun t36 W6 =>
 onSome (q_nil s0) fun t38 =>
 onSome (q_faddr 4 t38) fun t39 =>
 onSome (q_load1 t39 W6.drew) fun t40 =>
 onSome (q_iaddr 7 t40 t12) fun t42 =>
 onSome (q_faddr 5 t42) fun t43 =>
 onSome (q_load1 t43 W6.drew) fun t44 =>
 onSome (q_faddr 4 m3) fun t45 =>
 onSome (q_load1 t45 W6.drew) fun t46 =>
 onSome (q_bin .add t44 t46) fun t47 =>
 onSome (q_iaddr 7 t40 t12) fun t48 =>
 onSome (q_faddr 5 t48) fun t49 =>
 l_store 1 t49 t47 W6.drew fun _ W7 =>
 onSome (q_faddr 0 m3) fun t50 =>
 onSome (q_load1 t50 W7) fun t51 =>
 onSome (q_faddr 4 m3) fun t52 =>
 onSome (q_load1 t52 W7) fun t53 =>
 onSome (q_un .neg t53) fun t54 =>
 onSome (q_un .neg t36) fun t56 =>
 onSome (q_faddr 5 m3) fun t58 =>
 onSome (q_load1 t58 W7) fun t59 =>
 onSome (q_bin .sub t36 t59) fun t60 =>
 onSome (q_build #[.int .i64 0, .int .i64 0, .int .i64 0, .int .i64 0] [(0, 1, t51), (1, 1, t54), (2, 1, t56), (3, 1, t60)]) fun t61 =>
 l_store 4 c4 t61 W7 fun _ W8 =>
 onSome (q_loadn 4 c4 W8) fun c4_3 =>
 K (.tuple #[c4_3, (.int .i64 0)]) W8))
theorem lift122 {s0 m1 : Value} {w : World} {K : Value → World → Prop} (h : L122 s0 m1 w K) : Ret Tryz.prog 122 [s0, m1] w K := by
  have e : xfun Tryz.prog Tryz.f122 (.s .r (.s .r (.s (.s .r (.c (.s .r .r) .r)) (.s (.s (.x [0, 1, 3, 7, 0, 16, 63] (.q 0 (.q 1 (.q 2 (.q 3 (.q 4 (.q 5 (.q 6 .nil)))))))) (.c (.s .r .r) .r)) (.s (.x [0, 1, 3, 7, 0, 16, 0, 64, 192, 448, 1023, 2047] (.q 0 (.q 1 (.q 2 (.q 3 (.q 4 (.q 5 (.q 6 (.q 7 (.q 8 (.q 9 (.l 10 1023 (.q 11 .nil))))))))))))) (.s (.x [0, 1, 3, 7, 0, 31, 63, 127, 0, 256, 1023, 2047, 4095, 8191] (.q 0 (.q 1 (.q 2 (.q 3 (.q 4 (.q 5 (.q 6 (.q 7 (.q 8 (.q 9 (.q 10 (.q 11 (.q 12 (.l 13 8191 .nil))))))))))))))) (.s .r .r))))))) [s0, m1] w K = L122 s0 m1 w K := by kernel_rfl
  exact xfun_sound (an := (.s .r (.s .r (.s (.s .r (.c (.s .r .r) .r)) (.s (.s (.x [0, 1, 3, 7, 0, 16, 63] (.q 0 (.q 1 (.q 2 (.q 3 (.q 4 (.q 5 (.q 6 .nil)))))))) (.c (.s .r .r) .r)) (.s (.x [0, 1, 3, 7, 0, 16, 0, 64, 192, 448, 1023, 2047] (.q 0 (.q 1 (.q 2 (.q 3 (.q 4 (.q 5 (.q 6 (.q 7 (.q 8 (.q 9 (.l 10 1023 (.q 11 .nil))))))))))))) (.s (.x [0, 1, 3, 7, 0, 31, 63, 127, 0, 256, 1023, 2047, 4095, 8191] (.q 0 (.q 1 (.q 2 (.q 3 (.q 4 (.q 5 (.q 6 (.q 7 (.q 8 (.q 9 (.q 10 (.q 11 (.q 12 (.l 13 8191 .nil))))))))))))))) (.s .r .r)))))))) Tryz.func122 mixed (by kernel_rfl) (by simp only [Tryz.ntmps122, List.length_cons, List.length_nil]; omega) (by rw [e]; exact h)
/-- average.land -/
def L123 (s0 m1 : Value) (w : World) (K : Value → World → Prop) : Prop :=
 l_new 47 (m1 : Value).cells w fun m3 W1 =>
 l_new 43 #[.int .i64 0, .int .i64 0, .int .i64 0, .int .i64 0] W1 fun c4 W2 =>
 onSome (q_loadn 8 m3 W2) fun t11 =>
 Ret Tryz.prog 173 [s0, t11, (.int .i64 1)] W2 fun t12 W3 =>
 onSome (q_extract t12 0) fun t13 =>
 onSome (q_extract t12 1) fun t14 =>
 onSome (q_bin .neq t14 (.int .i64 0)) fun t16 =>
 xif t16
 (onSome (q_build #[.int .i64 0, .int .i64 0, .int .i64 0, .int .i64 0] []) fun t17 =>
 l_store 4 c4 t17 W3 fun _ W4 =>
 onSome (q_loadn 4 c4 W4) fun c4_1 =>
 K (.tuple #[c4_1, t14]) W4)
 (onSome (q_nil s0) fun t20 =>
 onSome (q_faddr 4 t20) fun t21 =>
 onSome (q_load1 t21 W3) fun t22 =>
 onSome (q_iaddr 7 t22 t13) fun t24 =>
 onSome (q_faddr 3 t24) fun t25 =>
 onSome (q_load1 t25 W3) fun t26 =>
 onSome (q_faddr 5 m3) fun t27 =>
 onSome (q_load1 t27 W3.drew) fun t28 =>
 onSome (q_nil s0) fun t31 =>
 onSome (q_faddr 0 t31) fun t32 =>
 onSome (q_load1 t32 W3.drew) fun t33 =>
 onSome (q_min t26 t33) fun t34 =>
 Ret Tryz.prog 172 [t28, t34, t26] W3.drew fun t36 W5 =>
 onSome (q_faddr 0 m3) fun t37 =>
 onSome (q_load1 t37 W5) fun t38 =>
 onSome (q_faddr 5 m3) fun t40 =>
 onSome (q_load1 t40 W5) fun t41 =>
 onSome (q_bin .sub t41 t36) fun t43 =>
 onSome (q_build #[.int .i64 0, .int .i64 0, .int .i64 0, .int .i64 0] [(0, 1, t38), (2, 1, t36), (3, 1, t43)]) fun t44 =>
 l_store 4 c4 t44 W5 fun _ W6 =>
 onSome (q_loadn 4 c4 W6) fun c4_2 =>
 K (.tuple #[c4_2, (.int .i64 0)]) W6)
theorem lift123 {s0 m1 : Value} {w : World} {K : Value → World → Prop} (h : L123 s0 m1 w K) : Ret Tryz.prog 123 [s0, m1] w K := by
  have e : xfun Tryz.prog Tryz.f123 (.s .r (.s .r (.s (.s .r (.c (.s .r .r) .r)) (.s .r (.s (.x [0, 1, 0, 0, 8, 24, 56, 124, 0, 511, 1023] (.q 0 (.q 1 (.q 2 (.q 3 (.q 4 (.q 5 (.q 6 (.q 7 (.q 8 (.l 9 511 (.q 10 .nil)))))))))))) (.s .r .r)))))) [s0, m1] w K = L123 s0 m1 w K := by kernel_rfl
  exact xfun_sound (an := (.s .r (.s .r (.s (.s .r (.c (.s .r .r) .r)) (.s .r (.s (.x [0, 1, 0, 0, 8, 24, 56, 124, 0, 511, 1023] (.q 0 (.q 1 (.q 2 (.q 3 (.q 4 (.q 5 (.q 6 (.q 7 (.q 8 (.l 9 511 (.q 10 .nil)))))))))))) (.s .r .r))))))) Tryz.func123 mixed (by kernel_rfl) (by simp only [Tryz.ntmps123, List.length_cons, List.length_nil]; omega) (by rw [e]; exact h)
/-- average.referred -/
def L173 (s0 m1 kind2 : Value) (w : World) (K : Value → World → Prop) : Prop :=
 l_new 47 (m1 : Value).cells w fun m4 W1 =>
 l_new 3 (kind2 : Value).cells W1 fun kind5 W2 =>
 onSome (q_nil s0) fun t10 =>
 onSome (q_faddr 4 t10) fun t11 =>
 onSome (q_load1 t11 W2) fun t12 =>
 onSome (q_func (.func 210) [] [m4, kind5]) fun t13 =>
 Ret Tryz.prog 70 [t12, t13] W2 fun t14 W3 =>
 onSome (q_bin .lss t14 (.int .i64 0)) fun t16 =>
 xif t16
 (K (.tuple #[(.int .i64 0), (.int .i64 28)]) W3)
 (onSome (q_nil s0) fun t18 =>
 onSome (q_faddr 4 t18) fun t19 =>
 onSome (q_load1 t19 W3) fun t20 =>
 onSome (q_iaddr 7 t20 t14) fun t22 =>
 onSome (q_loadn 7 t22 W3) fun t23 =>
 l_new 105 #[.int .i64 0, .int .i64 0, .string ⟨#[]⟩, .int .i64 0, .int .i64 0, .int .i64 0, .int .i64 0] W3 fun p8 W4 =>
 l_store 7 p8 t23 W4 fun _ W5 =>
 onSome (q_faddr 4 m4) fun t24 =>
 onSome (q_load1 t24 W5) fun t25 =>
 onSome (q_faddr 3 p8) fun t26 =>
 onSome (q_load1 t26 W5) fun t27 =>
 onSome (q_faddr 5 p8) fun t28 =>
 onSome (q_load1 t28 W5) fun t29 =>
 onSome (q_bin .sub t27 t29) fun t30 =>
 onSome (q_bin .gtr t25 t30) fun t31 =>
 xif t31
 (K (.tuple #[(.int .i64 0), (.int .i64 21)]) W5)
 (K (.tuple #[t14, (.int .i64 0)]) W5))
theorem lift173 {s0 m1 kind2 : Value} {w : World} {K : Value → World → Prop} (h : L173 s0 m1 kind2 w K) : Ret Tryz.prog 173 [s0, m1, kind2] w K := by
  have e : xfun Tryz.prog Tryz.f173 (.s .r (.s .r (.s (.s .r (.c (.s .r .r) .r)) (.s (.s .r (.s .r (.c (.s .r .r) .r))) (.s .r .r))))) [s0, m1, kind2] w K = L173 s0 m1 kind2 w K := by kernel_rfl
  exact xfun_sound (an := (.s .r (.s .r (.s (.s .r (.c (.s .r .r) .r)) (.s (.s .r (.s .r (.c (.s .r .r) .r))) (.s .r .r)))))) Tryz.func173 mixed (by kernel_rfl) (by simp only [Tryz.ntmps173, List.length_cons, List.length_nil]; omega) (by rw [e]; exact h)
/-- average.referred$1 -/
def L210 (p0 a1 a2 : Value) (w : World) (K : Value → World → Prop) : Prop :=
 l_new 105 (p0 : Value).cells w fun p3 W1 =>
 onSome (q_faddr 0 p3) fun t5 =>
 onSome (q_load1 t5 W1) fun t6 =>
 onSome (q_faddr 7 a1) fun t7 =>
 onSome (q_load1 t7 W1) fun t8 =>
 onSome (q_bin .eql t6 t8) fun t9 =>
 onSome (gateQ true t9 (q_faddr 1 p3)) fun t11 =>
 onSome (gateQ true t9 (q_load1 t11 W1)) fun t12 =>
 onSome (gateQ true t9 (q_load1 a2 W1)) fun t13 =>
 onSome (gateQ true t9 (q_bin .eql t12 t13)) fun t14 =>
 onSome (q_pick t9 t14 (.bool false)) fun t15 =>
 K t15 W1
theorem lift210 {p0 a1 a2 : Value} {w : World} {K : Value → World → Prop} (h : L210 p0 a1 a2 w K) : Ret Tryz.prog 210 [p0, a1, a2] w K := by
  have e : xfun Tryz.prog Tryz.f210 (.s .r (.s .r .r)) [p0, a1, a2] w K = L210 p0 a1 a2 w K := by kernel_rfl
  exact xfun_sound (an := (.s .r (.s .r .r))) Tryz.func210 mixed (by kernel_rfl) (by simp only [Tryz.ntmps210, List.length_cons, List.length_nil]; omega) (by rw [e]; exact h)
end Go.X
