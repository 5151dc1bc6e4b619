/- The lifted forms of Go functions, printed by a program (lift.py); each is held against the loaded program by the kernel. -/
import Derived.Test.YtbglbbmlohfemaaGreatDoorA2
set_option linter.unusedVariables false
set_option linter.unusedSimpArgs false
set_option maxRecDepth 100000
namespace Go.X
open Go.Proofs
/-- (*recost.Engine).At -/
def L30 (g0 day1 : Value) (w : World) (K : Value → World → Prop) : Prop :=
 onSome (q_eq Tryz.prog .eql 50 g0 (.pointer none)) fun t9 =>
 xif t9
 (K (.tuple #[(.int .i64 0), (.int .i64 0)]) w)
 (onSome (q_nil g0) fun t11 =>
 onSome (q_faddr 1 t11) fun t12 =>
 onSome (q_load1 t12 w) fun t13 =>
 onSome (q_len t13) fun t14 =>
 looping fun (I : Value → Value → Value → World → Prop) (μ : Value → Value → Value → World → Nat) => I (.int .i64 0) (.int .i64 0) (.int .i64 0) w ∧
 ∀ (qty4 value5 t15 : Value) (W1 : World), I qty4 value5 t15 W1 → ∀ _ : Env,
 onSome (q_bin .lss t15 t14) fun t16 =>
 xif t16
 (onSome (q_iaddr 8 t13 t15) fun t18 =>
 onSome (q_loadn 8 t18 W1) fun t19 =>
 l_new 47 #[.int .i64 0, .int .i64 0, .string ⟨#[]⟩, .int .i64 0, .int .i64 0, .int .i64 0, .string ⟨#[]⟩, .int .i64 0] W1 fun m7 W2 =>
 l_store 8 m7 t19 W2 fun _ W3 =>
 onSome (q_faddr 1 m7) fun t20 =>
 onSome (q_load1 t20 W3) fun t21 =>
 onSome (q_bin .leq t21 day1) fun t23 =>
 xif t23
 (onSome (q_nil g0) fun t26 =>
 onSome (q_faddr 2 t26) fun t27 =>
 onSome (q_load1 t27 W3) fun t28 =>
 onSome (q_iaddr 4 t28 t15) fun t30 =>
 onSome (q_faddr 1 t30) fun t31 =>
 onSome (q_load1 t31 W3) fun t32 =>
 onSome (q_bin .add qty4 t32) fun t33 =>
 onSome (q_nil g0) fun t36 =>
 onSome (q_faddr 2 t36) fun t37 =>
 onSome (q_load1 t37 W3) fun t38 =>
 onSome (q_iaddr 4 t38 t15) fun t40 =>
 onSome (q_faddr 2 t40) fun t41 =>
 onSome (q_load1 t41 W3) fun t42 =>
 onSome (q_bin .add value5 t42) fun t43 =>
 onSome (q_bin .add t15 (.int .i64 1)) fun t44 =>
 I t33 t43 t44 W3 ∧ μ t33 t43 t44 W3 < μ qty4 value5 t15 W1)
 (onSome (q_bin .add t15 (.int .i64 1)) fun t44_1 =>
 I qty4 value5 t44_1 W3 ∧ μ qty4 value5 t44_1 W3 < μ qty4 value5 t15 W1))
 (K (.tuple #[qty4, value5]) W1))
theorem lift30 {g0 day1 : Value} {w : World} {K : Value → World → Prop} (h : L30 g0 day1 w K) : Ret Tryz.prog 30 [g0, day1] w K := by
  have e : xfun Tryz.prog Tryz.f30 (.s .r (.s (.s .r (.c (.s .r .r) .r)) (.s (.s .r (.b (.l [4, 5, 15] 35184372056304 (.s .r (.s (.c .r .r) (.s (.b (.s .r (.s .r (.c (.s .r .r) .r)))) .r)))))) (.s .r .r)))) [g0, day1] w K = L30 g0 day1 w K := by kernel_rfl
  exact xfun_sound (an := (.s .r (.s (.s .r (.c (.s .r .r) .r)) (.s (.s .r (.b (.l [4, 5, 15] 35184372056304 (.s .r (.s (.c .r .r) (.s (.b (.s .r (.s .r (.c (.s .r .r) .r)))) .r)))))) (.s .r .r))))) Tryz.func30 mixed (by kernel_rfl) (by simp only [Tryz.ntmps30, List.length_cons, List.length_nil]; omega) (by rw [e]; exact h)
/-- recost.New -/
def L37 (method0 price1 : Value) (w : World) (K : Value → World → Prop) : Prop :=
 Ret Tryz.prog 21 [method0, price1] w fun t10 W1 =>
 onSome (q_extract t10 0) fun t11 =>
 onSome (q_extract t10 1) fun t12 =>
 l_new 28 #[.int .i64 0, .int .i64 0, .int .i64 0, .slice none 0 0, .slice none 0 0] W1 fun s6 W2 =>
 l_store 5 s6 t11 W2 fun _ W3 =>
 onSome (q_bin .neq t12 (.int .i64 0)) fun t14 =>
 xif t14
 (K (.tuple #[(.pointer none), t12]) W3)
 (onSome (q_loadn 5 s6 W3) fun t17 =>
 l_lit 28 1 #[.int .i64 0, .int .i64 0, .int .i64 0, .slice none 0 0, .slice none 0 0] [(0, 5, t17)] W3 fun t18 W4 =>
 onSome (q_loadn 5 s6 W4) fun t19 =>
 onSome (q_build #[.int .i64 0, .slice none 0 0, .slice none 0 0, .slice none 0 0, .slice none 0 0, .int .i64 0, .int .i64 0, .int .i64 0, .slice none 0 0, .slice none 0 0] [(0, 1, method0), (4, 1, t18), (5, 5, t19)]) fun t20 =>
 l_new 109 (t20 : Value).cells W4 fun t21 W5 =>
 K (.tuple #[t21, (.int .i64 0)]) W5)
theorem lift37 {method0 price1 : Value} {w : World} {K : Value → World → Prop} (h : L37 method0 price1 w K) : Ret Tryz.prog 37 [method0, price1] w K := by
  have e : xfun Tryz.prog Tryz.f37 (.s .r (.s .r (.s (.s .r (.c (.s .r .r) .r)) (.s .r .r)))) [method0, price1] w K = L37 method0 price1 w K := by kernel_rfl
  exact xfun_sound (an := (.s .r (.s .r (.s (.s .r (.c (.s .r .r) .r)) (.s .r .r))))) Tryz.func37 mixed (by kernel_rfl) (by simp only [Tryz.ntmps37, List.length_cons, List.length_nil]; omega) (by rw [e]; exact h)
/-- (*recost.Engine).Add -/
def L41 (g0 m1 : Value) (w : World) (K : Value → World → Prop) : Prop :=
 l_new 47 (m1 : Value).cells w fun m3 W1 =>
 l_new 43 #[.int .i64 0, .int .i64 0, .int .i64 0, .int .i64 0] W1 fun c4 W2 =>
 onSome (q_eq Tryz.prog .eql 50 g0 (.pointer none)) fun t16 =>
 xif t16
 (onSome (q_build #[.int .i64 0, .int .i64 0, .int .i64 0, .int .i64 0] []) fun t17 =>
 l_store 4 c4 t17 W2 fun _ W3 =>
 onSome (q_loadn 4 c4 W3) fun c4_1 =>
 K (.tuple #[c4_1, (.slice none 0 0), (.int .i64 1)]) W3)
 (joining fun (J : Value → World → Prop) => (onSome (q_nil g0) fun t19 =>
 onSome (q_faddr 1 t19) fun t20 =>
 onSome (q_load1 t20 W2.drew) fun t21 =>
 onSome (q_loadn 8 m3 W2.drew) fun t23 =>
 (Ret Tryz.prog 86 [t21] W2.drew fun t22 W4 =>
 ob (q_loadn 8 m3 W4 = some t23) (
 l_lit 47 1 #[.int .i64 0, .int .i64 0, .string ⟨#[]⟩, .int .i64 0, .int .i64 0, .int .i64 0, .string ⟨#[]⟩, .int .i64 0] [(0, 8, t23)] W4 fun t24 W5 =>
 l_append Tryz.prog #[22, 22] 22 t22 t24 W5 fun t25 W6 =>
 J t25 W6)) ∧
 (l_lit 47 1 #[.int .i64 0, .int .i64 0, .string ⟨#[]⟩, .int .i64 0, .int .i64 0, .int .i64 0, .string ⟨#[]⟩, .int .i64 0] [(0, 8, t23)] W2.drew fun t24_1 W7 =>
 ob (q_load1 t20 W7 = some t21) (
 Ret Tryz.prog 86 [t21] W7 fun t22_1 W8 =>
 l_append Tryz.prog #[22, 22] 22 t22_1 t24_1 W8 fun t25_1 W9 =>
 J t25_1 W9))) ∧
 ∀ (l7 : Value) (W10 : World), J l7 W10 → ∀ _ : Env,
 Ret Tryz.prog 87 [l7] W10 fun t28 W11 =>
 onSome (q_extract t28 0) fun t29 =>
 onSome (q_extract t28 1) fun t30 =>
 onSome (q_bin .neq t30 (.int .i64 0)) fun t32 =>
 xif t32
 (onSome (q_build #[.int .i64 0, .int .i64 0, .int .i64 0, .int .i64 0] []) fun t33 =>
 l_store 4 c4 t33 W11 fun _ W12 =>
 onSome (q_loadn 4 c4 W12) fun c4_2 =>
 K (.tuple #[c4_2, (.slice none 0 0), t30]) W12)
 (onSome (q_faddr 1 m3) fun t36 =>
 onSome (q_load1 t36 W11) fun t37 =>
 Ret Tryz.prog 88 [g0, t37] W11 fun t38 W13 =>
 onSome (q_nil g0) fun t40 =>
 onSome (q_faddr 3 t40) fun t41 =>
 onSome (q_load1 t41 W13) fun t42 =>
 Ret Tryz.prog 90 [t42] W13 fun t43 W14 =>
 onSome (q_len l7) fun t46 =>
 onSome (q_bin .sub t46 (.int .i64 1)) fun t47 =>
 l_lit 3 1 #[.int .i64 0] [(0, 1, t47)] W14 fun t48 W15 =>
 Ret Tryz.prog 89 [t43, t38, t48] W15 fun t49 W16 =>
 onSome (q_bin .quo t38 (.int .i64 16)) fun t55 =>
 onSome (q_bin .mul t55 (.int .i64 16)) fun t56 =>
 Ret Tryz.prog 91 [g0, l7, t49, t56] W16 fun t57 W17 =>
 onSome (q_extract t57 0) fun t58 =>
 onSome (q_extract t57 1) fun t59 =>
 l_new 145 #[.map none, .slice none 0 0, .int .i64 0, .int .i64 0, .int .i64 0, .slice none 0 0, .slice none 0 0] W17 fun r12 W18 =>
 l_store 7 r12 t58 W18 fun _ W19 =>
 onSome (q_bin .neq t59 (.int .i64 0)) fun t61 =>
 xif t61
 (onSome (q_build #[.int .i64 0, .int .i64 0, .int .i64 0, .int .i64 0] []) fun t62 =>
 l_store 4 c4 t62 W19 fun _ W20 =>
 onSome (q_loadn 4 c4 W20) fun c4_3 =>
 K (.tuple #[c4_3, (.slice none 0 0), t59]) W20)
 (onSome (q_loadn 7 r12 W19) fun t65 =>
 Ret Tryz.prog 92 [g0, t65] W19 fun t66 W21 =>
 onSome (q_faddr 1 r12) fun t73 =>
 onSome (q_load1 t73 W21.drew) fun t74 =>
 onSome (q_faddr 2 r12) fun t75 =>
 onSome (q_loadn 5 t75 W21.drew) fun t76 =>
 onSome (q_nil g0) fun t77 =>
 onSome (q_faddr 1 t77) fun t78 =>
 l_store 1 t78 l7 W21.drew fun _ W22 =>
 ob (q_loadn 5 t75 W22 = some t76) (
 ob (q_load1 t73 W22 = some t74) (
 onSome (q_nil g0) fun t79 =>
 onSome (q_faddr 3 t79) fun t80 =>
 l_store 1 t80 t49 W22 fun _ W23 =>
 ob (q_loadn 5 t75 W23 = some t76) (
 ob (q_load1 t73 W23 = some t74) (
 onSome (q_nil g0) fun t81 =>
 onSome (q_faddr 4 t81) fun t82 =>
 l_store 1 t82 t74 W23 fun _ W24 =>
 ob (q_loadn 5 t75 W24 = some t76) (
 onSome (q_nil g0) fun t83 =>
 onSome (q_faddr 5 t83) fun t84 =>
 l_store 5 t84 t76 W24 fun _ W25 =>
 onSome (q_nil g0) fun t87 =>
 onSome (q_faddr 2 t87) fun t88 =>
 onSome (q_load1 t88 W25) fun t89 =>
 onSome (q_build #[.int .i64 0, .int .i64 0, .int .i64 0, .int .i64 0] []) fun t90 =>
 l_lit 43 1 #[.int .i64 0, .int .i64 0, .int .i64 0, .int .i64 0] [(0, 4, t90)] W25 fun t91 W26 =>
 l_append Tryz.prog #[34, 34] 34 t89 t91 W26 fun t92 W27 =>
 onSome (q_nil g0) fun t93 =>
 onSome (q_faddr 2 t93) fun t94 =>
 l_store 1 t94 t92 W27 fun _ W28 =>
 onSome (q_faddr 0 r12) fun t95 =>
 onSome (q_load1 t95 W28) fun t96 =>
 l_run Tryz.prog (Instr.range 143 t96) W28 fun t97 W29 =>
 looping fun (I : World → Prop) (μ : World → Nat) => I W29 ∧
 ∀ (W30 : World), I W30 → ∀ _ : Env,
 l_run Tryz.prog (Instr.next t97 false 0) W30 fun t98 W31 =>
 onSome (q_extract t98 0) fun t99 =>
 xif t99
 (onSome (q_read Tryz.prog (Instr.entry t97) W31) fun t100 =>
 onSome (q_extract t100 0) fun t101 =>
 onSome (q_extract t100 1) fun t102 =>
 l_new 43 #[.int .i64 0, .int .i64 0, .int .i64 0, .int .i64 0] W31 fun x14 W32 =>
 l_store 4 x14 t102 W32 fun _ W33 =>
 onSome (q_nil g0) fun t104 =>
 onSome (q_faddr 2 t104) fun t105 =>
 onSome (q_load1 t105 W33.drew) fun t106 =>
 onSome (q_loadn 4 x14 W33.drew) fun t108 =>
 onSome (q_iaddr 4 t106 t101) fun t109 =>
 l_store 4 t109 t108 W33.drew fun _ W34 =>
 I W34 ∧ μ W34 < μ W30)
 (onSome (q_nil g0) fun t111 =>
 onSome (q_faddr 2 t111) fun t112 =>
 onSome (q_load1 t112 W31) fun t113 =>
 onSome (q_len l7) fun t115 =>
 onSome (q_bin .sub t115 (.int .i64 1)) fun t116 =>
 onSome (q_iaddr 4 t113 t116) fun t117 =>
 onSome (q_loadn 4 t117 W31) fun t118 =>
 l_store 4 c4 t118 W31 fun _ W35 =>
 onSome (q_loadn 4 c4 W35) fun c4_4 =>
 K (.tuple #[c4_4, t66, (.int .i64 0)]) W35)))))))))
theorem lift41 {g0 m1 : Value} {w : World} {K : Value → World → Prop} (h : L41 g0 m1 w K) : Ret Tryz.prog 41 [g0, m1] w K := by
  have e : xfun Tryz.prog Tryz.f41 (.s .r (.s (.s .r (.c (.s .r .r) .r)) (.s (.d [7] 66846848 [0, 1, 3, 7, 15, 0, 32, 127, 255] (.q 0 (.q 1 (.q 2 (.q 3 (.q 5 (.alt (.l 4 15 (.l 6 32 (.l 7 127 (.q 8 .nil)))) (.l 6 32 (.l 4 15 (.l 7 127 (.q 8 .nil))))))))))) (.s (.s .r (.s .r (.c (.s .r .r) .r))) (.s .r (.s .r (.s .r (.s (.s .r (.c (.s .r .r) .r)) (.s .r (.s (.x [0, 0, 0, 0, 0, 0, 0, 64, 0, 256, 17, 1041, 3089, 7219, 15411, 31795, 64759, 130295, 261367, 524287, 1048575, 2097151] (.q 0 (.q 1 (.q 2 (.q 3 (.q 4 (.q 5 (.q 6 (.q 7 (.q 8 (.q 9 (.q 10 (.q 11 (.l 12 3089 (.q 13 (.q 14 (.l 15 31795 (.q 16 (.q 17 (.l 18 261367 (.q 19 (.q 20 (.l 21 2097151 .nil))))))))))))))))))))))) (.s .r (.s (.s .r (.b (.l [] 1297757301983649849782249906528256 (.s .r (.s (.c .r .r) (.b (.s .r (.x [0, 1, 3, 7, 0, 0, 63, 127] (.q 0 (.q 1 (.q 2 (.q 3 (.q 4 (.q 5 (.q 6 (.l 7 127 .nil)))))))))))))))) (.s .r .r))))))))))))) [g0, m1] w K = L41 g0 m1 w K := by kernel_rfl
  exact xfun_sound (an := (.s .r (.s (.s .r (.c (.s .r .r) .r)) (.s (.d [7] 66846848 [0, 1, 3, 7, 15, 0, 32, 127, 255] (.q 0 (.q 1 (.q 2 (.q 3 (.q 5 (.alt (.l 4 15 (.l 6 32 (.l 7 127 (.q 8 .nil)))) (.l 6 32 (.l 4 15 (.l 7 127 (.q 8 .nil))))))))))) (.s (.s .r (.s .r (.c (.s .r .r) .r))) (.s .r (.s .r (.s .r (.s (.s .r (.c (.s .r .r) .r)) (.s .r (.s (.x [0, 0, 0, 0, 0, 0, 0, 64, 0, 256, 17, 1041, 3089, 7219, 15411, 31795, 64759, 130295, 261367, 524287, 1048575, 2097151] (.q 0 (.q 1 (.q 2 (.q 3 (.q 4 (.q 5 (.q 6 (.q 7 (.q 8 (.q 9 (.q 10 (.q 11 (.l 12 3089 (.q 13 (.q 14 (.l 15 31795 (.q 16 (.q 17 (.l 18 261367 (.q 19 (.q 20 (.l 21 2097151 .nil))))))))))))))))))))))) (.s .r (.s (.s .r (.b (.l [] 1297757301983649849782249906528256 (.s .r (.s (.c .r .r) (.b (.s .r (.x [0, 1, 3, 7, 0, 0, 63, 127] (.q 0 (.q 1 (.q 2 (.q 3 (.q 4 (.q 5 (.q 6 (.l 7 127 .nil)))))))))))))))) (.s .r .r)))))))))))))) Tryz.func41 mixed (by kernel_rfl) (by simp only [Tryz.ntmps41, List.length_cons, List.length_nil]; omega) (by rw [e]; exact h)
/-- slices.Clone[[]api.Move,api.Move] -/
def L86 (s0 : Value) (w : World) (K : Value → World → Prop) : Prop :=
 onSome (q_eq Tryz.prog .eql 22 s0 (.slice none 0 0)) fun t4 =>
 xif t4
 (K (.slice none 0 0) w)
 (l_lit 47 0 #[] [] w fun t5 W1 =>
 l_append Tryz.prog #[22, 22] 22 t5 s0 W1 fun t7 W2 =>
 K t7 W2)
theorem lift86 {s0 : Value} {w : World} {K : Value → World → Prop} (h : L86 s0 w K) : Ret Tryz.prog 86 [s0] w K := by
  have e : xfun Tryz.prog Tryz.f86 (.s .r (.s (.s .r (.c (.s .r .r) .r)) (.s .r .r))) [s0] w K = L86 s0 w K := by kernel_rfl
  exact xfun_sound (an := (.s .r (.s (.s .r (.c (.s .r .r) .r)) (.s .r .r)))) Tryz.func86 mixed (by kernel_rfl) (by simp only [Tryz.ntmps86, List.length_cons, List.length_nil]; omega) (by rw [e]; exact h)
/-- moves.Check -/
def L87 (l0 : Value) (w : World) (K : Value → World → Prop) : Prop :=
 onSome (q_len l0) fun t10 =>
 onSome (q_bin .gtr t10 (.int .i64 2000)) fun t11 =>
 xif t11
 (K (.tuple #[(.int .i64 0), (.int .i64 9)]) w)
 (l_run Tryz.prog (Instr.makeMap 169 none) w fun t12 W1 =>
 onSome (q_len l0) fun t14 =>
 looping fun (I : Value → World → Prop) (μ : Value → World → Nat) => I (.int .i64 0) W1 ∧
 ∀ (t15 : Value) (W2 : World), I t15 W2 → ∀ _ : Env,
 onSome (q_bin .lss t15 t14) fun t16 =>
 xif t16
 (onSome (q_iaddr 8 l0 t15) fun t18 =>
 onSome (q_loadn 8 t18 W2) fun t19 =>
 l_new 47 #[.int .i64 0, .int .i64 0, .string ⟨#[]⟩, .int .i64 0, .int .i64 0, .int .i64 0, .string ⟨#[]⟩, .int .i64 0] W2 fun m6 W3 =>
 l_store 8 m6 t19 W3 fun _ W4 =>
 onSome (q_faddr 0 m6) fun t20 =>
 onSome (q_load1 t20 W4) fun t21 =>
 onSome (q_bin .add t15 (.int .i64 1)) fun t23 =>
 onSome (q_bin .neq t21 t23) fun t24 =>
 xif t24
 (K (.tuple #[t15, (.int .i64 17)]) W4)
 (onSome (q_loadn 8 m6 W4) fun t26 =>
 Ret Tryz.prog 61 [t26] W4 fun t27 W5 =>
 onSome (q_bin .neq t27 (.int .i64 0)) fun t29 =>
 xif t29
 (K (.tuple #[t15, t27]) W5)
 (onSome (q_faddr 3 m6) fun t32 =>
 onSome (q_load1 t32 W5) fun t33 =>
 Ret Tryz.prog 110 [t33] W5 fun t34 W6 =>
 onSome (q_un .not t34) fun t35 =>
 xif t35
 (onSome (q_bin .add t15 (.int .i64 1)) fun t46 =>
 I t46 W6 ∧ μ t46 W6 < μ t15 W2)
 (onSome (q_slice Tryz.prog 22 l0 none (some t15) none) fun t38 =>
 onSome (q_loadn 8 m6 W6.drew) fun t39 =>
 Ret Tryz.prog 137 [t38, t39, t12] W6.drew fun t41 W7 =>
 onSome (q_bin .neq t41 (.int .i64 0)) fun t43 =>
 xif t43
 (K (.tuple #[t15, t41]) W7)
 (onSome (q_bin .add t15 (.int .i64 1)) fun t46_1 =>
 I t46_1 W7 ∧ μ t46_1 W7 < μ t15 W2)))))
 (K (.tuple #[(.int .i64 (-1)), (.int .i64 0)]) W2))
theorem lift87 {l0 : Value} {w : World} {K : Value → World → Prop} (h : L87 l0 w K) : Ret Tryz.prog 87 [l0] w K := by
  have e : xfun Tryz.prog Tryz.f87 (.s .r (.s (.s .r (.c (.s .r .r) .r)) (.s .r (.s (.s .r (.b (.l [15] 140737488323052 (.s .r (.s (.c .r .r) (.s (.b (.s .r (.s (.s .r (.c (.s .r .r) .r)) (.s (.s .r (.s .r (.c (.s .r .r) .r))) (.s (.s .r (.c .r .r)) (.s (.x [0, 0, 3, 0, 0, 31, 63] (.q 0 (.q 1 (.q 2 (.q 3 (.q 4 (.l 5 31 (.q 6 .nil)))))))) (.s .r (.c (.s .r .r) .r)))))))) .r)))))) (.s .r .r))))) [l0] w K = L87 l0 w K := by kernel_rfl
  exact xfun_sound (an := (.s .r (.s (.s .r (.c (.s .r .r) .r)) (.s .r (.s (.s .r (.b (.l [15] 140737488323052 (.s .r (.s (.c .r .r) (.s (.b (.s .r (.s (.s .r (.c (.s .r .r) .r)) (.s (.s .r (.s .r (.c (.s .r .r) .r))) (.s (.s .r (.c .r .r)) (.s (.x [0, 0, 3, 0, 0, 31, 63] (.q 0 (.q 1 (.q 2 (.q 3 (.q 4 (.l 5 31 (.q 6 .nil)))))))) (.s .r (.c (.s .r .r) .r)))))))) .r)))))) (.s .r .r)))))) Tryz.func87 mixed (by kernel_rfl) (by simp only [Tryz.ntmps87, List.length_cons, List.length_nil]; omega) (by rw [e]; exact h)
/-- (*recost.Engine).place -/
def L88 (g0 value1 : Value) (w : World) (K : Value → World → Prop) : Prop :=
 l_new 50 (g0 : Value).cells w fun g2 W1 =>
 onSome (q_load1 g2 W1) fun t8 =>
 onSome (q_nil t8) fun t9 =>
 onSome (q_faddr 3 t9) fun t10 =>
 onSome (q_load1 t10 W1) fun t11 =>
 onSome (q_func (.func 139) [] [g2]) fun t13 =>
 Ret Tryz.prog 138 [t11, value1, t13] W1 fun t14 W2 =>
 onSome (q_extract t14 0) fun t15 =>
 onSome (q_extract t14 1) fun t16 =>
 K t15 W2
theorem lift88 {g0 value1 : Value} {w : World} {K : Value → World → Prop} (h : L88 g0 value1 w K) : Ret Tryz.prog 88 [g0, value1] w K := by
  have e : xfun Tryz.prog Tryz.f88 (.s .r (.s .r (.s .r .r))) [g0, value1] w K = L88 g0 value1 w K := by kernel_rfl
  exact xfun_sound (an := (.s .r (.s .r (.s .r .r)))) Tryz.func88 mixed (by kernel_rfl) (by simp only [Tryz.ntmps88, List.length_cons, List.length_nil]; omega) (by rw [e]; exact h)
/-- slices.Clone[[]int,int] -/
def L90 (s0 : Value) (w : World) (K : Value → World → Prop) : Prop :=
 onSome (q_eq Tryz.prog .eql 60 s0 (.slice none 0 0)) fun t4 =>
 xif t4
 (K (.slice none 0 0) w)
 (l_lit 3 0 #[] [] w fun t5 W1 =>
 l_append Tryz.prog #[60, 60] 60 t5 s0 W1 fun t7 W2 =>
 K t7 W2)
theorem lift90 {s0 : Value} {w : World} {K : Value → World → Prop} (h : L90 s0 w K) : Ret Tryz.prog 90 [s0] w K := by
  have e : xfun Tryz.prog Tryz.f90 (.s .r (.s (.s .r (.c (.s .r .r) .r)) (.s .r .r))) [s0] w K = L90 s0 w K := by kernel_rfl
  exact xfun_sound (an := (.s .r (.s (.s .r (.c (.s .r .r) .r)) (.s .r .r)))) Tryz.func90 mixed (by kernel_rfl) (by simp only [Tryz.ntmps90, List.length_cons, List.length_nil]; omega) (by rw [e]; exact h)
/-- (*recost.Engine).run -/
def L91 (g0 l1 order2 from3 : Value) (w : World) (K : Value → World → Prop) : Prop :=
 l_new 145 #[.map none, .slice none 0 0, .int .i64 0, .int .i64 0, .int .i64 0, .slice none 0 0, .slice none 0 0] w fun t8 W1 =>
 l_run Tryz.prog (Instr.makeMap 143 none) W1 fun t16 W2 =>
 onSome (q_nil g0) fun t18 =>
 onSome (q_faddr 4 t18) fun t19 =>
 onSome (q_load1 t19 W2) fun t20 =>
 onSome (q_bin .quo from3 (.int .i64 16)) fun t22 =>
 onSome (q_slice Tryz.prog 107 t20 none (some t22) none) fun t23 =>
 Ret Tryz.prog 142 [t23] W2 fun t24 W3 =>
 onSome (q_build #[.map none, .slice none 0 0, .int .i64 0, .int .i64 0, .int .i64 0, .slice none 0 0, .slice none 0 0] [(0, 1, t16), (1, 1, t24)]) fun t25 =>
 l_new 145 #[.map none, .slice none 0 0, .int .i64 0, .int .i64 0, .int .i64 0, .slice none 0 0, .slice none 0 0] W3 fun r10 W4 =>
 l_store 7 r10 t25 W4 fun _ W5 =>
 onSome (q_nil g0) fun t27 =>
 onSome (q_faddr 4 t27) fun t28 =>
 onSome (q_load1 t28 W5) fun t29 =>
 onSome (q_bin .quo from3 (.int .i64 16)) fun t31 =>
 onSome (q_iaddr 5 t29 t31) fun t32 =>
 onSome (q_loadn 5 t32 W5) fun t33 =>
 l_new 28 #[.int .i64 0, .int .i64 0, .int .i64 0, .slice none 0 0, .slice none 0 0] W5 fun s11 W6 =>
 l_store 5 s11 t33 W6 fun _ W7 =>
 looping fun (I : Value → World → Prop) (μ : Value → World → Nat) => I from3 W7 ∧
 ∀ (at12 : Value) (W8 : World), I at12 W8 → ∀ _ : Env,
 onSome (q_len order2) fun t37 =>
 onSome (q_bin .lss at12 t37) fun t38 =>
 xif t38
 (joining fun (J : World → Prop) => (onSome (q_bin .rem at12 (.int .i64 16)) fun t42 =>
 onSome (q_bin .eql t42 (.int .i64 0)) fun t43 =>
 xif t43
 (onSome (q_faddr 1 r10) fun t44 =>
 onSome (q_load1 t44 W8) fun t45 =>
 onSome (q_loadn 5 s11 W8) fun t46 =>
 l_lit 28 1 #[.int .i64 0, .int .i64 0, .int .i64 0, .slice none 0 0, .slice none 0 0] [(0, 5, t46)] W8 fun t47 W9 =>
 l_append Tryz.prog #[107, 107] 107 t45 t47 W9 fun t48 W10 =>
 onSome (q_faddr 1 r10) fun t49 =>
 l_store 1 t49 t48 W10 fun _ W11 =>
 J W11)
 (J W8)) ∧
 ∀ (W12 : World), J W12 → ∀ _ : Env,
 joining fun (J1 : Value → Value → Value → World → Prop) => (onSome (q_nil g0) fun t52 =>
 onSome (q_faddr 0 t52) fun t53 =>
 onSome (q_load1 t53 W12.drew) fun t54 =>
 onSome (q_loadn 5 s11 W12.drew) fun t55 =>
 onSome (q_iaddr 1 order2 at12) fun t59 =>
 onSome (q_load1 t59 W12.drew) fun t60 =>
 onSome (q_iaddr 8 l1 t60) fun t61 =>
 onSome (q_loadn 8 t61 W12.drew) fun t62 =>
 (Ret Tryz.prog 27 [t54, t55, t62] W12.drew fun t63 W13 =>
 onSome (q_extract t63 0) fun t64 =>
 onSome (q_extract t63 1) fun t65 =>
 onSome (q_extract t63 2) fun t66 =>
 (l_new 28 #[.int .i64 0, .int .i64 0, .int .i64 0, .slice none 0 0, .slice none 0 0] W13 fun t13 W14 =>
 l_new 43 #[.int .i64 0, .int .i64 0, .int .i64 0, .int .i64 0] W14 fun c14 W15 =>
 l_store 5 t13 t64 W15 fun _ W16 =>
 l_store 4 c14 t65 W16 fun _ W17 =>
 J1 t13 c14 t66 W17) ∧
 (l_new 43 #[.int .i64 0, .int .i64 0, .int .i64 0, .int .i64 0] W13 fun c14_1 W18 =>
 l_new 28 #[.int .i64 0, .int .i64 0, .int .i64 0, .slice none 0 0, .slice none 0 0] W18 fun t13_1 W19 =>
 l_store 5 t13_1 t64 W19 fun _ W20 =>
 l_store 4 c14_1 t65 W20 fun _ W21 =>
 J1 t13_1 c14_1 t66 W21)) ∧
 ((l_new 28 #[.int .i64 0, .int .i64 0, .int .i64 0, .slice none 0 0, .slice none 0 0] W12.drew fun t13_2 W22 =>
 ob (q_loadn 8 t61 W22 = some t62) (
 ob (q_load1 t59 W22 = some t60) (
 ob (q_loadn 5 s11 W22 = some t55) (
 ob (q_load1 t53 W22 = some t54) (
 (Ret Tryz.prog 27 [t54, t55, t62] W22 fun t63_1 W23 =>
 onSome (q_extract t63_1 0) fun t64_1 =>
 onSome (q_extract t63_1 1) fun t65_1 =>
 onSome (q_extract t63_1 2) fun t66_1 =>
 l_new 43 #[.int .i64 0, .int .i64 0, .int .i64 0, .int .i64 0] W23 fun c14_2 W24 =>
 l_store 5 t13_2 t64_1 W24 fun _ W25 =>
 l_store 4 c14_2 t65_1 W25 fun _ W26 =>
 J1 t13_2 c14_2 t66_1 W26) ∧
 (l_new 43 #[.int .i64 0, .int .i64 0, .int .i64 0, .int .i64 0] W22 fun c14_3 W27 =>
 ob (q_loadn 8 t61 W27 = some t62) (
 ob (q_load1 t59 W27 = some t60) (
 ob (q_loadn 5 s11 W27 = some t55) (
 ob (q_load1 t53 W27 = some t54) (
 Ret Tryz.prog 27 [t54, t55, t62] W27 fun t63_2 W28 =>
 onSome (q_extract t63_2 0) fun t64_2 =>
 onSome (q_extract t63_2 1) fun t65_2 =>
 onSome (q_extract t63_2 2) fun t66_2 =>
 l_store 5 t13_2 t64_2 W28 fun _ W29 =>
 l_store 4 c14_3 t65_2 W29 fun _ W30 =>
 J1 t13_2 c14_3 t66_2 W30)))))))))) ∧
 (l_new 43 #[.int .i64 0, .int .i64 0, .int .i64 0, .int .i64 0] W12.drew fun c14_4 W31 =>
 ob (q_loadn 8 t61 W31 = some t62) (
 ob (q_load1 t59 W31 = some t60) (
 ob (q_loadn 5 s11 W31 = some t55) (
 ob (q_load1 t53 W31 = some t54) (
 (Ret Tryz.prog 27 [t54, t55, t62] W31 fun t63_3 W32 =>
 onSome (q_extract t63_3 0) fun t64_3 =>
 onSome (q_extract t63_3 1) fun t65_3 =>
 onSome (q_extract t63_3 2) fun t66_3 =>
 l_new 28 #[.int .i64 0, .int .i64 0, .int .i64 0, .slice none 0 0, .slice none 0 0] W32 fun t13_3 W33 =>
 l_store 5 t13_3 t64_3 W33 fun _ W34 =>
 l_store 4 c14_4 t65_3 W34 fun _ W35 =>
 J1 t13_3 c14_4 t66_3 W35) ∧
 (l_new 28 #[.int .i64 0, .int .i64 0, .int .i64 0, .slice none 0 0, .slice none 0 0] W31 fun t13_4 W36 =>
 ob (q_loadn 8 t61 W36 = some t62) (
 ob (q_load1 t59 W36 = some t60) (
 ob (q_loadn 5 s11 W36 = some t55) (
 ob (q_load1 t53 W36 = some t54) (
 Ret Tryz.prog 27 [t54, t55, t62] W36 fun t63_4 W37 =>
 onSome (q_extract t63_4 0) fun t64_4 =>
 onSome (q_extract t63_4 1) fun t65_4 =>
 onSome (q_extract t63_4 2) fun t66_4 =>
 l_store 5 t13_4 t64_4 W37 fun _ W38 =>
 l_store 4 c14_4 t65_4 W38 fun _ W39 =>
 J1 t13_4 c14_4 t66_4 W39)))))))))))) ∧
 ∀ (t13_5 c14_5 e15 : Value) (W40 : World), J1 t13_5 c14_5 e15 W40 → ∀ _ : Env,
 onSome (q_bin .neq e15 (.int .i64 0)) fun t68 =>
 xif t68
 (onSome (q_build #[.map none, .slice none 0 0, .int .i64 0, .int .i64 0, .int .i64 0, .slice none 0 0, .slice none 0 0] []) fun t69 =>
 l_store 7 t8 t69 W40 fun _ W41 =>
 onSome (q_loadn 7 t8 W41) fun t8_1 =>
 K (.tuple #[t8_1, e15]) W41)
 (onSome (q_faddr 0 r10) fun t71 =>
 onSome (q_load1 t71 W40.drew) fun t72 =>
 onSome (q_iaddr 1 order2 at12) fun t75 =>
 onSome (q_load1 t75 W40.drew) fun t76 =>
 onSome (q_loadn 4 c14_5 W40.drew) fun t77 =>
 l_runU Tryz.prog (Instr.mapUpdate 143 t72 t76 t77) W40.drew fun _ W42 =>
 onSome (q_loadn 5 t13_5 W42) fun t78 =>
 l_store 5 s11 t78 W42 fun _ W43 =>
 onSome (q_bin .add at12 (.int .i64 1)) fun t40 =>
 I t40 W43 ∧ μ t40 W43 < μ at12 W8))
 (joining fun (J2 : World → Prop) => (onSome (q_len order2) fun t80 =>
 onSome (q_bin .rem t80 (.int .i64 16)) fun t81 =>
 onSome (q_bin .eql t81 (.int .i64 0)) fun t82 =>
 xif t82
 (onSome (q_faddr 1 r10) fun t83 =>
 onSome (q_load1 t83 W8) fun t84 =>
 onSome (q_loadn 5 s11 W8) fun t85 =>
 l_lit 28 1 #[.int .i64 0, .int .i64 0, .int .i64 0, .slice none 0 0, .slice none 0 0] [(0, 5, t85)] W8 fun t86 W44 =>
 l_append Tryz.prog #[107, 107] 107 t84 t86 W44 fun t87 W45 =>
 onSome (q_faddr 1 r10) fun t88 =>
 l_store 1 t88 t87 W45 fun _ W46 =>
 J2 W46)
 (J2 W8)) ∧
 ∀ (W47 : World), J2 W47 → ∀ _ : Env,
 onSome (q_loadn 5 s11 W47) fun t89 =>
 onSome (q_faddr 2 r10) fun t90 =>
 l_store 5 t90 t89 W47 fun _ W48 =>
 onSome (q_loadn 7 r10 W48) fun t91 =>
 l_store 7 t8 t91 W48 fun _ W49 =>
 onSome (q_loadn 7 t8 W49) fun t8_2 =>
 K (.tuple #[t8_2, (.int .i64 0)]) W49)
theorem lift91 {g0 l1 order2 from3 : Value} {w : World} {K : Value → World → Prop} (h : L91 g0 l1 order2 from3 w K) : Ret Tryz.prog 91 [g0, l1, order2, from3] w K := by
  have e : xfun Tryz.prog Tryz.f91 (.s .r (.s .r (.s .r (.s (.s .r (.b (.l [12] 604462909807280227676672 (.s (.s .r (.c .r .r)) (.s (.b (.j [] 1123700883587072 (.s .r (.c .r .r)) (.s (.d [13, 14, 15] 147572826689769627648 [0, 1, 3, 7, 0, 0, 0, 0, 192, 448, 992, 2016, 4095, 8191, 16383, 16383, 16383, 0, 0, 425983, 983039, 2097151] (.q 0 (.q 1 (.q 2 (.q 3 (.q 4 (.q 5 (.q 6 (.q 7 (.q 8 (.q 9 (.q 10 (.q 11 (.alt (.l 12 4095 (.q 13 (.q 14 (.q 15 (.q 16 (.alt (.l 17 0 (.l 18 0 (.l 19 425983 (.l 20 983039 (.q 21 .nil))))) (.l 18 0 (.l 17 0 (.l 19 425983 (.l 20 983039 (.q 21 .nil))))))))))) (.alt (.l 17 0 (.alt (.l 12 4095 (.q 13 (.q 14 (.q 15 (.q 16 (.l 18 0 (.l 19 425983 (.l 20 983039 (.q 21 .nil))))))))) (.l 18 0 (.l 12 4095 (.q 13 (.q 14 (.q 15 (.q 16 (.l 19 425983 (.l 20 983039 (.q 21 .nil))))))))))) (.l 18 0 (.alt (.l 12 4095 (.q 13 (.q 14 (.q 15 (.q 16 (.l 17 0 (.l 19 425983 (.l 20 983039 (.q 21 .nil))))))))) (.l 17 0 (.l 12 4095 (.q 13 (.q 14 (.q 15 (.q 16 (.l 19 425983 (.l 20 983039 (.q 21 .nil)))))))))))))))))))))))))) (.s (.s .r (.c (.s .r .r) .r)) (.s (.x [0, 1, 0, 0, 12, 28, 0, 127] (.q 0 (.q 1 (.q 2 (.q 3 (.q 4 (.q 5 (.q 6 (.l 7 127 .nil))))))))) .r))))) .r))))) (.j [] 618365556732882822862209024 (.s .r (.c .r .r)) (.s .r (.s .r .r))))))) [g0, l1, order2, from3] w K = L91 g0 l1 order2 from3 w K := by kernel_rfl
  exact xfun_sound (an := (.s .r (.s .r (.s .r (.s (.s .r (.b (.l [12] 604462909807280227676672 (.s (.s .r (.c .r .r)) (.s (.b (.j [] 1123700883587072 (.s .r (.c .r .r)) (.s (.d [13, 14, 15] 147572826689769627648 [0, 1, 3, 7, 0, 0, 0, 0, 192, 448, 992, 2016, 4095, 8191, 16383, 16383, 16383, 0, 0, 425983, 983039, 2097151] (.q 0 (.q 1 (.q 2 (.q 3 (.q 4 (.q 5 (.q 6 (.q 7 (.q 8 (.q 9 (.q 10 (.q 11 (.alt (.l 12 4095 (.q 13 (.q 14 (.q 15 (.q 16 (.alt (.l 17 0 (.l 18 0 (.l 19 425983 (.l 20 983039 (.q 21 .nil))))) (.l 18 0 (.l 17 0 (.l 19 425983 (.l 20 983039 (.q 21 .nil))))))))))) (.alt (.l 17 0 (.alt (.l 12 4095 (.q 13 (.q 14 (.q 15 (.q 16 (.l 18 0 (.l 19 425983 (.l 20 983039 (.q 21 .nil))))))))) (.l 18 0 (.l 12 4095 (.q 13 (.q 14 (.q 15 (.q 16 (.l 19 425983 (.l 20 983039 (.q 21 .nil))))))))))) (.l 18 0 (.alt (.l 12 4095 (.q 13 (.q 14 (.q 15 (.q 16 (.l 17 0 (.l 19 425983 (.l 20 983039 (.q 21 .nil))))))))) (.l 17 0 (.l 12 4095 (.q 13 (.q 14 (.q 15 (.q 16 (.l 19 425983 (.l 20 983039 (.q 21 .nil)))))))))))))))))))))))))) (.s (.s .r (.c (.s .r .r) .r)) (.s (.x [0, 1, 0, 0, 12, 28, 0, 127] (.q 0 (.q 1 (.q 2 (.q 3 (.q 4 (.q 5 (.q 6 (.l 7 127 .nil))))))))) .r))))) .r))))) (.j [] 618365556732882822862209024 (.s .r (.c .r .r)) (.s .r (.s .r .r)))))))) Tryz.func91 mixed (by kernel_rfl) (by simp only [Tryz.ntmps91, List.length_cons, List.length_nil]; omega) (by rw [e]; exact h)
/-- (*recost.Engine).adjust -/
def L92 (g0 r1 : Value) (w : World) (K : Value → World → Prop) : Prop :=
 l_new 145 (r1 : Value).cells w fun r3 W1 =>
 onSome (q_nil g0) fun t11 =>
 onSome (q_faddr 2 t11) fun t12 =>
 onSome (q_load1 t12 W1) fun t13 =>
 onSome (q_len t13) fun t14 =>
 looping fun (I : Value → Value → World → Prop) (μ : Value → Value → World → Nat) => I (.slice none 0 0) (.int .i64 0) W1 ∧
 ∀ (out5 t15 : Value) (W2 : World), I out5 t15 W2 → ∀ _ : Env,
 onSome (q_bin .lss t15 t14) fun t16 =>
 xif t16
 (onSome (q_iaddr 4 t13 t15) fun t18 =>
 onSome (q_loadn 4 t18 W2) fun t19 =>
 l_new 43 #[.int .i64 0, .int .i64 0, .int .i64 0, .int .i64 0] W2 fun was7 W3 =>
 l_store 4 was7 t19 W3 fun _ W4 =>
 onSome (q_faddr 0 r3) fun t21 =>
 onSome (q_load1 t21 W4) fun t22 =>
 onSome (q_read Tryz.prog (Instr.lookup 143 t22 t15 true) W4) fun t24 =>
 onSome (q_extract t24 0) fun t25 =>
 onSome (q_extract t24 1) fun t26 =>
 l_new 43 #[.int .i64 0, .int .i64 0, .int .i64 0, .int .i64 0] W4 fun now8 W5 =>
 l_store 4 now8 t25 W5 fun _ W6 =>
 onSome (gateQ true t26 (q_faddr 2 now8)) fun t29 =>
 onSome (gateQ true t26 (q_load1 t29 W6)) fun t30 =>
 onSome (gateQ true t26 (q_faddr 2 was7)) fun t31 =>
 onSome (gateQ true t26 (q_load1 t31 W6)) fun t32 =>
 onSome (gateQ true t26 (q_bin .neq t30 t32)) fun t33 =>
 onSome (gateQ true t26 (some t33)) fun t34 =>
 onSome (gateQ false t34 (q_faddr 3 now8)) fun t35 =>
 onSome (gateQ false t34 (q_load1 t35 W6)) fun t36 =>
 onSome (gateQ false t34 (q_faddr 3 was7)) fun t37 =>
 onSome (gateQ false t34 (q_load1 t37 W6)) fun t38 =>
 onSome (gateQ false t34 (q_bin .neq t36 t38)) fun t39 =>
 onSome (gateQ true t26 (q_pick t34 (.bool true) t39)) fun t40 =>
 onSome (q_pick t26 t40 (.bool false)) fun t41 =>
 xif t41
 (onSome (q_faddr 0 was7) fun t43 =>
 onSome (q_load1 t43 W6) fun t44 =>
 onSome (q_faddr 2 now8) fun t45 =>
 onSome (q_load1 t45 W6) fun t46 =>
 onSome (q_faddr 2 was7) fun t47 =>
 onSome (q_load1 t47 W6) fun t48 =>
 onSome (q_bin .sub t46 t48) fun t49 =>
 onSome (q_faddr 3 now8) fun t50 =>
 onSome (q_load1 t50 W6) fun t51 =>
 onSome (q_faddr 3 was7) fun t52 =>
 onSome (q_load1 t52 W6) fun t53 =>
 onSome (q_bin .sub t51 t53) fun t54 =>
 onSome (q_build #[.int .i64 0, .int .i64 0, .int .i64 0] [(0, 1, t44), (1, 1, t49), (2, 1, t54)]) fun t55 =>
 l_lit 72 1 #[.int .i64 0, .int .i64 0, .int .i64 0] [(0, 3, t55)] W6 fun t56 W7 =>
 l_append Tryz.prog #[68, 68] 68 out5 t56 W7 fun t57 W8 =>
 onSome (q_bin .add t15 (.int .i64 1)) fun t58 =>
 I t57 t58 W8 ∧ μ t57 t58 W8 < μ out5 t15 W2)
 (onSome (q_bin .add t15 (.int .i64 1)) fun t58_1 =>
 I out5 t58_1 W6 ∧ μ out5 t58_1 W6 < μ out5 t15 W2))
 (K out5 W2)
theorem lift92 {g0 r1 : Value} {w : World} {K : Value → World → Prop} (h : L92 g0 r1 w K) : Ret Tryz.prog 92 [g0, r1] w K := by
  have e : xfun Tryz.prog Tryz.f92 (.s .r (.s .r (.s (.s .r (.b (.l [5, 15] 576460752303391712 (.s .r (.s (.c .r .r) (.s (.b (.s .r (.s .r (.s .r (.c .r .r))))) .r)))))) (.s .r .r)))) [g0, r1] w K = L92 g0 r1 w K := by kernel_rfl
  exact xfun_sound (an := (.s .r (.s .r (.s (.s .r (.b (.l [5, 15] 576460752303391712 (.s .r (.s (.c .r .r) (.s (.b (.s .r (.s .r (.s .r (.c .r .r))))) .r)))))) (.s .r .r))))) Tryz.func92 mixed (by kernel_rfl) (by simp only [Tryz.ntmps92, List.length_cons, List.length_nil]; omega) (by rw [e]; exact h)
/-- moves.refer -/
def L137 (earlier0 m1 back2 : Value) (w : World) (K : Value → World → Prop) : Prop :=
 l_new 47 (m1 : Value).cells w fun m4 W1 =>
 onSome (q_faddr 7 m4) fun t9 =>
 onSome (q_load1 t9 W1) fun t10 =>
 onSome (q_len earlier0) fun t12 =>
 onSome (q_bin .gtr t10 t12) fun t13 =>
 xif t13
 (K (.int .i64 28) W1)
 (onSome (q_faddr 7 m4) fun t15 =>
 onSome (q_load1 t15 W1) fun t16 =>
 onSome (q_bin .sub t16 (.int .i64 1)) fun t17 =>
 onSome (q_iaddr 8 earlier0 t17) fun t18 =>
 onSome (q_loadn 8 t18 W1) fun t19 =>
 l_new 47 #[.int .i64 0, .int .i64 0, .string ⟨#[]⟩, .int .i64 0, .int .i64 0, .int .i64 0, .string ⟨#[]⟩, .int .i64 0] W1 fun x7 W2 =>
 l_store 8 x7 t19 W2 fun _ W3 =>
 onSome (q_faddr 2 x7) fun t20 =>
 onSome (q_load1 t20 W3.drew) fun t21 =>
 onSome (q_faddr 2 m4) fun t22 =>
 onSome (q_load1 t22 W3.drew) fun t23 =>
 onSome (q_bin .neq t21 t23) fun t24 =>
 onSome (gateQ false t24 (q_faddr 3 x7)) fun t26 =>
 onSome (gateQ false t24 (q_load1 t26 W3.drew)) fun t27 =>
 onSome (gateQ false t24 (q_faddr 3 m4)) fun t28 =>
 onSome (gateQ false t24 (q_load1 t28 W3.drew)) fun t29 =>
 gateL false t24 (fun K => Ret Tryz.prog 186 [t29] W3.drew K) W3.drew fun t30 W4 =>
 ob (gateQ false t24 (q_load1 t26 W4) = some t27) (
 onSome (gateQ false t24 (q_bin .neq t27 t30)) fun t31 =>
 onSome (q_pick t24 (.bool true) t31) fun t32 =>
 xif t32
 (K (.int .i64 28) W4)
 (onSome (q_faddr 1 m4) fun t33 =>
 onSome (q_load1 t33 W4) fun t34 =>
 onSome (q_faddr 1 x7) fun t35 =>
 onSome (q_load1 t35 W4) fun t36 =>
 onSome (q_bin .lss t34 t36) fun t37 =>
 xif t37
 (K (.int .i64 17) W4)
 (onSome (q_faddr 3 m4) fun t38 =>
 onSome (q_load1 t38 W4) fun t39 =>
 onSome (q_faddr 7 m4) fun t40 =>
 onSome (q_load1 t40 W4) fun t41 =>
 onSome (q_build #[.int .i64 0, .int .i64 0] [(0, 1, t39), (1, 1, t41)]) fun t42 =>
 l_new 205 #[.int .i64 0, .int .i64 0] W4 fun k8 W5 =>
 l_store 2 k8 t42 W5 fun _ W6 =>
 onSome (q_loadn 2 k8 W6.drew) fun t44 =>
 onSome (q_read Tryz.prog (Instr.lookup 169 back2 t44 false) W6.drew) fun t45 =>
 onSome (q_faddr 4 m4) fun t46 =>
 onSome (q_load1 t46 W6.drew) fun t47 =>
 onSome (q_bin .add t45 t47) fun t48 =>
 l_run Tryz.prog (Instr.mapEntry 169 back2 t44) W6.drew fun t49 W7 =>
 ob (q_read Tryz.prog (Instr.lookup 169 back2 t44 false) W7 = some t45) (
 onSome (q_extract t49 1) fun t50 =>
 l_runU Tryz.prog (Instr.entryStore 169 back2 t50 t48) W7 fun _ W8 =>
 onSome (q_loadn 2 k8 W8.drew) fun t52 =>
 onSome (q_read Tryz.prog (Instr.lookup 169 back2 t52 false) W8.drew) fun t53 =>
 onSome (q_faddr 4 x7) fun t54 =>
 onSome (q_load1 t54 W8.drew) fun t55 =>
 onSome (q_bin .gtr t53 t55) fun t56 =>
 xif t56
 (K (.int .i64 21) W8.drew)
 (K (.int .i64 0) W8.drew))))))
theorem lift137 {earlier0 m1 back2 : Value} {w : World} {K : Value → World → Prop} (h : L137 earlier0 m1 back2 w K) : Ret Tryz.prog 137 [earlier0, m1, back2] w K := by
  have e : xfun Tryz.prog Tryz.f137 (.s .r (.s (.s .r (.c (.s .r .r) .r)) (.s .r (.s (.s (.x [0, 1, 0, 4, 15, 31, 63, 127, 63, 319, 831, 2047, 4095] (.q 0 (.q 1 (.q 2 (.q 3 (.q 4 (.q 5 (.q 6 (.q 7 (.q 8 (.q 9 (.l 10 831 (.q 11 (.q 12 .nil)))))))))))))) (.c (.s .r .r) .r)) (.s (.s .r (.c (.s .r .r) .r)) (.s .r (.s (.x [0, 0, 3, 0, 8, 31, 27, 91, 255] (.q 0 (.q 1 (.q 2 (.q 3 (.q 4 (.q 5 (.l 6 27 (.q 7 (.l 8 255 .nil)))))))))) (.s (.s (.x [0, 0, 3, 0, 8, 31] (.q 0 (.q 1 (.q 2 (.q 3 (.q 4 (.q 5 .nil))))))) (.c (.s .r .r) .r)) (.s .r .r))))))))) [earlier0, m1, back2] w K = L137 earlier0 m1 back2 w K := by kernel_rfl
  exact xfun_sound (an := (.s .r (.s (.s .r (.c (.s .r .r) .r)) (.s .r (.s (.s (.x [0, 1, 0, 4, 15, 31, 63, 127, 63, 319, 831, 2047, 4095] (.q 0 (.q 1 (.q 2 (.q 3 (.q 4 (.q 5 (.q 6 (.q 7 (.q 8 (.q 9 (.l 10 831 (.q 11 (.q 12 .nil)))))))))))))) (.c (.s .r .r) .r)) (.s (.s .r (.c (.s .r .r) .r)) (.s .r (.s (.x [0, 0, 3, 0, 8, 31, 27, 91, 255] (.q 0 (.q 1 (.q 2 (.q 3 (.q 4 (.q 5 (.l 6 27 (.q 7 (.l 8 255 .nil)))))))))) (.s (.s (.x [0, 0, 3, 0, 8, 31] (.q 0 (.q 1 (.q 2 (.q 3 (.q 4 (.q 5 .nil))))))) (.c (.s .r .r) .r)) (.s .r .r)))))))))) Tryz.func137 mixed (by kernel_rfl) (by simp only [Tryz.ntmps137, List.length_cons, List.length_nil]; omega) (by rw [e]; exact h)
/-- slices.BinarySearchFunc[[]int,int,int] -/
def L138 (x0 target1 cmp2 : Value) (w : World) (K : Value → World → Prop) : Prop :=
 onSome (q_len x0) fun t13 =>
 looping fun (I : Value → Value → World → Prop) (μ : Value → Value → World → Nat) => I (.int .i64 0) t13 w ∧
 ∀ (i9 j10 : Value) (W1 : World), I i9 j10 W1 → ∀ _ : Env,
 onSome (q_bin .lss i9 j10) fun t17 =>
 xif t17
 (onSome (q_bin .add i9 j10) fun t20 =>
 onSome (q_toint .u64 t20) fun t21 =>
 onSome (q_bin .shr t21 (.int .u64 1)) fun t22 =>
 onSome (q_toint .i64 t22) fun t23 =>
 onSome (q_iaddr 1 x0 t23) fun t27 =>
 onSome (q_load1 t27 W1) fun t28 =>
 l_callv Tryz.prog cmp2 [t28, target1] W1 fun t30 W2 =>
 onSome (q_bin .lss t30 (.int .i64 0)) fun t31 =>
 xif t31
 (onSome (q_bin .add t23 (.int .i64 1)) fun t33 =>
 I t33 j10 W2 ∧ μ t33 j10 W2 < μ i9 j10 W1)
 (I i9 t23 W2 ∧ μ i9 t23 W2 < μ i9 j10 W1))
 (onSome (q_bin .lss i9 t13) fun t38 =>
 onSome (gateQ true t38 (some cmp2)) fun t40 =>
 onSome (gateQ true t38 (some x0)) fun t41 =>
 onSome (gateQ true t38 (some i9)) fun t42 =>
 onSome (gateQ true t38 (q_iaddr 1 t41 t42)) fun t43 =>
 onSome (gateQ true t38 (q_load1 t43 W1)) fun t44 =>
 onSome (gateQ true t38 (some target1)) fun t45 =>
 gateL true t38 (fun K => l_callv Tryz.prog t40 [t44, t45] W1 K) W1 fun t46 W3 =>
 onSome (gateQ true t38 (q_bin .eql t46 (.int .i64 0))) fun t47 =>
 onSome (q_pick t38 t47 (.bool false)) fun t48 =>
 K (.tuple #[i9, t48]) W3)
theorem lift138 {x0 target1 cmp2 : Value} {w : World} {K : Value → World → Prop} (h : L138 x0 target1 cmp2 w K) : Ret Tryz.prog 138 [x0, target1, cmp2] w K := by
  have e : xfun Tryz.prog Tryz.f138 (.s .r (.s .r (.s .r (.s (.b (.l [9, 10] 34359709184 (.s (.s .r (.c .r .r)) (.b (.s .r (.s .r (.c .r .r))))))) (.s .r .r))))) [x0, target1, cmp2] w K = L138 x0 target1 cmp2 w K := by kernel_rfl
  exact xfun_sound (an := (.s .r (.s .r (.s .r (.s (.b (.l [9, 10] 34359709184 (.s (.s .r (.c .r .r)) (.b (.s .r (.s .r (.c .r .r))))))) (.s .r .r)))))) Tryz.func138 mixed (by kernel_rfl) (by simp only [Tryz.ntmps138, List.length_cons, List.length_nil]; omega) (by rw [e]; exact h)
/-- (*recost.Engine).place$1 -/
def L139 (i0 v1 a2 : Value) (w : World) (K : Value → World → Prop) : Prop :=
 onSome (q_load1 a2 w) fun t6 =>
 onSome (q_nil t6) fun t7 =>
 onSome (q_faddr 1 t7) fun t8 =>
 onSome (q_load1 t8 w) fun t9 =>
 onSome (q_iaddr 8 t9 i0) fun t11 =>
 onSome (q_faddr 1 t11) fun t12 =>
 onSome (q_load1 t12 w) fun t13 =>
 onSome (q_bin .leq t13 v1) fun t15 =>
 xif t15
 (K (.int .i64 (-1)) w)
 (K (.int .i64 1) w)
theorem lift139 {i0 v1 a2 : Value} {w : World} {K : Value → World → Prop} (h : L139 i0 v1 a2 w K) : Ret Tryz.prog 139 [i0, v1, a2] w K := by
  have e : xfun Tryz.prog Tryz.f139 (.s .r (.s (.s .r (.c (.s .r .r) .r)) (.s .r .r))) [i0, v1, a2] w K = L139 i0 v1 a2 w K := by kernel_rfl
  exact xfun_sound (an := (.s .r (.s (.s .r (.c (.s .r .r) .r)) (.s .r .r)))) Tryz.func139 mixed (by kernel_rfl) (by simp only [Tryz.ntmps139, List.length_cons, List.length_nil]; omega) (by rw [e]; exact h)
/-- slices.Clone[[]api.Stock,api.Stock] -/
def L142 (s0 : Value) (w : World) (K : Value → World → Prop) : Prop :=
 onSome (q_eq Tryz.prog .eql 107 s0 (.slice none 0 0)) fun t4 =>
 xif t4
 (K (.slice none 0 0) w)
 (l_lit 28 0 #[] [] w fun t5 W1 =>
 l_append Tryz.prog #[107, 107] 107 t5 s0 W1 fun t7 W2 =>
 K t7 W2)
theorem lift142 {s0 : Value} {w : World} {K : Value → World → Prop} (h : L142 s0 w K) : Ret Tryz.prog 142 [s0] w K := by
  have e : xfun Tryz.prog Tryz.f142 (.s .r (.s (.s .r (.c (.s .r .r) .r)) (.s .r .r))) [s0] w K = L142 s0 w K := by kernel_rfl
  exact xfun_sound (an := (.s .r (.s (.s .r (.c (.s .r .r) .r)) (.s .r .r)))) Tryz.func142 mixed (by kernel_rfl) (by simp only [Tryz.ntmps142, List.length_cons, List.length_nil]; omega) (by rw [e]; exact h)
/-- moves.target -/
def L186 (kind0 : Value) (w : World) (K : Value → World → Prop) : Prop :=
 onSome (q_bin .eql kind0 (.int .i64 3)) fun t4 =>
 xif t4
 (K (.int .i64 2) w)
 (K (.int .i64 1) w)
theorem lift186 {kind0 : Value} {w : World} {K : Value → World → Prop} (h : L186 kind0 w K) : Ret Tryz.prog 186 [kind0] w K := by
  have e : xfun Tryz.prog Tryz.f186 (.s .r (.s (.s .r (.c (.s .r .r) .r)) (.s .r .r))) [kind0] w K = L186 kind0 w K := by kernel_rfl
  exact xfun_sound (an := (.s .r (.s (.s .r (.c (.s .r .r) .r)) (.s .r .r)))) Tryz.func186 mixed (by kernel_rfl) (by simp only [Tryz.ntmps186, List.length_cons, List.length_nil]; omega) (by rw [e]; exact h)
end Go.X
