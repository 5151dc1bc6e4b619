/- The lifted forms of Go functions, printed by a program (lift.py); each is held against the loaded program by the kernel. -/
import Derived.Test.YtbglbbmlohfemaaGreatDoorA2
set_option linter.unusedVariables false
set_option linter.unusedSimpArgs false
set_option maxRecDepth 100000
namespace Go.X
open Go.Proofs
/-- accountinglaw38.CostingSteps -/
def L4 (method0 price1 l2 : Value) (w : World) (K : Value → World → Prop) : Prop :=
 Ret Tryz.prog 19 [l2] w fun t18 W1 =>
 xif t18
 (Ret Tryz.prog 20 [] W1 fun t19 W2 =>
 K t19 W2)
 (Ret Tryz.prog 21 [method0, price1] W1 fun t23 W3 =>
 onSome (q_extract t23 0) fun t24 =>
 onSome (q_extract t23 1) fun t25 =>
 l_new 28 #[.int .i64 0, .int .i64 0, .int .i64 0, .slice none 0 0, .slice none 0 0] W3 fun s7 W4 =>
 l_store 5 s7 t24 W4 fun _ W5 =>
 Ret Tryz.prog 23 [method0, price1, l2] W5 fun t30 W6 =>
 onSome (q_extract t30 0) fun t31 =>
 onSome (q_extract t30 1) fun t32 =>
 onSome (q_extract t30 2) fun t33 =>
 onSome (q_extract t30 3) fun t34 =>
 l_new 28 #[.int .i64 0, .int .i64 0, .int .i64 0, .slice none 0 0, .slice none 0 0] W6 fun t9 W7 =>
 l_store 5 t9 t31 W7 fun _ W8 =>
 onSome (q_bin .neq t25 (.int .i64 0)) fun t36 =>
 xif t36
 (onSome (q_bin .eql t34 t25) fun t39 =>
 onSome (gateQ true t39 (some t33)) fun t41 =>
 onSome (gateQ true t39 (q_bin .eql t41 (.int .i64 (-1)))) fun t42 =>
 onSome (q_pick t39 t42 (.bool false)) fun t43 =>
 onSome (gateQ true t43 (some t32)) fun t45 =>
 onSome (gateQ true t43 (q_len t45)) fun t46 =>
 onSome (gateQ true t43 (q_bin .eql t46 (.int .i64 0))) fun t47 =>
 onSome (q_pick t43 t47 (.bool false)) fun t48 =>
 gateL true t48 (fun K => Ret Tryz.prog 20 [] W8 K) W8 fun t50 W9 =>
 onSome (q_pick t48 t50 (.bool false)) fun t51 =>
 K t51 W9)
 (looping fun (I : Value → World → Prop) (μ : Value → World → Nat) => I (.int .i64 0) W8 ∧
 ∀ (i13 : Value) (W10 : World), I i13 W10 → ∀ _ : Env,
 onSome (q_len l2) fun t54 =>
 onSome (q_bin .lss i13 t54) fun t55 =>
 xif t55
 (joining fun (J : Value → Value → Value → World → Prop) => (onSome (q_loadn 5 s7 W10.drew) fun t60 =>
 onSome (q_iaddr 8 l2 i13) fun t63 =>
 onSome (q_loadn 8 t63 W10.drew) fun t64 =>
 (Ret Tryz.prog 27 [method0, t60, t64] W10.drew fun t65 W11 =>
 onSome (q_extract t65 0) fun t66 =>
 onSome (q_extract t65 1) fun t67 =>
 onSome (q_extract t65 2) fun t68 =>
 (l_new 28 #[.int .i64 0, .int .i64 0, .int .i64 0, .slice none 0 0, .slice none 0 0] W11 fun u14 W12 =>
 l_new 43 #[.int .i64 0, .int .i64 0, .int .i64 0, .int .i64 0] W12 fun c15 W13 =>
 l_store 5 u14 t66 W13 fun _ W14 =>
 l_store 4 c15 t67 W14 fun _ W15 =>
 J u14 c15 t68 W15) ∧
 (l_new 43 #[.int .i64 0, .int .i64 0, .int .i64 0, .int .i64 0] W11 fun c15_1 W16 =>
 l_new 28 #[.int .i64 0, .int .i64 0, .int .i64 0, .slice none 0 0, .slice none 0 0] W16 fun u14_1 W17 =>
 l_store 5 u14_1 t66 W17 fun _ W18 =>
 l_store 4 c15_1 t67 W18 fun _ W19 =>
 J u14_1 c15_1 t68 W19)) ∧
 ((l_new 28 #[.int .i64 0, .int .i64 0, .int .i64 0, .slice none 0 0, .slice none 0 0] W10.drew fun u14_2 W20 =>
 ob (q_loadn 8 t63 W20 = some t64) (
 ob (q_loadn 5 s7 W20 = some t60) (
 (Ret Tryz.prog 27 [method0, t60, t64] W20 fun t65_1 W21 =>
 onSome (q_extract t65_1 0) fun t66_1 =>
 onSome (q_extract t65_1 1) fun t67_1 =>
 onSome (q_extract t65_1 2) fun t68_1 =>
 l_new 43 #[.int .i64 0, .int .i64 0, .int .i64 0, .int .i64 0] W21 fun c15_2 W22 =>
 l_store 5 u14_2 t66_1 W22 fun _ W23 =>
 l_store 4 c15_2 t67_1 W23 fun _ W24 =>
 J u14_2 c15_2 t68_1 W24) ∧
 (l_new 43 #[.int .i64 0, .int .i64 0, .int .i64 0, .int .i64 0] W20 fun c15_3 W25 =>
 ob (q_loadn 8 t63 W25 = some t64) (
 ob (q_loadn 5 s7 W25 = some t60) (
 Ret Tryz.prog 27 [method0, t60, t64] W25 fun t65_2 W26 =>
 onSome (q_extract t65_2 0) fun t66_2 =>
 onSome (q_extract t65_2 1) fun t67_2 =>
 onSome (q_extract t65_2 2) fun t68_2 =>
 l_store 5 u14_2 t66_2 W26 fun _ W27 =>
 l_store 4 c15_3 t67_2 W27 fun _ W28 =>
 J u14_2 c15_3 t68_2 W28)))))) ∧
 (l_new 43 #[.int .i64 0, .int .i64 0, .int .i64 0, .int .i64 0] W10.drew fun c15_4 W29 =>
 ob (q_loadn 8 t63 W29 = some t64) (
 ob (q_loadn 5 s7 W29 = some t60) (
 (Ret Tryz.prog 27 [method0, t60, t64] W29 fun t65_3 W30 =>
 onSome (q_extract t65_3 0) fun t66_3 =>
 onSome (q_extract t65_3 1) fun t67_3 =>
 onSome (q_extract t65_3 2) fun t68_3 =>
 l_new 28 #[.int .i64 0, .int .i64 0, .int .i64 0, .slice none 0 0, .slice none 0 0] W30 fun u14_3 W31 =>
 l_store 5 u14_3 t66_3 W31 fun _ W32 =>
 l_store 4 c15_4 t67_3 W32 fun _ W33 =>
 J u14_3 c15_4 t68_3 W33) ∧
 (l_new 28 #[.int .i64 0, .int .i64 0, .int .i64 0, .slice none 0 0, .slice none 0 0] W29 fun u14_4 W34 =>
 ob (q_loadn 8 t63 W34 = some t64) (
 ob (q_loadn 5 s7 W34 = some t60) (
 Ret Tryz.prog 27 [method0, t60, t64] W34 fun t65_4 W35 =>
 onSome (q_extract t65_4 0) fun t66_4 =>
 onSome (q_extract t65_4 1) fun t67_4 =>
 onSome (q_extract t65_4 2) fun t68_4 =>
 l_store 5 u14_4 t66_4 W35 fun _ W36 =>
 l_store 4 c15_4 t67_4 W36 fun _ W37 =>
 J u14_4 c15_4 t68_4 W37)))))))) ∧
 ∀ (u14_5 c15_5 g16 : Value) (W38 : World), J u14_5 c15_5 g16 W38 → ∀ _ : Env,
 onSome (q_bin .neq g16 (.int .i64 0)) fun t70 =>
 xif t70
 (onSome (q_bin .eql t34 g16) fun t73 =>
 onSome (gateQ true t73 (some t33)) fun t75 =>
 onSome (gateQ true t73 (some i13)) fun t76 =>
 onSome (gateQ true t73 (q_bin .eql t75 t76)) fun t77 =>
 onSome (q_pick t73 t77 (.bool false)) fun t78 =>
 onSome (gateQ true t78 (some t32)) fun t80 =>
 onSome (gateQ true t78 (q_len t80)) fun t81 =>
 onSome (gateQ true t78 (q_bin .eql t81 (.int .i64 0))) fun t82 =>
 onSome (q_pick t78 t82 (.bool false)) fun t83 =>
 onSome (gateQ true t83 (q_faddr 0 t9)) fun t85 =>
 onSome (gateQ true t83 (q_load1 t85 W38)) fun t86 =>
 onSome (gateQ true t83 (q_bin .eql t86 (.int .i64 0))) fun t87 =>
 onSome (q_pick t83 t87 (.bool false)) fun t88 =>
 onSome (gateQ true t88 (q_faddr 1 t9)) fun t90 =>
 onSome (gateQ true t88 (q_load1 t90 W38)) fun t91 =>
 onSome (gateQ true t88 (q_bin .eql t91 (.int .i64 0))) fun t92 =>
 onSome (q_pick t88 t92 (.bool false)) fun t93 =>
 gateL true t93 (fun K => Ret Tryz.prog 20 [] W38 K) W38 fun t95 W39 =>
 onSome (q_pick t93 t95 (.bool false)) fun t96 =>
 K t96 W39)
 (onSome (q_bin .eql t34 (.int .i64 0)) fun t98 =>
 onSome (gateQ true t98 (some i13)) fun t100 =>
 onSome (gateQ true t98 (some t32)) fun t101 =>
 onSome (gateQ true t98 (q_len t101)) fun t102 =>
 onSome (gateQ true t98 (q_bin .geq t100 t102)) fun t103 =>
 onSome (gateQ true t98 (some t103)) fun t104 =>
 onSome (gateQ false t104 (some t32)) fun t105 =>
 onSome (gateQ false t104 (some i13)) fun t106 =>
 onSome (gateQ false t104 (q_iaddr 4 t105 t106)) fun t107 =>
 onSome (gateQ false t104 (q_loadn 4 t107 W38.drew)) fun t108 =>
 onSome (gateQ false t104 (q_loadn 4 c15_5 W38.drew)) fun t109 =>
 onSome (gateQ false t104 (q_eq Tryz.prog .neq 43 t108 t109)) fun t110 =>
 onSome (gateQ true t98 (q_pick t104 (.bool true) t110)) fun t111 =>
 onSome (q_pick t98 t111 (.bool false)) fun t112 =>
 xif t112
 (K (.bool false) W38.drew)
 (onSome (q_loadn 5 u14_5 W38.drew) fun t113 =>
 l_store 5 s7 t113 W38.drew fun _ W40 =>
 onSome (q_bin .add i13 (.int .i64 1)) fun t57 =>
 I t57 W40 ∧ μ t57 W40 < μ i13 W10)))
 (onSome (q_bin .eql t34 (.int .i64 0)) fun t115 =>
 onSome (gateQ true t115 (some t33)) fun t117 =>
 onSome (gateQ true t115 (q_bin .eql t117 (.int .i64 (-1)))) fun t118 =>
 onSome (q_pick t115 t118 (.bool false)) fun t119 =>
 onSome (gateQ true t119 (some t32)) fun t121 =>
 onSome (gateQ true t119 (q_len t121)) fun t122 =>
 onSome (gateQ true t119 (some l2)) fun t123 =>
 onSome (gateQ true t119 (q_len t123)) fun t124 =>
 onSome (gateQ true t119 (q_bin .eql t122 t124)) fun t125 =>
 onSome (q_pick t119 t125 (.bool false)) fun t126 =>
 onSome (gateQ true t126 (q_loadn 5 s7 W10)) fun t128 =>
 onSome (gateQ true t126 (q_loadn 5 t9 W10)) fun t129 =>
 gateL true t126 (fun K => Ret Tryz.prog 25 [t128, t129] W10 K) W10 fun t130 W41 =>
 onSome (q_pick t126 t130 (.bool false)) fun t131 =>
 gateL true t131 (fun K => Ret Tryz.prog 20 [] W41 K) W41 fun t133 W42 =>
 onSome (q_pick t131 t133 (.bool false)) fun t134 =>
 K t134 W42)))
theorem lift4 {method0 price1 l2 : Value} {w : World} {K : Value → World → Prop} (h : L4 method0 price1 l2 w K) : Ret Tryz.prog 4 [method0, price1, l2] w K := by
  have e : xfun Tryz.prog Tryz.f4 (.s .r (.s (.s .r (.c (.s .r .r) .r)) (.s .r (.s .r (.s (.s .r (.c (.s .r .r) .r)) (.s (.s .r (.b (.l [13] 20769187434139310509618385689632832 (.s (.s .r (.c .r .r)) (.s (.b (.s (.d [14, 15, 16] 590007579982554054656 [0, 0, 0, 0, 12, 28, 63, 127, 255, 255, 255, 0, 0, 6655, 15359, 32767] (.q 0 (.q 1 (.q 2 (.q 3 (.q 4 (.q 5 (.alt (.l 6 63 (.q 7 (.q 8 (.q 9 (.q 10 (.alt (.l 11 0 (.l 12 0 (.l 13 6655 (.l 14 15359 (.q 15 .nil))))) (.l 12 0 (.l 11 0 (.l 13 6655 (.l 14 15359 (.q 15 .nil))))))))))) (.alt (.l 11 0 (.alt (.l 6 63 (.q 7 (.q 8 (.q 9 (.q 10 (.l 12 0 (.l 13 6655 (.l 14 15359 (.q 15 .nil))))))))) (.l 12 0 (.l 6 63 (.q 7 (.q 8 (.q 9 (.q 10 (.l 13 6655 (.l 14 15359 (.q 15 .nil))))))))))) (.l 12 0 (.alt (.l 6 63 (.q 7 (.q 8 (.q 9 (.q 10 (.l 11 0 (.l 13 6655 (.l 14 15359 (.q 15 .nil))))))))) (.l 11 0 (.l 6 63 (.q 7 (.q 8 (.q 9 (.q 10 (.l 13 6655 (.l 14 15359 (.q 15 .nil)))))))))))))))))))) (.s (.s .r (.c (.s .r .r) .r)) (.s (.s (.x [0, 1, 3, 7, 7, 23, 63, 127, 255, 255, 1023, 2047, 255, 8191, 16383, 32767] (.q 0 (.q 1 (.q 2 (.q 3 (.q 4 (.q 5 (.q 6 (.q 7 (.q 8 (.q 9 (.q 10 (.q 11 (.q 12 (.q 13 (.q 14 (.q 15 .nil))))))))))))))))) (.c (.s .r .r) .r)) .r)))) .r))))) (.s .r .r))))))) [method0, price1, l2] w K = L4 method0 price1 l2 w K := by kernel_rfl
  exact xfun_sound (an := (.s .r (.s (.s .r (.c (.s .r .r) .r)) (.s .r (.s .r (.s (.s .r (.c (.s .r .r) .r)) (.s (.s .r (.b (.l [13] 20769187434139310509618385689632832 (.s (.s .r (.c .r .r)) (.s (.b (.s (.d [14, 15, 16] 590007579982554054656 [0, 0, 0, 0, 12, 28, 63, 127, 255, 255, 255, 0, 0, 6655, 15359, 32767] (.q 0 (.q 1 (.q 2 (.q 3 (.q 4 (.q 5 (.alt (.l 6 63 (.q 7 (.q 8 (.q 9 (.q 10 (.alt (.l 11 0 (.l 12 0 (.l 13 6655 (.l 14 15359 (.q 15 .nil))))) (.l 12 0 (.l 11 0 (.l 13 6655 (.l 14 15359 (.q 15 .nil))))))))))) (.alt (.l 11 0 (.alt (.l 6 63 (.q 7 (.q 8 (.q 9 (.q 10 (.l 12 0 (.l 13 6655 (.l 14 15359 (.q 15 .nil))))))))) (.l 12 0 (.l 6 63 (.q 7 (.q 8 (.q 9 (.q 10 (.l 13 6655 (.l 14 15359 (.q 15 .nil))))))))))) (.l 12 0 (.alt (.l 6 63 (.q 7 (.q 8 (.q 9 (.q 10 (.l 11 0 (.l 13 6655 (.l 14 15359 (.q 15 .nil))))))))) (.l 11 0 (.l 6 63 (.q 7 (.q 8 (.q 9 (.q 10 (.l 13 6655 (.l 14 15359 (.q 15 .nil)))))))))))))))))))) (.s (.s .r (.c (.s .r .r) .r)) (.s (.s (.x [0, 1, 3, 7, 7, 23, 63, 127, 255, 255, 1023, 2047, 255, 8191, 16383, 32767] (.q 0 (.q 1 (.q 2 (.q 3 (.q 4 (.q 5 (.q 6 (.q 7 (.q 8 (.q 9 (.q 10 (.q 11 (.q 12 (.q 13 (.q 14 (.q 15 .nil))))))))))))))))) (.c (.s .r .r) .r)) .r)))) .r))))) (.s .r .r)))))))) Tryz.func4 mixed (by kernel_rfl) (by simp only [Tryz.ntmps4, List.length_cons, List.length_nil]; omega) (by rw [e]; exact h)
/-- accountinglaw38.CostingConserves -/
def L5 (method0 price1 l2 : Value) (w : World) (K : Value → World → Prop) : Prop :=
 Ret Tryz.prog 19 [l2] w fun t15 W1 =>
 xif t15
 (Ret Tryz.prog 20 [] W1 fun t16 W2 =>
 K t16 W2)
 (Ret Tryz.prog 23 [method0, price1, l2] W1 fun t21 W3 =>
 onSome (q_extract t21 0) fun t22 =>
 onSome (q_extract t21 1) fun t23 =>
 onSome (q_extract t21 2) fun t24 =>
 onSome (q_extract t21 3) fun t25 =>
 l_new 28 #[.int .i64 0, .int .i64 0, .int .i64 0, .slice none 0 0, .slice none 0 0] W3 fun s7 W4 =>
 l_store 5 s7 t22 W4 fun _ W5 =>
 onSome (q_bin .neq t25 (.int .i64 0)) fun t27 =>
 xif t27
 (onSome (q_len t23) fun t29 =>
 onSome (q_bin .eql t29 (.int .i64 0)) fun t30 =>
 gateL true t30 (fun K => Ret Tryz.prog 20 [] W5 K) W5 fun t32 W6 =>
 onSome (q_pick t30 t32 (.bool false)) fun t33 =>
 K t33 W6)
 (looping fun (I : Value → Value → Value → World → Prop) (μ : Value → Value → Value → World → Nat) => I (.int .i64 0) (.int .i64 0) (.int .i64 0) W5 ∧
 ∀ (q11 v12 i13 : Value) (W7 : World), I q11 v12 i13 W7 → ∀ _ : Env,
 onSome (q_len t23) fun t36 =>
 onSome (q_bin .lss i13 t36) fun t37 =>
 xif t37
 (onSome (q_iaddr 4 t23 i13) fun t43 =>
 onSome (q_faddr 1 t43) fun t44 =>
 onSome (q_load1 t44 W7.drew) fun t45 =>
 onSome (q_bin .add q11 t45) fun t46 =>
 onSome (q_iaddr 4 t23 i13) fun t50 =>
 onSome (q_faddr 2 t50) fun t51 =>
 onSome (q_load1 t51 W7.drew) fun t52 =>
 onSome (q_bin .add v12 t52) fun t53 =>
 onSome (q_bin .add i13 (.int .i64 1)) fun t39 =>
 I t46 t53 t39 W7.drew ∧ μ t46 t53 t39 W7.drew < μ q11 v12 i13 W7)
 (onSome (q_faddr 0 s7) fun t54 =>
 onSome (q_load1 t54 W7) fun t55 =>
 onSome (q_bin .eql t55 q11) fun t57 =>
 onSome (gateQ true t57 (q_faddr 1 s7)) fun t59 =>
 onSome (gateQ true t57 (q_load1 t59 W7)) fun t60 =>
 onSome (gateQ true t57 (some v12)) fun t61 =>
 onSome (gateQ true t57 (q_bin .eql t60 t61)) fun t62 =>
 onSome (q_pick t57 t62 (.bool false)) fun t63 =>
 gateL true t63 (fun K => Ret Tryz.prog 20 [] W7 K) W7 fun t65 W8 =>
 onSome (q_pick t63 t65 (.bool false)) fun t66 =>
 K t66 W8)))
theorem lift5 {method0 price1 l2 : Value} {w : World} {K : Value → World → Prop} (h : L5 method0 price1 l2 w K) : Ret Tryz.prog 5 [method0, price1, l2] w K := by
  have e : xfun Tryz.prog Tryz.f5 (.s .r (.s (.s .r (.c (.s .r .r) .r)) (.s .r (.s (.s .r (.c (.s .r .r) .r)) (.s .r (.s (.s .r (.b (.l [11, 12, 13] 18014381329627136 (.s (.s .r (.c .r .r)) (.s (.b (.x [0, 0, 0, 6, 14, 30, 63, 0, 0, 0, 768, 1792, 3840, 8064, 127, 32767] (.q 0 (.q 1 (.q 2 (.q 3 (.q 4 (.q 5 (.q 6 (.q 7 (.q 8 (.q 9 (.q 10 (.q 11 (.q 12 (.q 13 (.q 14 (.q 15 .nil)))))))))))))))))) .r))))) (.s .r .r))))))) [method0, price1, l2] w K = L5 method0 price1 l2 w K := by kernel_rfl
  exact xfun_sound (an := (.s .r (.s (.s .r (.c (.s .r .r) .r)) (.s .r (.s (.s .r (.c (.s .r .r) .r)) (.s .r (.s (.s .r (.b (.l [11, 12, 13] 18014381329627136 (.s (.s .r (.c .r .r)) (.s (.b (.x [0, 0, 0, 6, 14, 30, 63, 0, 0, 0, 768, 1792, 3840, 8064, 127, 32767] (.q 0 (.q 1 (.q 2 (.q 3 (.q 4 (.q 5 (.q 6 (.q 7 (.q 8 (.q 9 (.q 10 (.q 11 (.q 12 (.q 13 (.q 14 (.q 15 .nil)))))))))))))))))) .r))))) (.s .r .r)))))))) Tryz.func5 mixed (by kernel_rfl) (by simp only [Tryz.ntmps5, List.length_cons, List.length_nil]; omega) (by rw [e]; exact h)
/-- accountinglaw38.CostingEach -/
def L6 (method0 price1 l2 : Value) (w : World) (K : Value → World → Prop) : Prop :=
 Ret Tryz.prog 19 [l2] w fun t14 W1 =>
 xif t14
 (Ret Tryz.prog 20 [] W1 fun t15 W2 =>
 K t15 W2)
 (Ret Tryz.prog 23 [method0, price1, l2] W1 fun t20 W3 =>
 onSome (q_extract t20 0) fun t21 =>
 onSome (q_extract t20 1) fun t22 =>
 onSome (q_extract t20 2) fun t23 =>
 onSome (q_extract t20 3) fun t24 =>
 l_new 28 #[.int .i64 0, .int .i64 0, .int .i64 0, .slice none 0 0, .slice none 0 0] W3 fun t7 W4 =>
 l_store 5 t7 t21 W4 fun _ W5 =>
 onSome (q_bin .neq t24 (.int .i64 0)) fun t26 =>
 xif t26
 (Ret Tryz.prog 20 [] W5 fun t27 W6 =>
 K t27 W6)
 (onSome (q_len t22) fun t29 =>
 onSome (q_len l2) fun t31 =>
 onSome (q_bin .neq t29 t31) fun t32 =>
 xif t32
 (K (.bool false) W5)
 (looping fun (I : Value → World → Prop) (μ : Value → World → Nat) => I (.int .i64 0) W5 ∧
 ∀ (i11 : Value) (W7 : World), I i11 W7 → ∀ _ : Env,
 onSome (q_len l2) fun t35 =>
 onSome (q_bin .lss i11 t35) fun t36 =>
 xif t36
 (joining fun (J : World → Prop) => (onSome (q_iaddr 4 t22 i11) fun t41 =>
 onSome (q_faddr 2 t41) fun t42 =>
 onSome (q_load1 t42 W7.drew) fun t43 =>
 onSome (q_iaddr 4 t22 i11) fun t46 =>
 onSome (q_faddr 3 t46) fun t47 =>
 onSome (q_load1 t47 W7.drew) fun t48 =>
 onSome (q_bin .add t43 t48) fun t49 =>
 onSome (q_iaddr 8 l2 i11) fun t52 =>
 onSome (q_faddr 3 t52) fun t53 =>
 onSome (q_load1 t53 W7.drew) fun t54 =>
 joining fun (J1 : Value → World → Prop) => (onSome (q_bin .eql t54 (.int .i64 1)) fun t56 =>
 xif t56
 (J1 t56 W7.drew)
 (onSome (q_bin .eql t54 (.int .i64 5)) fun t57 =>
 J1 t57 W7.drew)) ∧
 ∀ (t55 : Value) (W8 : World), J1 t55 W8 → ∀ _ : Env,
 xif t55
 (onSome (q_iaddr 8 l2 i11) fun t61 =>
 onSome (q_faddr 5 t61) fun t62 =>
 onSome (q_load1 t62 W8) fun t63 =>
 onSome (q_bin .neq t49 t63) fun t64 =>
 xif t64
 (K (.bool false) W8)
 (J W8))
 (onSome (q_bin .eql t54 (.int .i64 4)) fun t66 =>
 xif t66
 (onSome (q_iaddr 8 l2 i11) fun t70 =>
 onSome (q_faddr 5 t70) fun t71 =>
 onSome (q_load1 t71 W8) fun t72 =>
 onSome (q_un .neg t72) fun t73 =>
 onSome (q_bin .neq t49 t73) fun t74 =>
 xif t74
 (K (.bool false) W8)
 (J W8))
 (onSome (q_bin .eql t54 (.int .i64 6)) fun t76 =>
 xif t76
 (onSome (q_bin .neq t49 (.int .i64 0)) fun t78 =>
 xif t78
 (K (.bool false) W8)
 (J W8))
 (onSome (q_bin .eql t54 (.int .i64 2)) fun t80 =>
 xif t80
 (onSome (q_iaddr 4 t22 i11) fun t83 =>
 onSome (q_faddr 3 t83) fun t84 =>
 onSome (q_load1 t84 W8) fun t85 =>
 onSome (q_bin .neq t85 (.int .i64 0)) fun t86 =>
 onSome (gateQ false t86 (some t22)) fun t88 =>
 onSome (gateQ false t86 (some i11)) fun t89 =>
 onSome (gateQ false t86 (q_iaddr 4 t88 t89)) fun t90 =>
 onSome (gateQ false t86 (q_faddr 2 t90)) fun t91 =>
 onSome (gateQ false t86 (q_load1 t91 W8)) fun t92 =>
 onSome (gateQ false t86 (q_bin .gtr t92 (.int .i64 0))) fun t93 =>
 onSome (q_pick t86 (.bool true) t93) fun t94 =>
 xif t94
 (K (.bool false) W8)
 (J W8))
 (J W8))))) ∧
 ∀ (W9 : World), J W9 → ∀ _ : Env,
 onSome (q_bin .add i11 (.int .i64 1)) fun t38 =>
 I t38 W9 ∧ μ t38 W9 < μ i11 W7)
 (Ret Tryz.prog 20 [] W7 fun t95 W10 =>
 K t95 W10))))
theorem lift6 {method0 price1 l2 : Value} {w : World} {K : Value → World → Prop} (h : L6 method0 price1 l2 w K) : Ret Tryz.prog 6 [method0, price1, l2] w K := by
  have e : xfun Tryz.prog Tryz.f6 (.s .r (.s (.s .r (.c (.s .r .r) .r)) (.s .r (.s (.s .r (.c (.s .r .r) .r)) (.s (.s .r (.c (.s .r .r) .r)) (.s (.s .r (.b (.l [11] 39614081257132168788182046784 (.s (.s .r (.c .r .r)) (.j [] 39614081257132168247016165440 (.b (.s (.x [0, 0, 3, 7, 15, 0, 0, 96, 224, 480, 1023, 2047] (.q 0 (.q 1 (.q 2 (.q 3 (.q 4 (.q 5 (.q 6 (.q 7 (.q 8 (.q 9 (.q 10 (.q 11 .nil))))))))))))) (.s .r (.b (.j [55] 252201579132747776 (.s .r (.c .r .r)) (.c (.s .r (.c (.s .r .r) .r)) (.s .r (.c (.s .r (.c (.s .r .r) .r)) (.s .r (.c (.s .r (.c (.s .r .r) .r)) (.s .r (.c (.s .r (.c (.s .r .r) .r)) .r)))))))))))) .r))))) (.s .r .r))))))) [method0, price1, l2] w K = L6 method0 price1 l2 w K := by kernel_rfl
  exact xfun_sound (an := (.s .r (.s (.s .r (.c (.s .r .r) .r)) (.s .r (.s (.s .r (.c (.s .r .r) .r)) (.s (.s .r (.c (.s .r .r) .r)) (.s (.s .r (.b (.l [11] 39614081257132168788182046784 (.s (.s .r (.c .r .r)) (.j [] 39614081257132168247016165440 (.b (.s (.x [0, 0, 3, 7, 15, 0, 0, 96, 224, 480, 1023, 2047] (.q 0 (.q 1 (.q 2 (.q 3 (.q 4 (.q 5 (.q 6 (.q 7 (.q 8 (.q 9 (.q 10 (.q 11 .nil))))))))))))) (.s .r (.b (.j [55] 252201579132747776 (.s .r (.c .r .r)) (.c (.s .r (.c (.s .r .r) .r)) (.s .r (.c (.s .r (.c (.s .r .r) .r)) (.s .r (.c (.s .r (.c (.s .r .r) .r)) (.s .r (.c (.s .r (.c (.s .r .r) .r)) .r)))))))))))) .r))))) (.s .r .r)))))))) Tryz.func6 mixed (by kernel_rfl) (by simp only [Tryz.ntmps6, List.length_cons, List.length_nil]; omega) (by rw [e]; exact h)
/-- accountinglaw38.CostingReturns -/
def L7 (method0 price1 l2 : Value) (w : World) (K : Value → World → Prop) : Prop :=
 Ret Tryz.prog 19 [l2] w fun t16 W1 =>
 xif t16
 (Ret Tryz.prog 20 [] W1 fun t17 W2 =>
 K t17 W2)
 (Ret Tryz.prog 23 [method0, price1, l2] W1 fun t22 W3 =>
 onSome (q_extract t22 0) fun t23 =>
 onSome (q_extract t22 1) fun t24 =>
 onSome (q_extract t22 2) fun t25 =>
 onSome (q_extract t22 3) fun t26 =>
 l_new 28 #[.int .i64 0, .int .i64 0, .int .i64 0, .slice none 0 0, .slice none 0 0] W3 fun t7 W4 =>
 l_store 5 t7 t23 W4 fun _ W5 =>
 onSome (q_bin .neq t26 (.int .i64 0)) fun t28 =>
 xif t28
 (Ret Tryz.prog 20 [] W5 fun t29 W6 =>
 K t29 W6)
 (onSome (q_len t24) fun t31 =>
 onSome (q_len l2) fun t33 =>
 onSome (q_bin .neq t31 t33) fun t34 =>
 xif t34
 (K (.bool false) W5)
 (looping fun (I : Value → World → Prop) (μ : Value → World → Nat) => I (.int .i64 0) W5 ∧
 ∀ (i11 : Value) (W7 : World), I i11 W7 → ∀ _ : Env,
 onSome (q_len l2) fun t37 =>
 onSome (q_bin .lss i11 t37) fun t38 =>
 xif t38
 (onSome (q_iaddr 8 l2 i11) fun t43 =>
 onSome (q_faddr 3 t43) fun t44 =>
 onSome (q_load1 t44 W7) fun t45 =>
 onSome (q_bin .neq t45 (.int .i64 2)) fun t46 =>
 xif t46
 (onSome (q_bin .add i11 (.int .i64 1)) fun t40 =>
 I t40 W7 ∧ μ t40 W7 < μ i11 W7)
 (onSome (q_bin .add i11 (.int .i64 1)) fun t48 =>
 looping fun (I1 : Value → Value → Value → World → Prop) (μ1 : Value → Value → Value → World → Nat) => I1 (.int .i64 0) (.int .i64 0) t48 W7 ∧
 ∀ (q12 v13 k14 : Value) (W8 : World), I1 q12 v13 k14 W8 → ∀ _ : Env,
 onSome (q_len l2) fun t51 =>
 onSome (q_bin .lss k14 t51) fun t52 =>
 xif t52
 (onSome (q_iaddr 8 l2 k14) fun t57 =>
 onSome (q_faddr 3 t57) fun t58 =>
 onSome (q_load1 t58 W8.drew) fun t59 =>
 onSome (q_bin .eql t59 (.int .i64 3)) fun t60 =>
 onSome (gateQ true t60 (some l2)) fun t62 =>
 onSome (gateQ true t60 (some k14)) fun t63 =>
 onSome (gateQ true t60 (q_iaddr 8 t62 t63)) fun t64 =>
 onSome (gateQ true t60 (q_faddr 7 t64)) fun t65 =>
 onSome (gateQ true t60 (q_load1 t65 W8.drew)) fun t66 =>
 onSome (gateQ true t60 (some l2)) fun t67 =>
 onSome (gateQ true t60 (some i11)) fun t68 =>
 onSome (gateQ true t60 (q_iaddr 8 t67 t68)) fun t69 =>
 onSome (gateQ true t60 (q_faddr 0 t69)) fun t70 =>
 onSome (gateQ true t60 (q_load1 t70 W8.drew)) fun t71 =>
 onSome (gateQ true t60 (q_bin .eql t66 t71)) fun t72 =>
 onSome (q_pick t60 t72 (.bool false)) fun t73 =>
 xif t73
 (onSome (q_iaddr 8 l2 k14) fun t77 =>
 onSome (q_faddr 4 t77) fun t78 =>
 onSome (q_load1 t78 W8.drew.drew) fun t79 =>
 onSome (q_bin .add q12 t79) fun t80 =>
 onSome (q_iaddr 4 t24 k14) fun t84 =>
 onSome (q_faddr 2 t84) fun t85 =>
 onSome (q_load1 t85 W8.drew.drew) fun t86 =>
 onSome (q_bin .add v13 t86) fun t87 =>
 onSome (q_iaddr 4 t24 k14) fun t90 =>
 onSome (q_faddr 3 t90) fun t91 =>
 onSome (q_load1 t91 W8.drew.drew) fun t92 =>
 onSome (q_bin .add t87 t92) fun t93 =>
 onSome (q_bin .add k14 (.int .i64 1)) fun t54 =>
 I1 t80 t93 t54 W8.drew.drew ∧ μ1 t80 t93 t54 W8.drew.drew < μ1 q12 v13 k14 W8)
 (onSome (q_bin .add k14 (.int .i64 1)) fun t54_1 =>
 I1 q12 v13 t54_1 W8.drew ∧ μ1 q12 v13 t54_1 W8.drew < μ1 q12 v13 k14 W8))
 (onSome (q_iaddr 4 t24 i11) fun t97 =>
 onSome (q_faddr 2 t97) fun t98 =>
 onSome (q_load1 t98 W8) fun t99 =>
 onSome (q_un .neg t99) fun t100 =>
 onSome (q_bin .gtr v13 t100) fun t101 =>
 onSome (gateQ false t101 (some q12)) fun t103 =>
 onSome (gateQ false t101 (some l2)) fun t104 =>
 onSome (gateQ false t101 (some i11)) fun t105 =>
 onSome (gateQ false t101 (q_iaddr 8 t104 t105)) fun t106 =>
 onSome (gateQ false t101 (q_faddr 4 t106)) fun t107 =>
 onSome (gateQ false t101 (q_load1 t107 W8)) fun t108 =>
 onSome (gateQ false t101 (q_bin .gtr t103 t108)) fun t109 =>
 onSome (q_pick t101 (.bool true) t109) fun t110 =>
 onSome (gateQ false t110 (some q12)) fun t112 =>
 onSome (gateQ false t110 (some l2)) fun t113 =>
 onSome (gateQ false t110 (some i11)) fun t114 =>
 onSome (gateQ false t110 (q_iaddr 8 t113 t114)) fun t115 =>
 onSome (gateQ false t110 (q_faddr 4 t115)) fun t116 =>
 onSome (gateQ false t110 (q_load1 t116 W8)) fun t117 =>
 onSome (gateQ false t110 (q_bin .eql t112 t117)) fun t118 =>
 onSome (gateQ false t110 (some t118)) fun t119 =>
 onSome (gateQ true t119 (some v13)) fun t120 =>
 onSome (gateQ true t119 (some t24)) fun t121 =>
 onSome (gateQ true t119 (some i11)) fun t122 =>
 onSome (gateQ true t119 (q_iaddr 4 t121 t122)) fun t123 =>
 onSome (gateQ true t119 (q_faddr 2 t123)) fun t124 =>
 onSome (gateQ true t119 (q_load1 t124 W8)) fun t125 =>
 onSome (gateQ true t119 (q_un .neg t125)) fun t126 =>
 onSome (gateQ true t119 (q_bin .neq t120 t126)) fun t127 =>
 onSome (gateQ false t110 (q_pick t119 t127 (.bool false))) fun t128 =>
 onSome (q_pick t110 (.bool true) t128) fun t129 =>
 xif t129
 (K (.bool false) W8)
 (onSome (q_bin .add i11 (.int .i64 1)) fun t40_1 =>
 I t40_1 W8 ∧ μ t40_1 W8 < μ i11 W7))))
 (Ret Tryz.prog 20 [] W7 fun t130 W9 =>
 K t130 W9))))
theorem lift7 {method0 price1 l2 : Value} {w : World} {K : Value → World → Prop} (h : L7 method0 price1 l2 w K) : Ret Tryz.prog 7 [method0, price1, l2] w K := by
  have e : xfun Tryz.prog Tryz.f7 (.s .r (.s (.s .r (.c (.s .r .r) .r)) (.s .r (.s (.s .r (.c (.s .r .r) .r)) (.s (.s .r (.c (.s .r .r) .r)) (.s (.s .r (.b (.l [11] 1361129467683753853853498429692713138240 (.s (.s .r (.c .r .r)) (.s (.b (.s (.s .r (.c .r .r)) (.s .r (.s (.s .r (.b (.l [12, 13, 14] 19807040628565521448432594944 (.s (.s .r (.c .r .r)) (.s (.b (.s (.x [0, 0, 3, 7, 15, 31, 63, 127, 127, 511, 1023, 2047, 127, 127, 12415, 28799, 61567, 131071, 262143] (.q 0 (.q 1 (.q 2 (.q 3 (.q 4 (.q 5 (.q 6 (.q 7 (.q 8 (.q 9 (.q 10 (.q 11 (.q 12 (.q 13 (.q 14 (.q 15 (.q 16 (.q 17 (.q 18 .nil)))))))))))))))))))) (.c (.x [0, 0, 0, 6, 14, 30, 63, 0, 0, 0, 768, 1792, 3840, 8064, 0, 0, 49152, 114688, 245760, 524160, 127, 2097151] (.q 0 (.q 1 (.q 2 (.q 3 (.q 4 (.q 5 (.q 6 (.q 7 (.q 8 (.q 9 (.q 10 (.q 11 (.q 12 (.q 13 (.q 14 (.q 15 (.q 16 (.q 17 (.q 18 (.q 19 (.q 20 (.q 21 .nil))))))))))))))))))))))) .r))) .r))))) (.s .r (.c (.s .r .r) .r)))))) .r))))) (.s .r .r))))))) [method0, price1, l2] w K = L7 method0 price1 l2 w K := by kernel_rfl
  exact xfun_sound (an := (.s .r (.s (.s .r (.c (.s .r .r) .r)) (.s .r (.s (.s .r (.c (.s .r .r) .r)) (.s (.s .r (.c (.s .r .r) .r)) (.s (.s .r (.b (.l [11] 1361129467683753853853498429692713138240 (.s (.s .r (.c .r .r)) (.s (.b (.s (.s .r (.c .r .r)) (.s .r (.s (.s .r (.b (.l [12, 13, 14] 19807040628565521448432594944 (.s (.s .r (.c .r .r)) (.s (.b (.s (.x [0, 0, 3, 7, 15, 31, 63, 127, 127, 511, 1023, 2047, 127, 127, 12415, 28799, 61567, 131071, 262143] (.q 0 (.q 1 (.q 2 (.q 3 (.q 4 (.q 5 (.q 6 (.q 7 (.q 8 (.q 9 (.q 10 (.q 11 (.q 12 (.q 13 (.q 14 (.q 15 (.q 16 (.q 17 (.q 18 .nil)))))))))))))))))))) (.c (.x [0, 0, 0, 6, 14, 30, 63, 0, 0, 0, 768, 1792, 3840, 8064, 0, 0, 49152, 114688, 245760, 524160, 127, 2097151] (.q 0 (.q 1 (.q 2 (.q 3 (.q 4 (.q 5 (.q 6 (.q 7 (.q 8 (.q 9 (.q 10 (.q 11 (.q 12 (.q 13 (.q 14 (.q 15 (.q 16 (.q 17 (.q 18 (.q 19 (.q 20 (.q 21 .nil))))))))))))))))))))))) .r))) .r))))) (.s .r (.c (.s .r .r) .r)))))) .r))))) (.s .r .r)))))))) Tryz.func7 mixed (by kernel_rfl) (by simp only [Tryz.ntmps7, List.length_cons, List.length_nil]; omega) (by rw [e]; exact h)
/-- accountinglaw38.CostingPrefix -/
def L8 (method0 price1 l2 : Value) (w : World) (K : Value → World → Prop) : Prop :=
 Ret Tryz.prog 19 [l2] w fun t17 W1 =>
 xif t17
 (Ret Tryz.prog 20 [] W1 fun t18 W2 =>
 K t18 W2)
 (Ret Tryz.prog 23 [method0, price1, l2] W1 fun t23 W3 =>
 onSome (q_extract t23 0) fun t24 =>
 onSome (q_extract t23 1) fun t25 =>
 onSome (q_extract t23 2) fun t26 =>
 onSome (q_extract t23 3) fun t27 =>
 l_new 28 #[.int .i64 0, .int .i64 0, .int .i64 0, .slice none 0 0, .slice none 0 0] W3 fun t7 W4 =>
 l_store 5 t7 t24 W4 fun _ W5 =>
 onSome (q_len l2) fun t29 =>
 onSome (q_bin .eql t29 (.int .i64 0)) fun t30 =>
 onSome (gateQ false t30 (some t26)) fun t32 =>
 onSome (gateQ false t30 (q_bin .eql t32 (.int .i64 (-1)))) fun t33 =>
 onSome (gateQ false t30 (some t33)) fun t34 =>
 onSome (gateQ true t34 (some t27)) fun t35 =>
 onSome (gateQ true t34 (q_bin .neq t35 (.int .i64 0))) fun t36 =>
 onSome (gateQ false t30 (q_pick t34 t36 (.bool false))) fun t37 =>
 onSome (q_pick t30 (.bool true) t37) fun t38 =>
 xif t38
 (Ret Tryz.prog 20 [] W5 fun t39 W6 =>
 K t39 W6)
 (onSome (q_len l2) fun t41 =>
 onSome (q_bin .sub t41 (.int .i64 1)) fun t42 =>
 onSome (q_slice Tryz.prog 22 l2 none (some t42) none) fun t48 =>
 Ret Tryz.prog 23 [method0, price1, t48] W5 fun t49 W7 =>
 onSome (q_extract t49 0) fun t50 =>
 onSome (q_extract t49 1) fun t51 =>
 onSome (q_extract t49 2) fun t52 =>
 onSome (q_extract t49 3) fun t53 =>
 l_new 28 #[.int .i64 0, .int .i64 0, .int .i64 0, .slice none 0 0, .slice none 0 0] W7 fun t12 W8 =>
 l_store 5 t12 t50 W8 fun _ W9 =>
 onSome (q_bin .neq t27 (.int .i64 0)) fun t55 =>
 onSome (gateQ true t55 (some t26)) fun t57 =>
 onSome (gateQ true t55 (some t42)) fun t58 =>
 onSome (gateQ true t55 (q_bin .lss t57 t58)) fun t59 =>
 onSome (q_pick t55 t59 (.bool false)) fun t60 =>
 xif t60
 (onSome (q_bin .eql t53 t27) fun t63 =>
 onSome (gateQ true t63 (some t52)) fun t65 =>
 onSome (gateQ true t63 (some t26)) fun t66 =>
 onSome (gateQ true t63 (q_bin .eql t65 t66)) fun t67 =>
 onSome (q_pick t63 t67 (.bool false)) fun t68 =>
 gateL true t68 (fun K => Ret Tryz.prog 20 [] W9 K) W9 fun t70 W10 =>
 onSome (q_pick t68 t70 (.bool false)) fun t71 =>
 K t71 W10)
 (onSome (q_bin .eql t53 (.int .i64 0)) fun t73 =>
 onSome (gateQ true t73 (some t51)) fun t75 =>
 onSome (gateQ true t73 (q_len t75)) fun t76 =>
 onSome (gateQ true t73 (some t42)) fun t77 =>
 onSome (gateQ true t73 (q_bin .eql t76 t77)) fun t78 =>
 onSome (q_pick t73 t78 (.bool false)) fun t79 =>
 onSome (gateQ true t79 (some t27)) fun t81 =>
 onSome (gateQ true t79 (q_bin .neq t81 (.int .i64 0))) fun t82 =>
 onSome (gateQ true t79 (some t82)) fun t83 =>
 onSome (gateQ false t83 (some t25)) fun t84 =>
 onSome (gateQ false t83 (q_len t84)) fun t85 =>
 onSome (gateQ false t83 (some t42)) fun t86 =>
 onSome (gateQ false t83 (q_bin .add t86 (.int .i64 1))) fun t87 =>
 onSome (gateQ false t83 (q_bin .eql t85 t87)) fun t88 =>
 onSome (gateQ false t83 (some t88)) fun t89 =>
 onSome (gateQ true t89 (some t25)) fun t90 =>
 onSome (gateQ true t89 (some t42)) fun t91 =>
 onSome (gateQ true t89 (q_slice Tryz.prog 34 t90 none (some t91) none)) fun t92 =>
 onSome (gateQ true t89 (some t51)) fun t93 =>
 gateL true t89 (fun K => Ret Tryz.prog 26 [t92, t93] W9 K) W9 fun t94 W11 =>
 onSome (gateQ false t83 (q_pick t89 t94 (.bool false))) fun t95 =>
 onSome (gateQ true t79 (q_pick t83 (.bool true) t95)) fun t96 =>
 onSome (q_pick t79 t96 (.bool false)) fun t97 =>
 gateL true t97 (fun K => Ret Tryz.prog 20 [] W11 K) W11 fun t99 W12 =>
 onSome (q_pick t97 t99 (.bool false)) fun t100 =>
 K t100 W12)))
theorem lift8 {method0 price1 l2 : Value} {w : World} {K : Value → World → Prop} (h : L8 method0 price1 l2 w K) : Ret Tryz.prog 8 [method0, price1, l2] w K := by
  have e : xfun Tryz.prog Tryz.f8 (.s .r (.s (.s .r (.c (.s .r .r) .r)) (.s .r (.s (.s .r (.c (.s .r .r) .r)) (.s .r (.s .r (.s (.s .r (.c (.s .r .r) .r)) (.s .r .r)))))))) [method0, price1, l2] w K = L8 method0 price1 l2 w K := by kernel_rfl
  exact xfun_sound (an := (.s .r (.s (.s .r (.c (.s .r .r) .r)) (.s .r (.s (.s .r (.c (.s .r .r) .r)) (.s .r (.s .r (.s (.s .r (.c (.s .r .r) .r)) (.s .r .r))))))))) Tryz.func8 mixed (by kernel_rfl) (by simp only [Tryz.ntmps8, List.length_cons, List.length_nil]; omega) (by rw [e]; exact h)
/-- accountinglaw38.CostingMethods -/
def L10 (l0 m1 other2 : Value) (w : World) (K : Value → World → Prop) : Prop :=
 l_new 47 (m1 : Value).cells w fun m4 W1 =>
 Ret Tryz.prog 19 [l0] W1 fun t22 W2 =>
 onSome (gateQ false t22 (q_loadn 8 m4 W2)) fun t24 =>
 gateL false t22 (fun K => l_lit 47 1 #[.int .i64 0, .int .i64 0, .string ⟨#[]⟩, .int .i64 0, .int .i64 0, .int .i64 0, .string ⟨#[]⟩, .int .i64 0] [(0, 8, t24)] W2 K) W2 fun t25 W3 =>
 gateL false t22 (fun K => Ret Tryz.prog 19 [t25] W3 K) W3 fun t26 W4 =>
 onSome (q_pick t22 (.bool true) t26) fun t27 =>
 xif t27
 (Ret Tryz.prog 20 [] W4 fun t28 W5 =>
 K t28 W5)
 (looping fun (I : Value → World → Prop) (μ : Value → World → Nat) => I (.int .i64 1) W4 ∧
 ∀ (method7 : Value) (W6 : World), I method7 W6 → ∀ _ : Env,
 onSome (q_bin .leq method7 (.int .i64 4)) fun t30 =>
 xif t30
 (Ret Tryz.prog 23 [method7, (.int .i64 7), l0] W6 fun t36 W7 =>
 onSome (q_extract t36 0) fun t37 =>
 onSome (q_extract t36 1) fun t38 =>
 onSome (q_extract t36 2) fun t39 =>
 onSome (q_extract t36 3) fun t40 =>
 l_new 28 #[.int .i64 0, .int .i64 0, .int .i64 0, .slice none 0 0, .slice none 0 0] W7 fun s8 W8 =>
 l_store 5 s8 t37 W8 fun _ W9 =>
 joining fun (J : World → Prop) => (onSome (q_bin .neq t40 (.int .i64 0)) fun t42 =>
 xif t42
 (onSome (q_build #[.int .i64 0, .int .i64 0, .int .i64 0, .slice none 0 0, .slice none 0 0] []) fun t43 =>
 l_store 5 s8 t43 W9 fun _ W10 =>
 J W10)
 (J W9)) ∧
 ∀ (W11 : World), J W11 → ∀ _ : Env,
 onSome (q_loadn 5 s8 W11) fun t46 =>
 onSome (q_loadn 8 m4 W11) fun t47 =>
 Ret Tryz.prog 27 [method7, t46, t47] W11 fun t48 W12 =>
 onSome (q_extract t48 0) fun t49 =>
 onSome (q_extract t48 1) fun t50 =>
 onSome (q_extract t48 2) fun t51 =>
 l_new 28 #[.int .i64 0, .int .i64 0, .int .i64 0, .slice none 0 0, .slice none 0 0] W12 fun a12 W13 =>
 l_new 43 #[.int .i64 0, .int .i64 0, .int .i64 0, .int .i64 0] W13 fun c13 W14 =>
 l_store 5 a12 t49 W14 fun _ W15 =>
 l_store 4 c13 t50 W15 fun _ W16 =>
 onSome (q_loadn 5 s8 W16) fun t53 =>
 onSome (q_loadn 8 m4 W16) fun t54 =>
 Ret Tryz.prog 32 [t53, t54] W16 fun t55 W17 =>
 onSome (q_extract t55 0) fun t56 =>
 onSome (q_extract t55 1) fun t57 =>
 onSome (q_extract t55 2) fun t58 =>
 l_new 28 #[.int .i64 0, .int .i64 0, .int .i64 0, .slice none 0 0, .slice none 0 0] W17 fun b15 W18 =>
 l_new 43 #[.int .i64 0, .int .i64 0, .int .i64 0, .int .i64 0] W18 fun d16 W19 =>
 l_store 5 b15 t56 W19 fun _ W20 =>
 l_store 4 d16 t57 W20 fun _ W21 =>
 joining fun (J1 : Value → World → Prop) => (onSome (q_bin .eql method7 (.int .i64 2)) fun t61 =>
 xif t61
 (onSome (q_loadn 5 s8 W21) fun t63 =>
 onSome (q_loadn 8 m4 W21) fun t64 =>
 Ret Tryz.prog 33 [t63, t64] W21 fun t65 W22 =>
 onSome (q_extract t65 0) fun t66 =>
 onSome (q_extract t65 1) fun t67 =>
 onSome (q_extract t65 2) fun t68 =>
 l_store 5 b15 t66 W22 fun _ W23 =>
 l_store 4 d16 t67 W23 fun _ W24 =>
 J1 t68 W24)
 (onSome (q_bin .eql method7 (.int .i64 3)) fun t70 =>
 xif t70
 (onSome (q_loadn 5 s8 W21) fun t72 =>
 onSome (q_loadn 8 m4 W21) fun t73 =>
 Ret Tryz.prog 34 [t72, t73] W21 fun t74 W25 =>
 onSome (q_extract t74 0) fun t75 =>
 onSome (q_extract t74 1) fun t76 =>
 onSome (q_extract t74 2) fun t77 =>
 l_store 5 b15 t75 W25 fun _ W26 =>
 l_store 4 d16 t76 W26 fun _ W27 =>
 J1 t77 W27)
 (onSome (q_bin .eql method7 (.int .i64 4)) fun t79 =>
 xif t79
 (onSome (q_loadn 5 s8 W21) fun t81 =>
 onSome (q_loadn 8 m4 W21) fun t82 =>
 Ret Tryz.prog 35 [t81, t82] W21 fun t83 W28 =>
 onSome (q_extract t83 0) fun t84 =>
 onSome (q_extract t83 1) fun t85 =>
 onSome (q_extract t83 2) fun t86 =>
 l_store 5 b15 t84 W28 fun _ W29 =>
 l_store 4 d16 t85 W29 fun _ W30 =>
 J1 t86 W30)
 (J1 t58 W21)))) ∧
 ∀ (g17 : Value) (W31 : World), J1 g17 W31 → ∀ _ : Env,
 onSome (q_loadn 4 c13 W31) fun t87 =>
 onSome (q_loadn 4 d16 W31) fun t88 =>
 onSome (q_eq Tryz.prog .neq 43 t87 t88) fun t89 =>
 onSome (gateQ false t89 (some t51)) fun t91 =>
 onSome (gateQ false t89 (some g17)) fun t92 =>
 onSome (gateQ false t89 (q_bin .neq t91 t92)) fun t93 =>
 onSome (q_pick t89 (.bool true) t93) fun t94 =>
 onSome (gateQ false t94 (q_loadn 5 a12 W31)) fun t96 =>
 onSome (gateQ false t94 (q_loadn 5 b15 W31)) fun t97 =>
 gateL false t94 (fun K => Ret Tryz.prog 25 [t96, t97] W31 K) W31 fun t98 W32 =>
 onSome (gateQ false t94 (q_un .not t98)) fun t99 =>
 onSome (q_pick t94 (.bool true) t99) fun t100 =>
 xif t100
 (K (.bool false) W32)
 (onSome (q_bin .add method7 (.int .i64 1)) fun t32 =>
 I t32 W32 ∧ μ t32 W32 < μ method7 W6))
 (onSome (q_build #[.int .i64 0, .int .i64 0, .int .i64 0, .slice none 0 0, .slice none 0 0] []) fun t103 =>
 onSome (q_loadn 8 m4 W6) fun t104 =>
 Ret Tryz.prog 27 [other2, t103, t104] W6 fun t105 W33 =>
 onSome (q_extract t105 0) fun t106 =>
 onSome (q_extract t105 1) fun t107 =>
 onSome (q_extract t105 2) fun t108 =>
 l_new 28 #[.int .i64 0, .int .i64 0, .int .i64 0, .slice none 0 0, .slice none 0 0] W33 fun t18 W34 =>
 l_new 43 #[.int .i64 0, .int .i64 0, .int .i64 0, .int .i64 0] W34 fun c19 W35 =>
 l_store 5 t18 t106 W35 fun _ W36 =>
 l_store 4 c19 t107 W36 fun _ W37 =>
 onSome (q_bin .geq other2 (.int .i64 1)) fun t110 =>
 onSome (gateQ true t110 (some other2)) fun t112 =>
 onSome (gateQ true t110 (q_bin .leq t112 (.int .i64 4))) fun t113 =>
 onSome (q_pick t110 t113 (.bool false)) fun t114 =>
 onSome (gateQ false t114 (some t108)) fun t116 =>
 onSome (gateQ false t114 (q_bin .eql t116 (.int .i64 10))) fun t117 =>
 onSome (gateQ false t114 (some t117)) fun t118 =>
 onSome (gateQ true t118 (q_loadn 4 c19 W37)) fun t119 =>
 onSome (gateQ true t118 (q_build #[.int .i64 0, .int .i64 0, .int .i64 0, .int .i64 0] [])) fun t120 =>
 onSome (gateQ true t118 (q_eq Tryz.prog .eql 43 t119 t120)) fun t121 =>
 onSome (gateQ false t114 (q_pick t118 t121 (.bool false))) fun t122 =>
 onSome (q_pick t114 (.bool true) t122) fun t123 =>
 gateL true t123 (fun K => Ret Tryz.prog 20 [] W37 K) W37 fun t125 W38 =>
 onSome (q_pick t123 t125 (.bool false)) fun t126 =>
 K t126 W38))
theorem lift10 {l0 m1 other2 : Value} {w : World} {K : Value → World → Prop} (h : L10 l0 m1 other2 w K) : Ret Tryz.prog 10 [l0, m1, other2] w K := by
  have e : xfun Tryz.prog Tryz.f10 (.s .r (.s (.s .r (.c (.s .r .r) .r)) (.s (.s .r (.b (.l [7] 2535301200456458802992869801920 (.s (.s .r (.c .r .r)) (.s (.b (.s .r (.j [] 15393162788864 (.s .r (.c .r .r)) (.s .r (.s .r (.j [17] 154742504334211782059098112 (.s .r (.b (.s .r (.c .r (.s .r (.c .r (.s .r (.c .r .r)))))))) (.s .r (.c (.s .r .r) .r)))))))) .r))))) (.s .r (.s .r .r))))) [l0, m1, other2] w K = L10 l0 m1 other2 w K := by kernel_rfl
  exact xfun_sound (an := (.s .r (.s (.s .r (.c (.s .r .r) .r)) (.s (.s .r (.b (.l [7] 2535301200456458802992869801920 (.s (.s .r (.c .r .r)) (.s (.b (.s .r (.j [] 15393162788864 (.s .r (.c .r .r)) (.s .r (.s .r (.j [17] 154742504334211782059098112 (.s .r (.b (.s .r (.c .r (.s .r (.c .r (.s .r (.c .r .r)))))))) (.s .r (.c (.s .r .r) .r)))))))) .r))))) (.s .r (.s .r .r)))))) Tryz.func10 mixed (by kernel_rfl) (by simp only [Tryz.ntmps10, List.length_cons, List.length_nil]; omega) (by rw [e]; exact h)
/-- accountinglaw38.CostingLevels -/
def L11 (method0 price1 l2 : Value) (w : World) (K : Value → World → Prop) : Prop :=
 Ret Tryz.prog 19 [l2] w fun t17 W1 =>
 xif t17
 (Ret Tryz.prog 20 [] W1 fun t18 W2 =>
 K t18 W2)
 (Ret Tryz.prog 23 [method0, price1, l2] W1 fun t23 W3 =>
 onSome (q_extract t23 0) fun t24 =>
 onSome (q_extract t23 1) fun t25 =>
 onSome (q_extract t23 2) fun t26 =>
 onSome (q_extract t23 3) fun t27 =>
 l_new 28 #[.int .i64 0, .int .i64 0, .int .i64 0, .slice none 0 0, .slice none 0 0] W3 fun t7 W4 =>
 l_store 5 t7 t24 W4 fun _ W5 =>
 onSome (q_bin .neq t27 (.int .i64 0)) fun t29 =>
 xif t29
 (Ret Tryz.prog 20 [] W5 fun t30 W6 =>
 K t30 W6)
 (Ret Tryz.prog 36 [l2] W5 fun t33 W7 =>
 onSome (q_extract t33 0) fun t34 =>
 onSome (q_extract t33 1) fun t35 =>
 onSome (q_extract t33 2) fun t36 =>
 onSome (q_bin .neq t36 (.int .i64 0)) fun t38 =>
 onSome (gateQ false t38 (some t35)) fun t40 =>
 onSome (gateQ false t38 (q_bin .neq t40 (.int .i64 (-1)))) fun t41 =>
 onSome (q_pick t38 (.bool true) t41) fun t42 =>
 onSome (gateQ false t42 (some t34)) fun t44 =>
 onSome (gateQ false t42 (q_len t44)) fun t45 =>
 onSome (gateQ false t42 (some t25)) fun t46 =>
 onSome (gateQ false t42 (q_len t46)) fun t47 =>
 onSome (gateQ false t42 (q_bin .neq t45 t47)) fun t48 =>
 onSome (q_pick t42 (.bool true) t48) fun t49 =>
 xif t49
 (K (.bool false) W7)
 (looping fun (I : Value → Value → World → Prop) (μ : Value → Value → World → Nat) => I (.int .i64 0) (.int .i64 0) W7 ∧
 ∀ (q14 i15 : Value) (W8 : World), I q14 i15 W8 → ∀ _ : Env,
 onSome (q_len t25) fun t52 =>
 onSome (q_bin .lss i15 t52) fun t53 =>
 xif t53
 (onSome (q_iaddr 4 t25 i15) fun t59 =>
 onSome (q_faddr 1 t59) fun t60 =>
 onSome (q_load1 t60 W8) fun t61 =>
 onSome (q_bin .add q14 t61) fun t62 =>
 onSome (q_iaddr 1 t34 i15) fun t66 =>
 onSome (q_load1 t66 W8.drew) fun t67 =>
 onSome (q_bin .neq t62 t67) fun t68 =>
 onSome (gateQ false t68 (some t25)) fun t70 =>
 onSome (gateQ false t68 (some i15)) fun t71 =>
 onSome (gateQ false t68 (q_iaddr 4 t70 t71)) fun t72 =>
 onSome (gateQ false t68 (q_faddr 0 t72)) fun t73 =>
 onSome (gateQ false t68 (q_load1 t73 W8.drew)) fun t74 =>
 onSome (gateQ false t68 (some l2)) fun t75 =>
 onSome (gateQ false t68 (some i15)) fun t76 =>
 onSome (gateQ false t68 (q_iaddr 8 t75 t76)) fun t77 =>
 onSome (gateQ false t68 (q_faddr 0 t77)) fun t78 =>
 onSome (gateQ false t68 (q_load1 t78 W8.drew)) fun t79 =>
 onSome (gateQ false t68 (q_bin .neq t74 t79)) fun t80 =>
 onSome (q_pick t68 (.bool true) t80) fun t81 =>
 xif t81
 (K (.bool false) W8.drew)
 (onSome (q_bin .add i15 (.int .i64 1)) fun t55 =>
 I t62 t55 W8.drew ∧ μ t62 t55 W8.drew < μ q14 i15 W8))
 (Ret Tryz.prog 20 [] W8 fun t82 W9 =>
 K t82 W9))))
theorem lift11 {method0 price1 l2 : Value} {w : World} {K : Value → World → Prop} (h : L11 method0 price1 l2 w K) : Ret Tryz.prog 11 [method0, price1, l2] w K := by
  have e : xfun Tryz.prog Tryz.f11 (.s .r (.s (.s .r (.c (.s .r .r) .r)) (.s .r (.s (.s .r (.c (.s .r .r) .r)) (.s .r (.s (.s .r (.c (.s .r .r) .r)) (.s .r (.s (.s .r (.b (.l [14, 15] 4835703277332616792031296 (.s (.s .r (.c .r .r)) (.s (.b (.s .r (.s (.x [0, 0, 0, 6, 14, 31, 63, 127, 127, 511, 1023, 2047, 127, 127, 12415, 28799, 61567, 131071, 262143] (.q 0 (.q 1 (.q 2 (.q 3 (.q 4 (.q 5 (.q 6 (.q 7 (.q 8 (.q 9 (.q 10 (.q 11 (.q 12 (.q 13 (.q 14 (.q 15 (.q 16 (.q 17 (.q 18 .nil)))))))))))))))))))) (.c (.s .r .r) .r)))) .r))))) (.s .r .r))))))))) [method0, price1, l2] w K = L11 method0 price1 l2 w K := by kernel_rfl
  exact xfun_sound (an := (.s .r (.s (.s .r (.c (.s .r .r) .r)) (.s .r (.s (.s .r (.c (.s .r .r) .r)) (.s .r (.s (.s .r (.c (.s .r .r) .r)) (.s .r (.s (.s .r (.b (.l [14, 15] 4835703277332616792031296 (.s (.s .r (.c .r .r)) (.s (.b (.s .r (.s (.x [0, 0, 0, 6, 14, 31, 63, 127, 127, 511, 1023, 2047, 127, 127, 12415, 28799, 61567, 131071, 262143] (.q 0 (.q 1 (.q 2 (.q 3 (.q 4 (.q 5 (.q 6 (.q 7 (.q 8 (.q 9 (.q 10 (.q 11 (.q 12 (.q 13 (.q 14 (.q 15 (.q 16 (.q 17 (.q 18 .nil)))))))))))))))))))) (.c (.s .r .r) .r)))) .r))))) (.s .r .r)))))))))) Tryz.func11 mixed (by kernel_rfl) (by simp only [Tryz.ntmps11, List.length_cons, List.length_nil]; omega) (by rw [e]; exact h)
end Go.X
