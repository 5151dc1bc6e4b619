/- The lifted forms of Go functions, printed by a program (lift.py); each is held against the loaded program by the kernel. -/
import Derived.Test.YtbglbbmlohfemaaGreatDoorA2
set_option linter.unusedVariables false
set_option linter.unusedSimpArgs false
set_option maxRecDepth 100000
namespace Go.X
open Go.Proofs
/-- standard.Step -/
def L34 (s0 m1 : Value) (w : World) (K : Value → World → Prop) : Prop :=
 l_new 28 (s0 : Value).cells w fun s2 W1 =>
 l_new 47 (m1 : Value).cells W1 fun m3 W2 =>
 l_new 28 #[.int .i64 0, .int .i64 0, .int .i64 0, .slice none 0 0, .slice none 0 0] W2 fun t4 W3 =>
 l_new 43 #[.int .i64 0, .int .i64 0, .int .i64 0, .int .i64 0] W3 fun c5 W4 =>
 onSome (q_loadn 8 m3 W4) fun t12 =>
 Ret Tryz.prog 61 [t12] W4 fun t13 W5 =>
 onSome (q_bin .neq t13 (.int .i64 0)) fun t15 =>
 xif t15
 (onSome (q_loadn 5 t4 W5.drew) fun t16 =>
 onSome (q_loadn 4 c5 W5.drew) fun t17 =>
 l_store 5 t4 t16 W5.drew fun _ W6 =>
 ob (q_loadn 4 c5 W6 = some t17) (
 l_store 4 c5 t17 W6 fun _ W7 =>
 onSome (q_loadn 5 t4 W7) fun t4_1 =>
 onSome (q_loadn 4 c5 W7) fun c5_1 =>
 K (.tuple #[t4_1, c5_1, t13]) W7))
 (onSome (q_faddr 4 s2) fun t19 =>
 onSome (q_load1 t19 W5) fun t20 =>
 onSome (q_faddr 0 m3) fun t21 =>
 onSome (q_load1 t21 W5) fun t22 =>
 onSome (q_build #[.int .i64 0, .int .i64 0] [(0, 1, (.int .i64 1)), (1, 1, t22)]) fun t23 =>
 Ret Tryz.prog 75 [t20, t23] W5 fun t24 W8 =>
 onSome (q_bin .geq t24 (.int .i64 0)) fun t25 =>
 onSome (gateQ false t25 (q_faddr 4 s2)) fun t27 =>
 onSome (gateQ false t25 (q_load1 t27 W8)) fun t28 =>
 onSome (gateQ false t25 (q_faddr 0 m3)) fun t29 =>
 onSome (gateQ false t25 (q_load1 t29 W8)) fun t30 =>
 onSome (gateQ false t25 (q_build #[.int .i64 0, .int .i64 0] [(0, 1, (.int .i64 2)), (1, 1, t30)])) fun t31 =>
 gateL false t25 (fun K => Ret Tryz.prog 75 [t28, t31] W8 K) W8 fun t32 W9 =>
 onSome (gateQ false t25 (q_bin .geq t32 (.int .i64 0))) fun t33 =>
 onSome (q_pick t25 (.bool true) t33) fun t34 =>
 xif t34
 (onSome (q_loadn 5 t4 W9.drew) fun t35 =>
 onSome (q_loadn 4 c5 W9.drew) fun t36 =>
 l_store 5 t4 t35 W9.drew fun _ W10 =>
 ob (q_loadn 4 c5 W10 = some t36) (
 l_store 4 c5 t36 W10 fun _ W11 =>
 onSome (q_loadn 5 t4 W11) fun t4_2 =>
 onSome (q_loadn 4 c5 W11) fun c5_2 =>
 K (.tuple #[t4_2, c5_2, (.int .i64 8)]) W11))
 (onSome (q_loadn 5 s2 W9.drew) fun t37 =>
 onSome (q_loadn 8 m3 W9.drew) fun t39 =>
 Ret Tryz.prog 76 [t37] W9.drew fun t38 W12 =>
 ob (q_loadn 8 m3 W12 = some t39) (
 onSome (q_build #[.int .i64 0, .int .i64 0, .int .i64 0, .slice none 0 0, .slice none 0 0, .int .i64 0, .int .i64 0, .string ⟨#[]⟩, .int .i64 0, .int .i64 0, .int .i64 0, .string ⟨#[]⟩, .int .i64 0, .int .i64 0, .int .i64 0, .int .i64 0, .int .i64 0] [(0, 5, t38), (5, 8, t39)]) fun t40 =>
 l_new 128 (t40 : Value).cells W12 fun t41 W13 =>
 Ret Tryz.prog 77 [t41] W13 fun t43 W14 =>
 onSome (q_bin .neq t43 (.int .i64 0)) fun t45 =>
 xif t45
 (onSome (q_loadn 5 t4 W14.drew) fun t46 =>
 onSome (q_loadn 4 c5 W14.drew) fun t47 =>
 l_store 5 t4 t46 W14.drew fun _ W15 =>
 ob (q_loadn 4 c5 W15 = some t47) (
 l_store 4 c5 t47 W15 fun _ W16 =>
 onSome (q_loadn 5 t4 W16) fun t4_3 =>
 onSome (q_loadn 4 c5 W16) fun c5_3 =>
 K (.tuple #[t4_3, c5_3, t43]) W16))
 (onSome (q_faddr 0 m3) fun t50 =>
 onSome (q_load1 t50 W14) fun t51 =>
 onSome (q_nil t41) fun t52 =>
 onSome (q_faddr 13 t52) fun t53 =>
 onSome (q_faddr 0 t53) fun t54 =>
 l_store 1 t54 t51 W14 fun _ W17 =>
 onSome (q_faddr 1 s2) fun t56 =>
 onSome (q_load1 t56 W17.drew) fun t57 =>
 onSome (q_nil t41) fun t59 =>
 onSome (q_faddr 13 t59) fun t60 =>
 onSome (q_faddr 2 t60) fun t61 =>
 onSome (q_load1 t61 W17.drew) fun t62 =>
 Ret Tryz.prog 78 [t57, t62] W17.drew fun t63 W18 =>
 onSome (q_extract t63 0) fun t64 =>
 onSome (q_extract t63 1) fun t65 =>
 onSome (q_faddr 0 s2) fun t68 =>
 onSome (q_load1 t68 W18.drew) fun t69 =>
 onSome (q_nil t41) fun t71 =>
 onSome (q_faddr 13 t71) fun t72 =>
 onSome (q_faddr 1 t72) fun t73 =>
 onSome (q_load1 t73 W18.drew) fun t74 =>
 onSome (q_bin .add t69 t74) fun t75 =>
 onSome (q_nil t41) fun t77 =>
 onSome (q_faddr 0 t77) fun t78 =>
 onSome (q_faddr 0 t78) fun t79 =>
 l_store 1 t79 t75 W18.drew fun _ W19 =>
 onSome (q_nil t41) fun t80 =>
 onSome (q_faddr 0 t80) fun t81 =>
 onSome (q_faddr 1 t81) fun t82 =>
 l_store 1 t82 t64 W19 fun _ W20 =>
 onSome (q_un .not t65) fun t84 =>
 onSome (gateQ false t84 (some t41)) fun t86 =>
 onSome (gateQ false t84 (q_nil t86)) fun t87 =>
 onSome (gateQ false t84 (q_faddr 0 t87)) fun t88 =>
 onSome (gateQ false t84 (q_faddr 0 t88)) fun t89 =>
 onSome (gateQ false t84 (q_load1 t89 W20)) fun t90 =>
 onSome (gateQ false t84 (q_bin .gtr t90 (.int .i64 1000000000))) fun t91 =>
 onSome (q_pick t84 (.bool true) t91) fun t92 =>
 onSome (gateQ false t92 (some t64)) fun t94 =>
 gateL false t92 (fun K => Ret Tryz.prog 79 [t94] W20 K) W20 fun t95 W21 =>
 onSome (gateQ false t92 (q_un .not t95)) fun t96 =>
 onSome (q_pick t92 (.bool true) t96) fun t97 =>
 onSome (gateQ false t97 (some t41)) fun t99 =>
 onSome (gateQ false t97 (q_nil t99)) fun t100 =>
 onSome (gateQ false t97 (q_faddr 13 t100)) fun t101 =>
 onSome (gateQ false t97 (q_faddr 3 t101)) fun t102 =>
 onSome (gateQ false t97 (q_load1 t102 W21)) fun t103 =>
 gateL false t97 (fun K => Ret Tryz.prog 79 [t103] W21 K) W21 fun t104 W22 =>
 onSome (gateQ false t97 (q_un .not t104)) fun t105 =>
 onSome (q_pick t97 (.bool true) t105) fun t106 =>
 xif t106
 (onSome (q_loadn 5 t4 W22.drew) fun t107 =>
 onSome (q_loadn 4 c5 W22.drew) fun t108 =>
 l_store 5 t4 t107 W22.drew fun _ W23 =>
 ob (q_loadn 4 c5 W23 = some t108) (
 l_store 4 c5 t108 W23 fun _ W24 =>
 onSome (q_loadn 5 t4 W24) fun t4_4 =>
 onSome (q_loadn 4 c5 W24) fun c5_4 =>
 K (.tuple #[t4_4, c5_4, (.int .i64 4)]) W24))
 (onSome (q_nil t41) fun t110 =>
 onSome (q_faddr 0 t110) fun t111 =>
 onSome (q_loadn 5 t111 W22.drew) fun t112 =>
 onSome (q_nil t41) fun t114 =>
 onSome (q_faddr 13 t114) fun t115 =>
 onSome (q_loadn 4 t115 W22.drew) fun t116 =>
 l_store 5 t4 t112 W22.drew fun _ W25 =>
 ob (q_loadn 4 t115 W25 = some t116) (
 l_store 4 c5 t116 W25 fun _ W26 =>
 onSome (q_loadn 5 t4 W26) fun t4_5 =>
 onSome (q_loadn 4 c5 W26) fun c5_5 =>
 K (.tuple #[t4_5, c5_5, (.int .i64 0)]) W26))))))
theorem lift34 {s0 m1 : Value} {w : World} {K : Value → World → Prop} (h : L34 s0 m1 w K) : Ret Tryz.prog 34 [s0, m1] w K := by
  have e : xfun Tryz.prog Tryz.f34 (.s .r (.s (.s .r (.s .r (.c (.s (.x [0, 0, 0, 1, 11, 31] (.q 0 (.q 1 (.q 2 (.l 3 1 (.l 4 11 (.q 5 .nil))))))) .r) .r))) (.s (.s .r (.c (.s (.x [0, 0, 1, 7, 15] (.q 0 (.q 1 (.l 2 1 (.l 3 7 (.q 4 .nil)))))) .r) .r)) (.s (.x [0, 1, 0, 7, 15, 31] (.q 0 (.q 2 (.l 1 1 (.q 3 (.l 4 15 (.q 5 .nil))))))) (.s (.s .r (.s .r (.c (.s (.x [0, 0, 0, 1, 11, 31] (.q 0 (.q 1 (.q 2 (.l 3 1 (.l 4 11 (.q 5 .nil))))))) .r) .r))) (.s .r (.s (.x [0, 1, 0, 4, 12, 28, 60, 127, 255, 511, 511, 1023, 4095] (.q 0 (.q 1 (.q 2 (.q 3 (.q 4 (.q 5 (.q 6 (.l 7 127 (.q 8 (.q 9 (.q 10 (.q 11 (.q 12 .nil)))))))))))))) (.s (.x [0, 0, 0, 4, 0, 16, 48, 112, 240, 508, 0, 1021, 3069, 7165, 15357, 32767, 65535, 131071, 262143] (.q 0 (.q 1 (.q 2 (.q 3 (.q 4 (.q 5 (.q 6 (.q 7 (.q 8 (.q 9 (.q 10 (.q 11 (.q 12 (.q 13 (.l 14 15357 (.q 15 (.q 16 (.q 17 (.l 18 262143 .nil)))))))))))))))))))) (.s (.s .r (.c (.s (.x [0, 0, 1, 7, 15] (.q 0 (.q 1 (.l 2 1 (.l 3 7 (.q 4 .nil)))))) .r) .r)) (.s (.x [0, 1, 3, 7, 0, 16, 48, 112, 15, 511, 1023] (.q 0 (.q 1 (.q 2 (.q 3 (.q 4 (.q 5 (.q 6 (.q 7 (.l 8 15 (.l 9 511 (.q 10 .nil)))))))))))) .r)))))))))) [s0, m1] w K = L34 s0 m1 w K := by kernel_rfl
  exact xfun_sound (an := (.s .r (.s (.s .r (.s .r (.c (.s (.x [0, 0, 0, 1, 11, 31] (.q 0 (.q 1 (.q 2 (.l 3 1 (.l 4 11 (.q 5 .nil))))))) .r) .r))) (.s (.s .r (.c (.s (.x [0, 0, 1, 7, 15] (.q 0 (.q 1 (.l 2 1 (.l 3 7 (.q 4 .nil)))))) .r) .r)) (.s (.x [0, 1, 0, 7, 15, 31] (.q 0 (.q 2 (.l 1 1 (.q 3 (.l 4 15 (.q 5 .nil))))))) (.s (.s .r (.s .r (.c (.s (.x [0, 0, 0, 1, 11, 31] (.q 0 (.q 1 (.q 2 (.l 3 1 (.l 4 11 (.q 5 .nil))))))) .r) .r))) (.s .r (.s (.x [0, 1, 0, 4, 12, 28, 60, 127, 255, 511, 511, 1023, 4095] (.q 0 (.q 1 (.q 2 (.q 3 (.q 4 (.q 5 (.q 6 (.l 7 127 (.q 8 (.q 9 (.q 10 (.q 11 (.q 12 .nil)))))))))))))) (.s (.x [0, 0, 0, 4, 0, 16, 48, 112, 240, 508, 0, 1021, 3069, 7165, 15357, 32767, 65535, 131071, 262143] (.q 0 (.q 1 (.q 2 (.q 3 (.q 4 (.q 5 (.q 6 (.q 7 (.q 8 (.q 9 (.q 10 (.q 11 (.q 12 (.q 13 (.l 14 15357 (.q 15 (.q 16 (.q 17 (.l 18 262143 .nil)))))))))))))))))))) (.s (.s .r (.c (.s (.x [0, 0, 1, 7, 15] (.q 0 (.q 1 (.l 2 1 (.l 3 7 (.q 4 .nil)))))) .r) .r)) (.s (.x [0, 1, 3, 7, 0, 16, 48, 112, 15, 511, 1023] (.q 0 (.q 1 (.q 2 (.q 3 (.q 4 (.q 5 (.q 6 (.q 7 (.l 8 15 (.l 9 511 (.q 10 .nil)))))))))))) .r))))))))))) Tryz.func34 mixed (by kernel_rfl) (by simp only [Tryz.ntmps34, List.length_cons, List.length_nil]; omega) (by rw [e]; exact h)
/-- standard.find -/
def L75 (past0 x1 : Value) (w : World) (K : Value → World → Prop) : Prop :=
 l_new 125 (x1 : Value).cells w fun x3 W1 =>
 onSome (q_len past0) fun t8 =>
 looping fun (I : Value → World → Prop) (μ : Value → World → Nat) => I (.int .i64 0) W1 ∧
 ∀ (t9 : Value) (W2 : World), I t9 W2 → ∀ _ : Env,
 onSome (q_bin .lss t9 t8) fun t10 =>
 xif t10
 (onSome (q_iaddr 7 past0 t9) fun t12 =>
 onSome (q_loadn 7 t12 W2) fun t13 =>
 l_new 105 #[.int .i64 0, .int .i64 0, .string ⟨#[]⟩, .int .i64 0, .int .i64 0, .int .i64 0, .int .i64 0] W2 fun p6 W3 =>
 l_store 7 p6 t13 W3 fun _ W4 =>
 onSome (q_faddr 1 p6) fun t14 =>
 onSome (q_load1 t14 W4) fun t15 =>
 onSome (q_faddr 0 p6) fun t16 =>
 onSome (q_load1 t16 W4) fun t17 =>
 onSome (q_build #[.int .i64 0, .int .i64 0] [(0, 1, t15), (1, 1, t17)]) fun t18 =>
 onSome (q_loadn 2 x3 W4) fun t19 =>
 onSome (q_eq Tryz.prog .eql 125 t18 t19) fun t20 =>
 xif t20
 (K t9 W4)
 (onSome (q_bin .add t9 (.int .i64 1)) fun t22 =>
 I t22 W4 ∧ μ t22 W4 < μ t9 W2))
 (K (.int .i64 (-1)) W2)
theorem lift75 {past0 x1 : Value} {w : World} {K : Value → World → Prop} (h : L75 past0 x1 w K) : Ret Tryz.prog 75 [past0, x1] w K := by
  have e : xfun Tryz.prog Tryz.f75 (.s .r (.s (.s .r (.b (.l [9] 8388208 (.s .r (.s (.c .r .r) (.s (.b (.s .r (.s .r (.c (.s .r .r) .r)))) .r)))))) (.s .r .r))) [past0, x1] w K = L75 past0 x1 w K := by kernel_rfl
  exact xfun_sound (an := (.s .r (.s (.s .r (.b (.l [9] 8388208 (.s .r (.s (.c .r .r) (.s (.b (.s .r (.s .r (.c (.s .r .r) .r)))) .r)))))) (.s .r .r)))) Tryz.func75 mixed (by kernel_rfl) (by simp only [Tryz.ntmps75, List.length_cons, List.length_nil]; omega) (by rw [e]; exact h)
/-- standard.clone -/
def L76 (s0 : Value) (w : World) (K : Value → World → Prop) : Prop :=
 l_new 28 (s0 : Value).cells w fun s1 W1 =>
 l_new 28 #[.int .i64 0, .int .i64 0, .int .i64 0, .slice none 0 0, .slice none 0 0] W1 fun t2 W2 =>
 onSome (q_faddr 4 s1) fun t5 =>
 onSome (q_load1 t5 W2) fun t6 =>
 onSome (q_len t6) fun t7 =>
 l_make Tryz.prog 26 t7 t7 W2 fun t8 W3 =>
 onSome (q_faddr 4 s1) fun t10 =>
 onSome (q_load1 t10 W3) fun t11 =>
 l_copy Tryz.prog #[26, 26] 3 t8 t11 W3 fun t12 W4 =>
 onSome (q_faddr 3 s1) fun t13 =>
 onSome (q_load1 t13 W4) fun t14 =>
 onSome (q_len t14) fun t15 =>
 l_make Tryz.prog 25 t15 t15 W4 fun t16 W5 =>
 onSome (q_faddr 3 s1) fun t18 =>
 onSome (q_load1 t18 W5) fun t19 =>
 l_copy Tryz.prog #[25, 25] 3 t16 t19 W5 fun t20 W6 =>
 onSome (q_faddr 4 s1) fun t23 =>
 l_store 1 t23 t8 W6 fun _ W7 =>
 onSome (q_faddr 3 s1) fun t24 =>
 l_store 1 t24 t16 W7 fun _ W8 =>
 onSome (q_loadn 5 s1 W8) fun t25 =>
 l_store 5 t2 t25 W8 fun _ W9 =>
 onSome (q_loadn 5 t2 W9) fun t2_1 =>
 K t2_1 W9
theorem lift76 {s0 : Value} {w : World} {K : Value → World → Prop} (h : L76 s0 w K) : Ret Tryz.prog 76 [s0] w K := by
  have e : xfun Tryz.prog Tryz.f76 (.s .r (.s .r (.s .r (.s .r (.s .r (.s .r (.s .r .r))))))) [s0] w K = L76 s0 w K := by kernel_rfl
  exact xfun_sound (an := (.s .r (.s .r (.s .r (.s .r (.s .r (.s .r (.s .r .r)))))))) Tryz.func76 mixed (by kernel_rfl) (by simp only [Tryz.ntmps76, List.length_cons, List.length_nil]; omega) (by rw [e]; exact h)
/-- (*standard.state).move -/
def L77 (x0 : Value) (w : World) (K : Value → World → Prop) : Prop :=
 onSome (q_nil x0) fun t4 =>
 onSome (q_faddr 5 t4) fun t5 =>
 onSome (q_faddr 3 t5) fun t6 =>
 onSome (q_load1 t6 w) fun t7 =>
 onSome (q_bin .eql t7 (.int .i64 1)) fun t9 =>
 xif t9
 (Ret Tryz.prog 124 [x0] w fun t11 W1 =>
 K t11 W1)
 (onSome (q_bin .eql t7 (.int .i64 2)) fun t13 =>
 xif t13
 (Ret Tryz.prog 125 [x0] w fun t15 W2 =>
 K t15 W2)
 (onSome (q_bin .eql t7 (.int .i64 3)) fun t17 =>
 xif t17
 (Ret Tryz.prog 126 [x0] w fun t19 W3 =>
 K t19 W3)
 (onSome (q_bin .eql t7 (.int .i64 4)) fun t21 =>
 xif t21
 (Ret Tryz.prog 127 [x0] w fun t23 W4 =>
 K t23 W4)
 (onSome (q_bin .eql t7 (.int .i64 5)) fun t25 =>
 xif t25
 (Ret Tryz.prog 128 [x0] w fun t27 W5 =>
 K t27 W5)
 (Ret Tryz.prog 129 [x0] w fun t29 W6 =>
 K t29 W6)))))
theorem lift77 {x0 : Value} {w : World} {K : Value → World → Prop} (h : L77 x0 w K) : Ret Tryz.prog 77 [x0] w K := by
  have e : xfun Tryz.prog Tryz.f77 (.s .r (.s (.s .r (.b (.s .r (.c (.s .r .r) (.s .r (.c (.s .r .r) (.s .r (.c (.s .r .r) (.s .r (.c (.s .r .r) (.s .r (.c (.s .r .r) .r)))))))))))) (.s .r .r))) [x0] w K = L77 x0 w K := by kernel_rfl
  exact xfun_sound (an := (.s .r (.s (.s .r (.b (.s .r (.c (.s .r .r) (.s .r (.c (.s .r .r) (.s .r (.c (.s .r .r) (.s .r (.c (.s .r .r) (.s .r (.c (.s .r .r) .r)))))))))))) (.s .r .r)))) Tryz.func77 mixed (by kernel_rfl) (by simp only [Tryz.ntmps77, List.length_cons, List.length_nil]; omega) (by rw [e]; exact h)
/-- standard.within -/
def L79 (n0 : Value) (w : World) (K : Value → World → Prop) : Prop :=
 onSome (q_bin .geq n0 (.int .i64 (-1000000000000000))) fun t4 =>
 onSome (gateQ true t4 (some n0)) fun t6 =>
 onSome (gateQ true t4 (q_bin .leq t6 (.int .i64 1000000000000000))) fun t7 =>
 onSome (q_pick t4 t7 (.bool false)) fun t8 =>
 K t8 w
theorem lift79 {n0 : Value} {w : World} {K : Value → World → Prop} (h : L79 n0 w K) : Ret Tryz.prog 79 [n0] w K := by
  have e : xfun Tryz.prog Tryz.f79 (.s .r (.s .r .r)) [n0] w K = L79 n0 w K := by kernel_rfl
  exact xfun_sound (an := (.s .r (.s .r .r))) Tryz.func79 mixed (by kernel_rfl) (by simp only [Tryz.ntmps79, List.length_cons, List.length_nil]; omega) (by rw [e]; exact h)
/-- (*standard.state).receipt -/
def L124 (x0 : Value) (w : World) (K : Value → World → Prop) : Prop :=
 onSome (q_nil x0) fun t8 =>
 onSome (q_faddr 0 t8) fun t9 =>
 onSome (q_faddr 2 t9) fun t10 =>
 onSome (q_load1 t10 w) fun t11 =>
 Ret Tryz.prog 174 [x0, t11] w fun t12 W1 =>
 onSome (q_extract t12 0) fun t13 =>
 onSome (q_extract t12 1) fun t14 =>
 onSome (q_bin .neq t14 (.int .i64 0)) fun t16 =>
 xif t16
 (K t14 W1)
 (onSome (q_nil x0) fun t20 =>
 onSome (q_faddr 5 t20) fun t21 =>
 onSome (q_faddr 5 t21) fun t22 =>
 onSome (q_load1 t22 W1) fun t23 =>
 Ret Tryz.prog 175 [x0, t23] W1 fun t24 W2 =>
 onSome (q_nil x0) fun t27 =>
 onSome (q_faddr 5 t27) fun t28 =>
 onSome (q_faddr 4 t28) fun t29 =>
 onSome (q_load1 t29 W2.drew) fun t30 =>
 onSome (q_nil x0) fun t33 =>
 onSome (q_faddr 5 t33) fun t34 =>
 onSome (q_faddr 5 t34) fun t35 =>
 onSome (q_load1 t35 W2.drew) fun t36 =>
 onSome (q_bin .sub t36 t13) fun t38 =>
 onSome (q_build #[.int .i64 0, .int .i64 0, .int .i64 0, .int .i64 0] [(1, 1, t30), (2, 1, t13), (3, 1, t38)]) fun t39 =>
 onSome (q_nil x0) fun t40 =>
 onSome (q_faddr 13 t40) fun t41 =>
 l_store 4 t41 t39 W2.drew fun _ W3 =>
 K (.int .i64 0) W3)
theorem lift124 {x0 : Value} {w : World} {K : Value → World → Prop} (h : L124 x0 w K) : Ret Tryz.prog 124 [x0] w K := by
  have e : xfun Tryz.prog Tryz.f124 (.s .r (.s .r (.s (.s .r (.c (.s .r .r) .r)) (.s .r (.s (.x [0, 0, 2, 6, 14, 30, 0, 0, 128, 384, 896, 1920, 0, 8064, 16382, 32767, 65535, 131071] (.q 0 (.q 1 (.q 2 (.q 3 (.q 4 (.q 5 (.q 6 (.q 7 (.q 8 (.q 9 (.q 10 (.q 11 (.q 12 (.q 13 (.q 14 (.q 15 (.q 16 (.l 17 131071 .nil))))))))))))))))))) (.s .r .r)))))) [x0] w K = L124 x0 w K := by kernel_rfl
  exact xfun_sound (an := (.s .r (.s .r (.s (.s .r (.c (.s .r .r) .r)) (.s .r (.s (.x [0, 0, 2, 6, 14, 30, 0, 0, 128, 384, 896, 1920, 0, 8064, 16382, 32767, 65535, 131071] (.q 0 (.q 1 (.q 2 (.q 3 (.q 4 (.q 5 (.q 6 (.q 7 (.q 8 (.q 9 (.q 10 (.q 11 (.q 12 (.q 13 (.q 14 (.q 15 (.q 16 (.l 17 131071 .nil))))))))))))))))))) (.s .r .r))))))) Tryz.func124 mixed (by kernel_rfl) (by simp only [Tryz.ntmps124, List.length_cons, List.length_nil]; omega) (by rw [e]; exact h)
/-- (*standard.state).issue -/
def L125 (x0 : Value) (w : World) (K : Value → World → Prop) : Prop :=
 onSome (q_nil x0) fun t6 =>
 onSome (q_faddr 0 t6) fun t7 =>
 onSome (q_faddr 0 t7) fun t8 =>
 onSome (q_load1 t8 w.drew) fun t9 =>
 onSome (q_nil x0) fun t11 =>
 onSome (q_faddr 5 t11) fun t12 =>
 onSome (q_faddr 4 t12) fun t13 =>
 onSome (q_load1 t13 w.drew) fun t14 =>
 onSome (q_bin .lss t9 t14) fun t15 =>
 xif t15
 (K (.int .i64 21) w.drew)
 (onSome (q_nil x0) fun t19 =>
 onSome (q_faddr 0 t19) fun t20 =>
 onSome (q_faddr 2 t20) fun t21 =>
 onSome (q_load1 t21 w.drew) fun t22 =>
 Ret Tryz.prog 174 [x0, t22] w.drew fun t23 W1 =>
 onSome (q_extract t23 0) fun t24 =>
 onSome (q_extract t23 1) fun t25 =>
 onSome (q_bin .neq t25 (.int .i64 0)) fun t27 =>
 xif t27
 (K t25 W1)
 (Ret Tryz.prog 175 [x0, t24] W1 fun t31 W2 =>
 onSome (q_nil x0) fun t34 =>
 onSome (q_faddr 5 t34) fun t35 =>
 onSome (q_faddr 4 t35) fun t36 =>
 onSome (q_load1 t36 W2) fun t37 =>
 onSome (q_un .neg t37) fun t38 =>
 onSome (q_un .neg t24) fun t40 =>
 onSome (q_build #[.int .i64 0, .int .i64 0, .int .i64 0, .int .i64 0] [(1, 1, t38), (2, 1, t40)]) fun t41 =>
 onSome (q_nil x0) fun t42 =>
 onSome (q_faddr 13 t42) fun t43 =>
 l_store 4 t43 t41 W2 fun _ W3 =>
 K (.int .i64 0) W3))
theorem lift125 {x0 : Value} {w : World} {K : Value → World → Prop} (h : L125 x0 w K) : Ret Tryz.prog 125 [x0] w K := by
  have e : xfun Tryz.prog Tryz.f125 (.s .r (.s (.s (.x [0, 1, 3, 7, 15, 0, 32, 96, 224, 480, 1023] (.q 0 (.q 1 (.q 2 (.q 3 (.q 4 (.q 5 (.q 6 (.q 7 (.q 8 (.q 9 (.q 10 .nil)))))))))))) (.c (.s .r .r) .r)) (.s .r (.s (.s .r (.c (.s .r .r) .r)) (.s .r (.s .r (.s .r .r))))))) [x0] w K = L125 x0 w K := by kernel_rfl
  exact xfun_sound (an := (.s .r (.s (.s (.x [0, 1, 3, 7, 15, 0, 32, 96, 224, 480, 1023] (.q 0 (.q 1 (.q 2 (.q 3 (.q 4 (.q 5 (.q 6 (.q 7 (.q 8 (.q 9 (.q 10 .nil)))))))))))) (.c (.s .r .r) .r)) (.s .r (.s (.s .r (.c (.s .r .r) .r)) (.s .r (.s .r (.s .r .r)))))))) Tryz.func125 mixed (by kernel_rfl) (by simp only [Tryz.ntmps125, List.length_cons, List.length_nil]; omega) (by rw [e]; exact h)
/-- (*standard.state).customer -/
def L126 (x0 : Value) (w : World) (K : Value → World → Prop) : Prop :=
 Ret Tryz.prog 176 [x0, (.int .i64 2)] w fun t9 W1 =>
 onSome (q_extract t9 0) fun t10 =>
 onSome (q_extract t9 1) fun t11 =>
 onSome (q_bin .neq t11 (.int .i64 0)) fun t13 =>
 xif t13
 (K t11 W1)
 (onSome (q_nil x0) fun t18 =>
 onSome (q_faddr 0 t18) fun t19 =>
 onSome (q_faddr 2 t19) fun t20 =>
 onSome (q_load1 t20 W1) fun t21 =>
 Ret Tryz.prog 174 [x0, t21] W1 fun t22 W2 =>
 onSome (q_extract t22 0) fun t23 =>
 onSome (q_extract t22 1) fun t24 =>
 onSome (q_bin .neq t24 (.int .i64 0)) fun t26 =>
 xif t26
 (K t24 W2)
 (onSome (q_nil x0) fun t29 =>
 onSome (q_faddr 0 t29) fun t30 =>
 onSome (q_faddr 4 t30) fun t31 =>
 onSome (q_load1 t31 W2.drew) fun t32 =>
 onSome (q_iaddr 7 t32 t10) fun t34 =>
 onSome (q_loadn 7 t34 W2.drew) fun t35 =>
 onSome (q_nil x0) fun t37 =>
 onSome (q_faddr 5 t37) fun t38 =>
 onSome (q_faddr 4 t38) fun t39 =>
 onSome (q_load1 t39 W2.drew) fun t40 =>
 Ret Tryz.prog 177 [t35, t40] W2.drew fun t41 W3 =>
 onSome (q_nil x0) fun t43 =>
 onSome (q_faddr 0 t43) fun t44 =>
 onSome (q_faddr 4 t44) fun t45 =>
 onSome (q_load1 t45 W3.drew) fun t46 =>
 onSome (q_iaddr 7 t46 t10) fun t48 =>
 onSome (q_faddr 5 t48) fun t49 =>
 onSome (q_load1 t49 W3.drew) fun t50 =>
 onSome (q_nil x0) fun t52 =>
 onSome (q_faddr 5 t52) fun t53 =>
 onSome (q_faddr 4 t53) fun t54 =>
 onSome (q_load1 t54 W3.drew) fun t55 =>
 onSome (q_bin .add t50 t55) fun t56 =>
 onSome (q_iaddr 7 t46 t10) fun t57 =>
 onSome (q_faddr 5 t57) fun t58 =>
 l_store 1 t58 t56 W3.drew fun _ W4 =>
 onSome (q_nil x0) fun t60 =>
 onSome (q_faddr 0 t60) fun t61 =>
 onSome (q_faddr 4 t61) fun t62 =>
 onSome (q_load1 t62 W4) fun t63 =>
 onSome (q_iaddr 7 t63 t10) fun t65 =>
 onSome (q_faddr 6 t65) fun t66 =>
 onSome (q_load1 t66 W4) fun t67 =>
 onSome (q_bin .add t67 t41) fun t69 =>
 onSome (q_iaddr 7 t63 t10) fun t70 =>
 onSome (q_faddr 6 t70) fun t71 =>
 l_store 1 t71 t69 W4 fun _ W5 =>
 onSome (q_nil x0) fun t74 =>
 onSome (q_faddr 5 t74) fun t75 =>
 onSome (q_faddr 4 t75) fun t76 =>
 onSome (q_load1 t76 W5) fun t77 =>
 onSome (q_bin .sub t41 t23) fun t81 =>
 onSome (q_build #[.int .i64 0, .int .i64 0, .int .i64 0, .int .i64 0] [(1, 1, t77), (2, 1, t23), (3, 1, t81)]) fun t82 =>
 onSome (q_nil x0) fun t83 =>
 onSome (q_faddr 13 t83) fun t84 =>
 l_store 4 t84 t82 W5 fun _ W6 =>
 K (.int .i64 0) W6))
theorem lift126 {x0 : Value} {w : World} {K : Value → World → Prop} (h : L126 x0 w K) : Ret Tryz.prog 126 [x0] w K := by
  have e : xfun Tryz.prog Tryz.f126 (.s .r (.s .r (.s (.s .r (.c (.s .r .r) .r)) (.s .r (.s (.s .r (.c (.s .r .r) .r)) (.s (.x [0, 1, 3, 7, 15, 0, 63, 127, 0, 256, 768, 1792, 3840, 8191, 16383] (.q 0 (.q 1 (.q 2 (.q 3 (.q 4 (.q 5 (.q 6 (.q 7 (.q 8 (.q 9 (.q 10 (.q 11 (.q 12 (.l 13 8191 (.q 14 .nil)))))))))))))))) (.s (.x [0, 1, 3, 7, 15, 0, 63, 127, 255, 0, 512, 1536, 3584, 7680, 16383, 32767, 65535, 131071] (.q 0 (.q 1 (.q 2 (.q 3 (.q 4 (.q 5 (.q 6 (.q 7 (.q 8 (.q 9 (.q 10 (.q 11 (.q 12 (.q 13 (.q 14 (.q 15 (.q 16 (.l 17 131071 .nil))))))))))))))))))) (.s .r (.s .r (.s .r .r)))))))))) [x0] w K = L126 x0 w K := by kernel_rfl
  exact xfun_sound (an := (.s .r (.s .r (.s (.s .r (.c (.s .r .r) .r)) (.s .r (.s (.s .r (.c (.s .r .r) .r)) (.s (.x [0, 1, 3, 7, 15, 0, 63, 127, 0, 256, 768, 1792, 3840, 8191, 16383] (.q 0 (.q 1 (.q 2 (.q 3 (.q 4 (.q 5 (.q 6 (.q 7 (.q 8 (.q 9 (.q 10 (.q 11 (.q 12 (.l 13 8191 (.q 14 .nil)))))))))))))))) (.s (.x [0, 1, 3, 7, 15, 0, 63, 127, 255, 0, 512, 1536, 3584, 7680, 16383, 32767, 65535, 131071] (.q 0 (.q 1 (.q 2 (.q 3 (.q 4 (.q 5 (.q 6 (.q 7 (.q 8 (.q 9 (.q 10 (.q 11 (.q 12 (.q 13 (.q 14 (.q 15 (.q 16 (.l 17 131071 .nil))))))))))))))))))) (.s .r (.s .r (.s .r .r))))))))))) Tryz.func126 mixed (by kernel_rfl) (by simp only [Tryz.ntmps126, List.length_cons, List.length_nil]; omega) (by rw [e]; exact h)
/-- (*standard.state).supplier -/
def L127 (x0 : Value) (w : World) (K : Value → World → Prop) : Prop :=
 Ret Tryz.prog 176 [x0, (.int .i64 1)] w fun t8 W1 =>
 onSome (q_extract t8 0) fun t9 =>
 onSome (q_extract t8 1) fun t10 =>
 onSome (q_bin .neq t10 (.int .i64 0)) fun t12 =>
 xif t12
 (K t10 W1)
 (onSome (q_nil x0) fun t15 =>
 onSome (q_faddr 0 t15) fun t16 =>
 onSome (q_faddr 0 t16) fun t17 =>
 onSome (q_load1 t17 W1.drew) fun t18 =>
 onSome (q_nil x0) fun t20 =>
 onSome (q_faddr 5 t20) fun t21 =>
 onSome (q_faddr 4 t21) fun t22 =>
 onSome (q_load1 t22 W1.drew) fun t23 =>
 onSome (q_bin .lss t18 t23) fun t24 =>
 xif t24
 (K (.int .i64 21) W1.drew)
 (onSome (q_nil x0) fun t28 =>
 onSome (q_faddr 0 t28) fun t29 =>
 onSome (q_faddr 2 t29) fun t30 =>
 onSome (q_load1 t30 W1.drew) fun t31 =>
 Ret Tryz.prog 174 [x0, t31] W1.drew fun t32 W2 =>
 onSome (q_extract t32 0) fun t33 =>
 onSome (q_extract t32 1) fun t34 =>
 onSome (q_bin .neq t34 (.int .i64 0)) fun t36 =>
 xif t36
 (K t34 W2)
 (onSome (q_nil x0) fun t39 =>
 onSome (q_faddr 0 t39) fun t40 =>
 onSome (q_faddr 4 t40) fun t41 =>
 onSome (q_load1 t41 W2.drew) fun t42 =>
 onSome (q_iaddr 7 t42 t9) fun t44 =>
 onSome (q_faddr 5 t44) fun t45 =>
 onSome (q_load1 t45 W2.drew) fun t46 =>
 onSome (q_nil x0) fun t48 =>
 onSome (q_faddr 5 t48) fun t49 =>
 onSome (q_faddr 4 t49) fun t50 =>
 onSome (q_load1 t50 W2.drew) fun t51 =>
 onSome (q_bin .add t46 t51) fun t52 =>
 onSome (q_iaddr 7 t42 t9) fun t53 =>
 onSome (q_faddr 5 t53) fun t54 =>
 l_store 1 t54 t52 W2.drew fun _ W3 =>
 onSome (q_nil x0) fun t57 =>
 onSome (q_faddr 5 t57) fun t58 =>
 onSome (q_faddr 4 t58) fun t59 =>
 onSome (q_load1 t59 W3.drew) fun t60 =>
 onSome (q_un .neg t60) fun t61 =>
 onSome (q_un .neg t33) fun t63 =>
 onSome (q_nil x0) fun t66 =>
 onSome (q_faddr 5 t66) fun t67 =>
 onSome (q_faddr 5 t67) fun t68 =>
 onSome (q_load1 t68 W3.drew) fun t69 =>
 onSome (q_bin .sub t33 t69) fun t70 =>
 onSome (q_build #[.int .i64 0, .int .i64 0, .int .i64 0, .int .i64 0] [(1, 1, t61), (2, 1, t63), (3, 1, t70)]) fun t71 =>
 onSome (q_nil x0) fun t72 =>
 onSome (q_faddr 13 t72) fun t73 =>
 l_store 4 t73 t71 W3.drew fun _ W4 =>
 K (.int .i64 0) W4)))
theorem lift127 {x0 : Value} {w : World} {K : Value → World → Prop} (h : L127 x0 w K) : Ret Tryz.prog 127 [x0] w K := by
  have e : xfun Tryz.prog Tryz.f127 (.s .r (.s .r (.s (.s .r (.c (.s .r .r) .r)) (.s (.s (.x [0, 1, 3, 7, 15, 0, 32, 96, 224, 480, 1023] (.q 0 (.q 1 (.q 2 (.q 3 (.q 4 (.q 5 (.q 6 (.q 7 (.q 8 (.q 9 (.q 10 .nil)))))))))))) (.c (.s .r .r) .r)) (.s .r (.s (.s .r (.c (.s .r .r) .r)) (.s (.x [0, 1, 3, 7, 15, 0, 63, 127, 255, 0, 512, 1536, 3584, 7680, 16383, 32767, 65535, 131071] (.q 0 (.q 1 (.q 2 (.q 3 (.q 4 (.q 5 (.q 6 (.q 7 (.q 8 (.q 9 (.q 10 (.q 11 (.q 12 (.q 13 (.q 14 (.q 15 (.q 16 (.l 17 131071 .nil))))))))))))))))))) (.s (.x [0, 0, 2, 6, 14, 30, 62, 0, 128, 0, 0, 1024, 3072, 7168, 15360, 32256, 65534, 131071, 262143, 524287] (.q 0 (.q 1 (.q 2 (.q 3 (.q 4 (.q 5 (.q 6 (.q 7 (.q 8 (.q 9 (.q 10 (.q 11 (.q 12 (.q 13 (.q 14 (.q 15 (.q 16 (.q 17 (.q 18 (.l 19 524287 .nil))))))))))))))))))))) (.s .r .r))))))))) [x0] w K = L127 x0 w K := by kernel_rfl
  exact xfun_sound (an := (.s .r (.s .r (.s (.s .r (.c (.s .r .r) .r)) (.s (.s (.x [0, 1, 3, 7, 15, 0, 32, 96, 224, 480, 1023] (.q 0 (.q 1 (.q 2 (.q 3 (.q 4 (.q 5 (.q 6 (.q 7 (.q 8 (.q 9 (.q 10 .nil)))))))))))) (.c (.s .r .r) .r)) (.s .r (.s (.s .r (.c (.s .r .r) .r)) (.s (.x [0, 1, 3, 7, 15, 0, 63, 127, 255, 0, 512, 1536, 3584, 7680, 16383, 32767, 65535, 131071] (.q 0 (.q 1 (.q 2 (.q 3 (.q 4 (.q 5 (.q 6 (.q 7 (.q 8 (.q 9 (.q 10 (.q 11 (.q 12 (.q 13 (.q 14 (.q 15 (.q 16 (.l 17 131071 .nil))))))))))))))))))) (.s (.x [0, 0, 2, 6, 14, 30, 62, 0, 128, 0, 0, 1024, 3072, 7168, 15360, 32256, 65534, 131071, 262143, 524287] (.q 0 (.q 1 (.q 2 (.q 3 (.q 4 (.q 5 (.q 6 (.q 7 (.q 8 (.q 9 (.q 10 (.q 11 (.q 12 (.q 13 (.q 14 (.q 15 (.q 16 (.q 17 (.q 18 (.l 19 524287 .nil))))))))))))))))))))) (.s .r .r)))))))))) Tryz.func127 mixed (by kernel_rfl) (by simp only [Tryz.ntmps127, List.length_cons, List.length_nil]; omega) (by rw [e]; exact h)
/-- (*standard.state).landed -/
def L128 (x0 : Value) (w : World) (K : Value → World → Prop) : Prop :=
 Ret Tryz.prog 176 [x0, (.int .i64 1)] w fun t7 W1 =>
 onSome (q_extract t7 0) fun t8 =>
 onSome (q_extract t7 1) fun t9 =>
 onSome (q_bin .neq t9 (.int .i64 0)) fun t11 =>
 xif t11
 (K t9 W1)
 (onSome (q_nil x0) fun t15 =>
 onSome (q_faddr 5 t15) fun t16 =>
 onSome (q_faddr 5 t16) fun t17 =>
 onSome (q_load1 t17 W1) fun t18 =>
 onSome (q_build #[.int .i64 0, .int .i64 0, .int .i64 0, .int .i64 0] [(3, 1, t18)]) fun t19 =>
 onSome (q_nil x0) fun t20 =>
 onSome (q_faddr 13 t20) fun t21 =>
 l_store 4 t21 t19 W1 fun _ W2 =>
 K (.int .i64 0) W2)
theorem lift128 {x0 : Value} {w : World} {K : Value → World → Prop} (h : L128 x0 w K) : Ret Tryz.prog 128 [x0] w K := by
  have e : xfun Tryz.prog Tryz.f128 (.s .r (.s (.s .r (.s .r (.c (.s .r .r) .r))) (.s .r (.s .r .r)))) [x0] w K = L128 x0 w K := by kernel_rfl
  exact xfun_sound (an := (.s .r (.s (.s .r (.s .r (.c (.s .r .r) .r))) (.s .r (.s .r .r))))) Tryz.func128 mixed (by kernel_rfl) (by simp only [Tryz.ntmps128, List.length_cons, List.length_nil]; omega) (by rw [e]; exact h)
/-- (*standard.state).reprice -/
def L129 (x0 : Value) (w : World) (K : Value → World → Prop) : Prop :=
 onSome (q_nil x0) fun t9 =>
 onSome (q_faddr 5 t9) fun t10 =>
 onSome (q_faddr 5 t10) fun t11 =>
 onSome (q_load1 t11 w.drew) fun t12 =>
 onSome (q_nil x0) fun t14 =>
 onSome (q_faddr 0 t14) fun t15 =>
 onSome (q_faddr 2 t15) fun t16 =>
 onSome (q_load1 t16 w.drew) fun t17 =>
 Ret Tryz.prog 178 [t12, t17] w.drew fun t18 W1 =>
 onSome (q_extract t18 0) fun t19 =>
 onSome (q_extract t18 1) fun t20 =>
 onSome (q_nil x0) fun t23 =>
 onSome (q_faddr 0 t23) fun t24 =>
 onSome (q_faddr 0 t24) fun t25 =>
 onSome (q_load1 t25 W1) fun t26 =>
 Ret Tryz.prog 179 [t26, t19] W1 fun t28 W2 =>
 onSome (q_extract t28 0) fun t29 =>
 onSome (q_extract t28 1) fun t30 =>
 onSome (q_un .not t20) fun t32 =>
 onSome (gateQ false t32 (some t30)) fun t34 =>
 onSome (gateQ false t32 (q_un .not t34)) fun t35 =>
 onSome (q_pick t32 (.bool true) t35) fun t36 =>
 onSome (gateQ false t36 (some t29)) fun t38 =>
 gateL false t36 (fun K => Ret Tryz.prog 79 [t38] W2 K) W2 fun t39 W3 =>
 onSome (gateQ false t36 (q_un .not t39)) fun t40 =>
 onSome (q_pick t36 (.bool true) t40) fun t41 =>
 xif t41
 (K (.int .i64 4) W3)
 (onSome (q_nil x0) fun t44 =>
 onSome (q_faddr 5 t44) fun t45 =>
 onSome (q_faddr 5 t45) fun t46 =>
 onSome (q_load1 t46 W3) fun t47 =>
 onSome (q_nil x0) fun t48 =>
 onSome (q_faddr 0 t48) fun t49 =>
 onSome (q_faddr 2 t49) fun t50 =>
 l_store 1 t50 t47 W3 fun _ W4 =>
 onSome (q_un .neg t29) fun t54 =>
 onSome (q_build #[.int .i64 0, .int .i64 0, .int .i64 0, .int .i64 0] [(2, 1, t29), (3, 1, t54)]) fun t55 =>
 onSome (q_nil x0) fun t56 =>
 onSome (q_faddr 13 t56) fun t57 =>
 l_store 4 t57 t55 W4 fun _ W5 =>
 K (.int .i64 0) W5)
theorem lift129 {x0 : Value} {w : World} {K : Value → World → Prop} (h : L129 x0 w K) : Ret Tryz.prog 129 [x0] w K := by
  have e : xfun Tryz.prog Tryz.f129 (.s .r (.s (.x [0, 1, 3, 7, 15, 0, 32, 96, 224, 480, 1023, 2047, 4095, 4095, 8191, 32767] (.q 0 (.q 1 (.q 2 (.q 3 (.q 4 (.q 5 (.q 6 (.q 7 (.q 8 (.q 9 (.l 10 1023 (.q 11 (.q 12 (.q 13 (.q 14 (.q 15 .nil))))))))))))))))) (.s .r (.s (.s .r (.c (.s .r .r) .r)) (.s .r (.s .r (.s .r .r))))))) [x0] w K = L129 x0 w K := by kernel_rfl
  exact xfun_sound (an := (.s .r (.s (.x [0, 1, 3, 7, 15, 0, 32, 96, 224, 480, 1023, 2047, 4095, 4095, 8191, 32767] (.q 0 (.q 1 (.q 2 (.q 3 (.q 4 (.q 5 (.q 6 (.q 7 (.q 8 (.q 9 (.l 10 1023 (.q 11 (.q 12 (.q 13 (.q 14 (.q 15 .nil))))))))))))))))) (.s .r (.s (.s .r (.c (.s .r .r) .r)) (.s .r (.s .r (.s .r .r)))))))) Tryz.func129 mixed (by kernel_rfl) (by simp only [Tryz.ntmps129, List.length_cons, List.length_nil]; omega) (by rw [e]; exact h)
/-- (*standard.state).price -/
def L174 (x0 p1 : Value) (w : World) (K : Value → World → Prop) : Prop :=
 onSome (q_nil x0) fun t10 =>
 onSome (q_faddr 5 t10) fun t11 =>
 onSome (q_faddr 4 t11) fun t12 =>
 onSome (q_load1 t12 w) fun t13 =>
 Ret Tryz.prog 179 [t13, p1] w fun t15 W1 =>
 onSome (q_extract t15 0) fun t16 =>
 onSome (q_extract t15 1) fun t17 =>
 onSome (q_un .not t17) fun t19 =>
 xif t19
 (K (.tuple #[(.int .i64 0), (.int .i64 4)]) W1)
 (K (.tuple #[t16, (.int .i64 0)]) W1)
theorem lift174 {x0 p1 : Value} {w : World} {K : Value → World → Prop} (h : L174 x0 p1 w K) : Ret Tryz.prog 174 [x0, p1] w K := by
  have e : xfun Tryz.prog Tryz.f174 (.s .r (.s .r (.s (.s .r (.c (.s .r .r) .r)) (.s .r .r)))) [x0, p1] w K = L174 x0 p1 w K := by kernel_rfl
  exact xfun_sound (an := (.s .r (.s .r (.s (.s .r (.c (.s .r .r) .r)) (.s .r .r))))) Tryz.func174 mixed (by kernel_rfl) (by simp only [Tryz.ntmps174, List.length_cons, List.length_nil]; omega) (by rw [e]; exact h)
/-- (*standard.state).record -/
def L175 (x0 value1 : Value) (w : World) (K : Value → World → Prop) : Prop :=
 onSome (q_nil x0) fun t6 =>
 onSome (q_faddr 0 t6) fun t7 =>
 onSome (q_faddr 4 t7) fun t8 =>
 onSome (q_load1 t8 w.drew) fun t9 =>
 onSome (q_nil x0) fun t11 =>
 onSome (q_faddr 5 t11) fun t12 =>
 onSome (q_faddr 0 t12) fun t13 =>
 onSome (q_load1 t13 w.drew) fun t14 =>
 onSome (q_nil x0) fun t16 =>
 onSome (q_faddr 5 t16) fun t17 =>
 onSome (q_faddr 3 t17) fun t18 =>
 onSome (q_load1 t18 w.drew) fun t19 =>
 onSome (q_nil x0) fun t21 =>
 onSome (q_faddr 5 t21) fun t22 =>
 onSome (q_faddr 6 t22) fun t23 =>
 onSome (q_load1 t23 w.drew) fun t24 =>
 onSome (q_nil x0) fun t26 =>
 onSome (q_faddr 5 t26) fun t27 =>
 onSome (q_faddr 4 t27) fun t28 =>
 onSome (q_load1 t28 w.drew) fun t29 =>
 onSome (q_build #[.int .i64 0, .int .i64 0, .string ⟨#[]⟩, .int .i64 0, .int .i64 0, .int .i64 0, .int .i64 0] [(0, 1, t14), (1, 1, t19), (2, 1, t24), (3, 1, t29), (4, 1, value1)]) fun t31 =>
 l_lit 105 1 #[.int .i64 0, .int .i64 0, .string ⟨#[]⟩, .int .i64 0, .int .i64 0, .int .i64 0, .int .i64 0] [(0, 7, t31)] w.drew fun t32 W1 =>
 ob (q_load1 t8 W1 = some t9) (
 l_append Tryz.prog #[26, 26] 26 t9 t32 W1 fun t33 W2 =>
 onSome (q_nil x0) fun t34 =>
 onSome (q_faddr 0 t34) fun t35 =>
 onSome (q_faddr 4 t35) fun t36 =>
 l_store 1 t36 t33 W2 fun _ W3 =>
 K (.tuple #[]) W3)
theorem lift175 {x0 value1 : Value} {w : World} {K : Value → World → Prop} (h : L175 x0 value1 w K) : Ret Tryz.prog 175 [x0, value1] w K := by
  have e : xfun Tryz.prog Tryz.f175 (.x [0, 0, 2, 6, 14, 30, 0, 64, 192, 448, 960, 0, 2048, 6144, 14336, 30720, 0, 65536, 196608, 458752, 983040, 0, 2097152, 6291456, 14680064, 31457280, 0, 134217664, 268435392, 536870910, 1073741823, 2147483647, 4294967295, 8589934591] (.q 0 (.q 1 (.q 2 (.q 3 (.q 4 (.q 5 (.q 6 (.q 7 (.q 8 (.q 9 (.q 10 (.q 11 (.q 12 (.q 13 (.q 14 (.q 15 (.q 16 (.q 17 (.q 18 (.q 19 (.q 20 (.q 21 (.q 22 (.q 23 (.q 24 (.q 25 (.q 26 (.q 27 (.l 28 268435392 (.l 29 536870910 (.q 30 (.q 31 (.q 32 (.l 33 8589934591 .nil))))))))))))))))))))))))))))))))))) [x0, value1] w K = L175 x0 value1 w K := by kernel_rfl
  exact xfun_sound (an := (.x [0, 0, 2, 6, 14, 30, 0, 64, 192, 448, 960, 0, 2048, 6144, 14336, 30720, 0, 65536, 196608, 458752, 983040, 0, 2097152, 6291456, 14680064, 31457280, 0, 134217664, 268435392, 536870910, 1073741823, 2147483647, 4294967295, 8589934591] (.q 0 (.q 1 (.q 2 (.q 3 (.q 4 (.q 5 (.q 6 (.q 7 (.q 8 (.q 9 (.q 10 (.q 11 (.q 12 (.q 13 (.q 14 (.q 15 (.q 16 (.q 17 (.q 18 (.q 19 (.q 20 (.q 21 (.q 22 (.q 23 (.q 24 (.q 25 (.q 26 (.q 27 (.l 28 268435392 (.l 29 536870910 (.q 30 (.q 31 (.q 32 (.l 33 8589934591 .nil)))))))))))))))))))))))))))))))))))) Tryz.func175 mixed (by kernel_rfl) (by simp only [Tryz.ntmps175, List.length_cons, List.length_nil]; omega) (by rw [e]; exact h)
/-- (*standard.state).back -/
def L176 (x0 kind1 : Value) (w : World) (K : Value → World → Prop) : Prop :=
 onSome (q_nil x0) fun t9 =>
 onSome (q_faddr 0 t9) fun t10 =>
 onSome (q_faddr 4 t10) fun t11 =>
 onSome (q_load1 t11 w.drew) fun t12 =>
 onSome (q_nil x0) fun t15 =>
 onSome (q_faddr 5 t15) fun t16 =>
 onSome (q_faddr 7 t16) fun t17 =>
 onSome (q_load1 t17 w.drew) fun t18 =>
 onSome (q_build #[.int .i64 0, .int .i64 0] [(0, 1, kind1), (1, 1, t18)]) fun t19 =>
 Ret Tryz.prog 75 [t12, t19] w.drew fun t20 W1 =>
 onSome (q_bin .lss t20 (.int .i64 0)) fun t22 =>
 xif t22
 (K (.tuple #[(.int .i64 0), (.int .i64 28)]) W1)
 (onSome (q_nil x0) fun t24 =>
 onSome (q_faddr 0 t24) fun t25 =>
 onSome (q_faddr 4 t25) fun t26 =>
 onSome (q_load1 t26 W1) fun t27 =>
 onSome (q_iaddr 7 t27 t20) fun t29 =>
 onSome (q_loadn 7 t29 W1) fun t30 =>
 l_new 105 #[.int .i64 0, .int .i64 0, .string ⟨#[]⟩, .int .i64 0, .int .i64 0, .int .i64 0, .int .i64 0] W1 fun p7 W2 =>
 l_store 7 p7 t30 W2 fun _ W3 =>
 onSome (q_nil x0) fun t32 =>
 onSome (q_faddr 5 t32) fun t33 =>
 onSome (q_faddr 4 t33) fun t34 =>
 onSome (q_load1 t34 W3.drew) fun t35 =>
 onSome (q_faddr 3 p7) fun t36 =>
 onSome (q_load1 t36 W3.drew) fun t37 =>
 onSome (q_faddr 5 p7) fun t38 =>
 onSome (q_load1 t38 W3.drew) fun t39 =>
 onSome (q_bin .sub t37 t39) fun t40 =>
 onSome (q_bin .gtr t35 t40) fun t41 =>
 xif t41
 (K (.tuple #[(.int .i64 0), (.int .i64 21)]) W3.drew)
 (K (.tuple #[t20, (.int .i64 0)]) W3.drew))
theorem lift176 {x0 kind1 : Value} {w : World} {K : Value → World → Prop} (h : L176 x0 kind1 w K) : Ret Tryz.prog 176 [x0, kind1] w K := by
  have e : xfun Tryz.prog Tryz.f176 (.s .r (.s (.x [0, 1, 3, 7, 15, 0, 0, 64, 192, 448, 960, 2016, 4095, 8191] (.q 0 (.q 1 (.q 2 (.q 3 (.q 4 (.q 5 (.q 6 (.q 7 (.q 8 (.q 9 (.q 10 (.q 11 (.l 12 4095 (.q 13 .nil))))))))))))))) (.s (.s .r (.c (.s .r .r) .r)) (.s (.s .r (.s (.x [0, 1, 3, 7, 15, 0, 32, 0, 128, 480, 1023] (.q 0 (.q 1 (.q 2 (.q 3 (.q 4 (.q 5 (.q 6 (.q 7 (.q 8 (.q 9 (.q 10 .nil)))))))))))) (.c (.s .r .r) .r))) (.s .r .r))))) [x0, kind1] w K = L176 x0 kind1 w K := by kernel_rfl
  exact xfun_sound (an := (.s .r (.s (.x [0, 1, 3, 7, 15, 0, 0, 64, 192, 448, 960, 2016, 4095, 8191] (.q 0 (.q 1 (.q 2 (.q 3 (.q 4 (.q 5 (.q 6 (.q 7 (.q 8 (.q 9 (.q 10 (.q 11 (.l 12 4095 (.q 13 .nil))))))))))))))) (.s (.s .r (.c (.s .r .r) .r)) (.s (.s .r (.s (.x [0, 1, 3, 7, 15, 0, 32, 0, 128, 480, 1023] (.q 0 (.q 1 (.q 2 (.q 3 (.q 4 (.q 5 (.q 6 (.q 7 (.q 8 (.q 9 (.q 10 .nil)))))))))))) (.c (.s .r .r) .r))) (.s .r .r)))))) Tryz.func176 mixed (by kernel_rfl) (by simp only [Tryz.ntmps176, List.length_cons, List.length_nil]; omega) (by rw [e]; exact h)
end Go.X
