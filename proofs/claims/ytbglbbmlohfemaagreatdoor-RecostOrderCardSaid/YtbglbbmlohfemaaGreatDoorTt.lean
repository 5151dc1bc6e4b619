/- The lifted forms of Go functions, printed by a program (lift.py); each is held against the loaded program by the kernel. -/
import Derived.Test.YtbglbbmlohfemaaGreatDoorA2
set_option linter.unusedVariables false
set_option linter.unusedSimpArgs false
set_option maxRecDepth 100000
namespace Go.X
open Go.Proofs
/-- moves.insert[api.Move] -/
def L98 (l0 x1 after2 : Value) (w : World) (K : Value → World → Prop) : Prop :=
 l_new 47 (x1 : Value).cells w fun x4 W1 =>
 onSome (q_len l0) fun t11 =>
 looping fun (I : Value → Value → World → Prop) (μ : Value → Value → World → Nat) => I (.int .i64 0) t11 W1 ∧
 ∀ (lo7 hi8 : Value) (W2 : World), I lo7 hi8 W2 → ∀ _ : Env,
 onSome (q_bin .lss lo7 hi8) fun t14 =>
 xif t14
 (onSome (q_bin .add lo7 hi8) fun t17 =>
 onSome (q_bin .quo t17 (.int .i64 2)) fun t18 =>
 onSome (q_iaddr 8 l0 t18) fun t22 =>
 onSome (q_loadn 8 t22 W2) fun t23 =>
 l_callv Tryz.prog after2 [t23] W2 fun t24 W3 =>
 xif t24
 (I lo7 t18 W3 ∧ μ lo7 t18 W3 < μ lo7 hi8 W2)
 (onSome (q_bin .add t18 (.int .i64 1)) fun t27 =>
 I t27 hi8 W3 ∧ μ t27 hi8 W3 < μ lo7 hi8 W2))
 (onSome (q_slice Tryz.prog 22 l0 none (some lo7) (some lo7)) fun t31 =>
 onSome (q_loadn 8 x4 W2.drew) fun t32 =>
 onSome (q_slice Tryz.prog 22 l0 (some lo7) none none) fun t37 =>
 l_lit 47 1 #[.int .i64 0, .int .i64 0, .string ⟨#[]⟩, .int .i64 0, .int .i64 0, .int .i64 0, .string ⟨#[]⟩, .int .i64 0] [(0, 8, t32)] W2.drew fun t33 W4 =>
 l_append Tryz.prog #[22, 22] 22 t31 t33 W4 fun t34 W5 =>
 l_append Tryz.prog #[22, 22] 22 t34 t37 W5 fun t38 W6 =>
 K t38 W6)
theorem lift98 {l0 x1 after2 : Value} {w : World} {K : Value → World → Prop} (h : L98 l0 x1 after2 w K) : Ret Tryz.prog 98 [l0, x1, after2] w K := by
  have e : xfun Tryz.prog Tryz.f98 (.s .r (.s .r (.s (.b (.l [7, 8] 268432256 (.s (.s .r (.c .r .r)) (.b (.s .r (.s .r (.c .r .r))))))) (.s (.x [0, 0, 0, 7, 0, 16, 63, 0, 0, 384, 1023, 2047] (.q 0 (.q 1 (.q 2 (.q 3 (.q 4 (.q 7 (.q 8 (.q 9 (.l 5 16 (.l 6 63 (.l 10 1023 (.q 11 .nil))))))))))))) .r)))) [l0, x1, after2] w K = L98 l0 x1 after2 w K := by kernel_rfl
  exact xfun_sound (an := (.s .r (.s .r (.s (.b (.l [7, 8] 268432256 (.s (.s .r (.c .r .r)) (.b (.s .r (.s .r (.c .r .r))))))) (.s (.x [0, 0, 0, 7, 0, 16, 63, 0, 0, 384, 1023, 2047] (.q 0 (.q 1 (.q 2 (.q 3 (.q 4 (.q 7 (.q 8 (.q 9 (.l 5 16 (.l 6 63 (.l 10 1023 (.q 11 .nil))))))))))))) .r))))) Tryz.func98 mixed (by kernel_rfl) (by simp only [Tryz.ntmps98, List.length_cons, List.length_nil]; omega) (by rw [e]; exact h)
/-- moves.Order$1 -/
def L99 (y0 a1 : Value) (w : World) (K : Value → World → Prop) : Prop :=
 l_new 47 (y0 : Value).cells w fun y2 W1 =>
 onSome (q_faddr 1 a1) fun t4 =>
 onSome (q_load1 t4 W1) fun t5 =>
 onSome (q_faddr 1 y2) fun t6 =>
 onSome (q_load1 t6 W1) fun t7 =>
 onSome (q_bin .lss t5 t7) fun t8 =>
 onSome (gateQ false t8 (q_faddr 1 a1)) fun t10 =>
 onSome (gateQ false t8 (q_load1 t10 W1)) fun t11 =>
 onSome (gateQ false t8 (q_faddr 1 y2)) fun t12 =>
 onSome (gateQ false t8 (q_load1 t12 W1)) fun t13 =>
 onSome (gateQ false t8 (q_bin .eql t11 t13)) fun t14 =>
 onSome (gateQ false t8 (some t14)) fun t15 =>
 onSome (gateQ true t15 (q_faddr 0 a1)) fun t16 =>
 onSome (gateQ true t15 (q_load1 t16 W1)) fun t17 =>
 onSome (gateQ true t15 (q_faddr 0 y2)) fun t18 =>
 onSome (gateQ true t15 (q_load1 t18 W1)) fun t19 =>
 onSome (gateQ true t15 (q_bin .lss t17 t19)) fun t20 =>
 onSome (gateQ false t8 (q_pick t15 t20 (.bool false))) fun t21 =>
 onSome (q_pick t8 (.bool true) t21) fun t22 =>
 K t22 W1
theorem lift99 {y0 a1 : Value} {w : World} {K : Value → World → Prop} (h : L99 y0 a1 w K) : Ret Tryz.prog 99 [y0, a1] w K := by
  have e : xfun Tryz.prog Tryz.f99 (.s .r (.s .r .r)) [y0, a1] w K = L99 y0 a1 w K := by kernel_rfl
  exact xfun_sound (an := (.s .r (.s .r .r))) Tryz.func99 mixed (by kernel_rfl) (by simp only [Tryz.ntmps99, List.length_cons, List.length_nil]; omega) (by rw [e]; exact h)
/-- moves.Order -/
def L54 (l0 : Value) (w : World) (K : Value → World → Prop) : Prop :=
 onSome (q_len l0) fun t6 =>
 looping fun (I : Value → Value → World → Prop) (μ : Value → Value → World → Nat) => I (.slice none 0 0) (.int .i64 0) w ∧
 ∀ (o2 t7 : Value) (W1 : World), I o2 t7 W1 → ∀ _ : Env,
 onSome (q_bin .lss t7 t6) fun t8 =>
 xif t8
 (onSome (q_iaddr 8 l0 t7) fun t9 =>
 onSome (q_loadn 8 t9 W1) fun t10 =>
 l_new 47 #[.int .i64 0, .int .i64 0, .string ⟨#[]⟩, .int .i64 0, .int .i64 0, .int .i64 0, .string ⟨#[]⟩, .int .i64 0] W1 fun m4 W2 =>
 l_store 8 m4 t10 W2 fun _ W3 =>
 onSome (q_loadn 8 m4 W3) fun t12 =>
 onSome (q_func (.func 99) [] [m4]) fun t13 =>
 Ret Tryz.prog 98 [o2, t12, t13] W3 fun t14 W4 =>
 onSome (q_bin .add t7 (.int .i64 1)) fun t15 =>
 I t14 t15 W4 ∧ μ t14 t15 W4 < μ o2 t7 W1)
 (K o2 W1)
theorem lift54 {l0 : Value} {w : World} {K : Value → World → Prop} (h : L54 l0 w K) : Ret Tryz.prog 54 [l0] w K := by
  have e : xfun Tryz.prog Tryz.f54 (.s .r (.s (.s .r (.b (.l [2, 7] 65428 (.s .r (.s (.c .r .r) (.s (.b (.s .r .r)) .r)))))) (.s .r .r))) [l0] w K = L54 l0 w K := by kernel_rfl
  exact xfun_sound (an := (.s .r (.s (.s .r (.b (.l [2, 7] 65428 (.s .r (.s (.c .r .r) (.s (.b (.s .r .r)) .r)))))) (.s .r .r)))) Tryz.func54 mixed (by kernel_rfl) (by simp only [Tryz.ntmps54, List.length_cons, List.length_nil]; omega) (by rw [e]; exact h)
/-- accountinglaw39.RecostOrder -/
def L17 (w0 l1 : Value) (w : World) (K : Value → World → Prop) : Prop :=
 l_new 64 (w0 : Value).cells w fun w2 W1 =>
 Ret Tryz.prog 38 [l1] W1 fun t20 W2 =>
 onSome (q_un .not t20) fun t21 =>
 onSome (gateQ false t21 (some l1)) fun t23 =>
 gateL false t21 (fun K => Ret Tryz.prog 53 [t23] W2 K) W2 fun t24 W3 =>
 onSome (gateQ false t21 (q_un .not t24)) fun t25 =>
 onSome (q_pick t21 (.bool true) t25) fun t26 =>
 xif t26
 (Ret Tryz.prog 39 [] W3 fun t27 W4 =>
 K t27 W4)
 (looping fun (I : Value → Value → World → Prop) (μ : Value → Value → World → Nat) => I (.slice none 0 0) (.int .i64 0) W3 ∧
 ∀ (m5 i6 : Value) (W5 : World), I m5 i6 W5 → ∀ _ : Env,
 onSome (q_len l1) fun t30 =>
 onSome (q_bin .lss i6 t30) fun t31 =>
 xif t31
 (onSome (q_iaddr 8 l1 i6) fun t37 =>
 onSome (q_loadn 8 t37 W5) fun t38 =>
 l_lit 47 1 #[.int .i64 0, .int .i64 0, .string ⟨#[]⟩, .int .i64 0, .int .i64 0, .int .i64 0, .string ⟨#[]⟩, .int .i64 0] [(0, 8, t38)] W5 fun t39 W6 =>
 l_append Tryz.prog #[22, 22] 22 m5 t39 W6 fun t40 W7 =>
 onSome (q_bin .add i6 (.int .i64 2)) fun t33 =>
 I t40 t33 W7 ∧ μ t40 t33 W7 < μ m5 i6 W5)
 (looping fun (I1 : Value → Value → World → Prop) (μ1 : Value → Value → World → Nat) => I1 m5 (.int .i64 1) W5 ∧
 ∀ (m5_1 i7 : Value) (W8 : World), I1 m5_1 i7 W8 → ∀ _ : Env,
 onSome (q_len l1) fun t43 =>
 onSome (q_bin .lss i7 t43) fun t44 =>
 xif t44
 (onSome (q_iaddr 8 l1 i7) fun t50 =>
 onSome (q_loadn 8 t50 W8) fun t51 =>
 l_lit 47 1 #[.int .i64 0, .int .i64 0, .string ⟨#[]⟩, .int .i64 0, .int .i64 0, .int .i64 0, .string ⟨#[]⟩, .int .i64 0] [(0, 8, t51)] W8 fun t52 W9 =>
 l_append Tryz.prog #[22, 22] 22 m5_1 t52 W9 fun t53 W10 =>
 onSome (q_bin .add i7 (.int .i64 2)) fun t46 =>
 I1 t53 t46 W10 ∧ μ1 t53 t46 W10 < μ1 m5_1 i7 W8)
 (onSome (q_loadn 2 w2 W8.drew) fun t54 =>
 onSome (q_loadn 2 w2 W8.drew) fun t57 =>
 Ret Tryz.prog 52 [t54, l1] W8.drew fun t56 W11 =>
 ob (q_loadn 2 w2 W11 = some t57) (
 Ret Tryz.prog 52 [t57, m5_1] W11 fun t59 W12 =>
 onSome (q_eq Tryz.prog .eql 50 t56 (.pointer none)) fun t61 =>
 onSome (gateQ false t61 (some t59)) fun t63 =>
 onSome (gateQ false t61 (q_eq Tryz.prog .eql 50 t63 (.pointer none))) fun t64 =>
 onSome (q_pick t61 (.bool true) t64) fun t65 =>
 onSome (gateQ false t65 (some t56)) fun t67 =>
 gateL false t65 (fun K => Ret Tryz.prog 40 [t67] W12 K) W12 fun t68 W13 =>
 onSome (gateQ false t65 (some l1)) fun t69 =>
 onSome (gateQ false t65 (q_len t69)) fun t70 =>
 onSome (gateQ false t65 (q_bin .neq t68 t70)) fun t71 =>
 onSome (q_pick t65 (.bool true) t71) fun t72 =>
 onSome (gateQ false t72 (some t59)) fun t74 =>
 gateL false t72 (fun K => Ret Tryz.prog 40 [t74] W13 K) W13 fun t75 W14 =>
 onSome (gateQ false t72 (some l1)) fun t76 =>
 onSome (gateQ false t72 (q_len t76)) fun t77 =>
 onSome (gateQ false t72 (q_bin .neq t75 t77)) fun t78 =>
 onSome (q_pick t72 (.bool true) t78) fun t79 =>
 xif t79
 (Ret Tryz.prog 39 [] W14 fun t80 W15 =>
 K t80 W15)
 (Ret Tryz.prog 49 [t56] W14 fun t82 W16 =>
 Ret Tryz.prog 54 [t82] W16 fun t83 W17 =>
 Ret Tryz.prog 49 [t59] W17 fun t85 W18 =>
 Ret Tryz.prog 54 [t85] W18 fun t86 W19 =>
 looping fun (I2 : Value → World → Prop) (μ2 : Value → World → Nat) => I2 (.int .i64 0) W19 ∧
 ∀ (i12 : Value) (W20 : World), I2 i12 W20 → ∀ _ : Env,
 onSome (q_len t83) fun t89 =>
 onSome (q_bin .lss i12 t89) fun t90 =>
 xif t90
 (onSome (q_iaddr 8 t83 i12) fun t97 =>
 onSome (q_faddr 0 t97) fun t98 =>
 onSome (q_load1 t98 W20) fun t99 =>
 Ret Tryz.prog 42 [t56, t99] W20 fun t100 W21 =>
 onSome (q_extract t100 0) fun t101 =>
 onSome (q_extract t100 1) fun t102 =>
 l_new 43 #[.int .i64 0, .int .i64 0, .int .i64 0, .int .i64 0] W21 fun a13 W22 =>
 l_store 4 a13 t101 W22 fun _ W23 =>
 onSome (q_iaddr 8 t86 i12) fun t107 =>
 onSome (q_faddr 0 t107) fun t108 =>
 onSome (q_load1 t108 W23) fun t109 =>
 Ret Tryz.prog 42 [t59, t109] W23 fun t110 W24 =>
 onSome (q_extract t110 0) fun t111 =>
 onSome (q_extract t110 1) fun t112 =>
 l_new 43 #[.int .i64 0, .int .i64 0, .int .i64 0, .int .i64 0] W24 fun b15 W25 =>
 l_store 4 b15 t111 W25 fun _ W26 =>
 onSome (q_iaddr 8 t83 i12) fun t115 =>
 onSome (q_faddr 1 t115) fun t116 =>
 onSome (q_load1 t116 W26.drew) fun t117 =>
 onSome (q_iaddr 8 t86 i12) fun t120 =>
 onSome (q_faddr 1 t120) fun t121 =>
 onSome (q_load1 t121 W26.drew) fun t122 =>
 onSome (q_bin .neq t117 t122) fun t123 =>
 onSome (gateQ false t123 (q_faddr 1 a13)) fun t125 =>
 onSome (gateQ false t123 (q_load1 t125 W26.drew)) fun t126 =>
 onSome (gateQ false t123 (q_faddr 1 b15)) fun t127 =>
 onSome (gateQ false t123 (q_load1 t127 W26.drew)) fun t128 =>
 onSome (gateQ false t123 (q_bin .neq t126 t128)) fun t129 =>
 onSome (q_pick t123 (.bool true) t129) fun t130 =>
 onSome (gateQ false t130 (q_faddr 2 a13)) fun t132 =>
 onSome (gateQ false t130 (q_load1 t132 W26.drew)) fun t133 =>
 onSome (gateQ false t130 (q_faddr 2 b15)) fun t134 =>
 onSome (gateQ false t130 (q_load1 t134 W26.drew)) fun t135 =>
 onSome (gateQ false t130 (q_bin .neq t133 t135)) fun t136 =>
 onSome (q_pick t130 (.bool true) t136) fun t137 =>
 onSome (gateQ false t137 (q_faddr 3 a13)) fun t139 =>
 onSome (gateQ false t137 (q_load1 t139 W26.drew)) fun t140 =>
 onSome (gateQ false t137 (q_faddr 3 b15)) fun t141 =>
 onSome (gateQ false t137 (q_load1 t141 W26.drew)) fun t142 =>
 onSome (gateQ false t137 (q_bin .neq t140 t142)) fun t143 =>
 onSome (q_pick t137 (.bool true) t143) fun t144 =>
 xif t144
 (K (.bool false) W26.drew)
 (onSome (q_bin .add i12 (.int .i64 1)) fun t92 =>
 I2 t92 W26.drew ∧ μ2 t92 W26.drew < μ2 i12 W20))
 (Ret Tryz.prog 50 [t56] W20 fun t146 W27 =>
 Ret Tryz.prog 50 [t59] W27 fun t148 W28 =>
 l_new 28 #[.int .i64 0, .int .i64 0, .int .i64 0, .slice none 0 0, .slice none 0 0] W28 fun s17 W29 =>
 l_new 28 #[.int .i64 0, .int .i64 0, .int .i64 0, .slice none 0 0, .slice none 0 0] W29 fun t18 W30 =>
 l_store 5 s17 t146 W30 fun _ W31 =>
 l_store 5 t18 t148 W31 fun _ W32 =>
 onSome (q_faddr 0 s17) fun t149 =>
 onSome (q_load1 t149 W32) fun t150 =>
 onSome (q_faddr 0 t18) fun t151 =>
 onSome (q_load1 t151 W32) fun t152 =>
 onSome (q_bin .eql t150 t152) fun t153 =>
 onSome (gateQ true t153 (q_faddr 1 s17)) fun t155 =>
 onSome (gateQ true t153 (q_load1 t155 W32)) fun t156 =>
 onSome (gateQ true t153 (q_faddr 1 t18)) fun t157 =>
 onSome (gateQ true t153 (q_load1 t157 W32)) fun t158 =>
 onSome (gateQ true t153 (q_bin .eql t156 t158)) fun t159 =>
 onSome (q_pick t153 t159 (.bool false)) fun t160 =>
 gateL true t160 (fun K => Ret Tryz.prog 39 [] W32 K) W32 fun t162 W33 =>
 onSome (q_pick t160 t162 (.bool false)) fun t163 =>
 K t163 W33))))))
theorem lift17 {w0 l1 : Value} {w : World} {K : Value → World → Prop} (h : L17 w0 l1 w K) : Ret Tryz.prog 17 [w0, l1] w K := by
  have e : xfun Tryz.prog Tryz.f17 (.s .r (.s (.s .r (.c (.s .r .r) .r)) (.s .r (.s (.s .r (.b (.l [5, 6] 2198754820192 (.s (.s .r (.c .r .r)) (.s (.b .r) .r))))) (.s (.s .r (.b (.l [5, 7] 18012199486226592 (.s (.s .r (.c .r .r)) (.s (.b .r) .r))))) (.s (.x [0, 0, 3, 0, 0, 31, 63, 127] (.q 0 (.q 1 (.q 3 (.q 4 (.l 2 3 (.l 5 31 (.q 6 (.q 7 .nil))))))))) (.s (.s .r (.c (.s .r .r) .r)) (.s .r (.s (.s .r (.b (.l [12] 44601490397061246128328931634624188649697296 (.s (.s .r (.c .r .r)) (.s (.b (.s .r (.s .r (.s (.x [0, 0, 3, 7, 15, 0, 0, 96, 224, 480, 1023, 2047, 4095, 8191, 4095, 20479, 65535, 131071, 262143, 524287, 1048575, 524287, 2621439, 8388607, 16777215, 33554431, 67108863, 134217727, 67108863, 335544319, 1073741823, 2147483647] (.q 0 (.q 1 (.q 2 (.q 3 (.q 4 (.q 5 (.q 6 (.q 7 (.q 8 (.q 9 (.q 10 (.q 11 (.q 12 (.q 13 (.q 14 (.q 15 (.q 16 (.q 17 (.q 18 (.q 19 (.q 20 (.q 21 (.q 22 (.q 23 (.q 24 (.q 25 (.q 26 (.q 27 (.q 28 (.q 29 (.q 30 (.q 31 .nil))))))))))))))))))))))))))))))))) (.c (.s .r .r) .r))))) .r))))) (.s .r (.s .r .r))))))))))) [w0, l1] w K = L17 w0 l1 w K := by kernel_rfl
  exact xfun_sound (an := (.s .r (.s (.s .r (.c (.s .r .r) .r)) (.s .r (.s (.s .r (.b (.l [5, 6] 2198754820192 (.s (.s .r (.c .r .r)) (.s (.b .r) .r))))) (.s (.s .r (.b (.l [5, 7] 18012199486226592 (.s (.s .r (.c .r .r)) (.s (.b .r) .r))))) (.s (.x [0, 0, 3, 0, 0, 31, 63, 127] (.q 0 (.q 1 (.q 3 (.q 4 (.l 2 3 (.l 5 31 (.q 6 (.q 7 .nil))))))))) (.s (.s .r (.c (.s .r .r) .r)) (.s .r (.s (.s .r (.b (.l [12] 44601490397061246128328931634624188649697296 (.s (.s .r (.c .r .r)) (.s (.b (.s .r (.s .r (.s (.x [0, 0, 3, 7, 15, 0, 0, 96, 224, 480, 1023, 2047, 4095, 8191, 4095, 20479, 65535, 131071, 262143, 524287, 1048575, 524287, 2621439, 8388607, 16777215, 33554431, 67108863, 134217727, 67108863, 335544319, 1073741823, 2147483647] (.q 0 (.q 1 (.q 2 (.q 3 (.q 4 (.q 5 (.q 6 (.q 7 (.q 8 (.q 9 (.q 10 (.q 11 (.q 12 (.q 13 (.q 14 (.q 15 (.q 16 (.q 17 (.q 18 (.q 19 (.q 20 (.q 21 (.q 22 (.q 23 (.q 24 (.q 25 (.q 26 (.q 27 (.q 28 (.q 29 (.q 30 (.q 31 .nil))))))))))))))))))))))))))))))))) (.c (.s .r .r) .r))))) .r))))) (.s .r (.s .r .r)))))))))))) Tryz.func17 mixed (by kernel_rfl) (by simp only [Tryz.ntmps17, List.length_cons, List.length_nil]; omega) (by rw [e]; exact h)
/-- accountinglaw39.alone -/
def L53 (l0 : Value) (w : World) (K : Value → World → Prop) : Prop :=
 looping fun (I : Value → World → Prop) (μ : Value → World → Nat) => I (.int .i64 0) w ∧
 ∀ (i3 : Value) (W1 : World), I i3 W1 → ∀ _ : Env,
 onSome (q_len l0) fun t7 =>
 onSome (q_bin .lss i3 t7) fun t8 =>
 xif t8
 (onSome (q_iaddr 8 l0 i3) fun t13 =>
 onSome (q_faddr 3 t13) fun t14 =>
 onSome (q_load1 t14 W1) fun t15 =>
 onSome (q_bin .gtr t15 (.int .i64 2)) fun t16 =>
 xif t16
 (K (.bool false) W1)
 (looping fun (I1 : Value → World → Prop) (μ1 : Value → World → Nat) => I1 (.int .i64 0) W1 ∧
 ∀ (k4 : Value) (W2 : World), I1 k4 W2 → ∀ _ : Env,
 onSome (q_bin .lss k4 i3) fun t19 =>
 xif t19
 (onSome (q_iaddr 8 l0 k4) fun t24 =>
 onSome (q_faddr 1 t24) fun t25 =>
 onSome (q_load1 t25 W2.drew) fun t26 =>
 onSome (q_iaddr 8 l0 i3) fun t29 =>
 onSome (q_faddr 1 t29) fun t30 =>
 onSome (q_load1 t30 W2.drew) fun t31 =>
 onSome (q_bin .eql t26 t31) fun t32 =>
 xif t32
 (K (.bool false) W2.drew)
 (onSome (q_bin .add k4 (.int .i64 1)) fun t21 =>
 I1 t21 W2.drew ∧ μ1 t21 W2.drew < μ1 k4 W2))
 (onSome (q_bin .add i3 (.int .i64 1)) fun t10 =>
 I t10 W2 ∧ μ t10 W2 < μ i3 W1)))
 (K (.bool true) W1)
theorem lift53 {l0 : Value} {w : World} {K : Value → World → Prop} (h : L53 l0 w K) : Ret Tryz.prog 53 [l0] w K := by
  have e : xfun Tryz.prog Tryz.f53 (.s .r (.s (.s .r (.b (.l [3] 8589934588 (.s (.s .r (.c .r .r)) (.s (.b (.s (.s .r (.c (.s .r .r) .r)) (.s .r (.b (.l [4] 8589803540 (.s (.s .r (.c .r .r)) (.s (.b (.s (.x [0, 0, 3, 7, 15, 0, 0, 96, 224, 480, 1023] (.q 0 (.q 1 (.q 2 (.q 3 (.q 4 (.q 5 (.q 6 (.q 7 (.q 8 (.q 9 (.q 10 .nil)))))))))))) (.c (.s .r .r) .r))) .r))))))) .r))))) (.s .r .r))) [l0] w K = L53 l0 w K := by kernel_rfl
  exact xfun_sound (an := (.s .r (.s (.s .r (.b (.l [3] 8589934588 (.s (.s .r (.c .r .r)) (.s (.b (.s (.s .r (.c (.s .r .r) .r)) (.s .r (.b (.l [4] 8589803540 (.s (.s .r (.c .r .r)) (.s (.b (.s (.x [0, 0, 3, 7, 15, 0, 0, 96, 224, 480, 1023] (.q 0 (.q 1 (.q 2 (.q 3 (.q 4 (.q 5 (.q 6 (.q 7 (.q 8 (.q 9 (.q 10 .nil)))))))))))) (.c (.s .r .r) .r))) .r))))))) .r))))) (.s .r .r)))) Tryz.func53 mixed (by kernel_rfl) (by simp only [Tryz.ntmps53, List.length_cons, List.length_nil]; omega) (by rw [e]; exact h)
end Go.X
