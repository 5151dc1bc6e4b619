/- The lifted forms of Go functions, printed by a program (lift.py); each is held against the loaded program by the kernel. -/
import Derived.Test.YtbglbbmlohfemaaGreatDoorA2
set_option linter.unusedVariables false
set_option linter.unusedSimpArgs false
set_option maxRecDepth 100000
namespace Go.X
open Go.Proofs
/-- moves.insert[api.Move] -/
def L98 (l0 x1 after2 : Value) (w : World) (K : Value → World → Prop) : Prop :=
 l_new 47 (x1 : Value).cells w fun x4 W1 =>
 onSome (q_len l0) fun t11 =>
 looping fun (I : Value → Value → World → Prop) (μ : Value → Value → World → Nat) => I (.int .i64 0) t11 W1 ∧
 ∀ (lo7 hi8 : Value) (W2 : World), I lo7 hi8 W2 → ∀ _ : Env,
 onSome (q_bin .lss lo7 hi8) fun t14 =>
 xif t14
 (onSome (q_bin .add lo7 hi8) fun t17 =>
 onSome (q_bin .quo t17 (.int .i64 2)) fun t18 =>
 onSome (q_iaddr 8 l0 t18) fun t22 =>
 onSome (q_loadn 8 t22 W2) fun t23 =>
 l_callv Tryz.prog after2 [t23] W2 fun t24 W3 =>
 xif t24
 (I lo7 t18 W3 ∧ μ lo7 t18 W3 < μ lo7 hi8 W2)
 (onSome (q_bin .add t18 (.int .i64 1)) fun t27 =>
 I t27 hi8 W3 ∧ μ t27 hi8 W3 < μ lo7 hi8 W2))
 (onSome (q_slice Tryz.prog 22 l0 none (some lo7) (some lo7)) fun t31 =>
 onSome (q_loadn 8 x4 W2.drew) fun t32 =>
 onSome (q_slice Tryz.prog 22 l0 (some lo7) none none) fun t37 =>
 l_lit 47 1 #[.int .i64 0, .int .i64 0, .string ⟨#[]⟩, .int .i64 0, .int .i64 0, .int .i64 0, .string ⟨#[]⟩, .int .i64 0] [(0, 8, t32)] W2.drew fun t33 W4 =>
 l_append Tryz.prog #[22, 22] 22 t31 t33 W4 fun t34 W5 =>
 l_append Tryz.prog #[22, 22] 22 t34 t37 W5 fun t38 W6 =>
 K t38 W6)
theorem lift98 {l0 x1 after2 : Value} {w : World} {K : Value → World → Prop} (h : L98 l0 x1 after2 w K) : Ret Tryz.prog 98 [l0, x1, after2] w K := by
  have e : xfun Tryz.prog Tryz.f98 (.s .r (.s .r (.s (.b (.l [7, 8] 268432256 (.s (.s .r (.c .r .r)) (.b (.s .r (.s .r (.c .r .r))))))) (.s (.x [0, 0, 0, 7, 0, 16, 63, 0, 0, 384, 1023, 2047] (.q 0 (.q 1 (.q 2 (.q 3 (.q 4 (.q 7 (.q 8 (.q 9 (.l 5 16 (.l 6 63 (.l 10 1023 (.q 11 .nil))))))))))))) .r)))) [l0, x1, after2] w K = L98 l0 x1 after2 w K := by kernel_rfl
  exact xfun_sound (an := (.s .r (.s .r (.s (.b (.l [7, 8] 268432256 (.s (.s .r (.c .r .r)) (.b (.s .r (.s .r (.c .r .r))))))) (.s (.x [0, 0, 0, 7, 0, 16, 63, 0, 0, 384, 1023, 2047] (.q 0 (.q 1 (.q 2 (.q 3 (.q 4 (.q 7 (.q 8 (.q 9 (.l 5 16 (.l 6 63 (.l 10 1023 (.q 11 .nil))))))))))))) .r))))) Tryz.func98 mixed (by kernel_rfl) (by simp only [Tryz.ntmps98, List.length_cons, List.length_nil]; omega) (by rw [e]; exact h)
/-- moves.Order$1 -/
def L99 (y0 a1 : Value) (w : World) (K : Value → World → Prop) : Prop :=
 l_new 47 (y0 : Value).cells w fun y2 W1 =>
 onSome (q_faddr 1 a1) fun t4 =>
 onSome (q_load1 t4 W1) fun t5 =>
 onSome (q_faddr 1 y2) fun t6 =>
 onSome (q_load1 t6 W1) fun t7 =>
 onSome (q_bin .lss t5 t7) fun t8 =>
 onSome (gateQ false t8 (q_faddr 1 a1)) fun t10 =>
 onSome (gateQ false t8 (q_load1 t10 W1)) fun t11 =>
 onSome (gateQ false t8 (q_faddr 1 y2)) fun t12 =>
 onSome (gateQ false t8 (q_load1 t12 W1)) fun t13 =>
 onSome (gateQ false t8 (q_bin .eql t11 t13)) fun t14 =>
 onSome (gateQ false t8 (some t14)) fun t15 =>
 onSome (gateQ true t15 (q_faddr 0 a1)) fun t16 =>
 onSome (gateQ true t15 (q_load1 t16 W1)) fun t17 =>
 onSome (gateQ true t15 (q_faddr 0 y2)) fun t18 =>
 onSome (gateQ true t15 (q_load1 t18 W1)) fun t19 =>
 onSome (gateQ true t15 (q_bin .lss t17 t19)) fun t20 =>
 onSome (gateQ false t8 (q_pick t15 t20 (.bool false))) fun t21 =>
 onSome (q_pick t8 (.bool true) t21) fun t22 =>
 K t22 W1
theorem lift99 {y0 a1 : Value} {w : World} {K : Value → World → Prop} (h : L99 y0 a1 w K) : Ret Tryz.prog 99 [y0, a1] w K := by
  have e : xfun Tryz.prog Tryz.f99 (.s .r (.s .r .r)) [y0, a1] w K = L99 y0 a1 w K := by kernel_rfl
  exact xfun_sound (an := (.s .r (.s .r .r))) Tryz.func99 mixed (by kernel_rfl) (by simp only [Tryz.ntmps99, List.length_cons, List.length_nil]; omega) (by rw [e]; exact h)
/-- moves.Order -/
def L54 (l0 : Value) (w : World) (K : Value → World → Prop) : Prop :=
 onSome (q_len l0) fun t6 =>
 looping fun (I : Value → Value → World → Prop) (μ : Value → Value → World → Nat) => I (.slice none 0 0) (.int .i64 0) w ∧
 ∀ (o2 t7 : Value) (W1 : World), I o2 t7 W1 → ∀ _ : Env,
 onSome (q_bin .lss t7 t6) fun t8 =>
 xif t8
 (onSome (q_iaddr 8 l0 t7) fun t9 =>
 onSome (q_loadn 8 t9 W1) fun t10 =>
 l_new 47 #[.int .i64 0, .int .i64 0, .string ⟨#[]⟩, .int .i64 0, .int .i64 0, .int .i64 0, .string ⟨#[]⟩, .int .i64 0] W1 fun m4 W2 =>
 l_store 8 m4 t10 W2 fun _ W3 =>
 onSome (q_loadn 8 m4 W3) fun t12 =>
 onSome (q_func (.func 99) [] [m4]) fun t13 =>
 Ret Tryz.prog 98 [o2, t12, t13] W3 fun t14 W4 =>
 onSome (q_bin .add t7 (.int .i64 1)) fun t15 =>
 I t14 t15 W4 ∧ μ t14 t15 W4 < μ o2 t7 W1)
 (K o2 W1)
theorem lift54 {l0 : Value} {w : World} {K : Value → World → Prop} (h : L54 l0 w K) : Ret Tryz.prog 54 [l0] w K := by
  have e : xfun Tryz.prog Tryz.f54 (.s .r (.s (.s .r (.b (.l [2, 7] 65428 (.s .r (.s (.c .r .r) (.s (.b (.s .r .r)) .r)))))) (.s .r .r))) [l0] w K = L54 l0 w K := by kernel_rfl
  exact xfun_sound (an := (.s .r (.s (.s .r (.b (.l [2, 7] 65428 (.s .r (.s (.c .r .r) (.s (.b (.s .r .r)) .r)))))) (.s .r .r)))) Tryz.func54 mixed (by kernel_rfl) (by simp only [Tryz.ntmps54, List.length_cons, List.length_nil]; omega) (by rw [e]; exact h)
/-- accountinglaw39.RecostReplay -/
def L18 (w0 l1 : Value) (w : World) (K : Value → World → Prop) : Prop :=
 l_new 64 (w0 : Value).cells w fun w2 W1 =>
 Ret Tryz.prog 38 [l1] W1 fun t14 W2 =>
 onSome (q_un .not t14) fun t15 =>
 xif t15
 (Ret Tryz.prog 39 [] W2 fun t16 W3 =>
 K t16 W3)
 (onSome (q_loadn 2 w2 W2) fun t17 =>
 Ret Tryz.prog 52 [t17, l1] W2 fun t19 W4 =>
 onSome (q_eq Tryz.prog .eql 50 t19 (.pointer none)) fun t21 =>
 xif t21
 (Ret Tryz.prog 39 [] W4 fun t22 W5 =>
 K t22 W5)
 (joining fun (J : Value → Value → Value → Value → World → Prop) => (onSome (q_faddr 0 w2) fun t24 =>
 onSome (q_load1 t24 W4.drew) fun t25 =>
 onSome (q_faddr 1 w2) fun t26 =>
 onSome (q_load1 t26 W4.drew) fun t27 =>
 (Ret Tryz.prog 49 [t19] W4.drew fun t29 W6 =>
 ob (q_load1 t26 W6 = some t27) (
 ob (q_load1 t24 W6 = some t25) (
 (Ret Tryz.prog 54 [t29] W6 fun t30 W7 =>
 ob (q_load1 t26 W7 = some t27) (
 ob (q_load1 t24 W7 = some t25) (
 (Ret Tryz.prog 23 [t25, t27, t30] W7 fun t31 W8 =>
 onSome (q_extract t31 0) fun t32 =>
 onSome (q_extract t31 1) fun t33 =>
 onSome (q_extract t31 2) fun t34 =>
 onSome (q_extract t31 3) fun t35 =>
 l_new 28 #[.int .i64 0, .int .i64 0, .int .i64 0, .slice none 0 0, .slice none 0 0] W8 fun s6 W9 =>
 l_store 5 s6 t32 W9 fun _ W10 =>
 J s6 t33 t34 t35 W10) ∧
 (l_new 28 #[.int .i64 0, .int .i64 0, .int .i64 0, .slice none 0 0, .slice none 0 0] W7 fun s6_1 W11 =>
 ob (q_load1 t26 W11 = some t27) (
 ob (q_load1 t24 W11 = some t25) (
 Ret Tryz.prog 23 [t25, t27, t30] W11 fun t31_1 W12 =>
 onSome (q_extract t31_1 0) fun t32_1 =>
 onSome (q_extract t31_1 1) fun t33_1 =>
 onSome (q_extract t31_1 2) fun t34_1 =>
 onSome (q_extract t31_1 3) fun t35_1 =>
 l_store 5 s6_1 t32_1 W12 fun _ W13 =>
 J s6_1 t33_1 t34_1 t35_1 W13)))))) ∧
 (l_new 28 #[.int .i64 0, .int .i64 0, .int .i64 0, .slice none 0 0, .slice none 0 0] W6 fun s6_2 W14 =>
 ob (q_load1 t26 W14 = some t27) (
 ob (q_load1 t24 W14 = some t25) (
 Ret Tryz.prog 54 [t29] W14 fun t30_1 W15 =>
 ob (q_load1 t26 W15 = some t27) (
 ob (q_load1 t24 W15 = some t25) (
 Ret Tryz.prog 23 [t25, t27, t30_1] W15 fun t31_2 W16 =>
 onSome (q_extract t31_2 0) fun t32_2 =>
 onSome (q_extract t31_2 1) fun t33_2 =>
 onSome (q_extract t31_2 2) fun t34_2 =>
 onSome (q_extract t31_2 3) fun t35_2 =>
 l_store 5 s6_2 t32_2 W16 fun _ W17 =>
 J s6_2 t33_2 t34_2 t35_2 W17)))))))) ∧
 (l_new 28 #[.int .i64 0, .int .i64 0, .int .i64 0, .slice none 0 0, .slice none 0 0] W4.drew fun s6_3 W18 =>
 ob (q_load1 t26 W18 = some t27) (
 ob (q_load1 t24 W18 = some t25) (
 Ret Tryz.prog 49 [t19] W18 fun t29_1 W19 =>
 ob (q_load1 t26 W19 = some t27) (
 ob (q_load1 t24 W19 = some t25) (
 Ret Tryz.prog 54 [t29_1] W19 fun t30_2 W20 =>
 ob (q_load1 t26 W20 = some t27) (
 ob (q_load1 t24 W20 = some t25) (
 Ret Tryz.prog 23 [t25, t27, t30_2] W20 fun t31_3 W21 =>
 onSome (q_extract t31_3 0) fun t32_3 =>
 onSome (q_extract t31_3 1) fun t33_3 =>
 onSome (q_extract t31_3 2) fun t34_3 =>
 onSome (q_extract t31_3 3) fun t35_3 =>
 l_store 5 s6_3 t32_3 W21 fun _ W22 =>
 J s6_3 t33_3 t34_3 t35_3 W22)))))))) ∧
 ∀ (s6_4 costs7 at8 e9 : Value) (W23 : World), J s6_4 costs7 at8 e9 W23 → ∀ _ : Env,
 onSome (q_bin .neq e9 (.int .i64 0)) fun t37 =>
 onSome (gateQ false t37 (some at8)) fun t39 =>
 onSome (gateQ false t37 (q_bin .neq t39 (.int .i64 (-1)))) fun t40 =>
 onSome (q_pick t37 (.bool true) t40) fun t41 =>
 onSome (gateQ false t41 (some costs7)) fun t43 =>
 onSome (gateQ false t41 (q_len t43)) fun t44 =>
 onSome (gateQ false t41 (some t19)) fun t45 =>
 gateL false t41 (fun K => Ret Tryz.prog 40 [t45] W23.drew K) W23.drew fun t46 W24 =>
 onSome (gateQ false t41 (q_bin .neq t44 t46)) fun t47 =>
 onSome (q_pick t41 (.bool true) t47) fun t48 =>
 onSome (gateQ false t48 (q_loadn 5 s6_4 W24)) fun t50 =>
 onSome (gateQ false t48 (some t19)) fun t51 =>
 gateL false t48 (fun K => Ret Tryz.prog 50 [t51] W24 K) W24 fun t52 W25 =>
 ob (gateQ false t48 (q_loadn 5 s6_4 W25) = some t50) (
 gateL false t48 (fun K => Ret Tryz.prog 25 [t50, t52] W25 K) W25 fun t53 W26 =>
 onSome (gateQ false t48 (q_un .not t53)) fun t54 =>
 onSome (q_pick t48 (.bool true) t54) fun t55 =>
 xif t55
 (K (.bool false) W26)
 (looping fun (I : Value → World → Prop) (μ : Value → World → Nat) => I (.int .i64 0) W26 ∧
 ∀ (i10 : Value) (W27 : World), I i10 W27 → ∀ _ : Env,
 onSome (q_len costs7) fun t58 =>
 onSome (q_bin .lss i10 t58) fun t59 =>
 xif t59
 (onSome (q_iaddr 4 costs7 i10) fun t66 =>
 onSome (q_faddr 0 t66) fun t67 =>
 onSome (q_load1 t67 W27) fun t68 =>
 Ret Tryz.prog 42 [t19, t68] W27 fun t69 W28 =>
 onSome (q_extract t69 0) fun t70 =>
 onSome (q_extract t69 1) fun t71 =>
 l_new 43 #[.int .i64 0, .int .i64 0, .int .i64 0, .int .i64 0] W28 fun c11 W29 =>
 l_store 4 c11 t70 W29 fun _ W30 =>
 onSome (q_un .not t71) fun t73 =>
 onSome (gateQ false t73 (q_loadn 4 c11 W30.drew)) fun t75 =>
 onSome (gateQ false t73 (some costs7)) fun t76 =>
 onSome (gateQ false t73 (some i10)) fun t77 =>
 onSome (gateQ false t73 (q_iaddr 4 t76 t77)) fun t78 =>
 onSome (gateQ false t73 (q_loadn 4 t78 W30.drew)) fun t79 =>
 onSome (gateQ false t73 (q_eq Tryz.prog .neq 43 t75 t79)) fun t80 =>
 onSome (q_pick t73 (.bool true) t80) fun t81 =>
 xif t81
 (K (.bool false) W30.drew)
 (onSome (q_bin .add i10 (.int .i64 1)) fun t61 =>
 I t61 W30.drew ∧ μ t61 W30.drew < μ i10 W27))
 (Ret Tryz.prog 39 [] W27 fun t82 W31 =>
 K t82 W31)))))
theorem lift18 {w0 l1 : Value} {w : World} {K : Value → World → Prop} (h : L18 w0 l1 w K) : Ret Tryz.prog 18 [w0, l1] w K := by
  have e : xfun Tryz.prog Tryz.f18 (.s .r (.s (.s .r (.c (.s .r .r) .r)) (.s .r (.s (.s .r (.c (.s .r .r) .r)) (.s (.d [6, 7, 8, 9] 68711089088 [0, 1, 0, 4, 0, 16, 48, 127, 255, 511, 511, 511, 511, 0, 9215, 26623, 61439, 131071] (.q 0 (.q 1 (.q 2 (.q 3 (.q 4 (.alt (.l 5 16 (.alt (.l 6 48 (.alt (.l 7 127 (.q 8 (.q 9 (.q 10 (.q 11 (.q 12 (.l 13 0 (.l 14 9215 (.q 15 (.q 16 (.q 17 .nil))))))))))) (.l 13 0 (.l 7 127 (.q 8 (.q 9 (.q 10 (.q 11 (.q 12 (.l 14 9215 (.q 15 (.q 16 (.q 17 .nil))))))))))))) (.l 13 0 (.l 6 48 (.l 7 127 (.q 8 (.q 9 (.q 10 (.q 11 (.q 12 (.l 14 9215 (.q 15 (.q 16 (.q 17 .nil)))))))))))))) (.l 13 0 (.l 5 16 (.l 6 48 (.l 7 127 (.q 8 (.q 9 (.q 10 (.q 11 (.q 12 (.l 14 9215 (.q 15 (.q 16 (.q 17 .nil)))))))))))))))))))) (.s (.s (.x [0, 1, 3, 7, 15, 31, 63, 127, 255, 127, 639, 2047, 4095, 8191, 16383, 16383, 49151, 131071, 262143, 524287] (.q 0 (.q 1 (.q 2 (.q 3 (.q 4 (.q 5 (.q 6 (.q 7 (.q 8 (.q 9 (.l 10 639 (.q 11 (.q 12 (.q 13 (.q 14 (.q 15 (.l 16 49151 (.l 17 131071 (.q 18 (.q 19 .nil))))))))))))))))))))) (.c (.s .r .r) .r)) (.s (.s .r (.b (.l [10] 4835703206400922660903952 (.s (.s .r (.c .r .r)) (.s (.b (.s .r (.s (.x [0, 1, 3, 7, 7, 7, 55, 119, 255, 511] (.q 0 (.q 1 (.q 2 (.q 3 (.q 4 (.q 5 (.q 6 (.q 7 (.q 8 (.q 9 .nil))))))))))) (.c (.s .r .r) .r)))) .r))))) (.s .r .r)))))))) [w0, l1] w K = L18 w0 l1 w K := by kernel_rfl
  exact xfun_sound (an := (.s .r (.s (.s .r (.c (.s .r .r) .r)) (.s .r (.s (.s .r (.c (.s .r .r) .r)) (.s (.d [6, 7, 8, 9] 68711089088 [0, 1, 0, 4, 0, 16, 48, 127, 255, 511, 511, 511, 511, 0, 9215, 26623, 61439, 131071] (.q 0 (.q 1 (.q 2 (.q 3 (.q 4 (.alt (.l 5 16 (.alt (.l 6 48 (.alt (.l 7 127 (.q 8 (.q 9 (.q 10 (.q 11 (.q 12 (.l 13 0 (.l 14 9215 (.q 15 (.q 16 (.q 17 .nil))))))))))) (.l 13 0 (.l 7 127 (.q 8 (.q 9 (.q 10 (.q 11 (.q 12 (.l 14 9215 (.q 15 (.q 16 (.q 17 .nil))))))))))))) (.l 13 0 (.l 6 48 (.l 7 127 (.q 8 (.q 9 (.q 10 (.q 11 (.q 12 (.l 14 9215 (.q 15 (.q 16 (.q 17 .nil)))))))))))))) (.l 13 0 (.l 5 16 (.l 6 48 (.l 7 127 (.q 8 (.q 9 (.q 10 (.q 11 (.q 12 (.l 14 9215 (.q 15 (.q 16 (.q 17 .nil)))))))))))))))))))) (.s (.s (.x [0, 1, 3, 7, 15, 31, 63, 127, 255, 127, 639, 2047, 4095, 8191, 16383, 16383, 49151, 131071, 262143, 524287] (.q 0 (.q 1 (.q 2 (.q 3 (.q 4 (.q 5 (.q 6 (.q 7 (.q 8 (.q 9 (.l 10 639 (.q 11 (.q 12 (.q 13 (.q 14 (.q 15 (.l 16 49151 (.l 17 131071 (.q 18 (.q 19 .nil))))))))))))))))))))) (.c (.s .r .r) .r)) (.s (.s .r (.b (.l [10] 4835703206400922660903952 (.s (.s .r (.c .r .r)) (.s (.b (.s .r (.s (.x [0, 1, 3, 7, 7, 7, 55, 119, 255, 511] (.q 0 (.q 1 (.q 2 (.q 3 (.q 4 (.q 5 (.q 6 (.q 7 (.q 8 (.q 9 .nil))))))))))) (.c (.s .r .r) .r)))) .r))))) (.s .r .r))))))))) Tryz.func18 mixed (by kernel_rfl) (by simp only [Tryz.ntmps18, List.length_cons, List.length_nil]; omega) (by rw [e]; exact h)
end Go.X
