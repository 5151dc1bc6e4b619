/- The lifted forms of Go functions, printed by a program (lift.py); each is held against the loaded program by the kernel. -/
import Derived.Test.YtbglbbmlohfemaaGreatDoorA2
set_option linter.unusedVariables false
set_option linter.unusedSimpArgs false
set_option maxRecDepth 100000
namespace Go.X
open Go.Proofs
/-- accountingtop.TopRecost -/
def L9 (method0 price1 l2 : Value) (w : World) (K : Value → World → Prop) : Prop :=
 Ret Tryz.prog 28 [l2] w fun t17 W1 =>
 onSome (q_bin .and method0 (.int .i64 3)) fun t19 =>
 onSome (q_bin .add (.int .i64 1) t19) fun t20 =>
 joining fun (J : Value → World → Prop) => (onSome (q_bin .lss price1 (.int .i64 0)) fun t22 =>
 onSome (gateQ false t22 (some price1)) fun t24 =>
 onSome (gateQ false t22 (q_bin .gtr t24 (.int .i64 1000))) fun t25 =>
 onSome (q_pick t22 (.bool true) t25) fun t26 =>
 onSome (gateQ false t26 (some t20)) fun t28 =>
 onSome (gateQ false t26 (q_bin .neq t28 (.int .i64 3))) fun t29 =>
 onSome (q_pick t26 (.bool true) t29) fun t30 =>
 xif t30
 (onSome (q_bin .and price1 (.int .i64 1023)) fun t32 =>
 J t32 W1)
 (J price1 W1)) ∧
 ∀ (price1_1 : Value) (W2 : World), J price1_1 W2 → ∀ _ : Env,
 joining fun (J1 : Value → World → Prop) => (onSome (q_bin .neq t20 (.int .i64 3)) fun t34 =>
 xif t34
 (J1 (.int .i64 0) W2)
 (J1 price1_1 W2)) ∧
 ∀ (price1_2 : Value) (W3 : World), J1 price1_2 W3 → ∀ _ : Env,
 Ret Tryz.prog 29 [t20, price1_2, t17, (.bool false)] W3 fun t39 W4 =>
 onSome (q_extract t39 0) fun t40 =>
 onSome (q_extract t39 1) fun t41 =>
 Ret Tryz.prog 29 [t20, price1_2, t17, (.bool true)] W4 fun t46 W5 =>
 onSome (q_extract t46 0) fun t47 =>
 onSome (q_extract t46 1) fun t48 =>
 onSome (q_eq Tryz.prog .eql 50 t40 (.pointer none)) fun t50 =>
 onSome (gateQ false t50 (some t47)) fun t52 =>
 onSome (gateQ false t50 (q_eq Tryz.prog .eql 50 t52 (.pointer none))) fun t53 =>
 onSome (q_pick t50 (.bool true) t53) fun t54 =>
 onSome (gateQ false t54 (some t41)) fun t56 =>
 onSome (gateQ false t54 (some t48)) fun t57 =>
 onSome (gateQ false t54 (q_eq Tryz.prog .neq 4 t56 t57)) fun t58 =>
 onSome (q_pick t54 (.bool true) t58) fun t59 =>
 xif t59
 (K (.bool false) W5)
 (looping fun (I : Value → World → Prop) (μ : Value → World → Nat) => I (.int .i64 0) W5 ∧
 ∀ (i11 : Value) (W6 : World), I i11 W6 → ∀ _ : Env,
 onSome (q_len t17) fun t62 =>
 onSome (q_bin .lss i11 t62) fun t63 =>
 onSome (gateQ true t63 (some t41)) fun t65 =>
 onSome (q_pick t63 t65 (.bool false)) fun t66 =>
 xif t66
 (onSome (q_iaddr 3 t17 i11) fun t73 =>
 onSome (q_faddr 0 t73) fun t74 =>
 onSome (q_load1 t74 W6) fun t75 =>
 Ret Tryz.prog 30 [t40, t75] W6 fun t76 W7 =>
 onSome (q_extract t76 0) fun t77 =>
 onSome (q_extract t76 1) fun t78 =>
 onSome (q_iaddr 3 t17 i11) fun t83 =>
 onSome (q_faddr 0 t83) fun t84 =>
 onSome (q_load1 t84 W7) fun t85 =>
 Ret Tryz.prog 30 [t47, t85] W7 fun t86 W8 =>
 onSome (q_extract t86 0) fun t87 =>
 onSome (q_extract t86 1) fun t88 =>
 onSome (q_bin .neq t77 t87) fun t91 =>
 onSome (gateQ false t91 (some t78)) fun t93 =>
 onSome (gateQ false t91 (some t88)) fun t94 =>
 onSome (gateQ false t91 (q_bin .neq t93 t94)) fun t95 =>
 onSome (q_pick t91 (.bool true) t95) fun t96 =>
 xif t96
 (K (.bool false) W8)
 (onSome (q_bin .add i11 (.int .i64 1)) fun t68 =>
 I t68 W8 ∧ μ t68 W8 < μ i11 W6))
 (Ret Tryz.prog 31 [] W6 fun t97 W9 =>
 K t97 W9))
theorem lift9 {method0 price1 l2 : Value} {w : World} {K : Value → World → Prop} (h : L9 method0 price1 l2 w K) : Ret Tryz.prog 9 [method0, price1, l2] w K := by
  have e : xfun Tryz.prog Tryz.f9 (.s .r (.s .r (.s .r (.j [1] 8587837442 (.s .r (.c .r .r)) (.j [1] 25769803778 (.s .r (.c .r .r)) (.s .r (.s .r (.s (.s .r (.c (.s .r .r) .r)) (.s (.s .r (.b (.l [11] 158456325027375753682481117248 (.s (.s .r (.c .r .r)) (.s (.b (.s .r (.s .r (.s .r (.c (.s .r .r) .r))))) .r))))) (.s .r .r)))))))))) [method0, price1, l2] w K = L9 method0 price1 l2 w K := by kernel_rfl
  exact xfun_sound (an := (.s .r (.s .r (.s .r (.j [1] 8587837442 (.s .r (.c .r .r)) (.j [1] 25769803778 (.s .r (.c .r .r)) (.s .r (.s .r (.s (.s .r (.c (.s .r .r) .r)) (.s (.s .r (.b (.l [11] 158456325027375753682481117248 (.s (.s .r (.c .r .r)) (.s (.b (.s .r (.s .r (.s .r (.c (.s .r .r) .r))))) .r))))) (.s .r .r))))))))))) Tryz.func9 mixed (by kernel_rfl) (by simp only [Tryz.ntmps9, List.length_cons, List.length_nil]; omega) (by rw [e]; exact h)
/-- accountingtop.trades -/
def L28 (l0 : Value) (w : World) (K : Value → World → Prop) : Prop :=
 looping fun (I : Value → Value → World → Prop) (μ : Value → Value → World → Nat) => I (.slice none 0 0) (.int .i64 0) w ∧
 ∀ (out3 i4 : Value) (W1 : World), I out3 i4 W1 → ∀ _ : Env,
 onSome (q_len l0) fun t12 =>
 onSome (q_bin .lss i4 t12) fun t13 =>
 onSome (gateQ true t13 (some i4)) fun t15 =>
 onSome (gateQ true t13 (q_bin .lss t15 (.int .i64 24))) fun t16 =>
 onSome (q_pick t13 t16 (.bool false)) fun t17 =>
 xif t17
 (onSome (q_iaddr 3 l0 i4) fun t22 =>
 onSome (q_loadn 3 t22 W1) fun t23 =>
 l_new 56 #[.int .i64 0, .int .i64 0, .int .i64 0] W1 fun x5 W2 =>
 l_store 3 x5 t23 W2 fun _ W3 =>
 onSome (q_faddr 0 x5) fun t24 =>
 onSome (q_load1 t24 W3) fun t25 =>
 onSome (q_bin .lss t25 (.int .i64 0)) fun t26 =>
 onSome (gateQ false t26 (q_faddr 0 x5)) fun t28 =>
 onSome (gateQ false t26 (q_load1 t28 W3)) fun t29 =>
 onSome (gateQ false t26 (q_bin .gtr t29 (.int .i64 109572))) fun t30 =>
 onSome (q_pick t26 (.bool true) t30) fun t31 =>
 onSome (gateQ false t31 (q_faddr 1 x5)) fun t33 =>
 onSome (gateQ false t31 (q_load1 t33 W3)) fun t34 =>
 onSome (gateQ false t31 (q_bin .eql t34 (.int .i64 0))) fun t35 =>
 onSome (q_pick t31 (.bool true) t35) fun t36 =>
 onSome (gateQ false t36 (q_faddr 1 x5)) fun t38 =>
 onSome (gateQ false t36 (q_load1 t38 W3)) fun t39 =>
 onSome (gateQ false t36 (q_bin .gtr t39 (.int .i64 1000))) fun t40 =>
 onSome (q_pick t36 (.bool true) t40) fun t41 =>
 onSome (gateQ false t41 (q_faddr 1 x5)) fun t43 =>
 onSome (gateQ false t41 (q_load1 t43 W3)) fun t44 =>
 onSome (gateQ false t41 (q_bin .lss t44 (.int .i64 (-1000)))) fun t45 =>
 onSome (q_pick t41 (.bool true) t45) fun t46 =>
 onSome (gateQ false t46 (q_faddr 2 x5)) fun t48 =>
 onSome (gateQ false t46 (q_load1 t48 W3)) fun t49 =>
 onSome (gateQ false t46 (q_bin .lss t49 (.int .i64 0))) fun t50 =>
 onSome (q_pick t46 (.bool true) t50) fun t51 =>
 onSome (gateQ false t51 (q_faddr 2 x5)) fun t53 =>
 onSome (gateQ false t51 (q_load1 t53 W3)) fun t54 =>
 onSome (gateQ false t51 (q_bin .gtr t54 (.int .i64 1000000))) fun t55 =>
 onSome (q_pick t51 (.bool true) t55) fun t56 =>
 xif t56
 (onSome (q_bin .add i4 (.int .i64 1)) fun t19 =>
 I out3 t19 W3 ∧ μ out3 t19 W3 < μ out3 i4 W1)
 (looping fun (I1 : Value → Value → Value → Value → World → Prop) (μ1 : Value → Value → Value → Value → World → Nat) => I1 (.slice none 0 0) (.bool false) (.bool false) (.int .i64 0) W3 ∧
 ∀ (more6 put7 same8 k9 : Value) (W4 : World), I1 more6 put7 same8 k9 W4 → ∀ _ : Env,
 onSome (q_len out3) fun t59 =>
 onSome (q_bin .lss k9 t59) fun t60 =>
 xif t60
 (onSome (gateQ false same8 (some out3)) fun t65 =>
 onSome (gateQ false same8 (some k9)) fun t66 =>
 onSome (gateQ false same8 (q_iaddr 3 t65 t66)) fun t67 =>
 onSome (gateQ false same8 (q_faddr 0 t67)) fun t68 =>
 onSome (gateQ false same8 (q_load1 t68 W4.drew)) fun t69 =>
 onSome (gateQ false same8 (q_faddr 0 x5)) fun t70 =>
 onSome (gateQ false same8 (q_load1 t70 W4.drew)) fun t71 =>
 onSome (gateQ false same8 (q_bin .eql t69 t71)) fun t72 =>
 onSome (q_pick same8 (.bool true) t72) fun t73 =>
 joining fun (J : Value → Value → World → Prop) => (onSome (q_un .not put7) fun t75 =>
 onSome (gateQ true t75 (q_faddr 0 x5)) fun t77 =>
 onSome (gateQ true t75 (q_load1 t77 W4.drew.drew)) fun t78 =>
 onSome (gateQ true t75 (some out3)) fun t79 =>
 onSome (gateQ true t75 (some k9)) fun t80 =>
 onSome (gateQ true t75 (q_iaddr 3 t79 t80)) fun t81 =>
 onSome (gateQ true t75 (q_faddr 0 t81)) fun t82 =>
 onSome (gateQ true t75 (q_load1 t82 W4.drew.drew)) fun t83 =>
 onSome (gateQ true t75 (q_bin .lss t78 t83)) fun t84 =>
 onSome (q_pick t75 t84 (.bool false)) fun t85 =>
 xif t85
 (onSome (q_loadn 3 x5 W4.drew.drew) fun t87 =>
 l_lit 56 1 #[.int .i64 0, .int .i64 0, .int .i64 0] [(0, 3, t87)] W4.drew.drew fun t88 W5 =>
 l_append Tryz.prog #[48, 48] 48 more6 t88 W5 fun t89 W6 =>
 J t89 (.bool true) W6)
 (J more6 put7 W4.drew.drew)) ∧
 ∀ (more6_1 put7_1 : Value) (W7 : World), J more6_1 put7_1 W7 → ∀ _ : Env,
 onSome (q_iaddr 3 out3 k9) fun t93 =>
 onSome (q_loadn 3 t93 W7) fun t94 =>
 l_lit 56 1 #[.int .i64 0, .int .i64 0, .int .i64 0] [(0, 3, t94)] W7 fun t95 W8 =>
 l_append Tryz.prog #[48, 48] 48 more6_1 t95 W8 fun t96 W9 =>
 onSome (q_bin .add k9 (.int .i64 1)) fun t62 =>
 I1 t96 put7_1 t73 t62 W9 ∧ μ1 t96 put7_1 t73 t62 W9 < μ1 more6 put7 same8 k9 W4)
 (joining fun (J1 : Value → World → Prop) => (onSome (q_un .not put7) fun t98 =>
 xif t98
 (onSome (q_loadn 3 x5 W4) fun t100 =>
 l_lit 56 1 #[.int .i64 0, .int .i64 0, .int .i64 0] [(0, 3, t100)] W4 fun t101 W10 =>
 l_append Tryz.prog #[48, 48] 48 more6 t101 W10 fun t102 W11 =>
 J1 t102 W11)
 (J1 more6 W4)) ∧
 ∀ (more6_2 : Value) (W12 : World), J1 more6_2 W12 → ∀ _ : Env,
 onSome (q_un .not same8) fun t104 =>
 xif t104
 (onSome (q_bin .add i4 (.int .i64 1)) fun t19_1 =>
 I more6_2 t19_1 W12 ∧ μ more6_2 t19_1 W12 < μ out3 i4 W1)
 (onSome (q_bin .add i4 (.int .i64 1)) fun t19_2 =>
 I out3 t19_2 W12 ∧ μ out3 t19_2 W12 < μ out3 i4 W1))))
 (K out3 W1)
theorem lift28 {l0 : Value} {w : World} {K : Value → World → Prop} (h : L28 l0 w K) : Ret Tryz.prog 28 [l0] w K := by
  have e : xfun Tryz.prog Tryz.f28 (.s .r (.s .r (.s (.s .r (.b (.l [3, 4] 81129638414606681695789005144056 (.s (.s .r (.c .r .r)) (.s (.b (.s .r (.s (.s .r (.c .r .r)) (.s .r (.s .r (.s (.s .r (.b (.l [6, 7, 8, 9] 158456325028384559999012045760 (.s (.s .r (.c .r .r)) (.s (.b (.s (.x [0, 1, 3, 3, 15, 31, 63, 3, 131, 511, 1023, 2047] (.q 0 (.q 1 (.q 2 (.q 3 (.q 4 (.q 5 (.q 6 (.q 7 (.q 8 (.q 9 (.q 10 (.q 11 .nil))))))))))))) (.j [6, 7] 1237921149819448796318269632 (.s (.x [0, 1, 3, 7, 15, 7, 7, 103, 231, 487, 1023, 2047] (.q 0 (.q 1 (.q 2 (.q 3 (.q 4 (.q 5 (.q 6 (.q 7 (.q 8 (.q 9 (.q 10 (.q 11 .nil))))))))))))) (.c (.s .r .r) .r)) .r))) .r))))) (.j [6] 9982748476797306536786537742400 (.s .r (.c .r .r)) (.s .r (.c .r .r))))))))) .r))))) (.s .r .r)))) [l0] w K = L28 l0 w K := by kernel_rfl
  exact xfun_sound (an := (.s .r (.s .r (.s (.s .r (.b (.l [3, 4] 81129638414606681695789005144056 (.s (.s .r (.c .r .r)) (.s (.b (.s .r (.s (.s .r (.c .r .r)) (.s .r (.s .r (.s (.s .r (.b (.l [6, 7, 8, 9] 158456325028384559999012045760 (.s (.s .r (.c .r .r)) (.s (.b (.s (.x [0, 1, 3, 3, 15, 31, 63, 3, 131, 511, 1023, 2047] (.q 0 (.q 1 (.q 2 (.q 3 (.q 4 (.q 5 (.q 6 (.q 7 (.q 8 (.q 9 (.q 10 (.q 11 .nil))))))))))))) (.j [6, 7] 1237921149819448796318269632 (.s (.x [0, 1, 3, 7, 15, 7, 7, 103, 231, 487, 1023, 2047] (.q 0 (.q 1 (.q 2 (.q 3 (.q 4 (.q 5 (.q 6 (.q 7 (.q 8 (.q 9 (.q 10 (.q 11 .nil))))))))))))) (.c (.s .r .r) .r)) .r))) .r))))) (.j [6] 9982748476797306536786537742400 (.s .r (.c .r .r)) (.s .r (.c .r .r))))))))) .r))))) (.s .r .r))))) Tryz.func28 mixed (by kernel_rfl) (by simp only [Tryz.ntmps28, List.length_cons, List.length_nil]; omega) (by rw [e]; exact h)
/-- accountingtop.entered -/
def L29 (method0 price1 l2 turned3 : Value) (w : World) (K : Value → World → Prop) : Prop :=
 Ret Tryz.prog 37 [method0, price1] w fun t23 W1 =>
 onSome (q_extract t23 0) fun t24 =>
 onSome (q_extract t23 1) fun t25 =>
 onSome (q_bin .neq t25 (.int .i64 0)) fun t27 =>
 onSome (gateQ false t27 (some t24)) fun t29 =>
 onSome (gateQ false t27 (q_eq Tryz.prog .eql 50 t29 (.pointer none))) fun t30 =>
 onSome (q_pick t27 (.bool true) t30) fun t31 =>
 xif t31
 (K (.tuple #[(.pointer none), (.bool false)]) W1)
 (looping fun (I : Value → Value → Value → World → Prop) (μ : Value → Value → Value → World → Nat) => I (.int .i64 1) (.bool true) (.int .i64 0) W1 ∧
 ∀ (seq12 ok13 pass14 : Value) (W2 : World), I seq12 ok13 pass14 W2 → ∀ _ : Env,
 onSome (q_bin .lss pass14 (.int .i64 2)) fun t33 =>
 xif t33
 (looping fun (I1 : Value → Value → Value → World → Prop) (μ1 : Value → Value → Value → World → Nat) => I1 seq12 ok13 (.int .i64 0) W2 ∧
 ∀ (seq12_1 ok13_1 i15 : Value) (W3 : World), I1 seq12_1 ok13_1 i15 W3 → ∀ _ : Env,
 onSome (q_len l2) fun t38 =>
 onSome (q_bin .lss i15 t38) fun t39 =>
 xif t39
 (onSome (q_iaddr 3 l2 i15) fun t44 =>
 onSome (q_loadn 3 t44 W3) fun t45 =>
 l_new 56 #[.int .i64 0, .int .i64 0, .int .i64 0] W3 fun x16 W4 =>
 l_store 3 x16 t45 W4 fun _ W5 =>
 joining fun (J : World → Prop) => (xif turned3
 (onSome (q_len l2) fun t49 =>
 onSome (q_bin .sub t49 (.int .i64 1)) fun t50 =>
 onSome (q_bin .sub t50 i15) fun t52 =>
 onSome (q_iaddr 3 l2 t52) fun t53 =>
 onSome (q_loadn 3 t53 W5) fun t54 =>
 l_store 3 x16 t54 W5 fun _ W6 =>
 J W6)
 (J W5)) ∧
 ∀ (W7 : World), J W7 → ∀ _ : Env,
 onSome (q_faddr 1 x16) fun t55 =>
 onSome (q_load1 t55 W7) fun t56 =>
 onSome (q_bin .lss t56 (.int .i64 0)) fun t57 =>
 onSome (q_bin .eql pass14 (.int .i64 1)) fun t59 =>
 onSome (q_eq Tryz.prog .neq 4 t57 t59) fun t60 =>
 xif t60
 (onSome (q_bin .add i15 (.int .i64 1)) fun t41 =>
 I1 seq12_1 ok13_1 t41 W7 ∧ μ1 seq12_1 ok13_1 t41 W7 < μ1 seq12_1 ok13_1 i15 W3)
 (onSome (q_loadn 3 x16 W7) fun t63 =>
 Ret Tryz.prog 59 [t63, seq12_1] W7 fun t65 W8 =>
 Ret Tryz.prog 41 [t24, t65] W8 fun t66 W9 =>
 onSome (q_extract t66 0) fun t67 =>
 onSome (q_extract t66 1) fun t68 =>
 onSome (q_extract t66 2) fun t69 =>
 l_new 43 #[.int .i64 0, .int .i64 0, .int .i64 0, .int .i64 0] W9 fun t17 W10 =>
 l_store 4 t17 t67 W10 fun _ W11 =>
 onSome (q_bin .neq t69 (.int .i64 0)) fun t71 =>
 xif t71
 (onSome (q_bin .add i15 (.int .i64 1)) fun t41_1 =>
 I1 seq12_1 (.bool false) t41_1 W11 ∧ μ1 seq12_1 (.bool false) t41_1 W11 < μ1 seq12_1 ok13_1 i15 W3)
 (onSome (q_bin .add seq12_1 (.int .i64 1)) fun t73 =>
 onSome (q_bin .add i15 (.int .i64 1)) fun t41_2 =>
 I1 t73 ok13_1 t41_2 W11 ∧ μ1 t73 ok13_1 t41_2 W11 < μ1 seq12_1 ok13_1 i15 W3)))
 (onSome (q_bin .add pass14 (.int .i64 1)) fun t35 =>
 I seq12_1 ok13_1 t35 W3 ∧ μ seq12_1 ok13_1 t35 W3 < μ seq12 ok13 pass14 W2))
 (K (.tuple #[t24, ok13]) W2))
theorem lift29 {method0 price1 l2 turned3 : Value} {w : World} {K : Value → World → Prop} (h : L29 method0 price1 l2 turned3 w K) : Ret Tryz.prog 29 [method0, price1, l2, turned3] w K := by
  have e : xfun Tryz.prog Tryz.f29 (.s .r (.s .r (.s (.s .r (.c (.s .r .r) .r)) (.s .r (.s (.s .r (.b (.l [12, 13, 14] 18889465931474286931968 (.s (.s .r (.c .r .r)) (.s (.b (.s .r (.b (.l [12, 13, 15] 18889465931409862406144 (.s (.s .r (.c .r .r)) (.s (.b (.s .r (.j [] 35958428274786304 (.s .r (.c .r .r)) (.s (.s .r (.c .r .r)) (.s (.s .r (.s .r (.c (.s .r .r) .r))) .r))))) .r)))))) .r))))) (.s .r .r)))))) [method0, price1, l2, turned3] w K = L29 method0 price1 l2 turned3 w K := by kernel_rfl
  exact xfun_sound (an := (.s .r (.s .r (.s (.s .r (.c (.s .r .r) .r)) (.s .r (.s (.s .r (.b (.l [12, 13, 14] 18889465931474286931968 (.s (.s .r (.c .r .r)) (.s (.b (.s .r (.b (.l [12, 13, 15] 18889465931409862406144 (.s (.s .r (.c .r .r)) (.s (.b (.s .r (.j [] 35958428274786304 (.s .r (.c .r .r)) (.s (.s .r (.c .r .r)) (.s (.s .r (.s .r (.c (.s .r .r) .r))) .r))))) .r)))))) .r))))) (.s .r .r))))))) Tryz.func29 mixed (by kernel_rfl) (by simp only [Tryz.ntmps29, List.length_cons, List.length_nil]; omega) (by rw [e]; exact h)
/-- accountingtop.lives12 -/
def L31 (w : World) (K : Value → World → Prop) : Prop :=
 onSome (q_build #[.int .i64 0, .int .i64 0, .int .i64 0] [(0, 1, (.int .i64 5)), (1, 1, (.int .i64 10)), (2, 1, (.int .i64 105))]) fun t6 =>
 onSome (q_build #[.int .i64 0, .int .i64 0, .int .i64 0] [(0, 1, (.int .i64 9)), (1, 1, (.int .i64 (-4))), (2, 1, (.int .i64 0))]) fun t7 =>
 l_lit 56 2 #[.int .i64 0, .int .i64 0, .int .i64 0, .int .i64 0, .int .i64 0, .int .i64 0] [(0, 3, t6), (3, 3, t7)] w fun t8 W1 =>
 Ret Tryz.prog 29 [(.int .i64 2), (.int .i64 0), t8, (.bool false)] W1 fun t9 W2 =>
 onSome (q_extract t9 0) fun t10 =>
 onSome (q_extract t9 1) fun t11 =>
 onSome (q_un .not t11) fun t13 =>
 xif t13
 (K (.bool false) W2)
 (Ret Tryz.prog 30 [t10, (.int .i64 9)] W2 fun t16 W3 =>
 onSome (q_extract t16 0) fun t17 =>
 onSome (q_extract t16 1) fun t18 =>
 onSome (q_bin .eql t17 (.int .i64 6)) fun t20 =>
 onSome (gateQ true t20 (some t18)) fun t22 =>
 onSome (gateQ true t20 (q_bin .eql t22 (.int .i64 63))) fun t23 =>
 onSome (q_pick t20 t23 (.bool false)) fun t24 =>
 K t24 W3)
theorem lift31 {w : World} {K : Value → World → Prop} (h : L31 w K) : Ret Tryz.prog 31 [] w K := by
  have e : xfun Tryz.prog Tryz.f31 (.s .r (.s .r (.s (.s .r (.c (.s .r .r) .r)) (.s .r (.s .r .r))))) [] w K = L31 w K := by kernel_rfl
  exact xfun_sound (an := (.s .r (.s .r (.s (.s .r (.c (.s .r .r) .r)) (.s .r (.s .r .r)))))) Tryz.func31 mixed (by kernel_rfl) (by simp only [Tryz.ntmps31, List.length_cons, List.length_nil]; omega) (by rw [e]; exact h)
/-- accountingtop.move -/
def L59 (x0 seq1 : Value) (w : World) (K : Value → World → Prop) : Prop :=
 l_new 56 (x0 : Value).cells w fun x2 W1 =>
 l_new 47 #[.int .i64 0, .int .i64 0, .string ⟨#[]⟩, .int .i64 0, .int .i64 0, .int .i64 0, .string ⟨#[]⟩, .int .i64 0] W1 fun t4 W2 =>
 onSome (q_faddr 0 x2) fun t7 =>
 onSome (q_load1 t7 W2) fun t8 =>
 onSome (q_faddr 1 x2) fun t9 =>
 onSome (q_load1 t9 W2) fun t10 =>
 onSome (q_faddr 2 x2) fun t11 =>
 onSome (q_load1 t11 W2) fun t12 =>
 onSome (q_build #[.int .i64 0, .int .i64 0, .string ⟨#[]⟩, .int .i64 0, .int .i64 0, .int .i64 0, .string ⟨#[]⟩, .int .i64 0] [(0, 1, seq1), (1, 1, t8), (2, 1, (.string ⟨#[120]⟩)), (3, 1, (.int .i64 1)), (4, 1, t10), (5, 1, t12), (6, 1, (.string ⟨#[108]⟩))]) fun t13 =>
 l_new 47 #[.int .i64 0, .int .i64 0, .string ⟨#[]⟩, .int .i64 0, .int .i64 0, .int .i64 0, .string ⟨#[]⟩, .int .i64 0] W2 fun m5 W3 =>
 l_store 8 m5 t13 W3 fun _ W4 =>
 onSome (q_faddr 1 x2) fun t14 =>
 onSome (q_load1 t14 W4) fun t15 =>
 onSome (q_bin .lss t15 (.int .i64 0)) fun t16 =>
 xif t16
 (onSome (q_faddr 3 m5) fun t17 =>
 l_store 1 t17 (.int .i64 2) W4 fun _ W5 =>
 onSome (q_faddr 1 x2) fun t18 =>
 onSome (q_load1 t18 W5) fun t19 =>
 onSome (q_un .neg t19) fun t20 =>
 onSome (q_faddr 4 m5) fun t21 =>
 l_store 1 t21 t20 W5 fun _ W6 =>
 onSome (q_faddr 5 m5) fun t22 =>
 l_store 1 t22 (.int .i64 0) W6 fun _ W7 =>
 onSome (q_loadn 8 m5 W7) fun t23 =>
 l_store 8 t4 t23 W7 fun _ W8 =>
 onSome (q_loadn 8 t4 W8) fun t4_1 =>
 K t4_1 W8)
 (onSome (q_loadn 8 m5 W4) fun t23_1 =>
 l_store 8 t4 t23_1 W4 fun _ W9 =>
 onSome (q_loadn 8 t4 W9) fun t4_2 =>
 K t4_2 W9)
theorem lift59 {x0 seq1 : Value} {w : World} {K : Value → World → Prop} (h : L59 x0 seq1 w K) : Ret Tryz.prog 59 [x0, seq1] w K := by
  have e : xfun Tryz.prog Tryz.f59 (.s .r (.s .r (.s (.s .r (.c (.s .r (.s .r .r)) .r)) (.s .r .r)))) [x0, seq1] w K = L59 x0 seq1 w K := by kernel_rfl
  exact xfun_sound (an := (.s .r (.s .r (.s (.s .r (.c (.s .r (.s .r .r)) .r)) (.s .r .r))))) Tryz.func59 mixed (by kernel_rfl) (by simp only [Tryz.ntmps59, List.length_cons, List.length_nil]; omega) (by rw [e]; exact h)
end Go.X
