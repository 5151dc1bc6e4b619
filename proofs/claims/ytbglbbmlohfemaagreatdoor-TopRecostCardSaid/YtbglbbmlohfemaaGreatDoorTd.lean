/- The lifted forms of Go functions, printed by a program (lift.py); each is held against the loaded program by the kernel. -/
import Derived.Test.YtbglbbmlohfemaaGreatDoorA2
set_option linter.unusedVariables false
set_option linter.unusedSimpArgs false
set_option maxRecDepth 100000
namespace Go.X
open Go.Proofs
/-- days.Date -/
def L160 (n0 : Value) (w : World) (K : Value → World → Prop) : Prop :=
 l_new 181 #[.int .i64 0, .int .i64 0, .int .i64 0] w fun d2 W1 =>
 Ret Tryz.prog 207 [n0] W1 fun t5 W2 =>
 onSome (q_un .not t5) fun t6 =>
 xif t6
 (onSome (q_build #[.int .i64 0, .int .i64 0, .int .i64 0] []) fun t7 =>
 l_store 3 d2 t7 W2 fun _ W3 =>
 onSome (q_loadn 3 d2 W3) fun d2_1 =>
 K (.tuple #[d2_1, (.int .i64 11)]) W3)
 (onSome (q_bin .quo n0 (.int .i64 366)) fun t9 =>
 onSome (q_bin .add (.int .i64 1900) t9) fun t10 =>
 onSome (q_faddr 0 d2) fun t11 =>
 l_store 1 t11 t10 W2 fun _ W4 =>
 looping fun (I : World → Prop) (μ : World → Nat) => I W4 ∧
 ∀ (W5 : World), I W5 → ∀ _ : Env,
 onSome (q_faddr 0 d2) fun t12 =>
 onSome (q_load1 t12 W5) fun t13 =>
 onSome (q_bin .lss t13 (.int .i64 2199)) fun t14 =>
 onSome (gateQ true t14 (q_faddr 0 d2)) fun t16 =>
 onSome (gateQ true t14 (q_load1 t16 W5)) fun t17 =>
 onSome (gateQ true t14 (q_bin .add t17 (.int .i64 1))) fun t18 =>
 gateL true t14 (fun K => Ret Tryz.prog 208 [t18] W5 K) W5 fun t19 W6 =>
 onSome (gateQ true t14 (some n0)) fun t20 =>
 onSome (gateQ true t14 (q_bin .leq t19 t20)) fun t21 =>
 onSome (q_pick t14 t21 (.bool false)) fun t22 =>
 xif t22
 (onSome (q_faddr 0 d2) fun t23 =>
 onSome (q_load1 t23 W6) fun t24 =>
 onSome (q_bin .add t24 (.int .i64 1)) fun t25 =>
 onSome (q_faddr 0 d2) fun t26 =>
 l_store 1 t26 t25 W6 fun _ W7 =>
 I W7 ∧ μ W7 < μ W5)
 (onSome (q_faddr 0 d2) fun t28 =>
 onSome (q_load1 t28 W6) fun t29 =>
 Ret Tryz.prog 208 [t29] W6 fun t30 W8 =>
 onSome (q_bin .sub n0 t30) fun t31 =>
 onSome (q_faddr 1 d2) fun t32 =>
 l_store 1 t32 (.int .i64 1) W8 fun _ W9 =>
 looping fun (I1 : Value → World → Prop) (μ1 : Value → World → Nat) => I1 t31 W9 ∧
 ∀ (n0_1 : Value) (W10 : World), I1 n0_1 W10 → ∀ _ : Env,
 onSome (q_faddr 0 d2) fun t34 =>
 onSome (q_load1 t34 W10) fun t35 =>
 onSome (q_faddr 1 d2) fun t36 =>
 onSome (q_load1 t36 W10) fun t37 =>
 Ret Tryz.prog 209 [t35, t37] W10 fun t38 W11 =>
 onSome (q_bin .geq n0_1 t38) fun t39 =>
 xif t39
 (onSome (q_faddr 0 d2) fun t41 =>
 onSome (q_load1 t41 W11) fun t42 =>
 onSome (q_faddr 1 d2) fun t43 =>
 onSome (q_load1 t43 W11) fun t44 =>
 Ret Tryz.prog 209 [t42, t44] W11 fun t45 W12 =>
 onSome (q_bin .sub n0_1 t45) fun t46 =>
 onSome (q_faddr 1 d2) fun t47 =>
 onSome (q_load1 t47 W12) fun t48 =>
 onSome (q_bin .add t48 (.int .i64 1)) fun t49 =>
 onSome (q_faddr 1 d2) fun t50 =>
 l_store 1 t50 t49 W12 fun _ W13 =>
 I1 t46 W13 ∧ μ1 t46 W13 < μ1 n0_1 W10)
 (onSome (q_bin .add n0_1 (.int .i64 1)) fun t52 =>
 onSome (q_faddr 2 d2) fun t53 =>
 l_store 1 t53 t52 W11 fun _ W14 =>
 onSome (q_loadn 3 d2 W14) fun t54 =>
 l_store 3 d2 t54 W14 fun _ W15 =>
 onSome (q_loadn 3 d2 W15) fun d2_2 =>
 K (.tuple #[d2_2, (.int .i64 0)]) W15)))
theorem lift160 {n0 : Value} {w : World} {K : Value → World → Prop} (h : L160 n0 w K) : Ret Tryz.prog 160 [n0] w K := by
  have e : xfun Tryz.prog Tryz.f160 (.s .r (.s (.s .r (.c (.s .r .r) .r)) (.s .r (.s (.b (.l [] 134213632 (.s (.s .r (.c .r .r)) (.b .r)))) (.s .r (.s .r (.s (.b (.l [0] 2251791223750657 (.s (.s .r (.c .r .r)) (.b (.s .r .r))))) (.s .r (.s .r .r))))))))) [n0] w K = L160 n0 w K := by kernel_rfl
  exact xfun_sound (an := (.s .r (.s (.s .r (.c (.s .r .r) .r)) (.s .r (.s (.b (.l [] 134213632 (.s (.s .r (.c .r .r)) (.b .r)))) (.s .r (.s .r (.s (.b (.l [0] 2251791223750657 (.s (.s .r (.c .r .r)) (.b (.s .r .r))))) (.s .r (.s .r .r)))))))))) Tryz.func160 mixed (by kernel_rfl) (by simp only [Tryz.ntmps160, List.length_cons, List.length_nil]; omega) (by rw [e]; exact h)
/-- days.is -/
def L207 (n0 : Value) (w : World) (K : Value → World → Prop) : Prop :=
 onSome (q_bin .geq n0 (.int .i64 0)) fun t4 =>
 onSome (gateQ true t4 (some n0)) fun t6 =>
 onSome (gateQ true t4 (q_bin .leq t6 (.int .i64 109572))) fun t7 =>
 onSome (q_pick t4 t7 (.bool false)) fun t8 =>
 K t8 w
theorem lift207 {n0 : Value} {w : World} {K : Value → World → Prop} (h : L207 n0 w K) : Ret Tryz.prog 207 [n0] w K := by
  have e : xfun Tryz.prog Tryz.f207 (.s .r (.s .r .r)) [n0] w K = L207 n0 w K := by kernel_rfl
  exact xfun_sound (an := (.s .r (.s .r .r))) Tryz.func207 mixed (by kernel_rfl) (by simp only [Tryz.ntmps207, List.length_cons, List.length_nil]; omega) (by rw [e]; exact h)
/-- days.before -/
def L208 (y0 : Value) (w : World) (K : Value → World → Prop) : Prop :=
 onSome (q_bin .sub y0 (.int .i64 1)) fun t6 =>
 onSome (q_bin .quo t6 (.int .i64 4)) fun t8 =>
 onSome (q_bin .quo t6 (.int .i64 100)) fun t10 =>
 onSome (q_bin .sub t8 t10) fun t11 =>
 onSome (q_bin .quo t6 (.int .i64 400)) fun t13 =>
 onSome (q_bin .add t11 t13) fun t14 =>
 onSome (q_bin .sub t14 (.int .i64 474)) fun t15 =>
 onSome (q_bin .add t15 (.int .i64 18)) fun t16 =>
 onSome (q_bin .sub t16 (.int .i64 4)) fun t17 =>
 onSome (q_bin .sub y0 (.int .i64 1900)) fun t19 =>
 onSome (q_bin .mul (.int .i64 365) t19) fun t20 =>
 onSome (q_bin .add t20 t17) fun t22 =>
 K t22 w
theorem lift208 {y0 : Value} {w : World} {K : Value → World → Prop} (h : L208 y0 w K) : Ret Tryz.prog 208 [y0] w K := by
  have e : xfun Tryz.prog Tryz.f208 (.s .r (.s .r (.s .r (.s .r .r)))) [y0] w K = L208 y0 w K := by kernel_rfl
  exact xfun_sound (an := (.s .r (.s .r (.s .r (.s .r .r))))) Tryz.func208 mixed (by kernel_rfl) (by simp only [Tryz.ntmps208, List.length_cons, List.length_nil]; omega) (by rw [e]; exact h)
/-- days.Length -/
def L209 (y0 m1 : Value) (w : World) (K : Value → World → Prop) : Prop :=
 onSome (q_bin .lss m1 (.int .i64 1)) fun t7 =>
 onSome (gateQ false t7 (some m1)) fun t9 =>
 onSome (gateQ false t7 (q_bin .gtr t9 (.int .i64 12))) fun t10 =>
 onSome (q_pick t7 (.bool true) t10) fun t11 =>
 xif t11
 (K (.int .i64 0) w)
 (onSome (q_bin .eql m1 (.int .i64 2)) fun t14 =>
 onSome (gateQ true t14 (some y0)) fun t16 =>
 gateL true t14 (fun K => Ret Tryz.prog 231 [t16] w K) w fun t17 W1 =>
 onSome (q_pick t14 t17 (.bool false)) fun t18 =>
 xif t18
 (K (.int .i64 29) W1)
 (onSome (q_bin .sub m1 (.int .i64 1)) fun t20 =>
 onSome (q_iaddra 12 1 (.pointer (some ⟨0, 0, none⟩)) t20) fun t21 =>
 onSome (q_load1 t21 W1) fun t22 =>
 K t22 W1))
theorem lift209 {y0 m1 : Value} {w : World} {K : Value → World → Prop} (h : L209 y0 m1 w K) : Ret Tryz.prog 209 [y0, m1] w K := by
  have e : xfun Tryz.prog Tryz.f209 (.s .r (.s (.b (.s .r (.c (.s .r .r) (.s .r (.c (.s .r .r) .r))))) (.s .r .r))) [y0, m1] w K = L209 y0 m1 w K := by kernel_rfl
  exact xfun_sound (an := (.s .r (.s (.b (.s .r (.c (.s .r .r) (.s .r (.c (.s .r .r) .r))))) (.s .r .r)))) Tryz.func209 mixed (by kernel_rfl) (by simp only [Tryz.ntmps209, List.length_cons, List.length_nil]; omega) (by rw [e]; exact h)
/-- days.Leap -/
def L231 (y0 : Value) (w : World) (K : Value → World → Prop) : Prop :=
 onSome (q_bin .rem y0 (.int .i64 4)) fun t4 =>
 onSome (q_bin .eql t4 (.int .i64 0)) fun t5 =>
 onSome (gateQ true t5 (some y0)) fun t7 =>
 onSome (gateQ true t5 (q_bin .rem t7 (.int .i64 100))) fun t8 =>
 onSome (gateQ true t5 (q_bin .neq t8 (.int .i64 0))) fun t9 =>
 onSome (q_pick t5 t9 (.bool false)) fun t10 =>
 onSome (gateQ false t10 (some y0)) fun t12 =>
 onSome (gateQ false t10 (q_bin .rem t12 (.int .i64 400))) fun t13 =>
 onSome (gateQ false t10 (q_bin .eql t13 (.int .i64 0))) fun t14 =>
 onSome (q_pick t10 (.bool true) t14) fun t15 =>
 K t15 w
theorem lift231 {y0 : Value} {w : World} {K : Value → World → Prop} (h : L231 y0 w K) : Ret Tryz.prog 231 [y0] w K := by
  have e : xfun Tryz.prog Tryz.f231 (.s .r (.s .r .r)) [y0] w K = L231 y0 w K := by kernel_rfl
  exact xfun_sound (an := (.s .r (.s .r .r))) Tryz.func231 mixed (by kernel_rfl) (by simp only [Tryz.ntmps231, List.length_cons, List.length_nil]; omega) (by rw [e]; exact h)
/-- words.Code -/
def L105 (s0 : Value) (w : World) (K : Value → World → Prop) : Prop :=
 onSome (q_bin .neq s0 (.string ⟨#[]⟩)) fun t4 =>
 onSome (gateQ true t4 (some s0)) fun t6 =>
 onSome (gateQ true t4 (q_slen t6)) fun t7 =>
 onSome (gateQ true t4 (q_bin .leq t7 (.int .i64 12))) fun t8 =>
 onSome (q_pick t4 t8 (.bool false)) fun t9 =>
 onSome (gateQ true t9 (some s0)) fun t11 =>
 gateL true t9 (fun K => Ret Tryz.prog 161 [t11, (.func (.func 162) #[] #[])] w K) w fun t12 W1 =>
 onSome (q_pick t9 t12 (.bool false)) fun t13 =>
 K t13 W1
theorem lift105 {s0 : Value} {w : World} {K : Value → World → Prop} (h : L105 s0 w K) : Ret Tryz.prog 105 [s0] w K := by
  have e : xfun Tryz.prog Tryz.f105 (.s .r (.s .r .r)) [s0] w K = L105 s0 w K := by kernel_rfl
  exact xfun_sound (an := (.s .r (.s .r .r))) Tryz.func105 mixed (by kernel_rfl) (by simp only [Tryz.ntmps105, List.length_cons, List.length_nil]; omega) (by rw [e]; exact h)
/-- words.every -/
def L161 (s0 is1 : Value) (w : World) (K : Value → World → Prop) : Prop :=
 onSome (q_slen s0) fun t7 =>
 looping fun (I : Value → World → Prop) (μ : Value → World → Nat) => I (.int .i64 0) w ∧
 ∀ (t8 : Value) (W1 : World), I t8 W1 → ∀ _ : Env,
 onSome (q_bin .lss t8 t7) fun t9 =>
 xif t9
 (onSome (q_index Tryz.prog 9 s0 t8) fun t14 =>
 l_callv Tryz.prog is1 [t14] W1 fun t15 W2 =>
 onSome (q_un .not t15) fun t16 =>
 xif t16
 (K (.bool false) W2)
 (onSome (q_bin .add t8 (.int .i64 1)) fun t17 =>
 I t17 W2 ∧ μ t17 W2 < μ t8 W1))
 (K (.bool true) W1)
theorem lift161 {s0 is1 : Value} {w : World} {K : Value → World → Prop} (h : L161 s0 is1 w K) : Ret Tryz.prog 161 [s0, is1] w K := by
  have e : xfun Tryz.prog Tryz.f161 (.s .r (.s (.s .r (.b (.l [8] 261936 (.s .r (.s (.c .r .r) (.s (.b (.s .r (.s .r (.c (.s .r .r) .r)))) .r)))))) (.s .r .r))) [s0, is1] w K = L161 s0 is1 w K := by kernel_rfl
  exact xfun_sound (an := (.s .r (.s (.s .r (.b (.l [8] 261936 (.s .r (.s (.c .r .r) (.s (.b (.s .r (.s .r (.c (.s .r .r) .r)))) .r)))))) (.s .r .r)))) Tryz.func161 mixed (by kernel_rfl) (by simp only [Tryz.ntmps161, List.length_cons, List.length_nil]; omega) (by rw [e]; exact h)
/-- words.Code$1 -/
def L162 (c0 : Value) (w : World) (K : Value → World → Prop) : Prop :=
 Ret Tryz.prog 163 [c0] w fun t4 W1 =>
 onSome (gateQ false t4 (some c0)) fun t6 =>
 gateL false t4 (fun K => Ret Tryz.prog 164 [t6] W1 K) W1 fun t7 W2 =>
 onSome (q_pick t4 (.bool true) t7) fun t8 =>
 K t8 W2
theorem lift162 {c0 : Value} {w : World} {K : Value → World → Prop} (h : L162 c0 w K) : Ret Tryz.prog 162 [c0] w K := by
  have e : xfun Tryz.prog Tryz.f162 (.s .r (.s .r .r)) [c0] w K = L162 c0 w K := by kernel_rfl
  exact xfun_sound (an := (.s .r (.s .r .r))) Tryz.func162 mixed (by kernel_rfl) (by simp only [Tryz.ntmps162, List.length_cons, List.length_nil]; omega) (by rw [e]; exact h)
/-- words.letter -/
def L163 (c0 : Value) (w : World) (K : Value → World → Prop) : Prop :=
 onSome (q_bin .geq c0 (.int .u8 97)) fun t4 =>
 onSome (gateQ true t4 (some c0)) fun t6 =>
 onSome (gateQ true t4 (q_bin .leq t6 (.int .u8 122))) fun t7 =>
 onSome (q_pick t4 t7 (.bool false)) fun t8 =>
 onSome (gateQ false t8 (some c0)) fun t10 =>
 onSome (gateQ false t8 (q_bin .geq t10 (.int .u8 65))) fun t11 =>
 onSome (gateQ false t8 (some t11)) fun t12 =>
 onSome (gateQ true t12 (some c0)) fun t13 =>
 onSome (gateQ true t12 (q_bin .leq t13 (.int .u8 90))) fun t14 =>
 onSome (gateQ false t8 (q_pick t12 t14 (.bool false))) fun t15 =>
 onSome (q_pick t8 (.bool true) t15) fun t16 =>
 onSome (gateQ false t16 (some c0)) fun t18 =>
 onSome (gateQ false t16 (q_bin .eql t18 (.int .u8 95))) fun t19 =>
 onSome (q_pick t16 (.bool true) t19) fun t20 =>
 K t20 w
theorem lift163 {c0 : Value} {w : World} {K : Value → World → Prop} (h : L163 c0 w K) : Ret Tryz.prog 163 [c0] w K := by
  have e : xfun Tryz.prog Tryz.f163 (.s .r (.s .r .r)) [c0] w K = L163 c0 w K := by kernel_rfl
  exact xfun_sound (an := (.s .r (.s .r .r))) Tryz.func163 mixed (by kernel_rfl) (by simp only [Tryz.ntmps163, List.length_cons, List.length_nil]; omega) (by rw [e]; exact h)
/-- words.digit -/
def L164 (c0 : Value) (w : World) (K : Value → World → Prop) : Prop :=
 onSome (q_bin .geq c0 (.int .u8 48)) fun t4 =>
 onSome (gateQ true t4 (some c0)) fun t6 =>
 onSome (gateQ true t4 (q_bin .leq t6 (.int .u8 57))) fun t7 =>
 onSome (q_pick t4 t7 (.bool false)) fun t8 =>
 K t8 w
theorem lift164 {c0 : Value} {w : World} {K : Value → World → Prop} (h : L164 c0 w K) : Ret Tryz.prog 164 [c0] w K := by
  have e : xfun Tryz.prog Tryz.f164 (.s .r (.s .r .r)) [c0] w K = L164 c0 w K := by kernel_rfl
  exact xfun_sound (an := (.s .r (.s .r .r))) Tryz.func164 mixed (by kernel_rfl) (by simp only [Tryz.ntmps164, List.length_cons, List.length_nil]; omega) (by rw [e]; exact h)
/-- moves.One -/
def L61 (m0 : Value) (w : World) (K : Value → World → Prop) : Prop :=
 l_new 47 (m0 : Value).cells w fun m1 W1 =>
 onSome (q_faddr 1 m1) fun t4 =>
 onSome (q_load1 t4 W1) fun t5 =>
 Ret Tryz.prog 104 [t5] W1 fun t6 W2 =>
 onSome (q_un .not t6) fun t7 =>
 xif t7
 (K (.int .i64 11) W2)
 (onSome (q_faddr 2 m1) fun t9 =>
 onSome (q_load1 t9 W2) fun t10 =>
 Ret Tryz.prog 105 [t10] W2 fun t11 W3 =>
 onSome (q_un .not t11) fun t12 =>
 xif t12
 (K (.int .i64 7) W3)
 (onSome (q_faddr 3 m1) fun t14 =>
 onSome (q_load1 t14 W3) fun t15 =>
 Ret Tryz.prog 106 [t15, (.int .i64 1), (.int .i64 6)] W3 fun t16 W4 =>
 onSome (q_un .not t16) fun t17 =>
 xif t17
 (K (.int .i64 10) W4)
 (onSome (q_loadn 8 m1 W4) fun t19 =>
 Ret Tryz.prog 107 [t19] W4 fun t20 W5 =>
 onSome (q_un .not t20) fun t21 =>
 onSome (gateQ false t21 (q_loadn 8 m1 W5)) fun t23 =>
 gateL false t21 (fun K => Ret Tryz.prog 108 [t23] W5 K) W5 fun t24 W6 =>
 onSome (gateQ false t21 (q_un .not t24)) fun t25 =>
 onSome (q_pick t21 (.bool true) t25) fun t26 =>
 xif t26
 (K (.int .i64 3) W6)
 (onSome (q_loadn 8 m1 W6) fun t28 =>
 Ret Tryz.prog 109 [t28] W6 fun t29 W7 =>
 onSome (q_un .not t29) fun t30 =>
 xif t30
 (K (.int .i64 22) W7)
 (onSome (q_faddr 3 m1) fun t32 =>
 onSome (q_load1 t32 W7) fun t33 =>
 Ret Tryz.prog 110 [t33] W7 fun t34 W8 =>
 onSome (gateQ true t34 (q_faddr 7 m1)) fun t36 =>
 onSome (gateQ true t34 (q_load1 t36 W8)) fun t37 =>
 onSome (gateQ true t34 (q_bin .lss t37 (.int .i64 1))) fun t38 =>
 onSome (q_pick t34 t38 (.bool false)) fun t39 =>
 onSome (gateQ false t39 (q_faddr 3 m1)) fun t41 =>
 onSome (gateQ false t39 (q_load1 t41 W8)) fun t42 =>
 gateL false t39 (fun K => Ret Tryz.prog 110 [t42] W8 K) W8 fun t43 W9 =>
 onSome (gateQ false t39 (q_un .not t43)) fun t44 =>
 onSome (gateQ false t39 (some t44)) fun t45 =>
 onSome (gateQ true t45 (q_faddr 7 m1)) fun t46 =>
 onSome (gateQ true t45 (q_load1 t46 W9)) fun t47 =>
 onSome (gateQ true t45 (q_bin .neq t47 (.int .i64 0))) fun t48 =>
 onSome (gateQ false t39 (q_pick t45 t48 (.bool false))) fun t49 =>
 onSome (q_pick t39 (.bool true) t49) fun t50 =>
 xif t50
 (K (.int .i64 28) W9)
 (K (.int .i64 0) W9))))))
theorem lift61 {m0 : Value} {w : World} {K : Value → World → Prop} (h : L61 m0 w K) : Ret Tryz.prog 61 [m0] w K := by
  have e : xfun Tryz.prog Tryz.f61 (.s .r (.s (.b (.s .r (.c (.s .r .r) (.s .r (.c (.s .r .r) (.s .r (.c (.s .r .r) (.s .r (.c (.s .r .r) (.s .r (.c (.s .r .r) (.s .r (.c (.s .r .r) .r))))))))))))) (.s .r .r))) [m0] w K = L61 m0 w K := by kernel_rfl
  exact xfun_sound (an := (.s .r (.s (.b (.s .r (.c (.s .r .r) (.s .r (.c (.s .r .r) (.s .r (.c (.s .r .r) (.s .r (.c (.s .r .r) (.s .r (.c (.s .r .r) (.s .r (.c (.s .r .r) .r))))))))))))) (.s .r .r)))) Tryz.func61 mixed (by kernel_rfl) (by simp only [Tryz.ntmps61, List.length_cons, List.length_nil]; omega) (by rw [e]; exact h)
/-- moves.isDay -/
def L104 (n0 : Value) (w : World) (K : Value → World → Prop) : Prop :=
 Ret Tryz.prog 160 [n0] w fun t7 W1 =>
 onSome (q_extract t7 0) fun t8 =>
 onSome (q_extract t7 1) fun t9 =>
 l_new 181 #[.int .i64 0, .int .i64 0, .int .i64 0] W1 fun t3 W2 =>
 l_store 3 t3 t8 W2 fun _ W3 =>
 onSome (q_bin .eql t9 (.int .i64 0)) fun t11 =>
 K t11 W3
theorem lift104 {n0 : Value} {w : World} {K : Value → World → Prop} (h : L104 n0 w K) : Ret Tryz.prog 104 [n0] w K := by
  have e : xfun Tryz.prog Tryz.f104 (.s .r (.s .r (.s .r .r))) [n0] w K = L104 n0 w K := by kernel_rfl
  exact xfun_sound (an := (.s .r (.s .r (.s .r .r)))) Tryz.func104 mixed (by kernel_rfl) (by simp only [Tryz.ntmps104, List.length_cons, List.length_nil]; omega) (by rw [e]; exact h)
/-- moves.in -/
def L106 (n0 lo1 hi2 : Value) (w : World) (K : Value → World → Prop) : Prop :=
 onSome (q_bin .geq n0 lo1) fun t9 =>
 onSome (gateQ true t9 (some n0)) fun t11 =>
 onSome (gateQ true t9 (some hi2)) fun t12 =>
 onSome (gateQ true t9 (q_bin .leq t11 t12)) fun t13 =>
 onSome (q_pick t9 t13 (.bool false)) fun t14 =>
 K t14 w
theorem lift106 {n0 lo1 hi2 : Value} {w : World} {K : Value → World → Prop} (h : L106 n0 lo1 hi2 w K) : Ret Tryz.prog 106 [n0, lo1, hi2] w K := by
  have e : xfun Tryz.prog Tryz.f106 (.s .r (.s .r .r)) [n0, lo1, hi2] w K = L106 n0 lo1 hi2 w K := by kernel_rfl
  exact xfun_sound (an := (.s .r (.s .r .r))) Tryz.func106 mixed (by kernel_rfl) (by simp only [Tryz.ntmps106, List.length_cons, List.length_nil]; omega) (by rw [e]; exact h)
/-- moves.quantity -/
def L107 (m0 : Value) (w : World) (K : Value → World → Prop) : Prop :=
 l_new 47 (m0 : Value).cells w fun m1 W1 =>
 onSome (q_faddr 3 m1) fun t3 =>
 onSome (q_load1 t3 W1) fun t4 =>
 onSome (q_bin .eql t4 (.int .i64 5)) fun t5 =>
 onSome (gateQ false t5 (q_faddr 3 m1)) fun t7 =>
 onSome (gateQ false t5 (q_load1 t7 W1)) fun t8 =>
 onSome (gateQ false t5 (q_bin .eql t8 (.int .i64 6))) fun t9 =>
 onSome (q_pick t5 (.bool true) t9) fun t10 =>
 xif t10
 (onSome (q_faddr 4 m1) fun t11 =>
 onSome (q_load1 t11 W1) fun t12 =>
 onSome (q_bin .eql t12 (.int .i64 0)) fun t13 =>
 K t13 W1)
 (onSome (q_faddr 4 m1) fun t14 =>
 onSome (q_load1 t14 W1) fun t15 =>
 Ret Tryz.prog 106 [t15, (.int .i64 1), (.int .i64 1000000000)] W1 fun t16 W2 =>
 K t16 W2)
theorem lift107 {m0 : Value} {w : World} {K : Value → World → Prop} (h : L107 m0 w K) : Ret Tryz.prog 107 [m0] w K := by
  have e : xfun Tryz.prog Tryz.f107 (.s .r (.s (.s .r (.c (.s .r .r) .r)) (.s .r .r))) [m0] w K = L107 m0 w K := by kernel_rfl
  exact xfun_sound (an := (.s .r (.s (.s .r (.c (.s .r .r) .r)) (.s .r .r)))) Tryz.func107 mixed (by kernel_rfl) (by simp only [Tryz.ntmps107, List.length_cons, List.length_nil]; omega) (by rw [e]; exact h)
/-- moves.cost -/
def L108 (m0 : Value) (w : World) (K : Value → World → Prop) : Prop :=
 l_new 47 (m0 : Value).cells w fun m1 W1 =>
 onSome (q_faddr 3 m1) fun t3 =>
 onSome (q_load1 t3 W1) fun t4 =>
 joining fun (J : Value → World → Prop) => (onSome (q_bin .eql t4 (.int .i64 2)) fun t6 =>
 xif t6
 (J t6 W1)
 (onSome (q_bin .eql t4 (.int .i64 3)) fun t7 =>
 J t7 W1)) ∧
 ∀ (t5 : Value) (W2 : World), J t5 W2 → ∀ _ : Env,
 xif t5
 (onSome (q_faddr 5 m1) fun t8 =>
 onSome (q_load1 t8 W2) fun t9 =>
 onSome (q_bin .eql t9 (.int .i64 0)) fun t10 =>
 K t10 W2)
 (onSome (q_bin .eql t4 (.int .i64 5)) fun t12 =>
 xif t12
 (onSome (q_faddr 5 m1) fun t13 =>
 onSome (q_load1 t13 W2) fun t14 =>
 Ret Tryz.prog 106 [t14, (.int .i64 1), (.int .i64 1000000000000)] W2 fun t15 W3 =>
 K t15 W3)
 (onSome (q_faddr 5 m1) fun t16 =>
 onSome (q_load1 t16 W2) fun t17 =>
 Ret Tryz.prog 106 [t17, (.int .i64 0), (.int .i64 1000000000000)] W2 fun t18 W4 =>
 K t18 W4))
theorem lift108 {m0 : Value} {w : World} {K : Value → World → Prop} (h : L108 m0 w K) : Ret Tryz.prog 108 [m0] w K := by
  have e : xfun Tryz.prog Tryz.f108 (.s .r (.s (.s .r (.b (.j [5] 224 (.s .r (.c .r .r)) (.c (.s .r .r) (.s .r (.c (.s .r .r) .r)))))) (.s .r .r))) [m0] w K = L108 m0 w K := by kernel_rfl
  exact xfun_sound (an := (.s .r (.s (.s .r (.b (.j [5] 224 (.s .r (.c .r .r)) (.c (.s .r .r) (.s .r (.c (.s .r .r) .r)))))) (.s .r .r)))) Tryz.func108 mixed (by kernel_rfl) (by simp only [Tryz.ntmps108, List.length_cons, List.length_nil]; omega) (by rw [e]; exact h)
/-- moves.lot -/
def L109 (m0 : Value) (w : World) (K : Value → World → Prop) : Prop :=
 l_new 47 (m0 : Value).cells w fun m1 W1 =>
 onSome (q_faddr 6 m1) fun t3 =>
 onSome (q_load1 t3 W1) fun t4 =>
 onSome (q_bin .eql t4 (.string ⟨#[]⟩)) fun t5 =>
 onSome (gateQ false t5 (q_faddr 6 m1)) fun t7 =>
 onSome (gateQ false t5 (q_load1 t7 W1)) fun t8 =>
 gateL false t5 (fun K => Ret Tryz.prog 105 [t8] W1 K) W1 fun t9 W2 =>
 onSome (gateQ false t5 (some t9)) fun t10 =>
 onSome (gateQ true t10 (q_faddr 3 m1)) fun t11 =>
 onSome (gateQ true t10 (q_load1 t11 W2)) fun t12 =>
 onSome (gateQ true t10 (q_bin .eql t12 (.int .i64 1))) fun t13 =>
 onSome (gateQ true t10 (some t13)) fun t14 =>
 onSome (gateQ false t14 (q_faddr 3 m1)) fun t15 =>
 onSome (gateQ false t14 (q_load1 t15 W2)) fun t16 =>
 onSome (gateQ false t14 (q_bin .eql t16 (.int .i64 2))) fun t17 =>
 onSome (gateQ true t10 (q_pick t14 (.bool true) t17)) fun t18 =>
 onSome (gateQ false t5 (q_pick t10 t18 (.bool false))) fun t19 =>
 onSome (q_pick t5 (.bool true) t19) fun t20 =>
 K t20 W2
theorem lift109 {m0 : Value} {w : World} {K : Value → World → Prop} (h : L109 m0 w K) : Ret Tryz.prog 109 [m0] w K := by
  have e : xfun Tryz.prog Tryz.f109 (.s .r (.s .r .r)) [m0] w K = L109 m0 w K := by kernel_rfl
  exact xfun_sound (an := (.s .r (.s .r .r))) Tryz.func109 mixed (by kernel_rfl) (by simp only [Tryz.ntmps109, List.length_cons, List.length_nil]; omega) (by rw [e]; exact h)
/-- moves.refers -/
def L110 (kind0 : Value) (w : World) (K : Value → World → Prop) : Prop :=
 onSome (q_bin .eql kind0 (.int .i64 3)) fun t4 =>
 onSome (gateQ false t4 (some kind0)) fun t6 =>
 onSome (gateQ false t4 (q_bin .eql t6 (.int .i64 4))) fun t7 =>
 onSome (q_pick t4 (.bool true) t7) fun t8 =>
 onSome (gateQ false t8 (some kind0)) fun t10 =>
 onSome (gateQ false t8 (q_bin .eql t10 (.int .i64 5))) fun t11 =>
 onSome (q_pick t8 (.bool true) t11) fun t12 =>
 K t12 w
theorem lift110 {kind0 : Value} {w : World} {K : Value → World → Prop} (h : L110 kind0 w K) : Ret Tryz.prog 110 [kind0] w K := by
  have e : xfun Tryz.prog Tryz.f110 (.s .r (.s .r .r)) [kind0] w K = L110 kind0 w K := by kernel_rfl
  exact xfun_sound (an := (.s .r (.s .r .r))) Tryz.func110 mixed (by kernel_rfl) (by simp only [Tryz.ntmps110, List.length_cons, List.length_nil]; omega) (by rw [e]; exact h)
end Go.X
