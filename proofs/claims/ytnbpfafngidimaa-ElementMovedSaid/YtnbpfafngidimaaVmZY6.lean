/- The program's Potential, Speed and Slope are what is told of them; no conditions. -/
import Derived.Test.YtnbpfafngidimaaVmZY5
namespace Go.Vm
open Go.Proofs
set_option linter.unusedVariables false
set_option maxRecDepth 1000000

theorem bif_beq {α : Type} {p W : Nat} {x y r : α} (h : (bif Nat.beq p W then x else y) = r) : (p = W ∧ x = r) ∨ y = r := by
  cases hb : Nat.beq p W with
  | true => rw [hb] at h; exact .inl ⟨Nat.eq_of_beq_eq_true hb, h⟩
  | false => rw [hb] at h; exact .inr h
theorem bif_int {α : Type} {p W : Int} {x y r : α} (h : (bif p == W then x else y) = r) : (p = W ∧ x = r) ∨ y = r := by
  cases hb : p == W with
  | true => rw [hb] at h; exact .inl ⟨by simpa using hb, h⟩
  | false => rw [hb] at h; exact .inr h

/-! ### The values' contracts -/
def Told (f : FuncId) (kind : Int) (a1 a2 s1 s2 p z1 z2 : Nat) {R : Type} (k : Value → Option R) (r : R) : Prop :=
  ∃ v, k v = some r ∧ flat v = true ∧ ∀ w, Calls Try.prog f ⟨[.agg ⟨[.int .u8 kind, .complex .f64 a1 a2, .complex .f64 s1 s2, .float .f64 p]⟩, .complex .f64 z1 z2]⟩ w fun e w' => e = .returned v ∧ RowKit.Below w.heap.size w w'
theorem t_vS0 (R : Type) (a1 a2 s1 s2 p z1 z2 : Nat) (k : Value → Option R) (r : R) (hr : vS0 a1 a2 s1 s2 p z1 z2 (vErr k) (zOk k) = some r) : Told 10 1 a1 a2 s1 s2 p z1 z2 k r := by
  unfold vS0 at hr
  exact evFn_sound (cxv_ok (.cons k_check2 h_check (.cons k19 h19 (.cons k21 h21 (.cons k33 h33 (.cons k14 h14 (.cons k15 h15 .nil))))))) zm_ok ((y_S0 placeK withinK noughtK FiniteK wholeK subK mulK R a1 a2 s1 s2 p z1 z2 k).trans hr) rfl
theorem t_vO0 (R : Type) (a1 a2 s1 s2 p z1 z2 : Nat) (k : Value → Option R) (r : R) (hr : vO0 a1 a2 s1 s2 p z1 z2 (vErr k) (zOk k) = some r) : Told 10 2 a1 a2 s1 s2 p z1 z2 k r := by
  unfold vO0 at hr
  exact evFn_sound (cxv_ok (.cons k_check2 h_check (.cons k19 h19 (.cons k21 h21 (.cons k33 h33 (.cons k14 h14 (.cons k15 h15 (.cons k36 h36 (.cons k40 h40 (.cons k61 h61 .nil)))))))))) zm_ok ((y_O0 placeK withinK noughtK FiniteK wholeK subK mulK sclK powLogK R a1 a2 s1 s2 p z1 z2 k).trans hr) rfl
theorem t_vD0_1 (R : Type) (a1 a2 s1 s2 p z1 z2 : Nat) (k : Value → Option R) (r : R) (hr : vD0_1 a1 a2 s1 s2 p z1 z2 (vErr k) (zOk k) = some r) : Told 10 3 a1 a2 s1 s2 4607182418800017408 z1 z2 k r := by
  unfold vD0_1 at hr
  exact evFn_sound (cxv_ok (.cons k_check2 h_check (.cons k19 h19 (.cons k21 h21 (.cons k33 h33 (.cons k14 h14 (.cons k62 h62 (.cons k36 h36 (.cons k_pow h_pow .nil))))))))) zm_ok ((y_D0_1 placeK withinK noughtK FiniteK wholeK subK divK sclK wpowK R a1 a2 s1 s2 z1 z2 k).trans hr) rfl
theorem t_vD0_2 (R : Type) (a1 a2 s1 s2 p z1 z2 : Nat) (k : Value → Option R) (r : R) (hr : vD0_2 a1 a2 s1 s2 p z1 z2 (vErr k) (zOk k) = some r) : Told 10 3 a1 a2 s1 s2 4611686018427387904 z1 z2 k r := by
  unfold vD0_2 at hr
  exact evFn_sound (cxv_ok (.cons k_check2 h_check (.cons k19 h19 (.cons k21 h21 (.cons k33 h33 (.cons k14 h14 (.cons k62 h62 (.cons k36 h36 (.cons k_pow h_pow .nil))))))))) zm_ok ((y_D0_2 placeK withinK noughtK FiniteK wholeK subK divK sclK wpowK R a1 a2 s1 s2 z1 z2 k).trans hr) rfl
theorem t_vD0_3 (R : Type) (a1 a2 s1 s2 p z1 z2 : Nat) (k : Value → Option R) (r : R) (hr : vD0_3 a1 a2 s1 s2 p z1 z2 (vErr k) (zOk k) = some r) : Told 10 3 a1 a2 s1 s2 4613937818241073152 z1 z2 k r := by
  unfold vD0_3 at hr
  exact evFn_sound (cxv_ok (.cons k_check2 h_check (.cons k19 h19 (.cons k21 h21 (.cons k33 h33 (.cons k14 h14 (.cons k62 h62 (.cons k36 h36 (.cons k_pow h_pow .nil))))))))) zm_ok ((y_D0_3 placeK withinK noughtK FiniteK wholeK subK divK sclK wpowK R a1 a2 s1 s2 z1 z2 k).trans hr) rfl
theorem t_vD0_4 (R : Type) (a1 a2 s1 s2 p z1 z2 : Nat) (k : Value → Option R) (r : R) (hr : vD0_4 a1 a2 s1 s2 p z1 z2 (vErr k) (zOk k) = some r) : Told 10 3 a1 a2 s1 s2 4616189618054758400 z1 z2 k r := by
  unfold vD0_4 at hr
  exact evFn_sound (cxv_ok (.cons k_check2 h_check (.cons k19 h19 (.cons k21 h21 (.cons k33 h33 (.cons k14 h14 (.cons k62 h62 (.cons k36 h36 (.cons k_pow h_pow .nil))))))))) zm_ok ((y_D0_4 placeK withinK noughtK FiniteK wholeK subK divK sclK wpowK R a1 a2 s1 s2 z1 z2 k).trans hr) rfl
theorem t_vD0_5 (R : Type) (a1 a2 s1 s2 p z1 z2 : Nat) (k : Value → Option R) (r : R) (hr : vD0_5 a1 a2 s1 s2 p z1 z2 (vErr k) (zOk k) = some r) : Told 10 3 a1 a2 s1 s2 4617315517961601024 z1 z2 k r := by
  unfold vD0_5 at hr
  exact evFn_sound (cxv_ok (.cons k_check2 h_check (.cons k19 h19 (.cons k21 h21 (.cons k33 h33 (.cons k14 h14 (.cons k62 h62 (.cons k36 h36 (.cons k_pow h_pow .nil))))))))) zm_ok ((y_D0_5 placeK withinK noughtK FiniteK wholeK subK divK sclK wpowK R a1 a2 s1 s2 z1 z2 k).trans hr) rfl
theorem t_vD0_6 (R : Type) (a1 a2 s1 s2 p z1 z2 : Nat) (k : Value → Option R) (r : R) (hr : vD0_6 a1 a2 s1 s2 p z1 z2 (vErr k) (zOk k) = some r) : Told 10 3 a1 a2 s1 s2 4618441417868443648 z1 z2 k r := by
  unfold vD0_6 at hr
  exact evFn_sound (cxv_ok (.cons k_check2 h_check (.cons k19 h19 (.cons k21 h21 (.cons k33 h33 (.cons k14 h14 (.cons k62 h62 (.cons k36 h36 (.cons k_pow h_pow .nil))))))))) zm_ok ((y_D0_6 placeK withinK noughtK FiniteK wholeK subK divK sclK wpowK R a1 a2 s1 s2 z1 z2 k).trans hr) rfl
theorem t_vD0_7 (R : Type) (a1 a2 s1 s2 p z1 z2 : Nat) (k : Value → Option R) (r : R) (hr : vD0_7 a1 a2 s1 s2 p z1 z2 (vErr k) (zOk k) = some r) : Told 10 3 a1 a2 s1 s2 4619567317775286272 z1 z2 k r := by
  unfold vD0_7 at hr
  exact evFn_sound (cxv_ok (.cons k_check2 h_check (.cons k19 h19 (.cons k21 h21 (.cons k33 h33 (.cons k14 h14 (.cons k62 h62 (.cons k36 h36 (.cons k_pow h_pow .nil))))))))) zm_ok ((y_D0_7 placeK withinK noughtK FiniteK wholeK subK divK sclK wpowK R a1 a2 s1 s2 z1 z2 k).trans hr) rfl
theorem t_vD0_8 (R : Type) (a1 a2 s1 s2 p z1 z2 : Nat) (k : Value → Option R) (r : R) (hr : vD0_8 a1 a2 s1 s2 p z1 z2 (vErr k) (zOk k) = some r) : Told 10 3 a1 a2 s1 s2 4620693217682128896 z1 z2 k r := by
  unfold vD0_8 at hr
  exact evFn_sound (cxv_ok (.cons k_check2 h_check (.cons k19 h19 (.cons k21 h21 (.cons k33 h33 (.cons k14 h14 (.cons k62 h62 (.cons k36 h36 (.cons k_pow h_pow .nil))))))))) zm_ok ((y_D0_8 placeK withinK noughtK FiniteK wholeK subK divK sclK wpowK R a1 a2 s1 s2 z1 z2 k).trans hr) rfl
theorem t_vC0_1 (R : Type) (a1 a2 s1 s2 p z1 z2 : Nat) (k : Value → Option R) (r : R) (hr : vC0_1 a1 a2 s1 s2 p z1 z2 (vErr k) (zOk k) = some r) : Told 10 4 a1 a2 s1 s2 4607182418800017408 z1 z2 k r := by
  unfold vC0_1 at hr
  exact evFn_sound (cxv_ok (.cons k_check2 h_check (.cons k19 h19 (.cons k21 h21 (.cons k33 h33 (.cons k14 h14 (.cons k15 h15 (.cons k36 h36 (.cons k_pow h_pow (.cons k_whY h_whole .nil)))))))))) zm_ok ((y_C0_1 placeK withinK noughtK FiniteK wholeK subK mulK sclK wpowK wyK R a1 a2 s1 s2 z1 z2 k).trans hr) rfl
theorem t_vC0_2 (R : Type) (a1 a2 s1 s2 p z1 z2 : Nat) (k : Value → Option R) (r : R) (hr : vC0_2 a1 a2 s1 s2 p z1 z2 (vErr k) (zOk k) = some r) : Told 10 4 a1 a2 s1 s2 4611686018427387904 z1 z2 k r := by
  unfold vC0_2 at hr
  exact evFn_sound (cxv_ok (.cons k_check2 h_check (.cons k19 h19 (.cons k21 h21 (.cons k33 h33 (.cons k14 h14 (.cons k15 h15 (.cons k36 h36 (.cons k_pow h_pow (.cons k_whY h_whole .nil)))))))))) zm_ok ((y_C0_2 placeK withinK noughtK FiniteK wholeK subK mulK sclK wpowK wyK R a1 a2 s1 s2 z1 z2 k).trans hr) rfl
theorem t_vC0_3 (R : Type) (a1 a2 s1 s2 p z1 z2 : Nat) (k : Value → Option R) (r : R) (hr : vC0_3 a1 a2 s1 s2 p z1 z2 (vErr k) (zOk k) = some r) : Told 10 4 a1 a2 s1 s2 4613937818241073152 z1 z2 k r := by
  unfold vC0_3 at hr
  exact evFn_sound (cxv_ok (.cons k_check2 h_check (.cons k19 h19 (.cons k21 h21 (.cons k33 h33 (.cons k14 h14 (.cons k15 h15 (.cons k36 h36 (.cons k_pow h_pow (.cons k_whY h_whole .nil)))))))))) zm_ok ((y_C0_3 placeK withinK noughtK FiniteK wholeK subK mulK sclK wpowK wyK R a1 a2 s1 s2 z1 z2 k).trans hr) rfl
theorem t_vC0_4 (R : Type) (a1 a2 s1 s2 p z1 z2 : Nat) (k : Value → Option R) (r : R) (hr : vC0_4 a1 a2 s1 s2 p z1 z2 (vErr k) (zOk k) = some r) : Told 10 4 a1 a2 s1 s2 4616189618054758400 z1 z2 k r := by
  unfold vC0_4 at hr
  exact evFn_sound (cxv_ok (.cons k_check2 h_check (.cons k19 h19 (.cons k21 h21 (.cons k33 h33 (.cons k14 h14 (.cons k15 h15 (.cons k36 h36 (.cons k_pow h_pow (.cons k_whY h_whole .nil)))))))))) zm_ok ((y_C0_4 placeK withinK noughtK FiniteK wholeK subK mulK sclK wpowK wyK R a1 a2 s1 s2 z1 z2 k).trans hr) rfl
theorem t_vB0 (R : Type) (a1 a2 s1 s2 p z1 z2 : Nat) (k : Value → Option R) (r : R) (hr : vB0 a1 a2 s1 s2 p z1 z2 (vErr k) (zOk k) = some r) : Told 10 4 a1 a2 s1 s2 p z1 z2 k r := by
  unfold vB0 at hr
  exact evFn_sound (cxv_ok (.cons k_check2 h_check (.cons k19 h19 (.cons k21 h21 (.cons k33 h33 (.cons k14 h14 (.cons k15 h15 (.cons k36 h36 (.cons k_real h_real (.cons k_whN h_whole .nil)))))))))) zm_ok ((y_B0 placeK withinK noughtK FiniteK wholeK subK mulK sclK realK wnK R a1 a2 s1 s2 p z1 z2 k).trans hr) rfl
theorem t_vD0 (R : Type) (a1 a2 s1 s2 p z1 z2 : Nat) (k : Value → Option R) (r : R) (hr : vD0 a1 a2 s1 s2 p z1 z2 (vErr k) (zOk k) = some r) : Told 10 3 a1 a2 s1 s2 p z1 z2 k r := by
  unfold vD0 at hr
  rcases bif_beq hr with ⟨e, hr⟩ | hr
  · rw [e]
    exact t_vD0_1 R a1 a2 s1 s2 p z1 z2 k r hr
  rcases bif_beq hr with ⟨e, hr⟩ | hr
  · rw [e]
    exact t_vD0_2 R a1 a2 s1 s2 p z1 z2 k r hr
  rcases bif_beq hr with ⟨e, hr⟩ | hr
  · rw [e]
    exact t_vD0_3 R a1 a2 s1 s2 p z1 z2 k r hr
  rcases bif_beq hr with ⟨e, hr⟩ | hr
  · rw [e]
    exact t_vD0_4 R a1 a2 s1 s2 p z1 z2 k r hr
  rcases bif_beq hr with ⟨e, hr⟩ | hr
  · rw [e]
    exact t_vD0_5 R a1 a2 s1 s2 p z1 z2 k r hr
  rcases bif_beq hr with ⟨e, hr⟩ | hr
  · rw [e]
    exact t_vD0_6 R a1 a2 s1 s2 p z1 z2 k r hr
  rcases bif_beq hr with ⟨e, hr⟩ | hr
  · rw [e]
    exact t_vD0_7 R a1 a2 s1 s2 p z1 z2 k r hr
  rcases bif_beq hr with ⟨e, hr⟩ | hr
  · rw [e]
    exact t_vD0_8 R a1 a2 s1 s2 p z1 z2 k r hr
  cases hr
theorem t_vC0 (R : Type) (a1 a2 s1 s2 p z1 z2 : Nat) (k : Value → Option R) (r : R) (hr : vC0 a1 a2 s1 s2 p z1 z2 (vErr k) (zOk k) = some r) : Told 10 4 a1 a2 s1 s2 p z1 z2 k r := by
  unfold vC0 at hr
  rcases bif_beq hr with ⟨e, hr⟩ | hr
  · rw [e]
    exact t_vC0_1 R a1 a2 s1 s2 p z1 z2 k r hr
  rcases bif_beq hr with ⟨e, hr⟩ | hr
  · rw [e]
    exact t_vC0_2 R a1 a2 s1 s2 p z1 z2 k r hr
  rcases bif_beq hr with ⟨e, hr⟩ | hr
  · rw [e]
    exact t_vC0_3 R a1 a2 s1 s2 p z1 z2 k r hr
  rcases bif_beq hr with ⟨e, hr⟩ | hr
  · rw [e]
    exact t_vC0_4 R a1 a2 s1 s2 p z1 z2 k r hr
  exact t_vB0 R a1 a2 s1 s2 p z1 z2 k r hr
theorem k_potK : SumOk Try.prog 10 (sVal potK) := by
  intro R args k r hr
  unfold sVal at hr; split at hr
  · rename_i kind a1 a2 s1 s2 p z1 z2
    replace hr : potK' kind a1 a2 s1 s2 p z1 z2 (vErr k) (zOk k) = some r := hr
    refine ⟨rfl, ?_⟩
    show Told 10 kind a1 a2 s1 s2 p z1 z2 k r
    unfold potK' at hr
    rcases bif_int hr with ⟨e, hr⟩ | hr
    · rw [e]
      exact t_vS0 R a1 a2 s1 s2 p z1 z2 k r hr
    rcases bif_int hr with ⟨e, hr⟩ | hr
    · rw [e]
      exact t_vO0 R a1 a2 s1 s2 p z1 z2 k r hr
    rcases bif_int hr with ⟨e, hr⟩ | hr
    · rw [e]
      exact t_vD0 R a1 a2 s1 s2 p z1 z2 k r hr
    rcases bif_int hr with ⟨e, hr⟩ | hr
    · rw [e]
      exact t_vC0 R a1 a2 s1 s2 p z1 z2 k r hr
    cases hr
  · cases hr
theorem t_vS1 (R : Type) (a1 a2 s1 s2 p z1 z2 : Nat) (k : Value → Option R) (r : R) (hr : vS1 a1 a2 s1 s2 p z1 z2 (vErr k) (zOk k) = some r) : Told 11 1 a1 a2 s1 s2 p z1 z2 k r := by
  unfold vS1 at hr
  exact evFn_sound (cxv_ok (.cons k_check2 h_check (.cons k19 h19 (.cons k21 h21 (.cons k33 h33 (.cons k14 h14 .nil)))))) zm_ok ((y_S1 placeK withinK noughtK FiniteK wholeK subK R a1 a2 s1 s2 p z1 z2 k).trans hr) rfl
theorem t_vO1 (R : Type) (a1 a2 s1 s2 p z1 z2 : Nat) (k : Value → Option R) (r : R) (hr : vO1 a1 a2 s1 s2 p z1 z2 (vErr k) (zOk k) = some r) : Told 11 2 a1 a2 s1 s2 p z1 z2 k r := by
  unfold vO1 at hr
  exact evFn_sound (cxv_ok (.cons k_check2 h_check (.cons k19 h19 (.cons k21 h21 (.cons k33 h33 (.cons k14 h14 (.cons k62 h62 (.cons k36 h36 (.cons k40 h40 .nil))))))))) zm_ok ((y_O1 placeK withinK noughtK FiniteK wholeK subK divK sclK R a1 a2 s1 s2 p z1 z2 k).trans hr) rfl
theorem t_vD1_1 (R : Type) (a1 a2 s1 s2 p z1 z2 : Nat) (k : Value → Option R) (r : R) (hr : vD1_1 a1 a2 s1 s2 p z1 z2 (vErr k) (zOk k) = some r) : Told 11 3 a1 a2 s1 s2 4607182418800017408 z1 z2 k r := by
  unfold vD1_1 at hr
  exact evFn_sound (cxv_ok (.cons k_check2 h_check (.cons k19 h19 (.cons k21 h21 (.cons k33 h33 (.cons k14 h14 (.cons k62 h62 (.cons k36 h36 (.cons k_pow h_pow .nil))))))))) zm_ok ((y_D1_1 placeK withinK noughtK FiniteK wholeK subK divK sclK wpowK R a1 a2 s1 s2 z1 z2 k).trans hr) rfl
theorem t_vD1_2 (R : Type) (a1 a2 s1 s2 p z1 z2 : Nat) (k : Value → Option R) (r : R) (hr : vD1_2 a1 a2 s1 s2 p z1 z2 (vErr k) (zOk k) = some r) : Told 11 3 a1 a2 s1 s2 4611686018427387904 z1 z2 k r := by
  unfold vD1_2 at hr
  exact evFn_sound (cxv_ok (.cons k_check2 h_check (.cons k19 h19 (.cons k21 h21 (.cons k33 h33 (.cons k14 h14 (.cons k62 h62 (.cons k36 h36 (.cons k_pow h_pow .nil))))))))) zm_ok ((y_D1_2 placeK withinK noughtK FiniteK wholeK subK divK sclK wpowK R a1 a2 s1 s2 z1 z2 k).trans hr) rfl
theorem t_vD1_3 (R : Type) (a1 a2 s1 s2 p z1 z2 : Nat) (k : Value → Option R) (r : R) (hr : vD1_3 a1 a2 s1 s2 p z1 z2 (vErr k) (zOk k) = some r) : Told 11 3 a1 a2 s1 s2 4613937818241073152 z1 z2 k r := by
  unfold vD1_3 at hr
  exact evFn_sound (cxv_ok (.cons k_check2 h_check (.cons k19 h19 (.cons k21 h21 (.cons k33 h33 (.cons k14 h14 (.cons k62 h62 (.cons k36 h36 (.cons k_pow h_pow .nil))))))))) zm_ok ((y_D1_3 placeK withinK noughtK FiniteK wholeK subK divK sclK wpowK R a1 a2 s1 s2 z1 z2 k).trans hr) rfl
theorem t_vD1_4 (R : Type) (a1 a2 s1 s2 p z1 z2 : Nat) (k : Value → Option R) (r : R) (hr : vD1_4 a1 a2 s1 s2 p z1 z2 (vErr k) (zOk k) = some r) : Told 11 3 a1 a2 s1 s2 4616189618054758400 z1 z2 k r := by
  unfold vD1_4 at hr
  exact evFn_sound (cxv_ok (.cons k_check2 h_check (.cons k19 h19 (.cons k21 h21 (.cons k33 h33 (.cons k14 h14 (.cons k62 h62 (.cons k36 h36 (.cons k_pow h_pow .nil))))))))) zm_ok ((y_D1_4 placeK withinK noughtK FiniteK wholeK subK divK sclK wpowK R a1 a2 s1 s2 z1 z2 k).trans hr) rfl
theorem t_vD1_5 (R : Type) (a1 a2 s1 s2 p z1 z2 : Nat) (k : Value → Option R) (r : R) (hr : vD1_5 a1 a2 s1 s2 p z1 z2 (vErr k) (zOk k) = some r) : Told 11 3 a1 a2 s1 s2 4617315517961601024 z1 z2 k r := by
  unfold vD1_5 at hr
  exact evFn_sound (cxv_ok (.cons k_check2 h_check (.cons k19 h19 (.cons k21 h21 (.cons k33 h33 (.cons k14 h14 (.cons k62 h62 (.cons k36 h36 (.cons k_pow h_pow .nil))))))))) zm_ok ((y_D1_5 placeK withinK noughtK FiniteK wholeK subK divK sclK wpowK R a1 a2 s1 s2 z1 z2 k).trans hr) rfl
theorem t_vD1_6 (R : Type) (a1 a2 s1 s2 p z1 z2 : Nat) (k : Value → Option R) (r : R) (hr : vD1_6 a1 a2 s1 s2 p z1 z2 (vErr k) (zOk k) = some r) : Told 11 3 a1 a2 s1 s2 4618441417868443648 z1 z2 k r := by
  unfold vD1_6 at hr
  exact evFn_sound (cxv_ok (.cons k_check2 h_check (.cons k19 h19 (.cons k21 h21 (.cons k33 h33 (.cons k14 h14 (.cons k62 h62 (.cons k36 h36 (.cons k_pow h_pow .nil))))))))) zm_ok ((y_D1_6 placeK withinK noughtK FiniteK wholeK subK divK sclK wpowK R a1 a2 s1 s2 z1 z2 k).trans hr) rfl
theorem t_vD1_7 (R : Type) (a1 a2 s1 s2 p z1 z2 : Nat) (k : Value → Option R) (r : R) (hr : vD1_7 a1 a2 s1 s2 p z1 z2 (vErr k) (zOk k) = some r) : Told 11 3 a1 a2 s1 s2 4619567317775286272 z1 z2 k r := by
  unfold vD1_7 at hr
  exact evFn_sound (cxv_ok (.cons k_check2 h_check (.cons k19 h19 (.cons k21 h21 (.cons k33 h33 (.cons k14 h14 (.cons k62 h62 (.cons k36 h36 (.cons k_pow h_pow .nil))))))))) zm_ok ((y_D1_7 placeK withinK noughtK FiniteK wholeK subK divK sclK wpowK R a1 a2 s1 s2 z1 z2 k).trans hr) rfl
theorem t_vD1_8 (R : Type) (a1 a2 s1 s2 p z1 z2 : Nat) (k : Value → Option R) (r : R) (hr : vD1_8 a1 a2 s1 s2 p z1 z2 (vErr k) (zOk k) = some r) : Told 11 3 a1 a2 s1 s2 4620693217682128896 z1 z2 k r := by
  unfold vD1_8 at hr
  exact evFn_sound (cxv_ok (.cons k_check2 h_check (.cons k19 h19 (.cons k21 h21 (.cons k33 h33 (.cons k14 h14 (.cons k62 h62 (.cons k36 h36 (.cons k_pow h_pow .nil))))))))) zm_ok ((y_D1_8 placeK withinK noughtK FiniteK wholeK subK divK sclK wpowK R a1 a2 s1 s2 z1 z2 k).trans hr) rfl
theorem t_vC1_1 (R : Type) (a1 a2 s1 s2 p z1 z2 : Nat) (k : Value → Option R) (r : R) (hr : vC1_1 a1 a2 s1 s2 p z1 z2 (vErr k) (zOk k) = some r) : Told 11 4 a1 a2 s1 s2 4607182418800017408 z1 z2 k r := by
  unfold vC1_1 at hr
  exact evFn_sound (cxv_ok (.cons k_check2 h_check (.cons k19 h19 (.cons k21 h21 (.cons k33 h33 (.cons k14 h14 (.cons k15 h15 (.cons k36 h36 (.cons k_pow h_pow (.cons k_whY h_whole .nil)))))))))) zm_ok ((y_C1_1 placeK withinK noughtK FiniteK wholeK subK mulK sclK wpowK wyK R a1 a2 s1 s2 z1 z2 k).trans hr) rfl
theorem t_vC1_2 (R : Type) (a1 a2 s1 s2 p z1 z2 : Nat) (k : Value → Option R) (r : R) (hr : vC1_2 a1 a2 s1 s2 p z1 z2 (vErr k) (zOk k) = some r) : Told 11 4 a1 a2 s1 s2 4611686018427387904 z1 z2 k r := by
  unfold vC1_2 at hr
  exact evFn_sound (cxv_ok (.cons k_check2 h_check (.cons k19 h19 (.cons k21 h21 (.cons k33 h33 (.cons k14 h14 (.cons k15 h15 (.cons k36 h36 (.cons k_pow h_pow (.cons k_whY h_whole .nil)))))))))) zm_ok ((y_C1_2 placeK withinK noughtK FiniteK wholeK subK mulK sclK wpowK wyK R a1 a2 s1 s2 z1 z2 k).trans hr) rfl
theorem t_vC1_3 (R : Type) (a1 a2 s1 s2 p z1 z2 : Nat) (k : Value → Option R) (r : R) (hr : vC1_3 a1 a2 s1 s2 p z1 z2 (vErr k) (zOk k) = some r) : Told 11 4 a1 a2 s1 s2 4613937818241073152 z1 z2 k r := by
  unfold vC1_3 at hr
  exact evFn_sound (cxv_ok (.cons k_check2 h_check (.cons k19 h19 (.cons k21 h21 (.cons k33 h33 (.cons k14 h14 (.cons k15 h15 (.cons k36 h36 (.cons k_pow h_pow (.cons k_whY h_whole .nil)))))))))) zm_ok ((y_C1_3 placeK withinK noughtK FiniteK wholeK subK mulK sclK wpowK wyK R a1 a2 s1 s2 z1 z2 k).trans hr) rfl
theorem t_vC1_4 (R : Type) (a1 a2 s1 s2 p z1 z2 : Nat) (k : Value → Option R) (r : R) (hr : vC1_4 a1 a2 s1 s2 p z1 z2 (vErr k) (zOk k) = some r) : Told 11 4 a1 a2 s1 s2 4616189618054758400 z1 z2 k r := by
  unfold vC1_4 at hr
  exact evFn_sound (cxv_ok (.cons k_check2 h_check (.cons k19 h19 (.cons k21 h21 (.cons k33 h33 (.cons k14 h14 (.cons k15 h15 (.cons k36 h36 (.cons k_pow h_pow (.cons k_whY h_whole .nil)))))))))) zm_ok ((y_C1_4 placeK withinK noughtK FiniteK wholeK subK mulK sclK wpowK wyK R a1 a2 s1 s2 z1 z2 k).trans hr) rfl
theorem t_vB1 (R : Type) (a1 a2 s1 s2 p z1 z2 : Nat) (k : Value → Option R) (r : R) (hr : vB1 a1 a2 s1 s2 p z1 z2 (vErr k) (zOk k) = some r) : Told 11 4 a1 a2 s1 s2 p z1 z2 k r := by
  unfold vB1 at hr
  exact evFn_sound (cxv_ok (.cons k_check2 h_check (.cons k19 h19 (.cons k21 h21 (.cons k33 h33 (.cons k14 h14 (.cons k15 h15 (.cons k36 h36 (.cons k_real h_real (.cons k_whN h_whole .nil)))))))))) zm_ok ((y_B1 placeK withinK noughtK FiniteK wholeK subK mulK sclK realK wnK R a1 a2 s1 s2 p z1 z2 k).trans hr) rfl
theorem t_vD1 (R : Type) (a1 a2 s1 s2 p z1 z2 : Nat) (k : Value → Option R) (r : R) (hr : vD1 a1 a2 s1 s2 p z1 z2 (vErr k) (zOk k) = some r) : Told 11 3 a1 a2 s1 s2 p z1 z2 k r := by
  unfold vD1 at hr
  rcases bif_beq hr with ⟨e, hr⟩ | hr
  · rw [e]
    exact t_vD1_1 R a1 a2 s1 s2 p z1 z2 k r hr
  rcases bif_beq hr with ⟨e, hr⟩ | hr
  · rw [e]
    exact t_vD1_2 R a1 a2 s1 s2 p z1 z2 k r hr
  rcases bif_beq hr with ⟨e, hr⟩ | hr
  · rw [e]
    exact t_vD1_3 R a1 a2 s1 s2 p z1 z2 k r hr
  rcases bif_beq hr with ⟨e, hr⟩ | hr
  · rw [e]
    exact t_vD1_4 R a1 a2 s1 s2 p z1 z2 k r hr
  rcases bif_beq hr with ⟨e, hr⟩ | hr
  · rw [e]
    exact t_vD1_5 R a1 a2 s1 s2 p z1 z2 k r hr
  rcases bif_beq hr with ⟨e, hr⟩ | hr
  · rw [e]
    exact t_vD1_6 R a1 a2 s1 s2 p z1 z2 k r hr
  rcases bif_beq hr with ⟨e, hr⟩ | hr
  · rw [e]
    exact t_vD1_7 R a1 a2 s1 s2 p z1 z2 k r hr
  rcases bif_beq hr with ⟨e, hr⟩ | hr
  · rw [e]
    exact t_vD1_8 R a1 a2 s1 s2 p z1 z2 k r hr
  cases hr
theorem t_vC1 (R : Type) (a1 a2 s1 s2 p z1 z2 : Nat) (k : Value → Option R) (r : R) (hr : vC1 a1 a2 s1 s2 p z1 z2 (vErr k) (zOk k) = some r) : Told 11 4 a1 a2 s1 s2 p z1 z2 k r := by
  unfold vC1 at hr
  rcases bif_beq hr with ⟨e, hr⟩ | hr
  · rw [e]
    exact t_vC1_1 R a1 a2 s1 s2 p z1 z2 k r hr
  rcases bif_beq hr with ⟨e, hr⟩ | hr
  · rw [e]
    exact t_vC1_2 R a1 a2 s1 s2 p z1 z2 k r hr
  rcases bif_beq hr with ⟨e, hr⟩ | hr
  · rw [e]
    exact t_vC1_3 R a1 a2 s1 s2 p z1 z2 k r hr
  rcases bif_beq hr with ⟨e, hr⟩ | hr
  · rw [e]
    exact t_vC1_4 R a1 a2 s1 s2 p z1 z2 k r hr
  exact t_vB1 R a1 a2 s1 s2 p z1 z2 k r hr
theorem k_spdK : SumOk Try.prog 11 (sVal spdK) := by
  intro R args k r hr
  unfold sVal at hr; split at hr
  · rename_i kind a1 a2 s1 s2 p z1 z2
    replace hr : spdK' kind a1 a2 s1 s2 p z1 z2 (vErr k) (zOk k) = some r := hr
    refine ⟨rfl, ?_⟩
    show Told 11 kind a1 a2 s1 s2 p z1 z2 k r
    unfold spdK' at hr
    rcases bif_int hr with ⟨e, hr⟩ | hr
    · rw [e]
      exact t_vS1 R a1 a2 s1 s2 p z1 z2 k r hr
    rcases bif_int hr with ⟨e, hr⟩ | hr
    · rw [e]
      exact t_vO1 R a1 a2 s1 s2 p z1 z2 k r hr
    rcases bif_int hr with ⟨e, hr⟩ | hr
    · rw [e]
      exact t_vD1 R a1 a2 s1 s2 p z1 z2 k r hr
    rcases bif_int hr with ⟨e, hr⟩ | hr
    · rw [e]
      exact t_vC1 R a1 a2 s1 s2 p z1 z2 k r hr
    cases hr
  · cases hr
theorem t_vS2 (R : Type) (a1 a2 s1 s2 p z1 z2 : Nat) (k : Value → Option R) (r : R) (hr : vS2 a1 a2 s1 s2 p z1 z2 (vErr k) (zOk k) = some r) : Told 12 1 a1 a2 s1 s2 p z1 z2 k r := by
  unfold vS2 at hr
  exact evFn_sound (cxv_ok (.cons k_check2 h_check (.cons k19 h19 (.cons k21 h21 (.cons k33 h33 (.cons k14 h14 .nil)))))) zm_ok ((y_S2 placeK withinK noughtK FiniteK wholeK subK R a1 a2 s1 s2 p z1 z2 k).trans hr) rfl
theorem t_vO2 (R : Type) (a1 a2 s1 s2 p z1 z2 : Nat) (k : Value → Option R) (r : R) (hr : vO2 a1 a2 s1 s2 p z1 z2 (vErr k) (zOk k) = some r) : Told 12 2 a1 a2 s1 s2 p z1 z2 k r := by
  unfold vO2 at hr
  exact evFn_sound (cxv_ok (.cons k_check2 h_check (.cons k19 h19 (.cons k21 h21 (.cons k33 h33 (.cons k14 h14 (.cons k62 h62 (.cons k36 h36 (.cons k40 h40 (.cons k_pow h_pow (.cons k63 h63 .nil))))))))))) zm_ok ((y_O2 placeK withinK noughtK FiniteK wholeK subK divK sclK wpowK negK R a1 a2 s1 s2 p z1 z2 k).trans hr) rfl
theorem t_vD2_1 (R : Type) (a1 a2 s1 s2 p z1 z2 : Nat) (k : Value → Option R) (r : R) (hr : vD2_1 a1 a2 s1 s2 p z1 z2 (vErr k) (zOk k) = some r) : Told 12 3 a1 a2 s1 s2 4607182418800017408 z1 z2 k r := by
  unfold vD2_1 at hr
  exact evFn_sound (cxv_ok (.cons k_check2 h_check (.cons k19 h19 (.cons k21 h21 (.cons k33 h33 (.cons k14 h14 (.cons k62 h62 (.cons k36 h36 (.cons k_pow h_pow .nil))))))))) zm_ok ((y_D2_1 placeK withinK noughtK FiniteK wholeK subK divK sclK wpowK R a1 a2 s1 s2 z1 z2 k).trans hr) rfl
theorem t_vD2_2 (R : Type) (a1 a2 s1 s2 p z1 z2 : Nat) (k : Value → Option R) (r : R) (hr : vD2_2 a1 a2 s1 s2 p z1 z2 (vErr k) (zOk k) = some r) : Told 12 3 a1 a2 s1 s2 4611686018427387904 z1 z2 k r := by
  unfold vD2_2 at hr
  exact evFn_sound (cxv_ok (.cons k_check2 h_check (.cons k19 h19 (.cons k21 h21 (.cons k33 h33 (.cons k14 h14 (.cons k62 h62 (.cons k36 h36 (.cons k_pow h_pow .nil))))))))) zm_ok ((y_D2_2 placeK withinK noughtK FiniteK wholeK subK divK sclK wpowK R a1 a2 s1 s2 z1 z2 k).trans hr) rfl
theorem t_vD2_3 (R : Type) (a1 a2 s1 s2 p z1 z2 : Nat) (k : Value → Option R) (r : R) (hr : vD2_3 a1 a2 s1 s2 p z1 z2 (vErr k) (zOk k) = some r) : Told 12 3 a1 a2 s1 s2 4613937818241073152 z1 z2 k r := by
  unfold vD2_3 at hr
  exact evFn_sound (cxv_ok (.cons k_check2 h_check (.cons k19 h19 (.cons k21 h21 (.cons k33 h33 (.cons k14 h14 (.cons k62 h62 (.cons k36 h36 (.cons k_pow h_pow .nil))))))))) zm_ok ((y_D2_3 placeK withinK noughtK FiniteK wholeK subK divK sclK wpowK R a1 a2 s1 s2 z1 z2 k).trans hr) rfl
theorem t_vD2_4 (R : Type) (a1 a2 s1 s2 p z1 z2 : Nat) (k : Value → Option R) (r : R) (hr : vD2_4 a1 a2 s1 s2 p z1 z2 (vErr k) (zOk k) = some r) : Told 12 3 a1 a2 s1 s2 4616189618054758400 z1 z2 k r := by
  unfold vD2_4 at hr
  exact evFn_sound (cxv_ok (.cons k_check2 h_check (.cons k19 h19 (.cons k21 h21 (.cons k33 h33 (.cons k14 h14 (.cons k62 h62 (.cons k36 h36 (.cons k_pow h_pow .nil))))))))) zm_ok ((y_D2_4 placeK withinK noughtK FiniteK wholeK subK divK sclK wpowK R a1 a2 s1 s2 z1 z2 k).trans hr) rfl
theorem t_vD2_5 (R : Type) (a1 a2 s1 s2 p z1 z2 : Nat) (k : Value → Option R) (r : R) (hr : vD2_5 a1 a2 s1 s2 p z1 z2 (vErr k) (zOk k) = some r) : Told 12 3 a1 a2 s1 s2 4617315517961601024 z1 z2 k r := by
  unfold vD2_5 at hr
  exact evFn_sound (cxv_ok (.cons k_check2 h_check (.cons k19 h19 (.cons k21 h21 (.cons k33 h33 (.cons k14 h14 (.cons k62 h62 (.cons k36 h36 (.cons k_pow h_pow .nil))))))))) zm_ok ((y_D2_5 placeK withinK noughtK FiniteK wholeK subK divK sclK wpowK R a1 a2 s1 s2 z1 z2 k).trans hr) rfl
theorem t_vD2_6 (R : Type) (a1 a2 s1 s2 p z1 z2 : Nat) (k : Value → Option R) (r : R) (hr : vD2_6 a1 a2 s1 s2 p z1 z2 (vErr k) (zOk k) = some r) : Told 12 3 a1 a2 s1 s2 4618441417868443648 z1 z2 k r := by
  unfold vD2_6 at hr
  exact evFn_sound (cxv_ok (.cons k_check2 h_check (.cons k19 h19 (.cons k21 h21 (.cons k33 h33 (.cons k14 h14 (.cons k62 h62 (.cons k36 h36 (.cons k_pow h_pow .nil))))))))) zm_ok ((y_D2_6 placeK withinK noughtK FiniteK wholeK subK divK sclK wpowK R a1 a2 s1 s2 z1 z2 k).trans hr) rfl
theorem t_vD2_7 (R : Type) (a1 a2 s1 s2 p z1 z2 : Nat) (k : Value → Option R) (r : R) (hr : vD2_7 a1 a2 s1 s2 p z1 z2 (vErr k) (zOk k) = some r) : Told 12 3 a1 a2 s1 s2 4619567317775286272 z1 z2 k r := by
  unfold vD2_7 at hr
  exact evFn_sound (cxv_ok (.cons k_check2 h_check (.cons k19 h19 (.cons k21 h21 (.cons k33 h33 (.cons k14 h14 (.cons k62 h62 (.cons k36 h36 (.cons k_pow h_pow .nil))))))))) zm_ok ((y_D2_7 placeK withinK noughtK FiniteK wholeK subK divK sclK wpowK R a1 a2 s1 s2 z1 z2 k).trans hr) rfl
theorem t_vD2_8 (R : Type) (a1 a2 s1 s2 p z1 z2 : Nat) (k : Value → Option R) (r : R) (hr : vD2_8 a1 a2 s1 s2 p z1 z2 (vErr k) (zOk k) = some r) : Told 12 3 a1 a2 s1 s2 4620693217682128896 z1 z2 k r := by
  unfold vD2_8 at hr
  exact evFn_sound (cxv_ok (.cons k_check2 h_check (.cons k19 h19 (.cons k21 h21 (.cons k33 h33 (.cons k14 h14 (.cons k62 h62 (.cons k36 h36 (.cons k_pow h_pow .nil))))))))) zm_ok ((y_D2_8 placeK withinK noughtK FiniteK wholeK subK divK sclK wpowK R a1 a2 s1 s2 z1 z2 k).trans hr) rfl
theorem t_vC2_1 (R : Type) (a1 a2 s1 s2 p z1 z2 : Nat) (k : Value → Option R) (r : R) (hr : vC2_1 a1 a2 s1 s2 p z1 z2 (vErr k) (zOk k) = some r) : Told 12 4 a1 a2 s1 s2 4607182418800017408 z1 z2 k r := by
  unfold vC2_1 at hr
  exact evFn_sound (cxv_ok (.cons k_check2 h_check (.cons k19 h19 (.cons k21 h21 (.cons k33 h33 (.cons k14 h14 (.cons k15 h15 (.cons k36 h36 (.cons k_pow h_pow (.cons k_whY h_whole .nil)))))))))) zm_ok ((y_C2_1 placeK withinK noughtK FiniteK wholeK subK mulK sclK wpowK wyK R a1 a2 s1 s2 z1 z2 k).trans hr) rfl
theorem t_vC2_2 (R : Type) (a1 a2 s1 s2 p z1 z2 : Nat) (k : Value → Option R) (r : R) (hr : vC2_2 a1 a2 s1 s2 p z1 z2 (vErr k) (zOk k) = some r) : Told 12 4 a1 a2 s1 s2 4611686018427387904 z1 z2 k r := by
  unfold vC2_2 at hr
  exact evFn_sound (cxv_ok (.cons k_check2 h_check (.cons k19 h19 (.cons k21 h21 (.cons k33 h33 (.cons k14 h14 (.cons k15 h15 (.cons k36 h36 (.cons k_pow h_pow (.cons k_whY h_whole .nil)))))))))) zm_ok ((y_C2_2 placeK withinK noughtK FiniteK wholeK subK mulK sclK wpowK wyK R a1 a2 s1 s2 z1 z2 k).trans hr) rfl
theorem t_vC2_3 (R : Type) (a1 a2 s1 s2 p z1 z2 : Nat) (k : Value → Option R) (r : R) (hr : vC2_3 a1 a2 s1 s2 p z1 z2 (vErr k) (zOk k) = some r) : Told 12 4 a1 a2 s1 s2 4613937818241073152 z1 z2 k r := by
  unfold vC2_3 at hr
  exact evFn_sound (cxv_ok (.cons k_check2 h_check (.cons k19 h19 (.cons k21 h21 (.cons k33 h33 (.cons k14 h14 (.cons k15 h15 (.cons k36 h36 (.cons k_pow h_pow (.cons k_whY h_whole .nil)))))))))) zm_ok ((y_C2_3 placeK withinK noughtK FiniteK wholeK subK mulK sclK wpowK wyK R a1 a2 s1 s2 z1 z2 k).trans hr) rfl
theorem t_vC2_4 (R : Type) (a1 a2 s1 s2 p z1 z2 : Nat) (k : Value → Option R) (r : R) (hr : vC2_4 a1 a2 s1 s2 p z1 z2 (vErr k) (zOk k) = some r) : Told 12 4 a1 a2 s1 s2 4616189618054758400 z1 z2 k r := by
  unfold vC2_4 at hr
  exact evFn_sound (cxv_ok (.cons k_check2 h_check (.cons k19 h19 (.cons k21 h21 (.cons k33 h33 (.cons k14 h14 (.cons k15 h15 (.cons k36 h36 (.cons k_pow h_pow (.cons k_whY h_whole .nil)))))))))) zm_ok ((y_C2_4 placeK withinK noughtK FiniteK wholeK subK mulK sclK wpowK wyK R a1 a2 s1 s2 z1 z2 k).trans hr) rfl
theorem t_vB2 (R : Type) (a1 a2 s1 s2 p z1 z2 : Nat) (k : Value → Option R) (r : R) (hr : vB2 a1 a2 s1 s2 p z1 z2 (vErr k) (zOk k) = some r) : Told 12 4 a1 a2 s1 s2 p z1 z2 k r := by
  unfold vB2 at hr
  exact evFn_sound (cxv_ok (.cons k_check2 h_check (.cons k19 h19 (.cons k21 h21 (.cons k33 h33 (.cons k14 h14 (.cons k15 h15 (.cons k36 h36 (.cons k_real h_real (.cons k_whN h_whole .nil)))))))))) zm_ok ((y_B2 placeK withinK noughtK FiniteK wholeK subK mulK sclK realK wnK R a1 a2 s1 s2 p z1 z2 k).trans hr) rfl
theorem t_vD2 (R : Type) (a1 a2 s1 s2 p z1 z2 : Nat) (k : Value → Option R) (r : R) (hr : vD2 a1 a2 s1 s2 p z1 z2 (vErr k) (zOk k) = some r) : Told 12 3 a1 a2 s1 s2 p z1 z2 k r := by
  unfold vD2 at hr
  rcases bif_beq hr with ⟨e, hr⟩ | hr
  · rw [e]
    exact t_vD2_1 R a1 a2 s1 s2 p z1 z2 k r hr
  rcases bif_beq hr with ⟨e, hr⟩ | hr
  · rw [e]
    exact t_vD2_2 R a1 a2 s1 s2 p z1 z2 k r hr
  rcases bif_beq hr with ⟨e, hr⟩ | hr
  · rw [e]
    exact t_vD2_3 R a1 a2 s1 s2 p z1 z2 k r hr
  rcases bif_beq hr with ⟨e, hr⟩ | hr
  · rw [e]
    exact t_vD2_4 R a1 a2 s1 s2 p z1 z2 k r hr
  rcases bif_beq hr with ⟨e, hr⟩ | hr
  · rw [e]
    exact t_vD2_5 R a1 a2 s1 s2 p z1 z2 k r hr
  rcases bif_beq hr with ⟨e, hr⟩ | hr
  · rw [e]
    exact t_vD2_6 R a1 a2 s1 s2 p z1 z2 k r hr
  rcases bif_beq hr with ⟨e, hr⟩ | hr
  · rw [e]
    exact t_vD2_7 R a1 a2 s1 s2 p z1 z2 k r hr
  rcases bif_beq hr with ⟨e, hr⟩ | hr
  · rw [e]
    exact t_vD2_8 R a1 a2 s1 s2 p z1 z2 k r hr
  cases hr
theorem t_vC2 (R : Type) (a1 a2 s1 s2 p z1 z2 : Nat) (k : Value → Option R) (r : R) (hr : vC2 a1 a2 s1 s2 p z1 z2 (vErr k) (zOk k) = some r) : Told 12 4 a1 a2 s1 s2 p z1 z2 k r := by
  unfold vC2 at hr
  rcases bif_beq hr with ⟨e, hr⟩ | hr
  · rw [e]
    exact t_vC2_1 R a1 a2 s1 s2 p z1 z2 k r hr
  rcases bif_beq hr with ⟨e, hr⟩ | hr
  · rw [e]
    exact t_vC2_2 R a1 a2 s1 s2 p z1 z2 k r hr
  rcases bif_beq hr with ⟨e, hr⟩ | hr
  · rw [e]
    exact t_vC2_3 R a1 a2 s1 s2 p z1 z2 k r hr
  rcases bif_beq hr with ⟨e, hr⟩ | hr
  · rw [e]
    exact t_vC2_4 R a1 a2 s1 s2 p z1 z2 k r hr
  exact t_vB2 R a1 a2 s1 s2 p z1 z2 k r hr
theorem k_slpK : SumOk Try.prog 12 (sVal slpK) := by
  intro R args k r hr
  unfold sVal at hr; split at hr
  · rename_i kind a1 a2 s1 s2 p z1 z2
    replace hr : slpK' kind a1 a2 s1 s2 p z1 z2 (vErr k) (zOk k) = some r := hr
    refine ⟨rfl, ?_⟩
    show Told 12 kind a1 a2 s1 s2 p z1 z2 k r
    unfold slpK' at hr
    rcases bif_int hr with ⟨e, hr⟩ | hr
    · rw [e]
      exact t_vS2 R a1 a2 s1 s2 p z1 z2 k r hr
    rcases bif_int hr with ⟨e, hr⟩ | hr
    · rw [e]
      exact t_vO2 R a1 a2 s1 s2 p z1 z2 k r hr
    rcases bif_int hr with ⟨e, hr⟩ | hr
    · rw [e]
      exact t_vD2 R a1 a2 s1 s2 p z1 z2 k r hr
    rcases bif_int hr with ⟨e, hr⟩ | hr
    · rw [e]
      exact t_vC2 R a1 a2 s1 s2 p z1 z2 k r hr
    cases hr
  · cases hr
end Go.Vm
