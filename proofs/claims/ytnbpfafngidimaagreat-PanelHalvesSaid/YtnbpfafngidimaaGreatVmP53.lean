/- Values of doublets and of corners of whole powers come, the same for all places that lie alike; no conditions. Values of all kinds come, the same for all places that lie alike; no conditions. -/
import Derived.Test.YtnbpfafngidimaaGreatVmP49
namespace Go.Vm
open Ieee
set_option linter.unusedVariables false
set_option linter.unusedSimpArgs false
variable {s1 s2 d1 d2 : Nat} {u v x y : Int}

/-! ### Corners at their own place -/
theorem wpow_nought {n : Int} (h0 : 0 ≤ n) (h1 : n ≤ 4) : ∃ w1 w2, Mag 1 w1 ∧ Mag 1 w2 ∧ ∀ (R : Type) (k : Nat → Nat → Option R), wpowK R 0 0 n k = k w1 w2 := by
  have hn : n = 0 ∨ n = 1 ∨ n = 2 ∨ n = 3 ∨ n = 4 := by omega
  have z : Mag 1 0 := mag_zero (by decide)
  rcases hn with rfl | rfl | rfl | rfl | rfl
  · exact ⟨4607182418800017408, 0, mag_lit (by decide), z, fun R k => rfl⟩
  · exact ⟨0, 0, z, z, fun R k => rfl⟩
  · exact ⟨0, 0, z, z, fun R k => by kernel_rfl⟩
  · exact ⟨0, 0, z, z, fun R k => by kernel_rfl⟩
  · exact ⟨0, 0, z, z, fun R k => by kernel_rfl⟩
theorem leafC_nought {n : Int} {times : Option Nat} (hs1 : Mag 11 s1) (hs2 : Mag 11 s2) (h0 : 0 ≤ n) (h1 : n ≤ 4) (ht : ∀ f, times = some f → Mag 8 f) :
    ∃ v1 v2, ∀ (R : Type) (er : Int → Option R) (ok : Nat → Nat → Option R), leafC mulK sclK wpowK times n s1 s2 0 0 (toldE FiniteK er ok) = ok v1 v2 := by
  obtain ⟨w1, w2, m1, m2, hw⟩ := wpow_nought h0 h1
  cases times with
  | none =>
    obtain ⟨u, v, mu, mv, hm⟩ := mulK_mag hs1 hs2 m1 m2 (by decide) (by decide)
    refine ⟨u, v, fun R er ok => ?_⟩
    unfold leafC
    simp only
    rw [hw, hm, toldE_mag mu mv]
  | some f =>
    obtain ⟨t1, t2, n1, n2, hs⟩ := sclK_mag hs1 hs2 (ht f rfl) (by decide) (by decide)
    obtain ⟨u, v, mu, mv, hm⟩ := mulK_mag n1 n2 m1 m2 (by decide) (by decide)
    refine ⟨u, v, fun R er ok => ?_⟩
    unfold leafC
    simp only
    rw [hs, hw, hm, toldE_mag mu mv]
theorem goes_C {n : Int} {times : Option Nat} (h : Dt s1 s2 d1 d2 u v x y) (h0 : 0 ≤ n) (h1 : n ≤ 4) (ht : ∀ f, times = some f → Mag 8 f) : Goes fun R er ok => leafC mulK sclK wpowK times n s1 s2 d1 d2 (toldE FiniteK er ok) := by
  by_cases hn : x = 0 ∧ y = 0
  · obtain ⟨e1, e2⟩ := h.nought hn
    rw [e1, e2]
    exact .inr (leafC_nought h.m1 h.m2 h0 h1 ht)
  · exact .inr (leafC_tot h.m1 h.m2 (h.nb hn) h0 (Int.le_trans h1 (by decide)) ht)
theorem wy_of {p : Nat} {P : Rat} (ip : Is p P) (hw : eqF (wholeW p) p = true) (R : Type) (X : Option R) : wyK R p X = X := by
  unfold wyK
  rw [wholeK_eq ip, hw]
theorem wn_of {p : Nat} {P : Rat} (ip : Is p P) (hw : eqF (wholeW p) p = false) (R : Type) (X : Option R) : wnK R p X = X := by
  unfold wnK
  rw [wholeK_eq ip, hw]
theorem mid_goes (n p : Nat) : Goes fun R er _ => midB n p er := by
  cases h : ltF p n with
  | true => exact .inl ⟨6, fun R er ok => by unfold midB; rw [h]; rfl⟩
  | false => exact .inl ⟨0, fun R er ok => by unfold midB; rw [h]; rfl⟩
theorem no_times : ∀ f, (none : Option Nat) = some f → Mag 8 f := fun f h => nomatch h
theorem a_times {c : Nat} (h : magB 8 c = true) : ∀ f, some c = some f → Mag 8 f := fun f e => by cases e; exact mag_lit h

/-! ### Doublets and corners of whole powers -/
theorem c_D0_1 (h : Dt s1 s2 d1 d2 u v x y) : Came 3 4607182418800017408 s1 s2 d1 d2 fun R a1 a2 z1 z2 er ok => vD0_1 a1 a2 s1 s2 4607182418800017408 z1 z2 er ok :=
  came_P h (fun _ X => X) (fun _ _ => rfl) (fun R er ok _ _ => er 6) (fun R er ok d1 d2 => leafD divK sclK wpowK none 1 s1 s2 d1 d2 (toldE FiniteK er ok)) (fun _ => .inl ⟨6, fun _ _ _ => rfl⟩)
    fun hn => .inr (leafD_tot h.m1 h.m2 (h.nb hn) (by decide) (by decide) no_times)
theorem c_D0_2 (h : Dt s1 s2 d1 d2 u v x y) : Came 3 4611686018427387904 s1 s2 d1 d2 fun R a1 a2 z1 z2 er ok => vD0_2 a1 a2 s1 s2 4611686018427387904 z1 z2 er ok :=
  came_P h (fun _ X => X) (fun _ _ => rfl) (fun R er ok _ _ => er 6) (fun R er ok d1 d2 => leafD divK sclK wpowK none 2 s1 s2 d1 d2 (toldE FiniteK er ok)) (fun _ => .inl ⟨6, fun _ _ _ => rfl⟩)
    fun hn => .inr (leafD_tot h.m1 h.m2 (h.nb hn) (by decide) (by decide) no_times)
theorem c_D0_3 (h : Dt s1 s2 d1 d2 u v x y) : Came 3 4613937818241073152 s1 s2 d1 d2 fun R a1 a2 z1 z2 er ok => vD0_3 a1 a2 s1 s2 4613937818241073152 z1 z2 er ok :=
  came_P h (fun _ X => X) (fun _ _ => rfl) (fun R er ok _ _ => er 6) (fun R er ok d1 d2 => leafD divK sclK wpowK none 3 s1 s2 d1 d2 (toldE FiniteK er ok)) (fun _ => .inl ⟨6, fun _ _ _ => rfl⟩)
    fun hn => .inr (leafD_tot h.m1 h.m2 (h.nb hn) (by decide) (by decide) no_times)
theorem c_D0_4 (h : Dt s1 s2 d1 d2 u v x y) : Came 3 4616189618054758400 s1 s2 d1 d2 fun R a1 a2 z1 z2 er ok => vD0_4 a1 a2 s1 s2 4616189618054758400 z1 z2 er ok :=
  came_P h (fun _ X => X) (fun _ _ => rfl) (fun R er ok _ _ => er 6) (fun R er ok d1 d2 => leafD divK sclK wpowK none 4 s1 s2 d1 d2 (toldE FiniteK er ok)) (fun _ => .inl ⟨6, fun _ _ _ => rfl⟩)
    fun hn => .inr (leafD_tot h.m1 h.m2 (h.nb hn) (by decide) (by decide) no_times)
theorem c_D0_5 (h : Dt s1 s2 d1 d2 u v x y) : Came 3 4617315517961601024 s1 s2 d1 d2 fun R a1 a2 z1 z2 er ok => vD0_5 a1 a2 s1 s2 4617315517961601024 z1 z2 er ok :=
  came_P h (fun _ X => X) (fun _ _ => rfl) (fun R er ok _ _ => er 6) (fun R er ok d1 d2 => leafD divK sclK wpowK none 5 s1 s2 d1 d2 (toldE FiniteK er ok)) (fun _ => .inl ⟨6, fun _ _ _ => rfl⟩)
    fun hn => .inr (leafD_tot h.m1 h.m2 (h.nb hn) (by decide) (by decide) no_times)
theorem c_D0_6 (h : Dt s1 s2 d1 d2 u v x y) : Came 3 4618441417868443648 s1 s2 d1 d2 fun R a1 a2 z1 z2 er ok => vD0_6 a1 a2 s1 s2 4618441417868443648 z1 z2 er ok :=
  came_P h (fun _ X => X) (fun _ _ => rfl) (fun R er ok _ _ => er 6) (fun R er ok d1 d2 => leafD divK sclK wpowK none 6 s1 s2 d1 d2 (toldE FiniteK er ok)) (fun _ => .inl ⟨6, fun _ _ _ => rfl⟩)
    fun hn => .inr (leafD_tot h.m1 h.m2 (h.nb hn) (by decide) (by decide) no_times)
theorem c_D0_7 (h : Dt s1 s2 d1 d2 u v x y) : Came 3 4619567317775286272 s1 s2 d1 d2 fun R a1 a2 z1 z2 er ok => vD0_7 a1 a2 s1 s2 4619567317775286272 z1 z2 er ok :=
  came_P h (fun _ X => X) (fun _ _ => rfl) (fun R er ok _ _ => er 6) (fun R er ok d1 d2 => leafD divK sclK wpowK none 7 s1 s2 d1 d2 (toldE FiniteK er ok)) (fun _ => .inl ⟨6, fun _ _ _ => rfl⟩)
    fun hn => .inr (leafD_tot h.m1 h.m2 (h.nb hn) (by decide) (by decide) no_times)
theorem c_D0_8 (h : Dt s1 s2 d1 d2 u v x y) : Came 3 4620693217682128896 s1 s2 d1 d2 fun R a1 a2 z1 z2 er ok => vD0_8 a1 a2 s1 s2 4620693217682128896 z1 z2 er ok :=
  came_P h (fun _ X => X) (fun _ _ => rfl) (fun R er ok _ _ => er 6) (fun R er ok d1 d2 => leafD divK sclK wpowK none 8 s1 s2 d1 d2 (toldE FiniteK er ok)) (fun _ => .inl ⟨6, fun _ _ _ => rfl⟩)
    fun hn => .inr (leafD_tot h.m1 h.m2 (h.nb hn) (by decide) (by decide) no_times)
theorem c_C0_1 (h : Dt s1 s2 d1 d2 u v x y) : Came 4 4607182418800017408 s1 s2 d1 d2 fun R a1 a2 z1 z2 er ok => vC0_1 a1 a2 s1 s2 4607182418800017408 z1 z2 er ok :=
  came_P h (fun R => wyK R 4607182418800017408) (wy_of l1 (by decide +kernel)) (fun R er ok d1 d2 => leafC mulK sclK wpowK none 1 s1 s2 d1 d2 (toldE FiniteK er ok)) (fun R er ok d1 d2 => leafC mulK sclK wpowK none 1 s1 s2 d1 d2 (toldE FiniteK er ok)) (fun _ => goes_C h (by decide) (by decide) no_times) (fun _ => goes_C h (by decide) (by decide) no_times)
theorem c_C0_2 (h : Dt s1 s2 d1 d2 u v x y) : Came 4 4611686018427387904 s1 s2 d1 d2 fun R a1 a2 z1 z2 er ok => vC0_2 a1 a2 s1 s2 4611686018427387904 z1 z2 er ok :=
  came_P h (fun R => wyK R 4611686018427387904) (wy_of l2 (by decide +kernel)) (fun R er ok d1 d2 => leafC mulK sclK wpowK none 2 s1 s2 d1 d2 (toldE FiniteK er ok)) (fun R er ok d1 d2 => leafC mulK sclK wpowK none 2 s1 s2 d1 d2 (toldE FiniteK er ok)) (fun _ => goes_C h (by decide) (by decide) no_times) (fun _ => goes_C h (by decide) (by decide) no_times)
theorem c_C0_3 (h : Dt s1 s2 d1 d2 u v x y) : Came 4 4613937818241073152 s1 s2 d1 d2 fun R a1 a2 z1 z2 er ok => vC0_3 a1 a2 s1 s2 4613937818241073152 z1 z2 er ok :=
  came_P h (fun R => wyK R 4613937818241073152) (wy_of l3 (by decide +kernel)) (fun R er ok d1 d2 => leafC mulK sclK wpowK none 3 s1 s2 d1 d2 (toldE FiniteK er ok)) (fun R er ok d1 d2 => leafC mulK sclK wpowK none 3 s1 s2 d1 d2 (toldE FiniteK er ok)) (fun _ => goes_C h (by decide) (by decide) no_times) (fun _ => goes_C h (by decide) (by decide) no_times)
theorem c_C0_4 (h : Dt s1 s2 d1 d2 u v x y) : Came 4 4616189618054758400 s1 s2 d1 d2 fun R a1 a2 z1 z2 er ok => vC0_4 a1 a2 s1 s2 4616189618054758400 z1 z2 er ok :=
  came_P h (fun R => wyK R 4616189618054758400) (wy_of l4 (by decide +kernel)) (fun R er ok d1 d2 => leafC mulK sclK wpowK none 4 s1 s2 d1 d2 (toldE FiniteK er ok)) (fun R er ok d1 d2 => leafC mulK sclK wpowK none 4 s1 s2 d1 d2 (toldE FiniteK er ok)) (fun _ => goes_C h (by decide) (by decide) no_times) (fun _ => goes_C h (by decide) (by decide) no_times)
theorem c_D1_1 (h : Dt s1 s2 d1 d2 u v x y) : Came 3 4607182418800017408 s1 s2 d1 d2 fun R a1 a2 z1 z2 er ok => vD1_1 a1 a2 s1 s2 4607182418800017408 z1 z2 er ok :=
  came_P h (fun _ X => X) (fun _ _ => rfl) (fun R er ok _ _ => er 6) (fun R er ok d1 d2 => leafD divK sclK wpowK (some 13830554455654793216) 2 s1 s2 d1 d2 (toldE FiniteK er ok)) (fun _ => .inl ⟨6, fun _ _ _ => rfl⟩)
    fun hn => .inr (leafD_tot h.m1 h.m2 (h.nb hn) (by decide) (by decide) (a_times (by decide)))
theorem c_D1_2 (h : Dt s1 s2 d1 d2 u v x y) : Came 3 4611686018427387904 s1 s2 d1 d2 fun R a1 a2 z1 z2 er ok => vD1_2 a1 a2 s1 s2 4611686018427387904 z1 z2 er ok :=
  came_P h (fun _ X => X) (fun _ _ => rfl) (fun R er ok _ _ => er 6) (fun R er ok d1 d2 => leafD divK sclK wpowK (some 13835058055282163712) 3 s1 s2 d1 d2 (toldE FiniteK er ok)) (fun _ => .inl ⟨6, fun _ _ _ => rfl⟩)
    fun hn => .inr (leafD_tot h.m1 h.m2 (h.nb hn) (by decide) (by decide) (a_times (by decide)))
theorem c_D1_3 (h : Dt s1 s2 d1 d2 u v x y) : Came 3 4613937818241073152 s1 s2 d1 d2 fun R a1 a2 z1 z2 er ok => vD1_3 a1 a2 s1 s2 4613937818241073152 z1 z2 er ok :=
  came_P h (fun _ X => X) (fun _ _ => rfl) (fun R er ok _ _ => er 6) (fun R er ok d1 d2 => leafD divK sclK wpowK (some 13837309855095848960) 4 s1 s2 d1 d2 (toldE FiniteK er ok)) (fun _ => .inl ⟨6, fun _ _ _ => rfl⟩)
    fun hn => .inr (leafD_tot h.m1 h.m2 (h.nb hn) (by decide) (by decide) (a_times (by decide)))
theorem c_D1_4 (h : Dt s1 s2 d1 d2 u v x y) : Came 3 4616189618054758400 s1 s2 d1 d2 fun R a1 a2 z1 z2 er ok => vD1_4 a1 a2 s1 s2 4616189618054758400 z1 z2 er ok :=
  came_P h (fun _ X => X) (fun _ _ => rfl) (fun R er ok _ _ => er 6) (fun R er ok d1 d2 => leafD divK sclK wpowK (some 13839561654909534208) 5 s1 s2 d1 d2 (toldE FiniteK er ok)) (fun _ => .inl ⟨6, fun _ _ _ => rfl⟩)
    fun hn => .inr (leafD_tot h.m1 h.m2 (h.nb hn) (by decide) (by decide) (a_times (by decide)))
theorem c_D1_5 (h : Dt s1 s2 d1 d2 u v x y) : Came 3 4617315517961601024 s1 s2 d1 d2 fun R a1 a2 z1 z2 er ok => vD1_5 a1 a2 s1 s2 4617315517961601024 z1 z2 er ok :=
  came_P h (fun _ X => X) (fun _ _ => rfl) (fun R er ok _ _ => er 6) (fun R er ok d1 d2 => leafD divK sclK wpowK (some 13840687554816376832) 6 s1 s2 d1 d2 (toldE FiniteK er ok)) (fun _ => .inl ⟨6, fun _ _ _ => rfl⟩)
    fun hn => .inr (leafD_tot h.m1 h.m2 (h.nb hn) (by decide) (by decide) (a_times (by decide)))
theorem c_D1_6 (h : Dt s1 s2 d1 d2 u v x y) : Came 3 4618441417868443648 s1 s2 d1 d2 fun R a1 a2 z1 z2 er ok => vD1_6 a1 a2 s1 s2 4618441417868443648 z1 z2 er ok :=
  came_P h (fun _ X => X) (fun _ _ => rfl) (fun R er ok _ _ => er 6) (fun R er ok d1 d2 => leafD divK sclK wpowK (some 13841813454723219456) 7 s1 s2 d1 d2 (toldE FiniteK er ok)) (fun _ => .inl ⟨6, fun _ _ _ => rfl⟩)
    fun hn => .inr (leafD_tot h.m1 h.m2 (h.nb hn) (by decide) (by decide) (a_times (by decide)))
theorem c_D1_7 (h : Dt s1 s2 d1 d2 u v x y) : Came 3 4619567317775286272 s1 s2 d1 d2 fun R a1 a2 z1 z2 er ok => vD1_7 a1 a2 s1 s2 4619567317775286272 z1 z2 er ok :=
  came_P h (fun _ X => X) (fun _ _ => rfl) (fun R er ok _ _ => er 6) (fun R er ok d1 d2 => leafD divK sclK wpowK (some 13842939354630062080) 8 s1 s2 d1 d2 (toldE FiniteK er ok)) (fun _ => .inl ⟨6, fun _ _ _ => rfl⟩)
    fun hn => .inr (leafD_tot h.m1 h.m2 (h.nb hn) (by decide) (by decide) (a_times (by decide)))
theorem c_D1_8 (h : Dt s1 s2 d1 d2 u v x y) : Came 3 4620693217682128896 s1 s2 d1 d2 fun R a1 a2 z1 z2 er ok => vD1_8 a1 a2 s1 s2 4620693217682128896 z1 z2 er ok :=
  came_P h (fun _ X => X) (fun _ _ => rfl) (fun R er ok _ _ => er 6) (fun R er ok d1 d2 => leafD divK sclK wpowK (some 13844065254536904704) 9 s1 s2 d1 d2 (toldE FiniteK er ok)) (fun _ => .inl ⟨6, fun _ _ _ => rfl⟩)
    fun hn => .inr (leafD_tot h.m1 h.m2 (h.nb hn) (by decide) (by decide) (a_times (by decide)))
theorem c_C1_1 (h : Dt s1 s2 d1 d2 u v x y) : Came 4 4607182418800017408 s1 s2 d1 d2 fun R a1 a2 z1 z2 er ok => vC1_1 a1 a2 s1 s2 4607182418800017408 z1 z2 er ok :=
  came_P h (fun R => wyK R 4607182418800017408) (wy_of l1 (by decide +kernel)) (fun R er ok d1 d2 => leafC mulK sclK wpowK (some 4607182418800017408) 0 s1 s2 d1 d2 (toldE FiniteK er ok)) (fun R er ok d1 d2 => leafC mulK sclK wpowK (some 4607182418800017408) 0 s1 s2 d1 d2 (toldE FiniteK er ok)) (fun _ => goes_C h (by decide) (by decide) (a_times (by decide))) (fun _ => goes_C h (by decide) (by decide) (a_times (by decide)))
theorem c_C1_2 (h : Dt s1 s2 d1 d2 u v x y) : Came 4 4611686018427387904 s1 s2 d1 d2 fun R a1 a2 z1 z2 er ok => vC1_2 a1 a2 s1 s2 4611686018427387904 z1 z2 er ok :=
  came_P h (fun R => wyK R 4611686018427387904) (wy_of l2 (by decide +kernel)) (fun R er ok d1 d2 => leafC mulK sclK wpowK (some 4611686018427387904) 1 s1 s2 d1 d2 (toldE FiniteK er ok)) (fun R er ok d1 d2 => leafC mulK sclK wpowK (some 4611686018427387904) 1 s1 s2 d1 d2 (toldE FiniteK er ok)) (fun _ => goes_C h (by decide) (by decide) (a_times (by decide))) (fun _ => goes_C h (by decide) (by decide) (a_times (by decide)))
theorem c_C1_3 (h : Dt s1 s2 d1 d2 u v x y) : Came 4 4613937818241073152 s1 s2 d1 d2 fun R a1 a2 z1 z2 er ok => vC1_3 a1 a2 s1 s2 4613937818241073152 z1 z2 er ok :=
  came_P h (fun R => wyK R 4613937818241073152) (wy_of l3 (by decide +kernel)) (fun R er ok d1 d2 => leafC mulK sclK wpowK (some 4613937818241073152) 2 s1 s2 d1 d2 (toldE FiniteK er ok)) (fun R er ok d1 d2 => leafC mulK sclK wpowK (some 4613937818241073152) 2 s1 s2 d1 d2 (toldE FiniteK er ok)) (fun _ => goes_C h (by decide) (by decide) (a_times (by decide))) (fun _ => goes_C h (by decide) (by decide) (a_times (by decide)))
theorem c_C1_4 (h : Dt s1 s2 d1 d2 u v x y) : Came 4 4616189618054758400 s1 s2 d1 d2 fun R a1 a2 z1 z2 er ok => vC1_4 a1 a2 s1 s2 4616189618054758400 z1 z2 er ok :=
  came_P h (fun R => wyK R 4616189618054758400) (wy_of l4 (by decide +kernel)) (fun R er ok d1 d2 => leafC mulK sclK wpowK (some 4616189618054758400) 3 s1 s2 d1 d2 (toldE FiniteK er ok)) (fun R er ok d1 d2 => leafC mulK sclK wpowK (some 4616189618054758400) 3 s1 s2 d1 d2 (toldE FiniteK er ok)) (fun _ => goes_C h (by decide) (by decide) (a_times (by decide))) (fun _ => goes_C h (by decide) (by decide) (a_times (by decide)))
theorem c_D2_1 (h : Dt s1 s2 d1 d2 u v x y) : Came 3 4607182418800017408 s1 s2 d1 d2 fun R a1 a2 z1 z2 er ok => vD2_1 a1 a2 s1 s2 4607182418800017408 z1 z2 er ok :=
  came_P h (fun _ X => X) (fun _ _ => rfl) (fun R er ok _ _ => er 6) (fun R er ok d1 d2 => leafD divK sclK wpowK (some 4611686018427387904) 3 s1 s2 d1 d2 (toldE FiniteK er ok)) (fun _ => .inl ⟨6, fun _ _ _ => rfl⟩)
    fun hn => .inr (leafD_tot h.m1 h.m2 (h.nb hn) (by decide) (by decide) (a_times (by decide)))
theorem c_D2_2 (h : Dt s1 s2 d1 d2 u v x y) : Came 3 4611686018427387904 s1 s2 d1 d2 fun R a1 a2 z1 z2 er ok => vD2_2 a1 a2 s1 s2 4611686018427387904 z1 z2 er ok :=
  came_P h (fun _ X => X) (fun _ _ => rfl) (fun R er ok _ _ => er 6) (fun R er ok d1 d2 => leafD divK sclK wpowK (some 4618441417868443648) 4 s1 s2 d1 d2 (toldE FiniteK er ok)) (fun _ => .inl ⟨6, fun _ _ _ => rfl⟩)
    fun hn => .inr (leafD_tot h.m1 h.m2 (h.nb hn) (by decide) (by decide) (a_times (by decide)))
theorem c_D2_3 (h : Dt s1 s2 d1 d2 u v x y) : Came 3 4613937818241073152 s1 s2 d1 d2 fun R a1 a2 z1 z2 er ok => vD2_3 a1 a2 s1 s2 4613937818241073152 z1 z2 er ok :=
  came_P h (fun _ X => X) (fun _ _ => rfl) (fun R er ok _ _ => er 6) (fun R er ok d1 d2 => leafD divK sclK wpowK (some 4622945017495814144) 5 s1 s2 d1 d2 (toldE FiniteK er ok)) (fun _ => .inl ⟨6, fun _ _ _ => rfl⟩)
    fun hn => .inr (leafD_tot h.m1 h.m2 (h.nb hn) (by decide) (by decide) (a_times (by decide)))
theorem c_D2_4 (h : Dt s1 s2 d1 d2 u v x y) : Came 3 4616189618054758400 s1 s2 d1 d2 fun R a1 a2 z1 z2 er ok => vD2_4 a1 a2 s1 s2 4616189618054758400 z1 z2 er ok :=
  came_P h (fun _ X => X) (fun _ _ => rfl) (fun R er ok _ _ => er 6) (fun R er ok d1 d2 => leafD divK sclK wpowK (some 4626322717216342016) 6 s1 s2 d1 d2 (toldE FiniteK er ok)) (fun _ => .inl ⟨6, fun _ _ _ => rfl⟩)
    fun hn => .inr (leafD_tot h.m1 h.m2 (h.nb hn) (by decide) (by decide) (a_times (by decide)))
theorem c_D2_5 (h : Dt s1 s2 d1 d2 u v x y) : Came 3 4617315517961601024 s1 s2 d1 d2 fun R a1 a2 z1 z2 er ok => vD2_5 a1 a2 s1 s2 4617315517961601024 z1 z2 er ok :=
  came_P h (fun _ X => X) (fun _ _ => rfl) (fun R er ok _ _ => er 6) (fun R er ok d1 d2 => leafD divK sclK wpowK (some 4629137466983448576) 7 s1 s2 d1 d2 (toldE FiniteK er ok)) (fun _ => .inl ⟨6, fun _ _ _ => rfl⟩)
    fun hn => .inr (leafD_tot h.m1 h.m2 (h.nb hn) (by decide) (by decide) (a_times (by decide)))
theorem c_D2_6 (h : Dt s1 s2 d1 d2 u v x y) : Came 3 4618441417868443648 s1 s2 d1 d2 fun R a1 a2 z1 z2 er ok => vD2_6 a1 a2 s1 s2 4618441417868443648 z1 z2 er ok :=
  came_P h (fun _ X => X) (fun _ _ => rfl) (fun R er ok _ _ => er 6) (fun R er ok d1 d2 => leafD divK sclK wpowK (some 4631107791820423168) 8 s1 s2 d1 d2 (toldE FiniteK er ok)) (fun _ => .inl ⟨6, fun _ _ _ => rfl⟩)
    fun hn => .inr (leafD_tot h.m1 h.m2 (h.nb hn) (by decide) (by decide) (a_times (by decide)))
theorem c_D2_7 (h : Dt s1 s2 d1 d2 u v x y) : Came 3 4619567317775286272 s1 s2 d1 d2 fun R a1 a2 z1 z2 er ok => vD2_7 a1 a2 s1 s2 4619567317775286272 z1 z2 er ok :=
  came_P h (fun _ X => X) (fun _ _ => rfl) (fun R er ok _ _ => er 6) (fun R er ok d1 d2 => leafD divK sclK wpowK (some 4633078116657397760) 9 s1 s2 d1 d2 (toldE FiniteK er ok)) (fun _ => .inl ⟨6, fun _ _ _ => rfl⟩)
    fun hn => .inr (leafD_tot h.m1 h.m2 (h.nb hn) (by decide) (by decide) (a_times (by decide)))
theorem c_D2_8 (h : Dt s1 s2 d1 d2 u v x y) : Came 3 4620693217682128896 s1 s2 d1 d2 fun R a1 a2 z1 z2 er ok => vD2_8 a1 a2 s1 s2 4620693217682128896 z1 z2 er ok :=
  came_P h (fun _ X => X) (fun _ _ => rfl) (fun R er ok _ _ => er 6) (fun R er ok d1 d2 => leafD divK sclK wpowK (some 4634766966517661696) 10 s1 s2 d1 d2 (toldE FiniteK er ok)) (fun _ => .inl ⟨6, fun _ _ _ => rfl⟩)
    fun hn => .inr (leafD_tot h.m1 h.m2 (h.nb hn) (by decide) (by decide) (a_times (by decide)))
theorem c_C2_1 (h : Dt s1 s2 d1 d2 u v x y) : Came 4 4607182418800017408 s1 s2 d1 d2 fun R a1 a2 z1 z2 er ok => vC2_1 a1 a2 s1 s2 4607182418800017408 z1 z2 er ok :=
  came_P h (fun R => wyK R 4607182418800017408) (wy_of l1 (by decide +kernel)) (fun R er ok d1 d2 => toldE FiniteK er ok 0 0) (fun R er ok d1 d2 => toldE FiniteK er ok 0 0) (fun _ => .inr ⟨0, 0, fun R er ok => toldE_yes is_zero is_zero er ok⟩) (fun _ => .inr ⟨0, 0, fun R er ok => toldE_yes is_zero is_zero er ok⟩)
theorem c_C2_2 (h : Dt s1 s2 d1 d2 u v x y) : Came 4 4611686018427387904 s1 s2 d1 d2 fun R a1 a2 z1 z2 er ok => vC2_2 a1 a2 s1 s2 4611686018427387904 z1 z2 er ok :=
  came_P h (fun R => wyK R 4611686018427387904) (wy_of l2 (by decide +kernel)) (fun R er ok d1 d2 => leafC mulK sclK wpowK (some 4611686018427387904) 0 s1 s2 d1 d2 (toldE FiniteK er ok)) (fun R er ok d1 d2 => leafC mulK sclK wpowK (some 4611686018427387904) 0 s1 s2 d1 d2 (toldE FiniteK er ok)) (fun _ => goes_C h (by decide) (by decide) (a_times (by decide))) (fun _ => goes_C h (by decide) (by decide) (a_times (by decide)))
theorem c_C2_3 (h : Dt s1 s2 d1 d2 u v x y) : Came 4 4613937818241073152 s1 s2 d1 d2 fun R a1 a2 z1 z2 er ok => vC2_3 a1 a2 s1 s2 4613937818241073152 z1 z2 er ok :=
  came_P h (fun R => wyK R 4613937818241073152) (wy_of l3 (by decide +kernel)) (fun R er ok d1 d2 => leafC mulK sclK wpowK (some 4618441417868443648) 1 s1 s2 d1 d2 (toldE FiniteK er ok)) (fun R er ok d1 d2 => leafC mulK sclK wpowK (some 4618441417868443648) 1 s1 s2 d1 d2 (toldE FiniteK er ok)) (fun _ => goes_C h (by decide) (by decide) (a_times (by decide))) (fun _ => goes_C h (by decide) (by decide) (a_times (by decide)))
theorem c_C2_4 (h : Dt s1 s2 d1 d2 u v x y) : Came 4 4616189618054758400 s1 s2 d1 d2 fun R a1 a2 z1 z2 er ok => vC2_4 a1 a2 s1 s2 4616189618054758400 z1 z2 er ok :=
  came_P h (fun R => wyK R 4616189618054758400) (wy_of l4 (by decide +kernel)) (fun R er ok d1 d2 => leafC mulK sclK wpowK (some 4622945017495814144) 2 s1 s2 d1 d2 (toldE FiniteK er ok)) (fun R er ok d1 d2 => leafC mulK sclK wpowK (some 4622945017495814144) 2 s1 s2 d1 d2 (toldE FiniteK er ok)) (fun _ => goes_C h (by decide) (by decide) (a_times (by decide))) (fun _ => goes_C h (by decide) (by decide) (a_times (by decide)))
end Go.Vm
namespace Go.Vm
open Ieee
set_option linter.unusedVariables false
set_option linter.unusedSimpArgs false
variable {s1 s2 d1 d2 : Nat} {u v x y : Int}

/-! ### Broken powers, sources, streams -/
theorem bd4p {p : Nat} {P : Rat} (ip : Is p P) (p1 : 1 / 4 ≤ P) (p2 : P ≤ 4) : Bv 4 p := ⟨P, ip, abs_le_iff.2 ⟨by grind, by grind⟩⟩
theorem c_B0 {p : Nat} {P : Rat} (h : Dt s1 s2 d1 d2 u v x y) (ip : Is p P) (p1 : 1 / 4 ≤ P) (p2 : P ≤ 4) (hw : eqF (wholeW p) p = false) : Came 4 p s1 s2 d1 d2 fun R a1 a2 z1 z2 er ok => vB0 a1 a2 s1 s2 p z1 z2 er ok :=
  came_P h (fun R => wnK R p) (wn_of ip hw) (fun R er ok _ _ => midB 0 p er) (fun R er ok d1 d2 => leafB0 mulK realK p s1 s2 d1 d2 (toldE FiniteK er ok)) (fun _ => mid_goes 0 p)
    fun hn => .inr (leafB0_tot h.m1 h.m2 h.d1.1 h.d2.1 (some_not hn) h.bx h.by' (bd4p ip p1 p2))
theorem c_B1 {p : Nat} {P : Rat} (h : Dt s1 s2 d1 d2 u v x y) (ip : Is p P) (p1 : 1 / 4 ≤ P) (p2 : P ≤ 4) (hw : eqF (wholeW p) p = false) : Came 4 p s1 s2 d1 d2 fun R a1 a2 z1 z2 er ok => vB1 a1 a2 s1 s2 p z1 z2 er ok :=
  came_P h (fun R => wnK R p) (wn_of ip hw) (fun R er ok _ _ => midB 4607182418800017408 p er) (fun R er ok d1 d2 => leafB1 mulK sclK realK p s1 s2 d1 d2 (toldE FiniteK er ok)) (fun _ => mid_goes 4607182418800017408 p)
    fun hn => .inr (leafB1_tot h.m1 h.m2 h.d1.1 h.d2.1 (some_not hn) h.bx h.by' ip p1 p2)
theorem c_B2 {p : Nat} {P : Rat} (h : Dt s1 s2 d1 d2 u v x y) (ip : Is p P) (p1 : 1 / 4 ≤ P) (p2 : P ≤ 4) (hw : eqF (wholeW p) p = false) : Came 4 p s1 s2 d1 d2 fun R a1 a2 z1 z2 er ok => vB2 a1 a2 s1 s2 p z1 z2 er ok :=
  came_P h (fun R => wnK R p) (wn_of ip hw) (fun R er ok _ _ => midB 4611686018427387904 p er) (fun R er ok d1 d2 => leafB2 mulK sclK realK p s1 s2 d1 d2 (toldE FiniteK er ok)) (fun _ => mid_goes 4611686018427387904 p)
    fun hn => .inr (leafB2_tot h.m1 h.m2 h.d1.1 h.d2.1 (some_not hn) h.bx h.by' ip p1 p2)
theorem c_O0 {p : Nat} (h : Dt s1 s2 d1 d2 u v x y) : Came 2 p s1 s2 d1 d2 fun R a1 a2 z1 z2 er ok => vO0 a1 a2 s1 s2 p z1 z2 er ok :=
  came_O h (fun R er ok c1 c2 d1 d2 => powLogK R d1 d2 fun l1 l2 => mulK R c1 c2 l1 l2 (toldE FiniteK er ok)) fun c1 c2 m1 m2 hn => .inr (leafO0_tot m1 m2 h.d1.1 h.d2.1 (some_not hn) h.bx h.by')
theorem c_O1 {p : Nat} (h : Dt s1 s2 d1 d2 u v x y) : Came 2 p s1 s2 d1 d2 fun R a1 a2 z1 z2 er ok => vO1 a1 a2 s1 s2 p z1 z2 er ok :=
  came_O h (fun R er ok c1 c2 d1 d2 => divK R c1 c2 d1 d2 (toldE FiniteK er ok)) fun c1 c2 m1 m2 hn => .inr (leafO1_tot m1 m2 (h.nb hn))
theorem c_O2 {p : Nat} (h : Dt s1 s2 d1 d2 u v x y) : Came 2 p s1 s2 d1 d2 fun R a1 a2 z1 z2 er ok => vO2 a1 a2 s1 s2 p z1 z2 er ok :=
  came_O h (fun R er ok c1 c2 d1 d2 => negK R c1 c2 fun c1 c2 => wpowK R d1 d2 2 fun w1 w2 => divK R c1 c2 w1 w2 (toldE FiniteK er ok)) fun c1 c2 m1 m2 hn => .inr (leafO2_tot m1 m2 (h.nb hn))
theorem c_S1 {p : Nat} (h : Dt s1 s2 d1 d2 u v x y) : Came 1 p s1 s2 d1 d2 fun R a1 a2 z1 z2 er ok => vS1 a1 a2 s1 s2 p z1 z2 er ok :=
  came_P h (fun _ X => X) (fun _ _ => rfl) (fun R er ok d1 d2 => toldE FiniteK er ok s1 s2) (fun R er ok d1 d2 => toldE FiniteK er ok s1 s2) (fun _ => .inr ⟨s1, s2, fun R er ok => toldE_yes h.s1 h.s2 er ok⟩) fun _ => .inr ⟨s1, s2, fun R er ok => toldE_yes h.s1 h.s2 er ok⟩
theorem c_S2 {p : Nat} (h : Dt s1 s2 d1 d2 u v x y) : Came 1 p s1 s2 d1 d2 fun R a1 a2 z1 z2 er ok => vS2 a1 a2 s1 s2 p z1 z2 er ok :=
  came_P h (fun _ X => X) (fun _ _ => rfl) (fun R er ok d1 d2 => toldE FiniteK er ok 0 0) (fun R er ok d1 d2 => toldE FiniteK er ok 0 0) (fun _ => .inr ⟨0, 0, fun R er ok => toldE_yes is_zero is_zero er ok⟩) fun _ => .inr ⟨0, 0, fun R er ok => toldE_yes is_zero is_zero er ok⟩
theorem c_S0 {p a1 a2 z1 z2 : Nat} {X Y : Int} (h : Dt s1 s2 d1 d2 u v x y) (ha : At 1 p s1 s2 d1 d2 a1 a2 z1 z2) (hz : IsC z1 z2 X Y) (bX : X.natAbs ≤ 2000) (bY : Y.natAbs ≤ 2000) :
    ∃ v1 v2, ∀ (R : Type) (er : Int → Option R) (ok : Nat → Nat → Option R), vS0 a1 a2 s1 s2 p z1 z2 er ok = ok v1 v2 := by
  obtain ⟨w1, w2, ⟨i1, i2⟩, _, _, hm⟩ := mulK_int (p := 1000) (q := 2000) ⟨h.s1, h.s2⟩ hz h.u h.v bX bY (by decide)
  refine ⟨w1, w2, fun R er ok => ?_⟩
  unfold vS0
  rw [valP_at ha h.dc]
  cases decide (x = 0 ∧ y = 0) <;> (simp only; rw [hm, toldE_yes i1 i2])

/-! ### By the power -/
theorem ne_of {p w : Nat} (hw : eqF (wholeW p) p = false) (h : eqF (wholeW w) w = true) : p ≠ w := fun e => by subst e; rw [hw] at h; cases h
theorem bif4 {p w1 w2 w3 w4 : Nat} {R : Type} {a b c d e : R} (h1 : p ≠ w1) (h2 : p ≠ w2) (h3 : p ≠ w3) (h4 : p ≠ w4) :
    (bif Nat.beq p w1 then a else bif Nat.beq p w2 then b else bif Nat.beq p w3 then c else bif Nat.beq p w4 then d else e) = e := by
  rw [nb, nb, nb, nb, decide_eq_false h1, decide_eq_false h2, decide_eq_false h3, decide_eq_false h4]
  rfl
theorem bif_no {p w : Nat} {R : Type} {a b : R} (h : p ≠ w) : (bif Nat.beq p w then a else b) = b := by
  rw [nb, decide_eq_false h]
  rfl
theorem bif_yes {p w : Nat} {R : Type} {a b : R} (h : p = w) : (bif Nat.beq p w then a else b) = a := by
  rw [nb, decide_eq_true h]
  rfl
theorem ne_lit {p w v : Nat} (e : p = w) (h : Nat.beq w v = false) : p ≠ v := fun g => by
  subst e g
  simp at h
theorem came_at {kind : Int} {p w s1 s2 d1 d2 : Nat} {g : VF} (e : p = w) (h : Came kind w s1 s2 d1 d2 g) : Came kind p s1 s2 d1 d2 g := by subst e; exact h
theorem came_congr {kind : Int} {p : Nat} {f g : VF} (h : Came kind p s1 s2 d1 d2 g) (e : ∀ (R : Type) a1 a2 z1 z2 (er : Int → Option R) (ok : Nat → Nat → Option R), f R a1 a2 z1 z2 er ok = g R a1 a2 z1 z2 er ok) : Came kind p s1 s2 d1 d2 f := by
  rcases h with ⟨w, hw⟩ | ⟨v1, v2, hv⟩
  · exact .inl ⟨w, fun a1 a2 z1 z2 ha R er ok => (e _ _ _ _ _ _ _).trans (hw a1 a2 z1 z2 ha R er ok)⟩
  · exact .inr ⟨v1, v2, fun a1 a2 z1 z2 ha R er ok => (e _ _ _ _ _ _ _).trans (hv a1 a2 z1 z2 ha R er ok)⟩
theorem four_of {p : Nat} {P : Rat} (ip : Is p P) (p1 : 1 / 4 ≤ P) (p2 : P ≤ 4) (hw : eqF (wholeW p) p = true) : p = 4607182418800017408 ∨ p = 4611686018427387904 ∨ p = 4613937818241073152 ∨ p = 4616189618054758400 := by
  obtain ⟨N, rfl⟩ := whole_yes ip (by
    have : ((4 : Nat) : Rat) ≤ ((2 ^ 40 : Nat) : Rat) := nat_cast_le (by decide)
    have e4 : ((4 : Nat) : Rat) = 4 := by norm_cast
    exact abs_le_iff.2 ⟨by grind, by grind⟩) hw
  have h1 : 1 ≤ N := by
    refine Int.not_lt.1 fun hlt => ?_
    have : (N : Rat) ≤ ((0 : Int) : Rat) := by exact_mod_cast (show N ≤ 0 by omega)
    have e0 : ((0 : Int) : Rat) = 0 := by norm_cast
    grind
  have h2 : N ≤ 4 := by exact_mod_cast p2
  have hn : N = 1 ∨ N = 2 ∨ N = 3 ∨ N = 4 := by omega
  rcases hn with rfl | rfl | rfl | rfl
  · exact .inl (word_of ip l1 (by decide))
  · exact .inr (.inl (word_of ip l2 (by decide)))
  · exact .inr (.inr (.inl (word_of ip l3 (by decide))))
  · exact .inr (.inr (.inr (word_of ip l4 (by decide))))
theorem at_D0_1 {p : Nat} (h : Dt s1 s2 d1 d2 u v x y) (e : p = 4607182418800017408) : Came 3 p s1 s2 d1 d2 fun R a1 a2 z1 z2 er ok => vD0 a1 a2 s1 s2 p z1 z2 er ok :=
  came_congr (came_at e (c_D0_1 h)) fun R a1 a2 z1 z2 er ok => (bif_yes e)
theorem at_D0_2 {p : Nat} (h : Dt s1 s2 d1 d2 u v x y) (e : p = 4611686018427387904) : Came 3 p s1 s2 d1 d2 fun R a1 a2 z1 z2 er ok => vD0 a1 a2 s1 s2 p z1 z2 er ok :=
  came_congr (came_at e (c_D0_2 h)) fun R a1 a2 z1 z2 er ok => ((bif_no (ne_lit (v := 4607182418800017408) e rfl)).trans (bif_yes e))
theorem at_D0_3 {p : Nat} (h : Dt s1 s2 d1 d2 u v x y) (e : p = 4613937818241073152) : Came 3 p s1 s2 d1 d2 fun R a1 a2 z1 z2 er ok => vD0 a1 a2 s1 s2 p z1 z2 er ok :=
  came_congr (came_at e (c_D0_3 h)) fun R a1 a2 z1 z2 er ok => ((bif_no (ne_lit (v := 4607182418800017408) e rfl)).trans ((bif_no (ne_lit (v := 4611686018427387904) e rfl)).trans (bif_yes e)))
theorem at_D0_4 {p : Nat} (h : Dt s1 s2 d1 d2 u v x y) (e : p = 4616189618054758400) : Came 3 p s1 s2 d1 d2 fun R a1 a2 z1 z2 er ok => vD0 a1 a2 s1 s2 p z1 z2 er ok :=
  came_congr (came_at e (c_D0_4 h)) fun R a1 a2 z1 z2 er ok => ((bif_no (ne_lit (v := 4607182418800017408) e rfl)).trans ((bif_no (ne_lit (v := 4611686018427387904) e rfl)).trans ((bif_no (ne_lit (v := 4613937818241073152) e rfl)).trans (bif_yes e))))
theorem at_D0_5 {p : Nat} (h : Dt s1 s2 d1 d2 u v x y) (e : p = 4617315517961601024) : Came 3 p s1 s2 d1 d2 fun R a1 a2 z1 z2 er ok => vD0 a1 a2 s1 s2 p z1 z2 er ok :=
  came_congr (came_at e (c_D0_5 h)) fun R a1 a2 z1 z2 er ok => ((bif_no (ne_lit (v := 4607182418800017408) e rfl)).trans ((bif_no (ne_lit (v := 4611686018427387904) e rfl)).trans ((bif_no (ne_lit (v := 4613937818241073152) e rfl)).trans ((bif_no (ne_lit (v := 4616189618054758400) e rfl)).trans (bif_yes e)))))
theorem at_D0_6 {p : Nat} (h : Dt s1 s2 d1 d2 u v x y) (e : p = 4618441417868443648) : Came 3 p s1 s2 d1 d2 fun R a1 a2 z1 z2 er ok => vD0 a1 a2 s1 s2 p z1 z2 er ok :=
  came_congr (came_at e (c_D0_6 h)) fun R a1 a2 z1 z2 er ok => ((bif_no (ne_lit (v := 4607182418800017408) e rfl)).trans ((bif_no (ne_lit (v := 4611686018427387904) e rfl)).trans ((bif_no (ne_lit (v := 4613937818241073152) e rfl)).trans ((bif_no (ne_lit (v := 4616189618054758400) e rfl)).trans ((bif_no (ne_lit (v := 4617315517961601024) e rfl)).trans (bif_yes e))))))
theorem at_D0_7 {p : Nat} (h : Dt s1 s2 d1 d2 u v x y) (e : p = 4619567317775286272) : Came 3 p s1 s2 d1 d2 fun R a1 a2 z1 z2 er ok => vD0 a1 a2 s1 s2 p z1 z2 er ok :=
  came_congr (came_at e (c_D0_7 h)) fun R a1 a2 z1 z2 er ok => ((bif_no (ne_lit (v := 4607182418800017408) e rfl)).trans ((bif_no (ne_lit (v := 4611686018427387904) e rfl)).trans ((bif_no (ne_lit (v := 4613937818241073152) e rfl)).trans ((bif_no (ne_lit (v := 4616189618054758400) e rfl)).trans ((bif_no (ne_lit (v := 4617315517961601024) e rfl)).trans ((bif_no (ne_lit (v := 4618441417868443648) e rfl)).trans (bif_yes e)))))))
theorem at_D0_8 {p : Nat} (h : Dt s1 s2 d1 d2 u v x y) (e : p = 4620693217682128896) : Came 3 p s1 s2 d1 d2 fun R a1 a2 z1 z2 er ok => vD0 a1 a2 s1 s2 p z1 z2 er ok :=
  came_congr (came_at e (c_D0_8 h)) fun R a1 a2 z1 z2 er ok => ((bif_no (ne_lit (v := 4607182418800017408) e rfl)).trans ((bif_no (ne_lit (v := 4611686018427387904) e rfl)).trans ((bif_no (ne_lit (v := 4613937818241073152) e rfl)).trans ((bif_no (ne_lit (v := 4616189618054758400) e rfl)).trans ((bif_no (ne_lit (v := 4617315517961601024) e rfl)).trans ((bif_no (ne_lit (v := 4618441417868443648) e rfl)).trans ((bif_no (ne_lit (v := 4619567317775286272) e rfl)).trans (bif_yes e))))))))
theorem at_C0_1 {p : Nat} (h : Dt s1 s2 d1 d2 u v x y) (e : p = 4607182418800017408) : Came 4 p s1 s2 d1 d2 fun R a1 a2 z1 z2 er ok => vC0 a1 a2 s1 s2 p z1 z2 er ok :=
  came_congr (came_at e (c_C0_1 h)) fun R a1 a2 z1 z2 er ok => (bif_yes e)
theorem at_C0_2 {p : Nat} (h : Dt s1 s2 d1 d2 u v x y) (e : p = 4611686018427387904) : Came 4 p s1 s2 d1 d2 fun R a1 a2 z1 z2 er ok => vC0 a1 a2 s1 s2 p z1 z2 er ok :=
  came_congr (came_at e (c_C0_2 h)) fun R a1 a2 z1 z2 er ok => ((bif_no (ne_lit (v := 4607182418800017408) e rfl)).trans (bif_yes e))
theorem at_C0_3 {p : Nat} (h : Dt s1 s2 d1 d2 u v x y) (e : p = 4613937818241073152) : Came 4 p s1 s2 d1 d2 fun R a1 a2 z1 z2 er ok => vC0 a1 a2 s1 s2 p z1 z2 er ok :=
  came_congr (came_at e (c_C0_3 h)) fun R a1 a2 z1 z2 er ok => ((bif_no (ne_lit (v := 4607182418800017408) e rfl)).trans ((bif_no (ne_lit (v := 4611686018427387904) e rfl)).trans (bif_yes e)))
theorem at_C0_4 {p : Nat} (h : Dt s1 s2 d1 d2 u v x y) (e : p = 4616189618054758400) : Came 4 p s1 s2 d1 d2 fun R a1 a2 z1 z2 er ok => vC0 a1 a2 s1 s2 p z1 z2 er ok :=
  came_congr (came_at e (c_C0_4 h)) fun R a1 a2 z1 z2 er ok => ((bif_no (ne_lit (v := 4607182418800017408) e rfl)).trans ((bif_no (ne_lit (v := 4611686018427387904) e rfl)).trans ((bif_no (ne_lit (v := 4613937818241073152) e rfl)).trans (bif_yes e))))
theorem at_D1_1 {p : Nat} (h : Dt s1 s2 d1 d2 u v x y) (e : p = 4607182418800017408) : Came 3 p s1 s2 d1 d2 fun R a1 a2 z1 z2 er ok => vD1 a1 a2 s1 s2 p z1 z2 er ok :=
  came_congr (came_at e (c_D1_1 h)) fun R a1 a2 z1 z2 er ok => (bif_yes e)
theorem at_D1_2 {p : Nat} (h : Dt s1 s2 d1 d2 u v x y) (e : p = 4611686018427387904) : Came 3 p s1 s2 d1 d2 fun R a1 a2 z1 z2 er ok => vD1 a1 a2 s1 s2 p z1 z2 er ok :=
  came_congr (came_at e (c_D1_2 h)) fun R a1 a2 z1 z2 er ok => ((bif_no (ne_lit (v := 4607182418800017408) e rfl)).trans (bif_yes e))
theorem at_D1_3 {p : Nat} (h : Dt s1 s2 d1 d2 u v x y) (e : p = 4613937818241073152) : Came 3 p s1 s2 d1 d2 fun R a1 a2 z1 z2 er ok => vD1 a1 a2 s1 s2 p z1 z2 er ok :=
  came_congr (came_at e (c_D1_3 h)) fun R a1 a2 z1 z2 er ok => ((bif_no (ne_lit (v := 4607182418800017408) e rfl)).trans ((bif_no (ne_lit (v := 4611686018427387904) e rfl)).trans (bif_yes e)))
theorem at_D1_4 {p : Nat} (h : Dt s1 s2 d1 d2 u v x y) (e : p = 4616189618054758400) : Came 3 p s1 s2 d1 d2 fun R a1 a2 z1 z2 er ok => vD1 a1 a2 s1 s2 p z1 z2 er ok :=
  came_congr (came_at e (c_D1_4 h)) fun R a1 a2 z1 z2 er ok => ((bif_no (ne_lit (v := 4607182418800017408) e rfl)).trans ((bif_no (ne_lit (v := 4611686018427387904) e rfl)).trans ((bif_no (ne_lit (v := 4613937818241073152) e rfl)).trans (bif_yes e))))
theorem at_D1_5 {p : Nat} (h : Dt s1 s2 d1 d2 u v x y) (e : p = 4617315517961601024) : Came 3 p s1 s2 d1 d2 fun R a1 a2 z1 z2 er ok => vD1 a1 a2 s1 s2 p z1 z2 er ok :=
  came_congr (came_at e (c_D1_5 h)) fun R a1 a2 z1 z2 er ok => ((bif_no (ne_lit (v := 4607182418800017408) e rfl)).trans ((bif_no (ne_lit (v := 4611686018427387904) e rfl)).trans ((bif_no (ne_lit (v := 4613937818241073152) e rfl)).trans ((bif_no (ne_lit (v := 4616189618054758400) e rfl)).trans (bif_yes e)))))
theorem at_D1_6 {p : Nat} (h : Dt s1 s2 d1 d2 u v x y) (e : p = 4618441417868443648) : Came 3 p s1 s2 d1 d2 fun R a1 a2 z1 z2 er ok => vD1 a1 a2 s1 s2 p z1 z2 er ok :=
  came_congr (came_at e (c_D1_6 h)) fun R a1 a2 z1 z2 er ok => ((bif_no (ne_lit (v := 4607182418800017408) e rfl)).trans ((bif_no (ne_lit (v := 4611686018427387904) e rfl)).trans ((bif_no (ne_lit (v := 4613937818241073152) e rfl)).trans ((bif_no (ne_lit (v := 4616189618054758400) e rfl)).trans ((bif_no (ne_lit (v := 4617315517961601024) e rfl)).trans (bif_yes e))))))
theorem at_D1_7 {p : Nat} (h : Dt s1 s2 d1 d2 u v x y) (e : p = 4619567317775286272) : Came 3 p s1 s2 d1 d2 fun R a1 a2 z1 z2 er ok => vD1 a1 a2 s1 s2 p z1 z2 er ok :=
  came_congr (came_at e (c_D1_7 h)) fun R a1 a2 z1 z2 er ok => ((bif_no (ne_lit (v := 4607182418800017408) e rfl)).trans ((bif_no (ne_lit (v := 4611686018427387904) e rfl)).trans ((bif_no (ne_lit (v := 4613937818241073152) e rfl)).trans ((bif_no (ne_lit (v := 4616189618054758400) e rfl)).trans ((bif_no (ne_lit (v := 4617315517961601024) e rfl)).trans ((bif_no (ne_lit (v := 4618441417868443648) e rfl)).trans (bif_yes e)))))))
theorem at_D1_8 {p : Nat} (h : Dt s1 s2 d1 d2 u v x y) (e : p = 4620693217682128896) : Came 3 p s1 s2 d1 d2 fun R a1 a2 z1 z2 er ok => vD1 a1 a2 s1 s2 p z1 z2 er ok :=
  came_congr (came_at e (c_D1_8 h)) fun R a1 a2 z1 z2 er ok => ((bif_no (ne_lit (v := 4607182418800017408) e rfl)).trans ((bif_no (ne_lit (v := 4611686018427387904) e rfl)).trans ((bif_no (ne_lit (v := 4613937818241073152) e rfl)).trans ((bif_no (ne_lit (v := 4616189618054758400) e rfl)).trans ((bif_no (ne_lit (v := 4617315517961601024) e rfl)).trans ((bif_no (ne_lit (v := 4618441417868443648) e rfl)).trans ((bif_no (ne_lit (v := 4619567317775286272) e rfl)).trans (bif_yes e))))))))
theorem at_C1_1 {p : Nat} (h : Dt s1 s2 d1 d2 u v x y) (e : p = 4607182418800017408) : Came 4 p s1 s2 d1 d2 fun R a1 a2 z1 z2 er ok => vC1 a1 a2 s1 s2 p z1 z2 er ok :=
  came_congr (came_at e (c_C1_1 h)) fun R a1 a2 z1 z2 er ok => (bif_yes e)
theorem at_C1_2 {p : Nat} (h : Dt s1 s2 d1 d2 u v x y) (e : p = 4611686018427387904) : Came 4 p s1 s2 d1 d2 fun R a1 a2 z1 z2 er ok => vC1 a1 a2 s1 s2 p z1 z2 er ok :=
  came_congr (came_at e (c_C1_2 h)) fun R a1 a2 z1 z2 er ok => ((bif_no (ne_lit (v := 4607182418800017408) e rfl)).trans (bif_yes e))
theorem at_C1_3 {p : Nat} (h : Dt s1 s2 d1 d2 u v x y) (e : p = 4613937818241073152) : Came 4 p s1 s2 d1 d2 fun R a1 a2 z1 z2 er ok => vC1 a1 a2 s1 s2 p z1 z2 er ok :=
  came_congr (came_at e (c_C1_3 h)) fun R a1 a2 z1 z2 er ok => ((bif_no (ne_lit (v := 4607182418800017408) e rfl)).trans ((bif_no (ne_lit (v := 4611686018427387904) e rfl)).trans (bif_yes e)))
theorem at_C1_4 {p : Nat} (h : Dt s1 s2 d1 d2 u v x y) (e : p = 4616189618054758400) : Came 4 p s1 s2 d1 d2 fun R a1 a2 z1 z2 er ok => vC1 a1 a2 s1 s2 p z1 z2 er ok :=
  came_congr (came_at e (c_C1_4 h)) fun R a1 a2 z1 z2 er ok => ((bif_no (ne_lit (v := 4607182418800017408) e rfl)).trans ((bif_no (ne_lit (v := 4611686018427387904) e rfl)).trans ((bif_no (ne_lit (v := 4613937818241073152) e rfl)).trans (bif_yes e))))
theorem at_D2_1 {p : Nat} (h : Dt s1 s2 d1 d2 u v x y) (e : p = 4607182418800017408) : Came 3 p s1 s2 d1 d2 fun R a1 a2 z1 z2 er ok => vD2 a1 a2 s1 s2 p z1 z2 er ok :=
  came_congr (came_at e (c_D2_1 h)) fun R a1 a2 z1 z2 er ok => (bif_yes e)
theorem at_D2_2 {p : Nat} (h : Dt s1 s2 d1 d2 u v x y) (e : p = 4611686018427387904) : Came 3 p s1 s2 d1 d2 fun R a1 a2 z1 z2 er ok => vD2 a1 a2 s1 s2 p z1 z2 er ok :=
  came_congr (came_at e (c_D2_2 h)) fun R a1 a2 z1 z2 er ok => ((bif_no (ne_lit (v := 4607182418800017408) e rfl)).trans (bif_yes e))
theorem at_D2_3 {p : Nat} (h : Dt s1 s2 d1 d2 u v x y) (e : p = 4613937818241073152) : Came 3 p s1 s2 d1 d2 fun R a1 a2 z1 z2 er ok => vD2 a1 a2 s1 s2 p z1 z2 er ok :=
  came_congr (came_at e (c_D2_3 h)) fun R a1 a2 z1 z2 er ok => ((bif_no (ne_lit (v := 4607182418800017408) e rfl)).trans ((bif_no (ne_lit (v := 4611686018427387904) e rfl)).trans (bif_yes e)))
theorem at_D2_4 {p : Nat} (h : Dt s1 s2 d1 d2 u v x y) (e : p = 4616189618054758400) : Came 3 p s1 s2 d1 d2 fun R a1 a2 z1 z2 er ok => vD2 a1 a2 s1 s2 p z1 z2 er ok :=
  came_congr (came_at e (c_D2_4 h)) fun R a1 a2 z1 z2 er ok => ((bif_no (ne_lit (v := 4607182418800017408) e rfl)).trans ((bif_no (ne_lit (v := 4611686018427387904) e rfl)).trans ((bif_no (ne_lit (v := 4613937818241073152) e rfl)).trans (bif_yes e))))
theorem at_D2_5 {p : Nat} (h : Dt s1 s2 d1 d2 u v x y) (e : p = 4617315517961601024) : Came 3 p s1 s2 d1 d2 fun R a1 a2 z1 z2 er ok => vD2 a1 a2 s1 s2 p z1 z2 er ok :=
  came_congr (came_at e (c_D2_5 h)) fun R a1 a2 z1 z2 er ok => ((bif_no (ne_lit (v := 4607182418800017408) e rfl)).trans ((bif_no (ne_lit (v := 4611686018427387904) e rfl)).trans ((bif_no (ne_lit (v := 4613937818241073152) e rfl)).trans ((bif_no (ne_lit (v := 4616189618054758400) e rfl)).trans (bif_yes e)))))
theorem at_D2_6 {p : Nat} (h : Dt s1 s2 d1 d2 u v x y) (e : p = 4618441417868443648) : Came 3 p s1 s2 d1 d2 fun R a1 a2 z1 z2 er ok => vD2 a1 a2 s1 s2 p z1 z2 er ok :=
  came_congr (came_at e (c_D2_6 h)) fun R a1 a2 z1 z2 er ok => ((bif_no (ne_lit (v := 4607182418800017408) e rfl)).trans ((bif_no (ne_lit (v := 4611686018427387904) e rfl)).trans ((bif_no (ne_lit (v := 4613937818241073152) e rfl)).trans ((bif_no (ne_lit (v := 4616189618054758400) e rfl)).trans ((bif_no (ne_lit (v := 4617315517961601024) e rfl)).trans (bif_yes e))))))
theorem at_D2_7 {p : Nat} (h : Dt s1 s2 d1 d2 u v x y) (e : p = 4619567317775286272) : Came 3 p s1 s2 d1 d2 fun R a1 a2 z1 z2 er ok => vD2 a1 a2 s1 s2 p z1 z2 er ok :=
  came_congr (came_at e (c_D2_7 h)) fun R a1 a2 z1 z2 er ok => ((bif_no (ne_lit (v := 4607182418800017408) e rfl)).trans ((bif_no (ne_lit (v := 4611686018427387904) e rfl)).trans ((bif_no (ne_lit (v := 4613937818241073152) e rfl)).trans ((bif_no (ne_lit (v := 4616189618054758400) e rfl)).trans ((bif_no (ne_lit (v := 4617315517961601024) e rfl)).trans ((bif_no (ne_lit (v := 4618441417868443648) e rfl)).trans (bif_yes e)))))))
theorem at_D2_8 {p : Nat} (h : Dt s1 s2 d1 d2 u v x y) (e : p = 4620693217682128896) : Came 3 p s1 s2 d1 d2 fun R a1 a2 z1 z2 er ok => vD2 a1 a2 s1 s2 p z1 z2 er ok :=
  came_congr (came_at e (c_D2_8 h)) fun R a1 a2 z1 z2 er ok => ((bif_no (ne_lit (v := 4607182418800017408) e rfl)).trans ((bif_no (ne_lit (v := 4611686018427387904) e rfl)).trans ((bif_no (ne_lit (v := 4613937818241073152) e rfl)).trans ((bif_no (ne_lit (v := 4616189618054758400) e rfl)).trans ((bif_no (ne_lit (v := 4617315517961601024) e rfl)).trans ((bif_no (ne_lit (v := 4618441417868443648) e rfl)).trans ((bif_no (ne_lit (v := 4619567317775286272) e rfl)).trans (bif_yes e))))))))
theorem at_C2_1 {p : Nat} (h : Dt s1 s2 d1 d2 u v x y) (e : p = 4607182418800017408) : Came 4 p s1 s2 d1 d2 fun R a1 a2 z1 z2 er ok => vC2 a1 a2 s1 s2 p z1 z2 er ok :=
  came_congr (came_at e (c_C2_1 h)) fun R a1 a2 z1 z2 er ok => (bif_yes e)
theorem at_C2_2 {p : Nat} (h : Dt s1 s2 d1 d2 u v x y) (e : p = 4611686018427387904) : Came 4 p s1 s2 d1 d2 fun R a1 a2 z1 z2 er ok => vC2 a1 a2 s1 s2 p z1 z2 er ok :=
  came_congr (came_at e (c_C2_2 h)) fun R a1 a2 z1 z2 er ok => ((bif_no (ne_lit (v := 4607182418800017408) e rfl)).trans (bif_yes e))
theorem at_C2_3 {p : Nat} (h : Dt s1 s2 d1 d2 u v x y) (e : p = 4613937818241073152) : Came 4 p s1 s2 d1 d2 fun R a1 a2 z1 z2 er ok => vC2 a1 a2 s1 s2 p z1 z2 er ok :=
  came_congr (came_at e (c_C2_3 h)) fun R a1 a2 z1 z2 er ok => ((bif_no (ne_lit (v := 4607182418800017408) e rfl)).trans ((bif_no (ne_lit (v := 4611686018427387904) e rfl)).trans (bif_yes e)))
theorem at_C2_4 {p : Nat} (h : Dt s1 s2 d1 d2 u v x y) (e : p = 4616189618054758400) : Came 4 p s1 s2 d1 d2 fun R a1 a2 z1 z2 er ok => vC2 a1 a2 s1 s2 p z1 z2 er ok :=
  came_congr (came_at e (c_C2_4 h)) fun R a1 a2 z1 z2 er ok => ((bif_no (ne_lit (v := 4607182418800017408) e rfl)).trans ((bif_no (ne_lit (v := 4611686018427387904) e rfl)).trans ((bif_no (ne_lit (v := 4613937818241073152) e rfl)).trans (bif_yes e))))
theorem came_D0 {p : Nat} (h : Dt s1 s2 d1 d2 u v x y) (h8 : Eight p) : Came 3 p s1 s2 d1 d2 fun R a1 a2 z1 z2 er ok => vD0 a1 a2 s1 s2 p z1 z2 er ok := by
  rcases h8 with e | e | e | e | e | e | e | e
  · exact at_D0_1 h e
  · exact at_D0_2 h e
  · exact at_D0_3 h e
  · exact at_D0_4 h e
  · exact at_D0_5 h e
  · exact at_D0_6 h e
  · exact at_D0_7 h e
  · exact at_D0_8 h e
theorem came_D1 {p : Nat} (h : Dt s1 s2 d1 d2 u v x y) (h8 : Eight p) : Came 3 p s1 s2 d1 d2 fun R a1 a2 z1 z2 er ok => vD1 a1 a2 s1 s2 p z1 z2 er ok := by
  rcases h8 with e | e | e | e | e | e | e | e
  · exact at_D1_1 h e
  · exact at_D1_2 h e
  · exact at_D1_3 h e
  · exact at_D1_4 h e
  · exact at_D1_5 h e
  · exact at_D1_6 h e
  · exact at_D1_7 h e
  · exact at_D1_8 h e
theorem came_D2 {p : Nat} (h : Dt s1 s2 d1 d2 u v x y) (h8 : Eight p) : Came 3 p s1 s2 d1 d2 fun R a1 a2 z1 z2 er ok => vD2 a1 a2 s1 s2 p z1 z2 er ok := by
  rcases h8 with e | e | e | e | e | e | e | e
  · exact at_D2_1 h e
  · exact at_D2_2 h e
  · exact at_D2_3 h e
  · exact at_D2_4 h e
  · exact at_D2_5 h e
  · exact at_D2_6 h e
  · exact at_D2_7 h e
  · exact at_D2_8 h e
theorem came_C0 {p : Nat} {P : Rat} (h : Dt s1 s2 d1 d2 u v x y) (ip : Is p P) (p1 : 1 / 4 ≤ P) (p2 : P ≤ 4) : Came 4 p s1 s2 d1 d2 fun R a1 a2 z1 z2 er ok => vC0 a1 a2 s1 s2 p z1 z2 er ok := by
  cases hw : eqF (wholeW p) p with
  | true =>
    rcases four_of ip p1 p2 hw with e | e | e | e
    · exact at_C0_1 h e
    · exact at_C0_2 h e
    · exact at_C0_3 h e
    · exact at_C0_4 h e
  | false =>
    exact came_congr (c_B0 h ip p1 p2 hw) fun R a1 a2 z1 z2 er ok => bif4 (ne_of hw (w := 4607182418800017408) (by decide +kernel)) (ne_of hw (w := 4611686018427387904) (by decide +kernel)) (ne_of hw (w := 4613937818241073152) (by decide +kernel)) (ne_of hw (w := 4616189618054758400) (by decide +kernel))
theorem came_C1 {p : Nat} {P : Rat} (h : Dt s1 s2 d1 d2 u v x y) (ip : Is p P) (p1 : 1 / 4 ≤ P) (p2 : P ≤ 4) : Came 4 p s1 s2 d1 d2 fun R a1 a2 z1 z2 er ok => vC1 a1 a2 s1 s2 p z1 z2 er ok := by
  cases hw : eqF (wholeW p) p with
  | true =>
    rcases four_of ip p1 p2 hw with e | e | e | e
    · exact at_C1_1 h e
    · exact at_C1_2 h e
    · exact at_C1_3 h e
    · exact at_C1_4 h e
  | false =>
    exact came_congr (c_B1 h ip p1 p2 hw) fun R a1 a2 z1 z2 er ok => bif4 (ne_of hw (w := 4607182418800017408) (by decide +kernel)) (ne_of hw (w := 4611686018427387904) (by decide +kernel)) (ne_of hw (w := 4613937818241073152) (by decide +kernel)) (ne_of hw (w := 4616189618054758400) (by decide +kernel))
theorem came_C2 {p : Nat} {P : Rat} (h : Dt s1 s2 d1 d2 u v x y) (ip : Is p P) (p1 : 1 / 4 ≤ P) (p2 : P ≤ 4) : Came 4 p s1 s2 d1 d2 fun R a1 a2 z1 z2 er ok => vC2 a1 a2 s1 s2 p z1 z2 er ok := by
  cases hw : eqF (wholeW p) p with
  | true =>
    rcases four_of ip p1 p2 hw with e | e | e | e
    · exact at_C2_1 h e
    · exact at_C2_2 h e
    · exact at_C2_3 h e
    · exact at_C2_4 h e
  | false =>
    exact came_congr (c_B2 h ip p1 p2 hw) fun R a1 a2 z1 z2 er ok => bif4 (ne_of hw (w := 4607182418800017408) (by decide +kernel)) (ne_of hw (w := 4611686018427387904) (by decide +kernel)) (ne_of hw (w := 4613937818241073152) (by decide +kernel)) (ne_of hw (w := 4616189618054758400) (by decide +kernel))

/-! ### By the kind -/
theorem came_pot {kind : Int} {n : Bool} {p : Nat} (h : Dt s1 s2 d1 d2 u v x y) (hk : kind ≠ 1) (hp : p < 2 ^ 64) (hc : checkV kind n p = 0) : Came kind p s1 s2 d1 d2 fun R a1 a2 z1 z2 er ok => potK' kind a1 a2 s1 s2 p z1 z2 er ok := by
  obtain ⟨P, ip, ⟨rfl, _⟩ | rfl | ⟨rfl, h8⟩ | ⟨rfl, p1, p2⟩⟩ := checkV_zero hp hc
  · exact absurd rfl hk
  · exact c_O0 h
  · exact came_D0 h h8
  · exact came_C0 h ip p1 p2
theorem came_spd {kind : Int} {n : Bool} {p : Nat} (h : Dt s1 s2 d1 d2 u v x y) (hp : p < 2 ^ 64) (hc : checkV kind n p = 0) : Came kind p s1 s2 d1 d2 fun R a1 a2 z1 z2 er ok => spdK' kind a1 a2 s1 s2 p z1 z2 er ok := by
  obtain ⟨P, ip, ⟨rfl, _⟩ | rfl | ⟨rfl, h8⟩ | ⟨rfl, p1, p2⟩⟩ := checkV_zero hp hc
  · exact c_S1 h
  · exact c_O1 h
  · exact came_D1 h h8
  · exact came_C1 h ip p1 p2
theorem came_slp {kind : Int} {n : Bool} {p : Nat} (h : Dt s1 s2 d1 d2 u v x y) (hp : p < 2 ^ 64) (hc : checkV kind n p = 0) : Came kind p s1 s2 d1 d2 fun R a1 a2 z1 z2 er ok => slpK' kind a1 a2 s1 s2 p z1 z2 er ok := by
  obtain ⟨P, ip, ⟨rfl, _⟩ | rfl | ⟨rfl, h8⟩ | ⟨rfl, p1, p2⟩⟩ := checkV_zero hp hc
  · exact c_S2 h
  · exact c_O2 h
  · exact came_D2 h h8
  · exact came_C2 h ip p1 p2
/-- told as a value and an error -/
theorem Came.val {kind : Int} {p : Nat} {g : VF} (h : Came kind p s1 s2 d1 d2 g) : ∃ v1 v2 e, ∀ a1 a2 z1 z2, At kind p s1 s2 d1 d2 a1 a2 z1 z2 → ∀ (R : Type) (k : Nat → Nat → Int → Option R), g R a1 a2 z1 z2 (fun e => k 0 0 e) (fun x y => k x y 0) = k v1 v2 e := by
  rcases h with ⟨e, he⟩ | ⟨v1, v2, hv⟩
  · exact ⟨0, 0, e, fun a1 a2 z1 z2 ha R k => he a1 a2 z1 z2 ha R _ _⟩
  · exact ⟨v1, v2, 0, fun a1 a2 z1 z2 ha R k => hv a1 a2 z1 z2 ha R _ _⟩
end Go.Vm
