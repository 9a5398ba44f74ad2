/- What is within a bound is a finite number; no conditions. A power that is its own whole part is a whole number, and its word is a given one from 1 to 8; no conditions. The check of an element, as a function of its kind, of whether its place is nought, and of its power; no conditions. The value of an element depends on the way from the element alone; no conditions. -/
import Derived.Test.YtnbpfafngidimaaGreatVmP43
namespace Go.Vm
open Ieee
set_option linter.unusedVariables false
set_option linter.unusedSimpArgs false

/-! ### What is within a bound is a number -/
theorem read_not {w : Nat} (h : finW w = false) : double.read (absW w) = .infinity false ∨ ∃ t, double.read (absW w) = .nan false t := by
  have e1 : double.signWeight = 9223372036854775808 := by decide
  have e2 : double.binade = 4503599627370496 := by decide
  have e3 : double.infRung = 9218868437227405312 := by decide
  unfold finW at h
  rw [nl] at h
  have hE : ¬ expoW w < 2047 := by simpa using h
  have hEe : expoW w = w / 4503599627370496 % 2048 := rfl
  rw [absW_eq]
  have hm : w % 2 ^ 63 = w % 9223372036854775808 := rfl
  rw [hm]
  have hge : 9218868437227405312 ≤ w % 9223372036854775808 := by omega
  have h64 : w % 9223372036854775808 < 9223372036854775808 := Nat.mod_lt _ (by decide)
  generalize w % 9223372036854775808 = r at *
  unfold Format.read
  simp only [e1, e2, e3]
  have hr : r % 9223372036854775808 = r := Nat.mod_eq_of_lt h64
  have hs : (r / 9223372036854775808 % 2 == 1) = false := by rw [Nat.div_eq_of_lt h64]; rfl
  rw [hr, hs, if_neg (by omega), if_neg (by omega)]
  by_cases he : r = 9218868437227405312
  · rw [if_pos he]; exact .inl rfl
  · rw [if_neg he]; exact .inr ⟨_, rfl⟩

theorem within_is {p : Nat} (hp : p < 2 ^ 64) (h : leF (absW p) 4787326403894837248 = true) : ∃ P, Is p P ∧ P.abs ≤ ((2 ^ 40 : Int) : Rat) := by
  cases hf : finW p with
  | true =>
    have hi : Is p (dv (sgnW p) (mantW p) ((plcW p : Int) - 1074)) := ⟨hp, _, _, _, read_fast hf, rfl⟩
    refine ⟨_, hi, ?_⟩
    rw [leF_is (abs_is hi) is_p40] at h
    simpa using h
  | false =>
    exfalso
    unfold leF at h
    rw [ordW_eq] at h
    unfold Format.order at h
    rw [show double.read 4787326403894837248 = .number false 4503599627370496 (-12) by decide] at h
    rcases read_not hf with g | ⟨t, g⟩ <;> (rw [g] at h; cases h)
end Go.Vm
namespace Go.Vm
open Ieee
set_option linter.unusedVariables false
set_option linter.unusedSimpArgs false

/-! ### Whole -/
def wholeW (p : Nat) : Nat := double.write ((double.read p).integral .zero)
theorem wholeK_eq {p : Nat} {P : Rat} (h : Is p P) {R : Type} (k : Bool → Option R) : wholeK R p k = k (eqF (wholeW p) p) := by
  obtain ⟨hw, s, m, i, h1, rfl⟩ := h
  unfold wholeK wholeB roundK wholeW
  rw [h1]
  simp only
  rw [forceN_eq, forceB_eq]
theorem cutz_le (s : Bool) (n d : Nat) : Toward.zero.cut s n d ≤ Toward.even.cut s n d := by
  unfold Toward.cut
  simp only [Bool.toNat_false, Nat.add_zero]
  exact Nat.le_add_right _ _
theorem wholeW_is {p : Nat} {P : Rat} (h : Is p P) (hP : P.abs ≤ ((2 ^ 40 : Nat) : Rat)) : ∃ N : Int, Is (wholeW p) N := by
  obtain ⟨hw, s, m, i, h1, rfl⟩ := h
  have hc := Nat.le_trans (cutz_le s (m <<< i.toNat) (-i).toNat) (cut_bound hP)
  generalize hcc : Toward.zero.cut s (m <<< i.toNat) (-i).toNat = c at hc
  have hdv : dv s c 0 = (((if s then -(c : Int) else (c : Int)) : Int) : Rat) := by
    unfold dv sg
    rw [show (2 : Rat) ^ (0 : Int) = 1 by simp]
    have e : ((c : Nat) : Rat) = (((c : Int)) : Rat) := by norm_cast
    cases s
    · simp only [Bool.false_eq_true, if_false]
      rw [e]; grind
    · simp only [if_true]
      push_cast
      grind
  have hN : (if s then -(c : Int) else (c : Int)).natAbs ≤ 2 ^ 40 + 1 := by split <;> omega
  obtain ⟨z, z1, z2⟩ := number_is (s := s) (m := c) (i := 0) (by rw [hdv]; exact int_abs_lt (by omega))
  have hz : z = (((if s then -(c : Int) else (c : Int)) : Int) : Rat) := by
    rw [hdv] at z2
    exact rnd_int (by omega) z2
  rw [hz] at z1
  refine ⟨if s then -(c : Int) else (c : Int), ?_⟩
  unfold wholeW
  rw [h1]
  simp only [Datum.integral, hcc]
  exact z1
theorem whole_yes {p : Nat} {P : Rat} (h : Is p P) (hP : P.abs ≤ ((2 ^ 40 : Nat) : Rat)) (hw : eqF (wholeW p) p = true) : ∃ N : Int, P = N := by
  obtain ⟨N, hN⟩ := wholeW_is h hP
  rw [eqF_is hN h] at hw
  exact ⟨N, (of_decide_eq_true hw).symm⟩

/-! ### The words of 1 to 8 -/
theorem lit_is {w : Nat} {n : Int} (h : floatOfInt .f64 n = w) (hn : n.natAbs < 2 ^ 53) : Is w n := by rw [← h]; exact ofInt_is hn
theorem word_of {p w : Nat} {n : Int} (h : Is p n) (hl : Is w n) (h1 : 1 ≤ n) : p = w :=
  is_unique h hl (by
    rw [Rat.abs_of_nonneg (by have : (0 : Int) ≤ n := by omega
                              exact_mod_cast this)]
    exact_mod_cast h1)
theorem l1 : Is 4607182418800017408 ((1 : Int) : Rat) := lit_is (by decide) (by decide)
theorem l2 : Is 4611686018427387904 ((2 : Int) : Rat) := lit_is (by decide) (by decide)
theorem l3 : Is 4613937818241073152 ((3 : Int) : Rat) := lit_is (by decide) (by decide)
theorem l4 : Is 4616189618054758400 ((4 : Int) : Rat) := lit_is (by decide) (by decide)
theorem l5 : Is 4617315517961601024 ((5 : Int) : Rat) := lit_is (by decide) (by decide)
theorem l6 : Is 4618441417868443648 ((6 : Int) : Rat) := lit_is (by decide) (by decide)
theorem l7 : Is 4619567317775286272 ((7 : Int) : Rat) := lit_is (by decide) (by decide)
theorem l8 : Is 4620693217682128896 ((8 : Int) : Rat) := lit_is (by decide) (by decide)
def Eight (p : Nat) : Prop := p = 4607182418800017408 ∨ p = 4611686018427387904 ∨ p = 4613937818241073152 ∨ p = 4616189618054758400 ∨ p = 4617315517961601024 ∨ p = 4618441417868443648 ∨ p = 4619567317775286272 ∨ p = 4620693217682128896
theorem eight_of {p : Nat} {N : Int} (h : Is p N) (h1 : 1 ≤ N) (h2 : N ≤ 8) : Eight p := by
  have hn : N = 1 ∨ N = 2 ∨ N = 3 ∨ N = 4 ∨ N = 5 ∨ N = 6 ∨ N = 7 ∨ N = 8 := by omega
  unfold Eight
  rcases hn with rfl | rfl | rfl | rfl | rfl | rfl | rfl | rfl
  · exact .inl (word_of h l1 (by decide))
  · exact .inr (.inl (word_of h l2 (by decide)))
  · exact .inr (.inr (.inl (word_of h l3 (by decide))))
  · exact .inr (.inr (.inr (.inl (word_of h l4 (by decide)))))
  · exact .inr (.inr (.inr (.inr (.inl (word_of h l5 (by decide))))))
  · exact .inr (.inr (.inr (.inr (.inr (.inl (word_of h l6 (by decide)))))))
  · exact .inr (.inr (.inr (.inr (.inr (.inr (.inl (word_of h l7 (by decide))))))))
  · exact .inr (.inr (.inr (.inr (.inr (.inr (.inr (word_of h l8 (by decide))))))))
theorem quarter_is : Is 4598175219545276416 (1 / 4 : Rat) := by
  refine ⟨by decide, false, 4503599627370496, -54, by decide, ?_⟩
  unfold dv sg
  rw [if_neg (by decide), Rat.one_mul, show ((4503599627370496 : Nat) : Rat) = (2 : Rat) ^ ((52 : Nat) : Int) by rw [p2_nat], ← p2_add, show ((52 : Nat) : Int) + -54 = -2 by decide]
  have h := p2_add (-2) 2
  rw [show (-2 : Int) + 2 = 0 by decide, Rat.zpow_zero, show (2 : Rat) ^ (2 : Int) = 4 by rw [show (2 : Int) = ((2 : Nat) : Int) by rfl, p2_nat]; rfl] at h
  grind
end Go.Vm
namespace Go.Vm
open Ieee
set_option linter.unusedVariables false
set_option linter.unusedSimpArgs false

/-! ### The check, as a function of the kind, of whether the place is nought, and of the power -/
def checkV (kind : Int) (n : Bool) (p : Nat) : Int :=
  match decide (kind < 1) with
  | true => 150
  | false => match decide (kind > 4) with
    | true => 150
    | false => match leF (absW p) 4787326403894837248 with
      | false => 5
      | true => match kind == 1 with
        | true => (match n with | true => (match eqF p 0 with | true => 0 | false => 150) | false => 150)
        | false => match kind == 2 with
          | true => (match eqF p 0 with | true => 0 | false => 150)
          | false => match kind == 3 with
            | true => (match eqF (wholeW p) p with
              | true => (match geF p 4607182418800017408 with
                | true => (match leF p 4620693217682128896 with | true => 0 | false => 150)
                | false => 150)
              | false => 150)
            | false => (match geF p 4598175219545276416 with
                | true => (match leF p 4616189618054758400 with | true => 0 | false => 150)
                | false => 150)
theorem withinK_eq {p : Nat} {R : Type} (k : Bool → Option R) : withinK R p 4787326403894837248 k = k (leF (absW p) 4787326403894837248) := by
  unfold withinK withinB absK
  show forceB (leF (absW p) 4787326403894837248) (fun t => k t) = _
  rw [forceB_eq]
theorem check_eq {kind : Int} {a1 a2 s1 s2 p : Nat} {xa ya xs ys : Int} (ha : IsC a1 a2 xa ya) (hs : IsC s1 s2 xs ys) (h1 : xa.natAbs ≤ 2 ^ 40) (h2 : ya.natAbs ≤ 2 ^ 40) (h3 : xs.natAbs ≤ 2 ^ 40) (h4 : ys.natAbs ≤ 2 ^ 40)
    (hp : p < 2 ^ 64) {R : Type} (k : Int → Option R) : checkB placeK withinK noughtK wholeK R kind a1 a2 s1 s2 p k = k (checkV kind (decide (xa = 0 ∧ ya = 0)) p) := by
  unfold checkB checkV
  rw [forceB_eq]
  cases g0 : decide (kind < 1) with
  | true => rfl
  | false =>
    simp only
    rw [forceB_eq]
    cases g4 : decide (kind > 4) with
    | true => rfl
    | false =>
      simp only
      rw [placeK_int ha h1 h2, forceB_eq]
      simp only
      rw [placeK_int hs h3 h4, forceB_eq]
      simp only
      rw [withinK_eq, forceB_eq]
      cases hl : leF (absW p) 4787326403894837248 with
      | false => rfl
      | true =>
        obtain ⟨P, ip, bp⟩ := within_is hp hl
        simp only
        rw [forceB_eq]
        cases g1 : kind == 1 with
        | true =>
          simp only
          rw [noughtK_int ha, forceB_eq]
          cases decide (xa = 0 ∧ ya = 0) with
          | false => rfl
          | true =>
            simp only
            rw [forceB_eq]
            cases eqF p 0 <;> rfl
        | false =>
          simp only
          rw [forceB_eq]
          cases g2 : kind == 2 with
          | true =>
            simp only
            rw [forceB_eq]
            cases eqF p 0 <;> rfl
          | false =>
            simp only
            rw [forceB_eq]
            cases g3 : kind == 3 with
            | true =>
              simp only
              rw [wholeK_eq ip, forceB_eq]
              cases eqF (wholeW p) p with
              | false => rfl
              | true =>
                simp only
                rw [forceB_eq]
                cases geF p 4607182418800017408 with
                | false => rfl
                | true =>
                  simp only
                  rw [forceB_eq]
                  cases leF p 4620693217682128896 <;> rfl
            | false =>
              simp only
              rw [forceB_eq]
              cases g5 : kind == 4 with
              | true =>
                simp only
                rw [forceB_eq]
                cases geF p 4598175219545276416 with
                | false => rfl
                | true =>
                  simp only
                  rw [forceB_eq]
                  cases leF p 4616189618054758400 <;> rfl
              | false =>
                exfalso
                have c0 := of_decide_eq_false g0
                have c4 := of_decide_eq_false g4
                have c1 : ¬ kind = 1 := by simpa using g1
                have c2 : ¬ kind = 2 := by simpa using g2
                have c3 : ¬ kind = 3 := by simpa using g3
                have c5 : ¬ kind = 4 := by simpa using g5
                omega
theorem checkV_move {kind : Int} {n n' : Bool} {p : Nat} (h : kind ≠ 1) : checkV kind n p = checkV kind n' p := by
  unfold checkV
  rw [show (kind == 1) = false by simpa using h]
theorem checkV_zero {kind : Int} {n : Bool} {p : Nat} (hp : p < 2 ^ 64) (h : checkV kind n p = 0) : ∃ P, Is p P ∧ (kind = 1 ∧ n = true ∨ kind = 2 ∨ kind = 3 ∧ Eight p ∨ kind = 4 ∧ 1 / 4 ≤ P ∧ P ≤ 4) := by
  unfold checkV at h
  cases g0 : decide (kind < 1) with
  | true => rw [g0] at h; cases h
  | false =>
    rw [g0] at h
    simp only at h
    cases g4 : decide (kind > 4) with
    | true => rw [g4] at h; cases h
    | false =>
      rw [g4] at h
      simp only at h
      cases hl : leF (absW p) 4787326403894837248 with
      | false => rw [hl] at h; cases h
      | true =>
        rw [hl] at h
        simp only at h
        obtain ⟨P, ip, bp⟩ := within_is hp hl
        refine ⟨P, ip, ?_⟩
        cases g1 : kind == 1 with
        | true =>
          rw [g1] at h
          simp only at h
          cases n with
          | true => exact .inl ⟨by simpa using g1, rfl⟩
          | false => cases h
        | false =>
          rw [g1] at h
          simp only at h
          cases g2 : kind == 2 with
          | true => exact .inr (.inl (by simpa using g2))
          | false =>
            rw [g2] at h
            simp only at h
            cases g3 : kind == 3 with
            | true =>
              rw [g3] at h
              simp only at h
              refine .inr (.inr (.inl ⟨by simpa using g3, ?_⟩))
              cases q1 : eqF (wholeW p) p with
              | false => rw [q1] at h; cases h
              | true =>
                rw [q1] at h
                simp only at h
                obtain ⟨N, rfl⟩ := whole_yes ip bp q1
                cases q2 : geF p 4607182418800017408 with
                | false => rw [q2] at h; cases h
                | true =>
                  rw [q2] at h
                  simp only at h
                  cases q3 : leF p 4620693217682128896 with
                  | false => rw [q3] at h; cases h
                  | true =>
                    rw [geF_is ip l1] at q2
                    rw [leF_is ip l8] at q3
                    have r2 : ((1 : Int) : Rat) ≤ (N : Rat) := of_decide_eq_true q2
                    have r3 : (N : Rat) ≤ ((8 : Int) : Rat) := of_decide_eq_true q3
                    exact eight_of ip (by exact_mod_cast r2) (by exact_mod_cast r3)
            | false =>
              rw [g3] at h
              simp only at h
              have c0 := of_decide_eq_false g0
              have c4 := of_decide_eq_false g4
              have c1 : ¬ kind = 1 := by simpa using g1
              have c2 : ¬ kind = 2 := by simpa using g2
              have c3 : ¬ kind = 3 := by simpa using g3
              refine .inr (.inr (.inr ⟨by omega, ?_⟩))
              cases q2 : geF p 4598175219545276416 with
              | false => rw [q2] at h; cases h
              | true =>
                rw [q2] at h
                simp only at h
                cases q3 : leF p 4616189618054758400 with
                | false => rw [q3] at h; cases h
                | true =>
                  rw [geF_is ip quarter_is] at q2
                  rw [leF_is ip l4] at q3
                  have r3 : P ≤ ((4 : Int) : Rat) := of_decide_eq_true q3
                  exact ⟨of_decide_eq_true q2, by rw [show (4 : Rat) = ((4 : Int) : Rat) by norm_cast]; exact r3⟩
end Go.Vm
namespace Go.Vm
open Ieee
set_option linter.unusedVariables false
set_option linter.unusedSimpArgs false

/-! ### A value at a place -/
structure At (kind : Int) (p s1 s2 d1 d2 a1 a2 z1 z2 : Nat) : Prop where
  chk : ∀ (R : Type) (k : Int → Option R), checkB placeK withinK noughtK wholeK R kind a1 a2 s1 s2 p k = k 0
  plc : ∀ (R : Type) (k : Bool → Option R), placeK R z1 z2 k = k true
  sub : ∀ (R : Type) (k : Nat → Nat → Option R), subK R z1 z2 a1 a2 k = k d1 d2

theorem valP_at {kind : Int} {p s1 s2 d1 d2 a1 a2 z1 z2 : Nat} (h : At kind p s1 s2 d1 d2 a1 a2 z1 z2) {x y : Int} (hd : IsC d1 d2 x y) {R : Type} (pre : Option R → Option R) (er : Int → Option R) (at0 leaf : Nat → Nat → Option R) :
    valP (checkB placeK withinK noughtK wholeK) placeK noughtK subK kind p pre a1 a2 s1 s2 z1 z2 er at0 leaf = pre (match decide (x = 0 ∧ y = 0) with | true => at0 d1 d2 | false => leaf d1 d2) := by
  unfold valP
  rw [h.chk]
  show placeK R z1 z2 _ = _
  rw [h.plc, forceB_eq]
  simp only
  rw [h.sub, noughtK_int hd, forceB_eq]
  rfl
theorem valO_at {p s1 s2 d1 d2 a1 a2 z1 z2 c1 c2 : Nat} (h : At 2 p s1 s2 d1 d2 a1 a2 z1 z2) {x y : Int} (hd : IsC d1 d2 x y) (hc : ∀ (R : Type) (k : Nat → Nat → Option R), sclK R s1 s2 4594902181429758083 k = k c1 c2) {R : Type} (er : Int → Option R) (leaf : Nat → Nat → Nat → Nat → Option R) :
    valO (checkB placeK withinK noughtK wholeK) placeK noughtK subK sclK a1 a2 s1 s2 p z1 z2 er leaf = match decide (x = 0 ∧ y = 0) with | true => er 6 | false => leaf c1 c2 d1 d2 := by
  unfold valO
  rw [h.chk]
  show placeK R z1 z2 _ = _
  rw [h.plc, forceB_eq]
  simp only
  rw [hc, h.sub, noughtK_int hd, forceB_eq]
  rfl

/-- the strength and the way from the element: whole numbers -/
structure Dt (s1 s2 d1 d2 : Nat) (u v x y : Int) : Prop where
  s1 : Is s1 u
  s2 : Is s2 v
  u : u.natAbs ≤ 1000
  v : v.natAbs ≤ 1000
  d1 : Wd d1 x
  d2 : Wd d2 y
  x : x.natAbs ≤ 2000
  y : y.natAbs ≤ 2000
theorem mag_int {w : Nat} {n : Int} (h : Is w n) (hn : n.natAbs ≤ 2048) : Mag 11 w := by
  refine ⟨_, h, Rat.le_trans (int_abs_le hn) ?_⟩
  rw [show (11 : Int) = ((11 : Nat) : Int) by rfl, p2_nat]
  have e : (((2048 : Nat) : Int) : Rat) = ((2 ^ 11 : Nat) : Rat) := rfl
  rw [e]
  exact Rat.le_refl
variable {s1 s2 d1 d2 : Nat} {u v x y : Int}
theorem Dt.m1 (h : Dt s1 s2 d1 d2 u v x y) : Mag 11 s1 := mag_int h.s1 (Nat.le_trans h.u (by decide))
theorem Dt.m2 (h : Dt s1 s2 d1 d2 u v x y) : Mag 11 s2 := mag_int h.s2 (Nat.le_trans h.v (by decide))
theorem Dt.dc (h : Dt s1 s2 d1 d2 u v x y) : IsC d1 d2 x y := ⟨h.d1.1, h.d2.1⟩
theorem Dt.bx (h : Dt s1 s2 d1 d2 u v x y) : x.natAbs ≤ 2048 := Nat.le_trans h.x (by decide)
theorem Dt.by' (h : Dt s1 s2 d1 d2 u v x y) : y.natAbs ≤ 2048 := Nat.le_trans h.y (by decide)
theorem some_not {x y : Int} (hn : ¬ (x = 0 ∧ y = 0)) : x ≠ 0 ∨ y ≠ 0 := by omega
theorem Dt.nb (h : Dt s1 s2 d1 d2 u v x y) (hn : ¬ (x = 0 ∧ y = 0)) : Nb 0 11 d1 d2 := nb_int h.d1.1 h.d2.1 (some_not hn) h.bx h.by'
theorem Dt.nought (h : Dt s1 s2 d1 d2 u v x y) (hn : x = 0 ∧ y = 0) : d1 = 0 ∧ d2 = 0 := ⟨h.d1.2 hn.1, h.d2.2 hn.2⟩

/-! ### A value comes, the same for all places that lie alike -/
abbrev VF := ∀ R : Type, Nat → Nat → Nat → Nat → (Int → Option R) → (Nat → Nat → Option R) → Option R
abbrev LF := ∀ R : Type, (Int → Option R) → (Nat → Nat → Option R) → Option R
def Goes (g : LF) : Prop := (∃ e, ∀ (R : Type) (er : Int → Option R) (ok : Nat → Nat → Option R), g R er ok = er e) ∨ ∃ v1 v2, ∀ (R : Type) (er : Int → Option R) (ok : Nat → Nat → Option R), g R er ok = ok v1 v2
def Came (kind : Int) (p s1 s2 d1 d2 : Nat) (g : VF) : Prop :=
  (∃ e, ∀ a1 a2 z1 z2, At kind p s1 s2 d1 d2 a1 a2 z1 z2 → ∀ (R : Type) (er : Int → Option R) (ok : Nat → Nat → Option R), g R a1 a2 z1 z2 er ok = er e) ∨
  ∃ v1 v2, ∀ a1 a2 z1 z2, At kind p s1 s2 d1 d2 a1 a2 z1 z2 → ∀ (R : Type) (er : Int → Option R) (ok : Nat → Nat → Option R), g R a1 a2 z1 z2 er ok = ok v1 v2
theorem came_of {kind : Int} {p s1 s2 d1 d2 : Nat} {g : VF} {l : LF} (hl : Goes l) (h : ∀ a1 a2 z1 z2, At kind p s1 s2 d1 d2 a1 a2 z1 z2 → ∀ (R : Type) (er : Int → Option R) (ok : Nat → Nat → Option R), g R a1 a2 z1 z2 er ok = l R er ok) : Came kind p s1 s2 d1 d2 g := by
  rcases hl with ⟨e, he⟩ | ⟨v1, v2, hv⟩
  · exact .inl ⟨e, fun a1 a2 z1 z2 ha R er ok => (h a1 a2 z1 z2 ha R er ok).trans (he R er ok)⟩
  · exact .inr ⟨v1, v2, fun a1 a2 z1 z2 ha R er ok => (h a1 a2 z1 z2 ha R er ok).trans (hv R er ok)⟩
theorem came_P {kind : Int} {p : Nat} (h : Dt s1 s2 d1 d2 u v x y) (pre : ∀ R : Type, Option R → Option R) (hpre : ∀ (R : Type) (X : Option R), pre R X = X)
    (at0 leaf : ∀ R : Type, (Int → Option R) → (Nat → Nat → Option R) → Nat → Nat → Option R)
    (h0 : (x = 0 ∧ y = 0) → Goes fun R er ok => at0 R er ok d1 d2) (h1 : ¬ (x = 0 ∧ y = 0) → Goes fun R er ok => leaf R er ok d1 d2) :
    Came kind p s1 s2 d1 d2 fun R a1 a2 z1 z2 er ok => valP (checkB placeK withinK noughtK wholeK) placeK noughtK subK kind p (pre R) a1 a2 s1 s2 z1 z2 er (at0 R er ok) (leaf R er ok) := by
  by_cases hn : x = 0 ∧ y = 0
  · refine came_of (h0 hn) fun a1 a2 z1 z2 ha R er ok => ?_
    rw [valP_at ha h.dc, hpre, decide_eq_true hn]
  · refine came_of (h1 hn) fun a1 a2 z1 z2 ha R er ok => ?_
    rw [valP_at ha h.dc, hpre, decide_eq_false hn]
theorem came_O {p : Nat} (h : Dt s1 s2 d1 d2 u v x y) (leaf : ∀ R : Type, (Int → Option R) → (Nat → Nat → Option R) → Nat → Nat → Nat → Nat → Option R)
    (h1 : ∀ c1 c2, Mag 12 c1 → Mag 12 c2 → ¬ (x = 0 ∧ y = 0) → Goes fun R er ok => leaf R er ok c1 c2 d1 d2) :
    Came 2 p s1 s2 d1 d2 fun R a1 a2 z1 z2 er ok => valO (checkB placeK withinK noughtK wholeK) placeK noughtK subK sclK a1 a2 s1 s2 p z1 z2 er (leaf R er ok) := by
  obtain ⟨c1, c2, m1, m2, hc⟩ := sclK_mag h.m1 h.m2 (c := 4594902181429758083) (f := 0) (mag_lit (by decide)) (by decide) (by decide)
  by_cases hn : x = 0 ∧ y = 0
  · refine came_of (l := fun R er ok => er 6) (.inl ⟨6, fun _ _ _ => rfl⟩) fun a1 a2 z1 z2 ha R er ok => ?_
    rw [valO_at ha h.dc hc, decide_eq_true hn]
  · refine came_of (h1 c1 c2 (m1.mono (by decide)) (m2.mono (by decide)) hn) fun a1 a2 z1 z2 ha R er ok => ?_
    rw [valO_at ha h.dc hc, decide_eq_false hn]
end Go.Vm
