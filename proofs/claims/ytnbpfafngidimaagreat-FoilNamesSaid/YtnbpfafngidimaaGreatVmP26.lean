/- The word of a whole number from 1 on is the only one of its value; no conditions. A product of complex words is not much less than the product of their greatest parts; no conditions. Whole powers to the tenth, and quotients by them, come; no conditions. -/
import Derived.Test.YtnbpfafngidimaaGreatVmP24
import Derived.Test.YtnbpfafngidimaaGreatVmKV
namespace Go.Vm
open Ieee
set_option linter.unusedVariables false
set_option linter.unusedSimpArgs false

/-! ### Words of numbers that are not small are the only ones -/
theorem dv_sign {s : Bool} {m : Nat} {i : Int} (h : 0 < dv s m i) : s = false := by
  cases s with
  | false => rfl
  | true =>
    have h1 : dv true m i ≤ 0 := by
      unfold dv sg
      have := Rat.mul_nonneg (show (0 : Rat) ≤ (m : Rat) by exact_mod_cast Nat.zero_le m) (Rat.le_of_lt (p2_pos i))
      simp only [if_true]
      grind
    grind
theorem dv_sign' {s : Bool} {m : Nat} {i : Int} (h : dv s m i < 0) : s = true := by
  cases s with
  | true => rfl
  | false =>
    have h1 : 0 ≤ dv false m i := by
      unfold dv sg
      have := Rat.mul_nonneg (show (0 : Rat) ≤ (m : Rat) by exact_mod_cast Nat.zero_le m) (Rat.le_of_lt (p2_pos i))
      simp only [Bool.false_eq_true, if_false]
      grind
    grind

theorem is_unique {a b : Nat} {x : Rat} (ha : Is a x) (hb : Is b x) (hx : 1 ≤ x.abs) : a = b := by
  have hlow : (2 : Rat) ^ (-1022 : Int) ≤ x.abs := Rat.le_trans (Rat.le_trans (p2_le (show (-1022 : Int) ≤ 0 by decide)) (by rw [show (2 : Rat) ^ (0 : Int) = 1 by simp]; exact Rat.le_refl)) hx
  obtain ⟨s, E, f, rfl, e1, e2, e3, hv⟩ := normal_fields ha hlow
  obtain ⟨t, F, g, rfl, f1, f2, f3, hw⟩ := normal_fields hb hlow
  have hst : s = t := by
    rcases Rat.le_total (a := x) (b := 0) with h | h
    · have hn : x < 0 := by
        rw [Rat.abs_of_nonpos h] at hx
        grind
      rw [dv_sign' (s := s) (m := 2 ^ 52 + f) (i := (E : Int) - 1075) (by rw [← hv]; exact hn), dv_sign' (s := t) (m := 2 ^ 52 + g) (i := (F : Int) - 1075) (by rw [← hw]; exact hn)]
    · have hn : 0 < x := by
        rw [Rat.abs_of_nonneg h] at hx
        grind
      rw [dv_sign (s := s) (m := 2 ^ 52 + f) (i := (E : Int) - 1075) (by rw [← hv]; exact hn), dv_sign (s := t) (m := 2 ^ 52 + g) (i := (F : Int) - 1075) (by rw [← hw]; exact hn)]
  subst hst
  obtain ⟨d1, d2⟩ := dv_band (s := s) (E := E) e3
  obtain ⟨d3, d4⟩ := dv_band (s := s) (E := F) f3
  rw [← hv] at d1 d2
  rw [← hw] at d3 d4
  have h1 := p2_lt_of (show (2 : Rat) ^ ((E : Int) - 1023) < (2 : Rat) ^ ((F : Int) - 1022) by grind)
  have h2 := p2_lt_of (show (2 : Rat) ^ ((F : Int) - 1023) < (2 : Rat) ^ ((E : Int) - 1022) by grind)
  have hEF : E = F := by omega
  subst hEF
  have habs : ((2 ^ 52 + f : Nat) : Rat) * (2 : Rat) ^ ((E : Int) - 1075) = ((2 ^ 52 + g : Nat) : Rat) * (2 : Rat) ^ ((E : Int) - 1075) := by
    have := congrArg Rat.abs (hv.symm.trans hw)
    rwa [dv_abs, dv_abs] at this
  have hfg : ((2 ^ 52 + f : Nat) : Rat) = ((2 ^ 52 + g : Nat) : Rat) := by
    have hp := p2_pos ((E : Int) - 1075)
    exact Rat.le_antisymm (Rat.le_of_mul_le_mul_right (by rw [habs]; exact Rat.le_refl) hp) (Rat.le_of_mul_le_mul_right (by rw [habs]; exact Rat.le_refl) hp)
  have : 2 ^ 52 + f = 2 ^ 52 + g := by exact_mod_cast hfg
  have : f = g := by omega
  subst this
  rfl

/-! ### Sums that come to nought -/
theorem total_zero {s t : Bool} {m n : Nat} {i j : Int} (h : dv s m i + dv t n j = 0) :
    signed s m (i - min i j).toNat + signed t n (j - min i j).toNat = 0 := by
  have e1 := signed_val s m (i - min i j).toNat
  have e2 := signed_val t n (j - min i j).toNat
  have k1 : (((i - min i j).toNat : Nat) : Int) = i - min i j := Int.toNat_of_nonneg (by omega)
  have k2 : (((j - min i j).toNat : Nat) : Int) = j - min i j := Int.toNat_of_nonneg (by omega)
  rw [k1] at e1
  rw [k2] at e2
  have p1 : (2 : Rat) ^ i = (2 : Rat) ^ (i - min i j) * (2 : Rat) ^ (min i j) := by rw [← p2_add]; congr 1; omega
  have p2 : (2 : Rat) ^ j = (2 : Rat) ^ (j - min i j) * (2 : Rat) ^ (min i j) := by rw [← p2_add]; congr 1; omega
  have hs : ((signed s m (i - min i j).toNat + signed t n (j - min i j).toNat : Int) : Rat) * (2 : Rat) ^ (min i j) = 0 * (2 : Rat) ^ (min i j) := by
    rw [Rat.zero_mul, ← h]
    unfold dv
    rw [p1, p2]
    push_cast
    rw [e1, e2]
    grind
  have hp := p2_pos (min i j)
  have h0 : ((signed s m (i - min i j).toNat + signed t n (j - min i j).toNat : Int) : Rat) = 0 :=
    Rat.le_antisymm (Rat.le_of_mul_le_mul_right (by rw [hs]; exact Rat.le_refl) hp) (Rat.le_of_mul_le_mul_right (by rw [hs]; exact Rat.le_refl) hp)
  exact_mod_cast h0

theorem sum_nought {s t : Bool} {m n : Nat} {i j : Int} (h : dv s m i + dv t n j = 0) (hst : (s && t) = false) :
    ((Datum.number s m i).sum (Datum.number t n j)).map double.write = some 0 := by
  have h0 := total_zero h
  simp only [Datum.sum, h0, if_true, hst, Option.map_some]
  rfl

theorem sub_nought {a b : Nat} {x : Rat} (ha : Is a x) (hb : Is b x) (h0 : x = 0 → a = 0) : fbF .sub a b = some 0 := by
  obtain ⟨_, s, m, i, h1, h2⟩ := ha
  obtain ⟨_, t, n, j, h3, h4⟩ := hb
  rw [fbF_eq]
  show ((double.read a).sum (double.read b).opposite).map double.write = some 0
  rw [h1, h3]
  show ((Datum.number s m i).sum (Datum.number (!t) n j)).map double.write = some 0
  refine sum_nought ?_ ?_
  · have : dv (!t) n j = - dv t n j := by unfold dv; rw [sg_not]; grind
    rw [this, h2, h4]; grind
  · by_cases hx : x = 0
    · have := h0 hx
      subst this
      have : double.read 0 = .number false 0 (-1074) := by decide
      rw [this] at h1
      injection h1 with q1 q2 q3
      rw [← q1]; rfl
    · rcases Rat.le_total (a := x) (b := 0) with h | h
      · have hn : x < 0 := by grind
        rw [dv_sign' (s := t) (m := n) (i := j) (by rw [h4]; exact hn)]
        simp
      · have hn : 0 < x := by grind
        rw [dv_sign (s := s) (m := m) (i := i) (by rw [h2]; exact hn)]
        rfl

theorem add_nought {a b : Nat} {x y : Rat} (ha : Is a x) (hb : Is b y) (hxy : x + y = 0) (h0 : x = 0 → a = 0) : fbF .add a b = some 0 := by
  obtain ⟨_, s, m, i, h1, h2⟩ := ha
  obtain ⟨_, t, n, j, h3, h4⟩ := hb
  rw [fbF_eq]
  show ((double.read a).sum (double.read b)).map double.write = some 0
  rw [h1, h3]
  refine sum_nought (by rw [h2, h4]; exact hxy) ?_
  by_cases hx : x = 0
  · have := h0 hx
    subst this
    have : double.read 0 = .number false 0 (-1074) := by decide
    rw [this] at h1
    injection h1 with q1 q2 q3
    rw [← q1]; rfl
  · rcases Rat.le_total (a := x) (b := 0) with h | h
    · have hn : 0 < y := by grind
      rw [dv_sign (s := t) (m := n) (i := j) (by rw [h4]; exact hn)]
      simp
    · have hn : 0 < x := by grind
      rw [dv_sign (s := s) (m := m) (i := i) (by rw [h2]; exact hn)]
      rfl

/-- a whole number's word, nought without a sign -/
def Wd (w : Nat) (n : Int) : Prop := Is w n ∧ (n = 0 → w = 0)
theorem wd_eq {a b : Nat} {n : Int} (ha : Wd a n) (hb : Wd b n) : a = b := by
  by_cases h : n = 0
  · rw [ha.2 h, hb.2 h]
  · refine is_unique ha.1 hb.1 ?_
    have h1 : (1 : Int) ≤ n ∨ n ≤ -1 := by omega
    rcases h1 with h1 | h1
    · have : (1 : Rat) ≤ (n : Rat) := by exact_mod_cast h1
      have := (abs_le_self (n : Rat)).1
      grind
    · have : (n : Rat) ≤ ((-1 : Int) : Rat) := by exact_mod_cast h1
      rw [show ((-1 : Int) : Rat) = -1 by norm_cast] at this
      have := (abs_le_self (n : Rat)).2
      grind
theorem wd_ofInt {n : Int} (h : n.natAbs < 2 ^ 53) : Wd (floatOfInt .f64 n) n := ⟨ofInt_is h, fun h => by subst h; decide⟩
theorem wd_add {a b : Nat} {x y : Int} (ha : Wd a x) (hb : Wd b y) (h : (x + y).natAbs < 2 ^ 53) : ∃ r, fbF .add a b = some r ∧ Wd r (x + y) := by
  obtain ⟨r, h1, h2⟩ := add_int ha.1 hb.1 h
  refine ⟨r, h1, h2, fun h0 => ?_⟩
  have := add_nought ha.1 hb.1 (by rw [← Rat.intCast_add, h0]; rfl) (fun hx => ha.2 (by exact_mod_cast hx))
  rw [h1] at this
  exact Option.some.inj this
theorem wd_sub {a b : Nat} {x y : Int} (ha : Wd a x) (hb : Wd b y) (h : (x - y).natAbs < 2 ^ 53) : ∃ r, fbF .sub a b = some r ∧ Wd r (x - y) := by
  obtain ⟨r, h1, h2⟩ := sub_int ha.1 hb.1 h
  refine ⟨r, h1, h2, fun h0 => ?_⟩
  have hxy : x = y := by omega
  subst hxy
  have := sub_nought ha.1 hb.1 (fun hx => ha.2 (by exact_mod_cast hx))
  rw [h1] at this
  exact Option.some.inj this
end Go.Vm
namespace Go.Vm
open Ieee
set_option linter.unusedVariables false
set_option linter.unusedSimpArgs false

/-! ### Products of complex numbers, from below and above -/
/-- the greater part's magnitude -/
def Nm (A : Rat) (a b : Nat) : Prop := ∃ x y, Is a x ∧ Is b y ∧ x.abs ≤ A ∧ y.abs ≤ A ∧ (x.abs = A ∨ y.abs = A)

theorem Nm.nonneg {A : Rat} {a b : Nat} (h : Nm A a b) : 0 ≤ A := by
  obtain ⟨x, y, _, _, h1, _, _⟩ := h
  have := abs_nonneg x
  grind

theorem part_near {P p q X z1 z2 z t : Rat} (hp : p.abs ≤ P) (hq : q.abs ≤ P) (ht : t ≤ P * (1 / 1000)) (ht0 : 0 ≤ t)
    (c1 : (z1 - p).abs ≤ p.abs * (1 / 1000) + t) (c2 : (z2 - q).abs ≤ q.abs * (1 / 1000) + t) (c3 : (z - (z1 + z2)).abs ≤ (z1 + z2).abs * (1 / 1000) + t) (hX : X = p + q) : (z - X).abs ≤ P * (1 / 50) := by
  subst hX
  have h1 := abs_le_iff.1 c1
  have h2 := abs_le_iff.1 c2
  have h3 := abs_le_iff.1 c3
  have h4 := abs_le_iff.1 hp
  have h5 := abs_le_iff.1 hq
  have h6 : (z1 + z2).abs ≤ 3 * P := abs_le_iff.2 ⟨by grind, by grind⟩
  exact abs_le_iff.2 ⟨by grind, by grind⟩

theorem mulK_nm {a b c d : Nat} {A B : Rat} (ha : Nm A a b) (hb : Nm B c d) (h1 : (2 : Rat) ^ (-500 : Int) ≤ A * B) (h2 : A * B ≤ (2 : Rat) ^ (900 : Int)) :
    ∃ r i C, Nm C r i ∧ A * B * (1 / 2) ≤ C ∧ C ≤ A * B * 4 ∧ ∀ (R : Type) (k : Nat → Nat → Option R), mulK R a b c d k = k r i := by
  have hA := ha.nonneg
  have hB := hb.nonneg
  obtain ⟨x, y, ix, iy, bx, by', hxy⟩ := ha
  obtain ⟨u, v, iu, iv, bu, bv, huv⟩ := hb
  generalize hPP : A * B = P at *
  have hP0 : 0 < P := by have := p2_pos (-500); grind
  have pr : ∀ {s t : Rat}, s.abs ≤ A → t.abs ≤ B → (s * t).abs ≤ P := fun {s t} hs ht => by rw [abs_mul, ← hPP]; exact mul_mono' hs ht (abs_nonneg _) hA
  have l1 : ∀ {s : Rat}, s.abs ≤ 4 * P → s.abs < (2 : Rat) ^ (1023 : Int) := fun {s} hs => by
    refine lt_1023_of (e := 902) ?_ (by decide)
    have e1 := p2_succ 900
    have e2 := p2_succ 901
    rw [show (900 + 1 : Int) = 901 by decide] at e1
    rw [show (901 + 1 : Int) = 902 by decide] at e2
    rw [e2, e1]
    grind
  obtain ⟨r1, z1, g1, i1, q1⟩ := mul_is ix iu (l1 (by have := pr bx bu; grind))
  obtain ⟨r2, z2, g2, i2, q2⟩ := mul_is iy iv (l1 (by have := pr by' bv; grind))
  obtain ⟨r3, z3, g3, i3, q3⟩ := mul_is ix iv (l1 (by have := pr bx bv; grind))
  obtain ⟨r4, z4, g4, i4, q4⟩ := mul_is iy iu (l1 (by have := pr by' bu; grind))
  have ht0 := p2_pos (-1075)
  have ht : (2 : Rat) ^ (-1075 : Int) ≤ P * (1 / 1000) := by
    have e1 := p2_add (-500) (-575)
    rw [show (-500 + -575 : Int) = -1075 by decide] at e1
    rw [e1]
    exact mul_mono' h1 (p2_small (by decide)) (Rat.le_of_lt (p2_pos _)) (Rat.le_of_lt hP0)
  have c1 := q1.coarse
  have c2 := q2.coarse
  have c3 := q3.coarse
  have c4 := q4.coarse
  generalize htt : (2 : Rat) ^ (-1075 : Int) = t at *
  have n1 := pr bx bu
  have n2 := pr by' bv
  have n3 := pr bx bv
  have n4 := pr by' bu
  have m1 : z1.abs ≤ 2 * P := by have := abs_near c1; grind
  have m2 : z2.abs ≤ 2 * P := by have := abs_near c2; grind
  have m3 : z3.abs ≤ 2 * P := by have := abs_near c3; grind
  have m4 : z4.abs ≤ 2 * P := by have := abs_near c4; grind
  obtain ⟨re, X, g5, i5, q5⟩ := sub_is i1 i2 (l1 (by have := abs_add_le z1 (-z2); rw [abs_neg, show z1 + -z2 = z1 - z2 by grind] at this; grind))
  obtain ⟨im, Y, g6, i6, q6⟩ := add_is i3 i4 (l1 (by have := abs_add_le z3 z4; grind))
  have c5 := q5.coarse
  have c6 := q6.coarse
  rw [htt] at c5 c6
  have c2' : (-z2 - -(y * v)).abs ≤ (-(y * v)).abs * (1 / 1000) + t := by
    rw [show -z2 - -(y * v) = -(z2 - y * v) by grind, abs_neg, abs_neg]; exact c2
  have d1 : (X - (x * u - y * v)).abs ≤ P * (1 / 50) :=
    part_near (p := x * u) (q := -(y * v)) n1 (by rw [abs_neg]; exact n2) ht (Rat.le_of_lt ht0) c1 c2' (by rw [show z1 + -z2 = z1 - z2 by grind]; exact c5) (by grind)
  have d2 : (Y - (x * v + y * u)).abs ≤ P * (1 / 50) := part_near n3 n4 ht (Rat.le_of_lt ht0) c3 c4 c6 rfl
  have sqA : A * A ≤ x * x + y * y := by
    have s1 := sq_nonneg x
    have s2 := sq_nonneg y
    rcases hxy with h | h
    · have := sq_ge (x := x) (m := A) (by rw [h]; exact Rat.le_refl) hA; grind
    · have := sq_ge (x := y) (m := A) (by rw [h]; exact Rat.le_refl) hA; grind
  have sqB : B * B ≤ u * u + v * v := by
    have s1 := sq_nonneg u
    have s2 := sq_nonneg v
    rcases huv with h | h
    · have := sq_ge (x := u) (m := B) (by rw [h]; exact Rat.le_refl) hB; grind
    · have := sq_ge (x := v) (m := B) (by rw [h]; exact Rat.le_refl) hB; grind
  have hprod : P * P ≤ (x * u - y * v) * (x * u - y * v) + (x * v + y * u) * (x * v + y * u) := by
    have e1 : (x * u - y * v) * (x * u - y * v) + (x * v + y * u) * (x * v + y * u) = (x * x + y * y) * (u * u + v * v) := by grind
    have e2 : P * P = (A * A) * (B * B) := by rw [← hPP]; grind
    rw [e1, e2]
    exact mul_mono' sqA sqB (Rat.mul_nonneg hB hB) (Rat.le_trans (Rat.mul_nonneg hA hA) sqA)
  have low : 7 / 10 * P ≤ (x * u - y * v).abs ∨ 7 / 10 * P ≤ (x * v + y * u).abs := by
    rcases Rat.le_total (a := 7 / 10 * P) (b := (x * u - y * v).abs) with h | h
    · exact .inl h
    · rcases Rat.le_total (a := 7 / 10 * P) (b := (x * v + y * u).abs) with g | g
      · exact .inr g
      · exfalso
        have s1 := sq_le h
        have s2 := sq_le g
        have := Rat.mul_pos hP0 hP0
        grind
  have up1 : (x * u - y * v).abs ≤ 2 * P := by have := abs_add_le (x * u) (-(y * v)); rw [abs_neg, show x * u + -(y * v) = x * u - y * v by grind] at this; grind
  have up2 : (x * v + y * u).abs ≤ 2 * P := by have := abs_add_le (x * v) (y * u); grind
  have w1 := abs_near d1
  have w2 := abs_near d2
  have w3 := abs_near (x := x * u - y * v) (y := X) (by rw [abs_sub_comm]; exact d1)
  have w4 := abs_near (x := x * v + y * u) (y := Y) (by rw [abs_sub_comm]; exact d2)
  have eqn : ∀ (R : Type) (k : Nat → Nat → Option R), mulK R a b c d k = k re im := fun R k => by
    unfold mulK
    rw [bindF_eq g1, bindF_eq g2, bindF_eq g5, bindF_eq g3, bindF_eq g4, bindF_eq g6]
  rcases Rat.le_total (a := Y.abs) (b := X.abs) with h | h
  · exact ⟨re, im, X.abs, ⟨X, Y, i5, i6, Rat.le_refl, h, .inl rfl⟩, by rcases low with l | l <;> grind, by grind, eqn⟩
  · exact ⟨re, im, Y.abs, ⟨X, Y, i5, i6, h, Rat.le_refl, .inr rfl⟩, by rcases low with l | l <;> grind, by grind, eqn⟩
end Go.Vm
namespace Go.Vm
open Ieee
set_option linter.unusedVariables false
set_option linter.unusedSimpArgs false

/-! ### Whole powers always come, and are not nought -/
def Nb (p q : Nat) (a b : Nat) : Prop := ∃ A, Nm A a b ∧ (2 : Rat) ^ (-(p : Int)) ≤ A ∧ A ≤ (2 : Rat) ^ (q : Int)

theorem mulK_nb {a b c d p q p' q' : Nat} (ha : Nb p q a b) (hb : Nb p' q' c d) (h1 : p + p' ≤ 400) (h2 : q + q' ≤ 800) :
    ∃ r i, Nb (p + p' + 1) (q + q' + 2) r i ∧ ∀ (R : Type) (k : Nat → Nat → Option R), mulK R a b c d k = k r i := by
  obtain ⟨A, hA, a1, a2⟩ := ha
  obtain ⟨B, hB, b1, b2⟩ := hb
  have hA0 := hA.nonneg
  have hB0 := hB.nonneg
  have lo : (2 : Rat) ^ (-((p + p' : Nat) : Int)) ≤ A * B := by
    rw [show (-((p + p' : Nat) : Int)) = -(p : Int) + -(p' : Int) by push_cast; omega, p2_add]
    exact mul_mono' a1 b1 (Rat.le_of_lt (p2_pos _)) hA0
  have hi : A * B ≤ (2 : Rat) ^ ((q + q' : Nat) : Int) := by
    rw [show ((q + q' : Nat) : Int) = (q : Int) + (q' : Int) by push_cast; rfl, p2_add]
    exact mul_mono' a2 b2 hB0 (Rat.le_of_lt (p2_pos _))
  obtain ⟨r, i, C, hC, c1, c2, heq⟩ := mulK_nm hA hB (Rat.le_trans (p2_le (by omega)) lo) (Rat.le_trans hi (p2_le (by omega)))
  refine ⟨r, i, ⟨C, hC, ?_, ?_⟩, heq⟩
  · have e := p2_half (-((p + p' : Nat) : Int))
    rw [show (-((p + p' + 1 : Nat) : Int)) = -((p + p' : Nat) : Int) - 1 by push_cast; omega]
    grind
  · have e1 := p2_succ ((q + q' : Nat) : Int)
    have e2 := p2_succ (((q + q' : Nat) : Int) + 1)
    rw [show ((q + q' + 2 : Nat) : Int) = ((q + q' : Nat) : Int) + 1 + 1 by push_cast; omega, e2, e1]
    grind

theorem nb_int {a b : Nat} {x y : Int} (ha : Is a x) (hb : Is b y) (h : x ≠ 0 ∨ y ≠ 0) (hx : x.natAbs ≤ 2048) (hy : y.natAbs ≤ 2048) : Nb 0 11 a b := by
  have e11 : (2 : Rat) ^ ((11 : Nat) : Int) = ((2048 : Int) : Rat) := by rw [p2_nat]; rfl
  have e0 : (2 : Rat) ^ (-((0 : Nat) : Int)) = 1 := by rw [show (-((0 : Nat) : Int)) = ((0 : Nat) : Int) by decide, p2_nat]; rfl
  have bx := int_abs_le hx
  have by' := int_abs_le hy
  have one : ∀ {n : Int}, n ≠ 0 → 1 ≤ ((n : Rat)).abs := fun {n} hn => by
    have h1 : (1 : Int) ≤ n ∨ n ≤ -1 := by omega
    rcases h1 with h1 | h1
    · have : ((1 : Int) : Rat) ≤ (n : Rat) := by exact_mod_cast h1
      rw [show ((1 : Int) : Rat) = 1 by norm_cast] at this
      have := (abs_le_self (n : Rat)).1
      grind
    · have : (n : Rat) ≤ ((-1 : Int) : Rat) := by exact_mod_cast h1
      rw [show ((-1 : Int) : Rat) = -1 by norm_cast] at this
      have := (abs_le_self (n : Rat)).2
      grind
  have bx' : ((x : Rat)).abs ≤ ((2048 : Int) : Rat) := bx
  have by'' : ((y : Rat)).abs ≤ ((2048 : Int) : Rat) := by'
  rcases Rat.le_total (a := (y : Rat).abs) (b := (x : Rat).abs) with g | g
  · refine ⟨(x : Rat).abs, ⟨x, y, ha, hb, Rat.le_refl, g, .inl rfl⟩, ?_, by rw [e11]; exact bx'⟩
    rw [e0]
    rcases h with h | h
    · exact one h
    · exact Rat.le_trans (one h) g
  · refine ⟨(y : Rat).abs, ⟨x, y, ha, hb, g, Rat.le_refl, .inr rfl⟩, ?_, by rw [e11]; exact by''⟩
    rw [e0]
    rcases h with h | h
    · exact Rat.le_trans (one h) g
    · exact one h

theorem wsteps_tot {a b q : Nat} (ha : Nb 0 q a b) : ∀ (l : List Bool) {x y p' q' : Nat}, Nb p' q' x y → (p' + 2) * 2 ^ l.length ≤ 100 → (q' + q + 4) * 2 ^ l.length ≤ 280 →
    ∃ r i, Nb 100 280 r i ∧ ∀ (R : Type) (k : Nat → Nat → Option R), wsteps mulK a b l x y k = k r i
  | [], x, y, p', q', hx, h1, h2 => by
    simp only [List.length_nil, Nat.pow_zero, Nat.mul_one] at h1 h2
    obtain ⟨A, hA, a1, a2⟩ := hx
    exact ⟨x, y, ⟨A, hA, Rat.le_trans (p2_le (by omega)) a1, Rat.le_trans a2 (p2_le (by omega))⟩, fun R k => rfl⟩
  | t :: l, x, y, p', q', hx, h1, h2 => by
    have hl : 1 ≤ 2 ^ l.length := Nat.one_le_two_pow
    rw [List.length_cons, Nat.pow_succ] at h1 h2
    have h1' : (2 * p' + 4) * 2 ^ l.length ≤ 100 := by
      calc (2 * p' + 4) * 2 ^ l.length = (p' + 2) * (2 ^ l.length * 2) := by rw [show 2 * p' + 4 = (p' + 2) * 2 by omega, Nat.mul_assoc, Nat.mul_comm 2]
        _ ≤ 100 := h1
    have h2' : (2 * q' + 2 * q + 8) * 2 ^ l.length ≤ 280 := by
      calc (2 * q' + 2 * q + 8) * 2 ^ l.length = (q' + q + 4) * (2 ^ l.length * 2) := by rw [show 2 * q' + 2 * q + 8 = (q' + q + 4) * 2 by omega, Nat.mul_assoc, Nat.mul_comm 2]
        _ ≤ 280 := h2
    have s1 : 2 * p' + 4 ≤ 100 := Nat.le_trans (Nat.le_mul_of_pos_right _ hl) h1'
    have s2 : 2 * q' + 2 * q + 8 ≤ 280 := Nat.le_trans (Nat.le_mul_of_pos_right _ hl) h2'
    obtain ⟨r, i, n1, e1⟩ := mulK_nb hx hx (by omega) (by omega)
    cases t with
    | false =>
      obtain ⟨r', i', n2, e2⟩ := wsteps_tot ha l n1 (Nat.le_trans (Nat.mul_le_mul_right _ (by omega)) h1') (Nat.le_trans (Nat.mul_le_mul_right _ (by omega)) h2')
      exact ⟨r', i', n2, fun R k => by show mulK R x y x y _ = _; rw [e1]; exact e2 R k⟩
    | true =>
      obtain ⟨r2, i2, n2, e2⟩ := mulK_nb n1 ha (by omega) (by omega)
      obtain ⟨r', i', n3, e3⟩ := wsteps_tot ha l n2 (Nat.le_trans (Nat.mul_le_mul_right _ (by omega)) h1') (Nat.le_trans (Nat.mul_le_mul_right _ (by omega)) h2')
      exact ⟨r', i', n3, fun R k => by show mulK R x y x y _ = _; rw [e1]; show mulK R r i a b _ = _; rw [e2]; exact e3 R k⟩

theorem is_oneI : Is 4607182418800017408 ((1 : Int) : Rat) := by
  have := ofInt_is (n := 1) (by decide)
  rw [show floatOfInt .f64 1 = 4607182418800017408 by decide] at this
  exact this
theorem wpowK_tot {a b : Nat} (hd : Nb 0 11 a b) {n : Int} (h0 : 0 ≤ n) (h1 : n ≤ 10) : ∃ r i, Nb 100 280 r i ∧ ∀ (R : Type) (k : Nat → Nat → Option R), wpowK R a b n k = k r i := by
  have st : ∀ l : List Bool, l.length ≤ 3 → ∃ r i, Nb 100 280 r i ∧ ∀ (R : Type) (k : Nat → Nat → Option R), wsteps mulK a b l a b k = k r i := fun l hl => by
    have hp : 2 ^ l.length ≤ 2 ^ 3 := Nat.pow_le_pow_right (by decide) hl
    exact wsteps_tot hd l hd (by omega) (by omega)
  have hn : n = 0 ∨ n = 1 ∨ n = 2 ∨ n = 3 ∨ n = 4 ∨ n = 5 ∨ n = 6 ∨ n = 7 ∨ n = 8 ∨ n = 9 ∨ n = 10 := by omega
  rcases hn with rfl | rfl | rfl | rfl | rfl | rfl | rfl | rfl | rfl | rfl | rfl
  · obtain ⟨A, hA, a1, a2⟩ := nb_int is_oneI is_zero (.inl (by decide)) (by decide) (by decide)
    exact ⟨4607182418800017408, 0, ⟨A, hA, Rat.le_trans (p2_le (by decide)) a1, Rat.le_trans a2 (p2_le (by decide))⟩, fun R k => rfl⟩
  · obtain ⟨A, hA, a1, a2⟩ := hd
    exact ⟨a, b, ⟨A, hA, Rat.le_trans (p2_le (by decide)) a1, Rat.le_trans a2 (p2_le (by decide))⟩, fun R k => rfl⟩
  · exact st (wbits 2) (by decide)
  · exact st (wbits 3) (by decide)
  · exact st (wbits 4) (by decide)
  · exact st (wbits 5) (by decide)
  · exact st (wbits 6) (by decide)
  · exact st (wbits 7) (by decide)
  · exact st (wbits 8) (by decide)
  · exact st (wbits 9) (by decide)
  · exact st (wbits 10) (by decide)

/-- every quotient by what is not small comes -/
theorem divK_tot {a b c d p q : Nat} {x y : Rat} (ix : Is a x) (iy : Is b y) (hx : x.abs ≤ (2 : Rat) ^ (100 : Int)) (hy : y.abs ≤ (2 : Rat) ^ (100 : Int)) (hd : Nb 100 280 c d) :
    ∃ r i, (∃ X, Is r X) ∧ (∃ Y, Is i Y) ∧ ∀ (R : Type) (k : Nat → Nat → Option R), divK R a b c d k = k r i := by
  obtain ⟨W, ⟨r, s, ir, is_, hr, hs, hW⟩, w1, w2⟩ := hd
  have w1' : (2 : Rat) ^ (-100 : Int) ≤ W := w1
  have hW0 : 0 < W := by have := p2_pos (-100); grind
  have hN : W * W ≤ r * r + s * s := by
    have s1 := sq_nonneg r
    have s2 := sq_nonneg s
    rcases hW with h | h
    · have := sq_ge (x := r) (m := W) (by rw [h]; exact Rat.le_refl) (Rat.le_of_lt hW0); grind
    · have := sq_ge (x := s) (m := W) (by rw [h]; exact Rat.le_refl) (Rat.le_of_lt hW0); grind
  have hWW := Rat.mul_pos hW0 hW0
  have hN0 : r * r + s * s ≠ 0 := by grind
  generalize hNN : r * r + s * s = N at *
  have bound : ∀ {m : Rat}, m.abs ≤ 2 * (2 : Rat) ^ (100 : Int) * W → (m / N).abs ≤ (2 : Rat) ^ (250 : Int) := fun {m} hm => by
    have hq : (m / N) * N = m := by rw [Rat.div_def, Rat.mul_assoc, Rat.inv_mul_cancel _ hN0, Rat.mul_one]
    have hNa : N.abs = N := Rat.abs_of_nonneg (by grind)
    have h1 : (m / N).abs * N.abs = m.abs := by rw [← abs_mul, hq]
    rw [hNa] at h1
    have h2 : (m / N).abs * (W * W) ≤ 2 * (2 : Rat) ^ (100 : Int) * W := by
      have := Rat.mul_le_mul_of_nonneg_left hN (abs_nonneg (m / N))
      grind
    have h3 : (m / N).abs * W ≤ 2 * (2 : Rat) ^ (100 : Int) := Rat.le_of_mul_le_mul_right (c := W) (by grind) hW0
    have h4 : (m / N).abs * (2 : Rat) ^ (-100 : Int) ≤ 2 * (2 : Rat) ^ (100 : Int) := Rat.le_trans (Rat.mul_le_mul_of_nonneg_left w1' (abs_nonneg _)) h3
    refine Rat.le_of_mul_le_mul_right (c := (2 : Rat) ^ (-100 : Int)) (Rat.le_trans h4 ?_) (p2_pos _)
    rw [← p2_add, ← p2_succ]
    exact p2_le (by decide)
  have cr : ∀ {m n e f : Rat}, m.abs ≤ (2 : Rat) ^ (100 : Int) → n.abs ≤ (2 : Rat) ^ (100 : Int) → e.abs ≤ W → f.abs ≤ W → (m * e + n * f).abs ≤ 2 * (2 : Rat) ^ (100 : Int) * W := fun {m n e f} h1 h2 h3 h4 => by
    have g1 := mul_mono' h1 h3 (abs_nonneg e) (Rat.le_of_lt (p2_pos 100))
    have g2 := mul_mono' h2 h4 (abs_nonneg f) (Rat.le_of_lt (p2_pos 100))
    rw [← abs_mul] at g1 g2
    have := abs_add_le (m * e) (n * f)
    grind
  have hu := bound (cr hx hy hr hs)
  have hv := bound (cr hy (show (-x).abs ≤ _ by rw [abs_neg]; exact hx) hr hs)
  have k1 : ∀ m : Rat, m / N * N = m := fun m => by rw [Rat.div_def, Rat.mul_assoc, Rat.inv_mul_cancel _ hN0, Rat.mul_one]
  have hp : x = (x * r + y * s) / N * r - (y * r + -x * s) / N * s := by
    have e : ((x * r + y * s) / N * r - (y * r + -x * s) / N * s) * N = x * N := by
      have a1 := k1 (x * r + y * s)
      have a2 := k1 (y * r + -x * s)
      generalize (x * r + y * s) / N = g at *
      generalize (y * r + -x * s) / N = f at *
      have : (g * r - f * s) * N = (g * N) * r - (f * N) * s := by grind
      rw [this, a1, a2, ← hNN]
      grind
    have hN1 : 0 < N := by grind
    exact Rat.le_antisymm (Rat.le_of_mul_le_mul_right (by rw [e]; exact Rat.le_refl) hN1) (Rat.le_of_mul_le_mul_right (by rw [e]; exact Rat.le_refl) hN1)
  have hq : y = (x * r + y * s) / N * s + (y * r + -x * s) / N * r := by
    have e : ((x * r + y * s) / N * s + (y * r + -x * s) / N * r) * N = y * N := by
      have a1 := k1 (x * r + y * s)
      have a2 := k1 (y * r + -x * s)
      generalize (x * r + y * s) / N = g at *
      generalize (y * r + -x * s) / N = f at *
      have : (g * s + f * r) * N = (g * N) * s + (f * N) * r := by grind
      rw [this, a1, a2, ← hNN]
      grind
    have hN1 : 0 < N := by grind
    exact Rat.le_antisymm (Rat.le_of_mul_le_mul_right (by rw [e]; exact Rat.le_refl) hN1) (Rat.le_of_mul_le_mul_right (by rw [e]; exact Rat.le_refl) hN1)
  obtain ⟨o1, o2, U, V, j1, j2, _, _, heq⟩ := divK_near ix iy ir is_ hr hs (hW.imp Eq.symm Eq.symm) (Rat.le_trans (p2_le (by decide)) w1') (Rat.le_trans w2 (p2_le (by decide)))
    hu hv (p2_le (by decide)) (p2_le (by decide)) hp hq
  exact ⟨o1, o2, ⟨U, j1⟩, ⟨V, j2⟩, heq⟩
end Go.Vm
