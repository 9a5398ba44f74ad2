/- A word rounded to a whole number lies near, and quarters of a small turn leave a small rest; no conditions. Sine and cosine of a small word are not both near to nought; no conditions. Each of the places of a foil's border comes; no conditions. -/
import Derived.Test.YtnbpfafngidimaaGreatVmP36
import Derived.Test.YtnbpfafngidimaaGreatVmP17
namespace Go.Vm
open Ieee
set_option linter.unusedVariables false
set_option linter.unusedSimpArgs false

/-! ### Rounded to whole numbers: how near; quarters of small angles -/
theorem abs_in {x b : Rat} (h : -b ≤ x) (g : x ≤ b) : x.abs ≤ b := abs_le_iff.2 ⟨h, g⟩
theorem cut_near (s : Bool) (m : Nat) (i : Int) : (dv s (Toward.even.cut s (m <<< i.toNat) (-i).toNat) 0 - dv s m i).abs ≤ 1 / 2 := by
  have hs := cut_spec s (m <<< i.toNat) (-i).toNat
  obtain ⟨s1, s2, _, _⟩ := hs
  generalize Toward.even.cut s (m <<< i.toNat) (-i).toNat = c at *
  have e1 : ((m <<< i.toNat : Nat) : Rat) = (m : Rat) * (2 : Rat) ^ i * ((2 ^ (-i).toNat : Nat) : Rat) := by
    rw [← p2_nat, Nat.shiftLeft_eq, Rat.mul_assoc, ← p2_add]
    push_cast
    rw [show i + ((-i).toNat : Int) = ((i.toNat : Nat) : Int) by omega, p2_nat]
    push_cast
    rfl
  have hP : (0 : Rat) < ((2 ^ (-i).toNat : Nat) : Rat) := by rw [← p2_nat]; exact p2_pos _
  generalize m <<< i.toNat = n at *
  generalize (2 ^ (-i).toNat : Nat) = P at *
  have g1 : (2 : Rat) * ((c : Rat) * (P : Rat)) ≤ 2 * (n : Rat) + (P : Rat) := by exact_mod_cast s1
  have g2 : (2 : Rat) * (n : Rat) ≤ 2 * ((c : Rat) * (P : Rat)) + (P : Rat) := by exact_mod_cast s2
  have dc : dv s c 0 = sg s * (c : Rat) := by unfold dv; rw [show (2 : Rat) ^ (0 : Int) = 1 by simp, Rat.mul_one]
  have dm : dv s m i = sg s * ((m : Rat) * (2 : Rat) ^ i) := rfl
  rw [dc, dm]
  generalize (m : Rat) * (2 : Rat) ^ i = M at *
  rw [e1] at g1 g2
  have k1 : (c : Rat) ≤ M + 1 / 2 := Rat.le_of_mul_le_mul_right (c := (P : Rat)) (by grind) hP
  have k2 : M ≤ (c : Rat) + 1 / 2 := Rat.le_of_mul_le_mul_right (c := (P : Rat)) (by grind) hP
  have k3 : ((c : Rat) - M).abs ≤ 1 / 2 := abs_in (by grind) (by grind)
  cases s
  · unfold sg; rw [if_neg (by decide), Rat.one_mul, Rat.one_mul]; exact k3
  · unfold sg; rw [if_pos rfl, show (-1 : Rat) * (c : Rat) - -1 * M = -((c : Rat) - M) by grind, abs_neg]; exact k3
theorem roundK_near {w : Nat} {x : Rat} {B : Nat} (h : Is w x) (hx : x.abs ≤ ((B : Nat) : Rat)) (hB : B ≤ 2 ^ 50) :
    ∃ (r : Nat) (N : Int), Is r N ∧ N.natAbs ≤ B + 1 ∧ ((N : Rat) - x).abs ≤ 1 / 2 ∧ ∀ (R : Type) (k : Nat → Option R), roundK .even R w k = k r := by
  obtain ⟨hw, s, m, i, h1, rfl⟩ := h
  have hc := cut_bound hx
  have hn := cut_near s m i
  generalize hcc : Toward.even.cut s (m <<< i.toNat) (-i).toNat = c at hc hn
  have hdv : dv s c 0 = (((if s then -(c : Int) else (c : Int)) : Int) : Rat) := by
    unfold dv sg
    rw [show (2 : Rat) ^ (0 : Int) = 1 by simp]
    have e : ((c : Nat) : Rat) = (((c : Int)) : Rat) := by norm_cast
    cases s
    · simp only [Bool.false_eq_true, if_false]
      rw [e]; grind
    · simp only [if_true]
      push_cast
      grind
  have hN : (if s then -(c : Int) else (c : Int)).natAbs ≤ B + 1 := by split <;> omega
  obtain ⟨z, z1, z2⟩ := number_is (s := s) (m := c) (i := 0) (by rw [hdv]; exact int_abs_lt (by omega))
  have hz : z = (((if s then -(c : Int) else (c : Int)) : Int) : Rat) := by
    rw [hdv] at z2
    exact rnd_int (by omega) z2
  rw [hz] at z1
  rw [hdv] at hn
  refine ⟨_, _, z1, hN, hn, fun R k => ?_⟩
  unfold roundK
  rw [h1]
  simp only [Datum.integral, hcc]
  rw [forceN_eq]

theorem lit_is {w m n : Nat} {x : Rat} (hw : w < 2 ^ 64) (h : double.read w = .number false m (-(n : Int))) (hx : (m : Rat) = x * ((2 ^ n : Nat) : Rat)) : Is w x := by
  refine ⟨hw, false, m, _, h, ?_⟩
  unfold dv sg
  rw [if_neg (by decide), Rat.one_mul, hx, ← p2_nat, Rat.mul_assoc, p2_cancel, Rat.mul_one]
theorem is_c1 : Is 4603909380684499075 (5734161139222659 / 9007199254740992) := lit_is (m := 5734161139222659) (n := 53) (by decide) (by decide) (by rw [show (2 ^ 53 : Nat) = 9007199254740992 by decide]; norm_cast; grind)
theorem is_p1 : Is 4609753056924401664 (1686629713 / 1073741824) := lit_is (m := 7074237751754752) (n := 52) (by decide) (by decide) (by rw [show (2 ^ 52 : Nat) = 4503599627370496 by decide]; norm_cast; grind)

set_option maxHeartbeats 1000000 in
theorem quarterK_small {w : Nat} {x : Rat} (h : Is w x) (hx : x.abs ≤ 30) : ∃ y n, Bv 1 y ∧ ∀ (R : Type) (k : Nat → Int → Option R), quarterK R w k = k y n := by
  have he := eps_tiny
  have he0 := eps_pos
  have x1 := abs_le_self x
  have hxc : (x * (5734161139222659 / 9007199254740992)).abs ≤ 20 := abs_in (by grind) (by grind)
  obtain ⟨y, v, e1, iv, rv⟩ := mul_is h is_c1 (big_lt' hxc (by grind))
  have dv1 := rv.le hxc (low_le (by grind))
  have dv2 := abs_le_self (v - x * (5734161139222659 / 9007199254740992))
  have v1 : v.abs ≤ ((21 : Nat) : Rat) := by
    have := abs_near dv1
    show v.abs ≤ 21
    grind
  obtain ⟨m, N, im, bN, nN, hm⟩ := roundK_near (B := 21) iv v1 (by decide)
  have nN2 := abs_le_self ((N : Rat) - v)
  have aN : (N : Rat).abs ≤ 22 := by have := int_abs_le (N := 22) (n := N) (by omega); simpa using this
  have aN2 := abs_le_self (N : Rat)
  have fl : floatToIntVal .f64 m .i64 = some N := toInt_is im (by omega)
  have hA : ((N : Rat) * (1686629713 / 1073741824)).abs ≤ 40 := abs_in (by grind) (by grind)
  obtain ⟨a1, A, f1, iA, rA⟩ := mul_is im is_p1 (big_lt' hA (by grind))
  have dA := rA.le hA (low_le (by grind))
  have dA2 := abs_le_self (A - (N : Rat) * (1686629713 / 1073741824))
  have hX : (x - A).abs ≤ 9 / 10 := abs_in (by grind) (by grind)
  obtain ⟨x2, X, f2, iX, rX⟩ := sub_is h iA (big_lt' hX (by grind))
  have bX : Bv (92 / 100) x2 := ⟨X, iX, bd_rnd rX hX (by grind)⟩
  have bm : Bv 22 m := ⟨N, im, aN⟩
  have t20 : (2 : Rat) ^ (-20 : Int) ≤ 1 / 1000000 := by
    have h7 := p2_cancel 20
    have h8 : (2 : Rat) ^ (20 : Int) = 1048576 := by rw [show (20 : Int) = ((20 : Nat) : Int) by rfl, p2_nat]; rfl
    rw [h8] at h7
    grind
  obtain ⟨a2, f3, g3⟩ := bd_mul (b := 4454258360616747008) bm (bd_lit (e := -20) (by decide) t20) (C := 2 / 1000) (by grind) (by grind)
  obtain ⟨x3, f4, g4⟩ := bd_sub bX g3 (C := 95 / 100) (by grind) (by grind)
  obtain ⟨a3, f5, g5⟩ := bd_mul (b := 4297306550709518336) bm (bd_lit (e := -20) (by decide) t20) (C := 2 / 1000) (by grind) (by grind)
  obtain ⟨x4, f6, g6⟩ := bd_sub g4 g5 (C := 1) (by grind) (by grind)
  have start : ∀ (R : Type) (k : Nat → Int → Option R), quarterK R w k = forceB (eqF m 0) fun t => match t with
      | true => k w 0
      | false => k x4 (andI N 3) := fun R k => by
    unfold quarterK quarterB
    rw [fitK_yes h (by grind), forceB_eq]
    simp only
    rw [bindF_eq e1, hm, forceB_eq, forceB_eq]
    cases eqF m 0 with
    | true => rfl
    | false =>
      simp only
      unfold lessK
      rw [bindF_eq f1, bindF_eq f2, bindF_eq f3, bindF_eq f4, bindF_eq f5, bindF_eq f6, fl]
      show fiReal R N _ = _
      rw [fiReal_fair]
  cases hz : eqF m 0 with
  | true =>
    have hN : (N : Rat) = 0 := by
      rw [eqF_is im is0] at hz
      simpa using hz
    have : x.abs ≤ 1 := abs_in (by grind) (by grind)
    exact ⟨w, 0, ⟨x, h, this⟩, fun R k => by rw [start, hz, forceB_eq]⟩
  | false => exact ⟨x4, andI N 3, g6, fun R k => by rw [start, hz, forceB_eq]⟩
end Go.Vm
namespace Go.Vm
open Ieee
set_option linter.unusedVariables false
set_option linter.unusedSimpArgs false

/-! ### The cosine of a small float is far from nought; so a turn is far from nought -/
def BigD (a : Nat) : Prop := ∃ y, Is a y ∧ 12 ≤ y.abs
theorem big_d {n : Int} {a : Nat} (h : floatOfInt .f64 n = a) (h1 : 12 ≤ n) (h2 : n ≤ 1000) : BigD a := by
  have := ofInt_is (n := n) (by omega)
  rw [h] at this
  refine ⟨_, this, ?_⟩
  have h3 : ((12 : Int) : Rat) ≤ (n : Rat) := by exact_mod_cast h1
  rw [show ((12 : Int) : Rat) = 12 by norm_cast] at h3
  have := (abs_le_self (n : Rat)).1
  grind
theorem is_one1 : Is 4607182418800017408 1 := by
  have := ofInt_is (n := 1) (by decide)
  rw [show floatOfInt .f64 1 = 4607182418800017408 by decide] at this
  simpa using this
theorem bv_one : Bv 1 4607182418800017408 := ⟨1, is_one1, abs_in (by grind) (by grind)⟩
theorem stepsR_small {z : Nat} (hz : Bv (101 / 100) z) : ∀ (l : List (Nat × Nat)) (s c : Nat), (∀ p ∈ l, BigD p.1 ∧ BigD p.2) → Bv (6 / 5) s → Bv (6 / 5) c →
    ∃ s' c', Bv (6 / 5) s' ∧ Bv (6 / 5) c' ∧ ∀ (R : Type) (l' : List (Nat × Nat)) (k : Nat → Nat → Option R), stepsR z (l ++ l') s c k = stepsR z l' s' c' k
  | [], s, c, _, hs, hc => ⟨s, c, hs, hc, fun R l' k => rfl⟩
  | p :: l, s, c, hl, hs, hc => by
    obtain ⟨⟨y1, i1, b1⟩, ⟨y2, i2, b2⟩⟩ := hl p (by simp)
    obtain ⟨x1, g1, g2⟩ := bd_quo hz i1 b1 (by grind) (Q := 85 / 1000) (by grind) (by grind) (C := 90 / 1000) (by grind) (by grind)
    obtain ⟨x2, g3, g4⟩ := bd_mul g2 hs (C := 12 / 100) (by grind) (by grind)
    obtain ⟨s', g5, g6⟩ := bd_sub bv_one g4 (C := 6 / 5) (by grind) (by grind)
    obtain ⟨x3, f1, f2⟩ := bd_quo hz i2 b2 (by grind) (Q := 85 / 1000) (by grind) (by grind) (C := 90 / 1000) (by grind) (by grind)
    obtain ⟨x4, f3, f4⟩ := bd_mul f2 hc (C := 12 / 100) (by grind) (by grind)
    obtain ⟨c', f5, f6⟩ := bd_sub bv_one f4 (C := 6 / 5) (by grind) (by grind)
    obtain ⟨s2, c2, h1, h2, h3⟩ := stepsR_small hz l s' c' (fun q hq => hl q (by simp [hq])) g6 f6
    refine ⟨s2, c2, h1, h2, fun R l' k => ?_⟩
    show bindF (fbF .quo z p.1) (fun x => bindF (fbF .mul x s) fun x => bindF (fbF .sub 4607182418800017408 x) fun s =>
      bindF (fbF .quo z p.2) fun x => bindF (fbF .mul x c) fun x => bindF (fbF .sub 4607182418800017408 x) fun c => stepsR z (l ++ l') s c k) = stepsR z l' s2 c2 k
    rw [bindF_eq g1, bindF_eq g3, bindF_eq g5, bindF_eq f1, bindF_eq f3, bindF_eq f5, h3]
def stepsM : List (Nat × Nat) := [(4644724143818801152, 4644090825121202176), (4643492690795692032, 4642648265865560064), (4641592734702895104, 4640607572284407808), (4639692778610098176, 4638848353679966208), (4637440978796412928, 4636033603912859648), (4634766966517661696, 4633078116657397760), (4631107791820423168, 4629137466983448576), (4626322717216342016, 4622945017495814144)]
theorem steps_far : ∀ p ∈ stepsM, BigD p.1 ∧ BigD p.2 := by
  intro p hp
  simp only [stepsM, List.mem_cons, List.not_mem_nil, or_false] at hp
  rcases hp with rfl | rfl | rfl | rfl | rfl | rfl | rfl | rfl
  · exact ⟨big_d (n := 342) (by decide) (by decide) (by decide), big_d (n := 306) (by decide) (by decide) (by decide)⟩
  · exact ⟨big_d (n := 272) (by decide) (by decide) (by decide), big_d (n := 240) (by decide) (by decide) (by decide)⟩
  · exact ⟨big_d (n := 210) (by decide) (by decide) (by decide), big_d (n := 182) (by decide) (by decide) (by decide)⟩
  · exact ⟨big_d (n := 156) (by decide) (by decide) (by decide), big_d (n := 132) (by decide) (by decide) (by decide)⟩
  · exact ⟨big_d (n := 110) (by decide) (by decide) (by decide), big_d (n := 90) (by decide) (by decide) (by decide)⟩
  · exact ⟨big_d (n := 72) (by decide) (by decide) (by decide), big_d (n := 56) (by decide) (by decide) (by decide)⟩
  · exact ⟨big_d (n := 42) (by decide) (by decide) (by decide), big_d (n := 30) (by decide) (by decide) (by decide)⟩
  · exact ⟨big_d (n := 20) (by decide) (by decide) (by decide), big_d (n := 12) (by decide) (by decide) (by decide)⟩
theorem steps_last : stepsL = stepsM ++ [(4618441417868443648, 4611686018427387904)] := rfl
theorem six_is : ∃ y, Is 4618441417868443648 y ∧ 6 ≤ y.abs := by
  have h := ofInt_is (n := 6) (by decide)
  rw [show floatOfInt .f64 6 = 4618441417868443648 by decide] at h
  have e : ((6 : Int) : Rat) = 6 := by norm_cast
  rw [e] at h
  exact ⟨6, h, by have := (abs_le_self (6 : Rat)).1; grind⟩
theorem two_is : ∃ y, Is 4611686018427387904 y ∧ 2 ≤ y.abs := by
  have h := ofInt_is (n := 2) (by decide)
  rw [show floatOfInt .f64 2 = 4611686018427387904 by decide] at h
  have e : ((2 : Int) : Rat) = 2 := by norm_cast
  rw [e] at h
  exact ⟨2, h, by have := (abs_le_self (2 : Rat)).1; grind⟩
theorem stepsK_cos {y : Nat} (hy : Bv 1 y) : ∃ s c, Bv 2 s ∧ (∃ v, Is c v ∧ 3 / 8 ≤ v.abs ∧ v.abs ≤ 2) ∧ ∀ (R : Type) (k : Nat → Nat → Option R), stepsK R y k = k s c := by
  obtain ⟨z, z1, z2⟩ := bd_mul hy hy (C := 101 / 100) (by grind) (by grind)
  have one : Bv (6 / 5) 4607182418800017408 := bv_one.mono (by grind)
  obtain ⟨s, c, h1, h2, h3⟩ := stepsR_small z2 stepsM _ _ steps_far one one
  obtain ⟨y6, i6, b6⟩ := six_is
  obtain ⟨y2, i2, b2⟩ := two_is
  obtain ⟨x1, g1, g2⟩ := bd_quo z2 i6 b6 (by grind) (Q := 17 / 100) (by grind) (by grind) (C := 18 / 100) (by grind) (by grind)
  obtain ⟨x2, g3, g4⟩ := bd_mul g2 h1 (C := 25 / 100) (by grind) (by grind)
  obtain ⟨s', g5, g6⟩ := bd_sub bv_one g4 (C := 13 / 10) (by grind) (by grind)
  obtain ⟨x3, f1, f2⟩ := bd_quo z2 i2 b2 (by grind) (Q := 505 / 1000) (by grind) (by grind) (C := 507 / 1000) (by grind) (by grind)
  obtain ⟨x4, f3, f4⟩ := bd_mul f2 h2 (C := 611 / 1000) (by grind) (by grind)
  obtain ⟨t, it, bt⟩ := f4
  have t2 := abs_le_iff.1 bt
  have ht : (1 - t).abs ≤ 17 / 10 := abs_le_iff.2 ⟨by grind, by grind⟩
  obtain ⟨c', v, f5, iv, rv⟩ := sub_is is_one1 it (lt_p2_1023 (by grind))
  have hc := rv.coarse
  have e1075 : (2 : Rat) ^ (-1075 : Int) ≤ 1 / 1000 := p2_small (by decide)
  have hc2 := abs_le_self (v - (1 - t))
  have v1 := abs_le_self v
  obtain ⟨q, q1, q2⟩ := bd_mul hy g6 (C := 2) (by grind) (by grind)
  generalize (2 : Rat) ^ (-1075 : Int) = u at *
  refine ⟨q, c', q2, ⟨v, iv, by grind, abs_le_iff.2 ⟨by grind, by grind⟩⟩, fun R k => ?_⟩
  unfold stepsK
  rw [bindF_eq z1, steps_last, h3]
  show bindF (fbF .quo z 4618441417868443648) (fun x => bindF (fbF .mul x s) fun x => bindF (fbF .sub 4607182418800017408 x) fun s =>
      bindF (fbF .quo z 4611686018427387904) fun x => bindF (fbF .mul x c) fun x => bindF (fbF .sub 4607182418800017408 x) fun c => bindF (fbF .mul y s) fun s => k s c) = k q c'
  rw [bindF_eq g1, bindF_eq g3, bindF_eq g5, bindF_eq f1, bindF_eq f3, bindF_eq f5, bindF_eq q1]

/-- not both near nought -/
def Far (a b : Nat) : Prop := ∃ x y, Is a x ∧ Is b y ∧ x.abs ≤ 2 ∧ y.abs ≤ 2 ∧ (3 / 8 ≤ x.abs ∨ 3 / 8 ≤ y.abs)
theorem turnK_far {w : Nat} {x : Rat} (h : Is w x) (hx : x.abs ≤ 30) : ∃ s c, Far s c ∧ ∀ (R : Type) (k : Nat → Nat → Option R), turnK R w k = k s c := by
  obtain ⟨y, n, my, hq⟩ := quarterK_small h hx
  obtain ⟨s, c, ⟨a, ia, ba⟩, ⟨v, iv, lv, bv⟩, hs⟩ := stepsK_cos my
  have start : ∀ (R : Type) (k : Nat → Nat → Option R), turnK R w k = forceB (n == 3) fun t => match t with
      | true => k (Op.negFloat .f64 c) (Op.negFloat .f64 (Op.negFloat .f64 s))
      | false => forceB (n == 1) fun t => match t with
        | true => k c (Op.negFloat .f64 s)
        | false => forceB (n == 2) fun t => match t with
          | true => k (Op.negFloat .f64 s) (Op.negFloat .f64 c)
          | false => k s c := fun R k => by
    unfold turnK turnB
    rw [hq, hs]
    simp only [forceN_eq]
    rfl
  have na := neg_is ia
  have nv := neg_is iv
  cases h3 : (n == 3) with
  | true => exact ⟨_, _, ⟨_, _, nv, neg_is na, by rw [abs_neg]; exact bv, by rw [abs_neg, abs_neg]; exact ba, .inl (by rw [abs_neg]; exact lv)⟩, fun R k => by rw [start, h3, forceB_eq]⟩
  | false =>
    cases h1 : (n == 1) with
    | true => exact ⟨_, _, ⟨_, _, iv, na, bv, by rw [abs_neg]; exact ba, .inl lv⟩, fun R k => by rw [start, h3, forceB_eq]; simp only; rw [h1, forceB_eq]⟩
    | false =>
      cases h2 : (n == 2) with
      | true => exact ⟨_, _, ⟨_, _, na, nv, by rw [abs_neg]; exact ba, by rw [abs_neg]; exact bv, .inr (by rw [abs_neg]; exact lv)⟩, fun R k => by rw [start, h3, forceB_eq]; simp only; rw [h1, forceB_eq]; simp only; rw [h2, forceB_eq]⟩
      | false => exact ⟨_, _, ⟨_, _, ia, iv, ba, bv, .inr lv⟩, fun R k => by rw [start, h3, forceB_eq]; simp only; rw [h1, forceB_eq]; simp only; rw [h2, forceB_eq]⟩
end Go.Vm
namespace Go.Vm
open Ieee Cq
set_option linter.unusedVariables false
set_option linter.unusedSimpArgs false

/-! ### Each place of the foil's border comes -/
def plB (tn : KFF2) : ∀ R : Type, Nat → Nat → (Nat → Nat → Option R) → Option R := fun R r u k => tn R u fun s c => bindF (fbF .mul r c) fun x => bindF (fbF .mul r s) fun y => k x y
def plK := plB turnK
def borderQ : Mp := { a1 := 4605985873102402911, a2 := 0, b1 := 0, b2 := 0, c1 := 0, c2 := 0, d1 := 0, d2 := 0, p := 0 }
theorem is_q : Is 4605985873102402911 (7810653557126495 / 9007199254740992) := lit_is (m := 7810653557126495) (n := 53) (by decide) (by decide) (by rw [show (2 ^ 53 : Nat) = 9007199254740992 by decide]; norm_cast; grind)
theorem is_8 : Is 4593671619917905920 (1 / 8) := lit_is (m := 4503599627370496) (n := 55) (by decide) (by decide) (by rw [show (2 ^ 55 : Nat) = 36028797018963968 by decide]; norm_cast; grind)
theorem is_m8 : Is 13817043656772681728 (-(1 / 8)) := by
  have := neg_is is_8
  rw [show Op.negFloat .f64 4593671619917905920 = 13817043656772681728 by decide] at this
  exact this
theorem is_2pi : Is 4618760256179416344 (884279719003555 / 140737488355328) := lit_is (m := 7074237752028440) (n := 50) (by decide) (by decide) (by rw [show (2 ^ 50 : Nat) = 1125899906842624 by decide]; norm_cast; grind)
theorem is_4096 : Is 4661225614328463360 4096 := by
  have := ofInt_is (n := 4096) (by decide)
  rw [show floatOfInt .f64 4096 = 4661225614328463360 by decide] at this
  simpa using this
/-- a map of Joukowski's, as it lies in words -/
structure IsM2 (m : Mp) (A : Cq) : Prop where
  a : IsQ m.a1 m.a2 A
  bd : Bd A 1
  n : A.n ≠ 0
  b1 : m.b1 = 0
  b2 : m.b2 = 0
  c1 : m.c1 = 0
  c2 : m.c2 = 0
  d1 : m.d1 = 0
  d2 : m.d2 = 0
  p : m.p = 0
theorem chk_border {m : Mp} {A : Cq} (h : IsM2 m A) {R : Type} (k : Int → Option R) : chk2P R m k = k 0 := by
  have hz : IsC 0 0 0 0 := ⟨is_zero, is_zero⟩
  have hw : ∀ (k : Bool → Option R), withinK R 0 4787326403894837248 k = k true := fun k => withinK_int is_zero (by decide) k
  have he : eqF 0 0 = true := by rw [eqF_is is_zero is_zero]; simp
  have hp : ∀ (k : Bool → Option R), placeK R 0 0 k = k true := fun k => placeK_int hz (by decide) (by decide) k
  have hn : ∀ (k : Bool → Option R), noughtK R 0 0 k = k true := fun k => by rw [noughtK_int hz]; simp
  unfold chk2P chk2B chkHead
  rw [placeQ h.a (h.bd.mono (by grind))]
  simp only [forceB_eq, h.b1, h.b2, h.c1, h.c2, h.d1, h.d2, h.p, hp, hw, he, hn]
  rw [noughtQ h.a h.n]
theorem at_border0 {m : Mp} {A : Cq} (hM : IsM2 m A) {a b : Nat} {z : Cq} (h : IsQ a b z) (hn : 1 / 100 ≤ z.n) (hb : Bd z 10) :
    ∃ w1 w2, ∀ (R : Type) (ke : Int → Option R) (k : Nat → Nat → Option R), at2K R m a b ke k = k w1 w2 := by
  have he := eps_tiny
  have he0 := eps_pos
  obtain ⟨p, q, s, is, ns, es⟩ := mulQ hM.a hM.a hM.bd hM.bd (B := 1) (by grind) (by grind) (by grind)
  have bs : Bd s 3 := (ns.bd (hM.bd.mul hM.bd)).mono (by grind)
  have hs := n_le bs.1 bs.2
  obtain ⟨u, hu⟩ := quo_ex s (b := z) (by grind)
  have bu : Bd u 43 := by
    have k1 := n_mul u z
    rw [hu] at k1
    have k2 := Rat.mul_le_mul_of_nonneg_left hn u.n_nonneg
    have k3 := le_n (a := u) (show (0 : Rat) ≤ 43 by grind) (by grind)
    exact ⟨k3.1, k3.2⟩
  obtain ⟨p2, q2, W, iW, nW, eW⟩ := divQ is h (by grind) (hb.mono (by grind)) hu bu (by grind) (by grind)
  have bW : Bd W 44 := (nW.bd bu).mono (by grind)
  obtain ⟨p3, q3, V, iV, nV, eV⟩ := addQ h iW (hb.add bW) (by grind) (by grind)
  have no : z.n ≠ 0 := by grind
  refine ⟨p3, q3, fun R ke k => ?_⟩
  unfold at2K atLB
  rw [chk_border hM, forceB_eq]
  simp only [bne_self_eq_false]
  rw [placeQ h (hb.mono (by grind)), forceB_eq]
  simp only
  unfold joukK joukB
  rw [noughtQ h no, forceB_eq]
  simp only
  unfold sqrK sqrB
  rw [es, eW, eV, FiniteK_yes iV.1 iV.2, forceB_eq]
theorem borderQ_is : IsM2 borderQ ⟨7810653557126495 / 9007199254740992, 0⟩ :=
  ⟨⟨is_q, is0⟩, ⟨abs_in (by grind) (by grind), abs_in (by grind) (by grind)⟩, by unfold Cq.n; grind, rfl, rfl, rfl, rfl, rfl, rfl, rfl⟩
theorem at_border {a b : Nat} {z : Cq} (h : IsQ a b z) (hn : 1 / 100 ≤ z.n) (hb : Bd z 10) :
    ∃ w1 w2, ∀ (R : Type) (ke : Int → Option R) (k : Nat → Nat → Option R), at2K R borderQ a b ke k = k w1 w2 := at_border0 borderQ_is h hn hb
theorem at_zero : ∃ w1 w2, ∀ (R : Type) (ke : Int → Option R) (k : Nat → Nat → Option R), at2K R borderQ 4605985873102402911 0 ke k = k w1 w2 :=
  at_border (z := ⟨7810653557126495 / 9007199254740992, 0⟩) ⟨is_q, is0⟩ (by unfold Cq.n; grind) ⟨abs_in (by grind) (by grind), abs_in (by grind) (by grind)⟩
theorem pl_border {u : Nat} {x : Rat} (h : Is u x) (hx : x.abs ≤ 30) :
    ∃ z1 z2 z, IsQ z1 z2 z ∧ 1 / 100 ≤ z.n ∧ Bd z 10 ∧ ∀ (R : Type) (k : Nat → Nat → Option R), plK R 4607182418800017408 u (fun x y => addK R 13817043656772681728 4593671619917905920 x y k) = k z1 z2 := by
  have he := eps_tiny
  have he0 := eps_pos
  have e1075 : (2 : Rat) ^ (-1075 : Int) ≤ 1 / 1000 := p2_small (by grind)
  have o1 : (-(1 / 8) : Rat).abs ≤ 1 := abs_in (by grind) (by grind)
  have o2 : (1 / 8 : Rat).abs ≤ 1 := abs_in (by grind) (by grind)
  have o3 : (-(1 / 8) : Rat).abs ≤ 1 / 8 := abs_in (by grind) (by grind)
  have o4 : (1 / 8 : Rat).abs ≤ 1 / 8 := abs_in (by grind) (by grind)
  obtain ⟨s, c, ⟨sv, cv, is, ic, bs, bc, far⟩, et⟩ := turnK_far h hx
  obtain ⟨p, a, ep, ip, rp⟩ := mul_is is_one1 ic (lt_p2_1023 (by rw [Rat.one_mul]; grind))
  obtain ⟨q, b, eq, iq, rq⟩ := mul_is is_one1 is (lt_p2_1023 (by rw [Rat.one_mul]; grind))
  rw [Rat.one_mul] at rp rq
  have hp := rp.coarse
  have hq := rq.coarse
  generalize (2 : Rat) ^ (-1075 : Int) = t at *
  have ha : a.abs ≤ 3 := by have := abs_near hp; grind
  have hb : b.abs ≤ 3 := by have := abs_near hq; grind
  have bo : Bd ⟨-(1 / 8), 1 / 8⟩ 1 := ⟨o1, o2⟩
  have bz : Bd (Cq.add ⟨-(1 / 8), 1 / 8⟩ ⟨a, b⟩) 4 := (bo.add (b := ⟨a, b⟩) (n := 3) ⟨ha, hb⟩).mono (by grind)
  obtain ⟨z1, z2, z, iz, nz, ez⟩ := addQ (z := ⟨-(1 / 8), 1 / 8⟩) (w := ⟨a, b⟩) ⟨is_m8, is_8⟩ ⟨ip, iq⟩ bz (by grind) (by grind)
  have zb := (nz.bd bz).mono (n := 10) (by grind)
  refine ⟨z1, z2, z, iz, ?_, zb, fun R k => ?_⟩
  · have k1 := nz.1
    have k2 := nz.2
    simp only [Cq.add] at k1 k2
    have key : ∀ {a c o zz : Rat}, (zz - (o + a)).abs ≤ eps * 4 → (a - c).abs ≤ c.abs * (1 / 1000) + t → c.abs ≤ 2 → o.abs ≤ 1 / 8 → 3 / 8 ≤ c.abs → 1 / 10 ≤ zz.abs := fun {a c o zz} g1 g2 g3 g4 g5 => by
      have m1 := abs_near (x := c) (y := a) (e := c.abs * (1 / 1000) + t) (by rw [show c - a = -(a - c) by grind, abs_neg]; exact g2)
      have m2 := abs_near (x := o + a) (y := zz) (e := eps * 4) (by rw [show o + a - zz = -(zz - (o + a)) by grind, abs_neg]; exact g1)
      have m3 := abs_add_le (o + a) (-o)
      rw [abs_neg, show o + a + -o = a by grind] at m3
      grind
    rcases far with f | f
    · have := sq_ge (key k2 hq bs o4 f) (by grind)
      have := sq_nonneg z.x
      unfold Cq.n; grind
    · have := sq_ge (key k1 hp bc o3 f) (by grind)
      have := sq_nonneg z.y
      unfold Cq.n; grind
  · unfold plK plB
    rw [et, bindF_eq ep, bindF_eq eq]
    exact ez R k
theorem round_comes {j : Int} (h0 : 0 < j) (h1 : j < 4096) : ∃ t z1 z2 w1 w2, ∀ (R : Type) (k : Nat → Nat → Nat → Nat → Nat → Option R),
    (bindF (fbF .mul 4618760256179416344 (floatOfInt .f64 j)) fun a => bindF (fbF .quo a 4661225614328463360) fun t =>
      subK R 4605985873102402911 0 13817043656772681728 4593671619917905920 fun x y => angleK R y x fun o => bindF (fbF .add o t) fun u => plK R 4607182418800017408 u fun x y =>
      addK R 13817043656772681728 4593671619917905920 x y fun z1 z2 => at2K R borderQ z1 z2 (fun _ => none) fun w1 w2 => k t z1 z2 w1 w2) = k t z1 z2 w1 w2 := by
  have hj := ofInt_is (n := j) (by omega)
  have bj : (j : Rat).abs ≤ 4096 := by have := int_abs_le (N := 4096) (n := j) (by omega); simpa using this
  have hm : (884279719003555 / 140737488355328 * (j : Rat)).abs ≤ 25740 := by
    have := abs_le_iff.1 bj
    exact abs_in (by grind) (by grind)
  obtain ⟨a, av, ea, ia, ra⟩ := mul_is is_2pi hj (big_lt' hm (by grind))
  have ba : Bv 25770 a := ⟨av, ia, bd_rnd ra hm (by grind)⟩
  obtain ⟨t, et, bt⟩ := bd_quo ba is_4096 (D := 4096) (by have := (abs_le_self (4096 : Rat)).1; exact this) (by grind) (Q := 63 / 10) (by grind) (by grind) (C := 7) (by grind) (by grind)
  obtain ⟨p, q, s, is, ns, es⟩ := subQ (B := 2) (z := ⟨7810653557126495 / 9007199254740992, 0⟩) (w := ⟨-(1 / 8), 1 / 8⟩) ⟨is_q, is0⟩ ⟨is_m8, is_8⟩ ⟨abs_in (by simp only [Cq.sub]; grind) (by simp only [Cq.sub]; grind), abs_in (by simp only [Cq.sub]; grind) (by simp only [Cq.sub]; grind)⟩ (by grind) (by grind)
  obtain ⟨o, bo, eo⟩ := angleK_val is.2 is.1
  obtain ⟨u, eu, ⟨uv, iu, bu⟩⟩ := bd_add bo bt (C := 24) (by grind) (by grind)
  obtain ⟨z1, z2, z, iz, nz, bz, ez⟩ := pl_border iu (by grind)
  obtain ⟨w1, w2, ew⟩ := at_border iz nz bz
  refine ⟨t, z1, z2, w1, w2, fun R k => ?_⟩
  rw [bindF_eq ea, bindF_eq et, es, eo, bindF_eq eu, ez, ew]
end Go.Vm
