/- A word rounded to a whole number; no conditions. A whole word as an integer; no conditions. The steps of sine and cosine come; no conditions. Sine and cosine come for what is at most 100; no conditions. -/
import Derived.Test.YtnbpfafngidimaaGreatVmP29
namespace Go.Vm
open Ieee
set_option linter.unusedVariables false
set_option linter.unusedSimpArgs false

/-! ### Rounded to whole numbers -/
theorem cut_bound {s : Bool} {m : Nat} {i : Int} {B : Nat} (h : (dv s m i).abs ≤ ((B : Nat) : Rat)) : Toward.even.cut s (m <<< i.toNat) (-i).toNat ≤ B + 1 := by
  have h4 := (cut_spec s (m <<< i.toNat) (-i).toNat).2.2.2
  have h5 : (m <<< i.toNat) / 2 ^ (-i).toNat ≤ B := by
    rw [dv_abs] at h
    have hn : m <<< i.toNat ≤ B * 2 ^ (-i).toNat := by
      have e1 : ((m <<< i.toNat : Nat) : Rat) = (m : Rat) * (2 : Rat) ^ i * (2 : Rat) ^ (((-i).toNat : Nat) : Int) := by
        rw [Nat.shiftLeft_eq, Rat.mul_assoc, ← p2_add]
        push_cast
        rw [show i + ((-i).toNat : Int) = ((i.toNat : Nat) : Int) by omega, p2_nat]
        push_cast
        rfl
      have e2 : ((m <<< i.toNat : Nat) : Rat) ≤ ((B * 2 ^ (-i).toNat : Nat) : Rat) := by
        rw [e1]
        push_cast
        rw [p2_nat]
        push_cast
        have := Rat.mul_le_mul_of_nonneg_right h (Rat.le_of_lt (p2_pos (((-i).toNat : Nat) : Int)))
        rw [p2_nat] at this
        push_cast at this
        exact this
      exact_mod_cast e2
    exact Nat.div_le_of_le_mul (by rw [Nat.mul_comm]; exact hn)
  omega

theorem roundK_is {w : Nat} {x : Rat} {B : Nat} (h : Is w x) (hx : x.abs ≤ ((B : Nat) : Rat)) (hB : B ≤ 2 ^ 50) :
    ∃ (r : Nat) (N : Int), Is r N ∧ N.natAbs ≤ B + 1 ∧ ∀ (R : Type) (k : Nat → Option R), roundK .even R w k = k r := by
  obtain ⟨hw, s, m, i, h1, rfl⟩ := h
  have hc := cut_bound hx
  generalize hcc : Toward.even.cut s (m <<< i.toNat) (-i).toNat = c at hc
  have hdv : dv s c 0 = (((if s then -(c : Int) else (c : Int)) : Int) : Rat) := by
    unfold dv sg
    rw [show (2 : Rat) ^ (0 : Int) = 1 by simp]
    have e : ((c : Nat) : Rat) = (((c : Int)) : Rat) := by norm_cast
    cases s
    · simp only [Bool.false_eq_true, if_false]
      rw [e]; grind
    · simp only [if_true]
      push_cast
      grind
  have hN : (if s then -(c : Int) else (c : Int)).natAbs ≤ B + 1 := by split <;> omega
  obtain ⟨z, z1, z2⟩ := number_is (s := s) (m := c) (i := 0) (by rw [hdv]; exact int_abs_lt (by omega))
  have hz : z = (((if s then -(c : Int) else (c : Int)) : Int) : Rat) := by
    rw [hdv] at z2
    exact rnd_int (by omega) z2
  rw [hz] at z1
  refine ⟨_, _, z1, hN, fun R k => ?_⟩
  unfold roundK
  rw [h1]
  simp only [Datum.integral, hcc]
  rw [forceN_eq]
end Go.Vm
namespace Go.Vm
open Ieee
set_option linter.unusedVariables false
set_option linter.unusedSimpArgs false

/-! ### Floats that are whole numbers, as such -/
theorem toInt_is {w : Nat} {N : Int} (h : Is w N) (hN : N.natAbs < 2 ^ 53) : floatToIntVal .f64 w .i64 = some N := by
  obtain ⟨hw, s, m, i, h1, h2⟩ := h
  have hn : m <<< i.toNat = N.natAbs * 2 ^ (-i).toNat := by
    have e0 : ((m : Nat) : Rat) * (2 : Rat) ^ i = ((N.natAbs : Nat) : Rat) := by
      have := congrArg Rat.abs h2
      rw [dv_abs, int_abs] at this
      exact this
    have e1 : ((m <<< i.toNat : Nat) : Rat) = (m : Rat) * (2 : Rat) ^ i * (2 : Rat) ^ (((-i).toNat : Nat) : Int) := by
      rw [Nat.shiftLeft_eq, Rat.mul_assoc, ← p2_add]
      push_cast
      rw [show i + ((-i).toNat : Int) = ((i.toNat : Nat) : Int) by omega, p2_nat]
      push_cast
      rfl
    have e2 : ((m <<< i.toNat : Nat) : Rat) = ((N.natAbs * 2 ^ (-i).toNat : Nat) : Rat) := by
      rw [e1, e0, p2_nat]
      push_cast
      rfl
    exact_mod_cast e2
  have hcut : Toward.zero.cut s (m <<< i.toNat) (-i).toNat = N.natAbs := by
    unfold Toward.cut
    simp only [Bool.toNat_false, Nat.add_zero]
    by_cases h0 : N.natAbs = 0
    · rw [hn, h0]; simp
    · have hge : 2 ^ (-i).toNat ≤ m <<< i.toNat := by rw [hn]; exact Nat.le_mul_of_pos_left _ (by omega)
      have hlog : (-i).toNat ≤ (m <<< i.toNat).log2 := (Nat.le_log2 (by have := Nat.two_pow_pos (-i).toNat; omega)).2 hge
      rw [Nat.min_eq_left (by omega), hn, show 1 <<< (-i).toNat = 2 ^ (-i).toNat by rw [Nat.shiftLeft_eq, Nat.one_mul]]
      exact Nat.mul_div_cancel _ (Nat.two_pow_pos _)
  have hsg : signed s N.natAbs 0 = N := by
    unfold signed
    rw [Nat.shiftLeft_zero]
    by_cases h0 : N = 0
    · subst h0; cases s <;> rfl
    · cases s with
      | false =>
        have : 0 ≤ N := by
          refine Int.not_lt.1 fun hlt => ?_
          have : ((N : Int) : Rat) < 0 := by exact_mod_cast hlt
          have := dv_sign' (s := false) (m := m) (i := i) (by rw [h2]; exact this)
          cases this
        simp only [Bool.false_eq_true, if_false]
        omega
      | true =>
        have : N ≤ 0 := by
          refine Int.not_lt.1 fun hlt => ?_
          have : (0 : Rat) < ((N : Int) : Rat) := by exact_mod_cast hlt
          have := dv_sign (s := true) (m := m) (i := i) (by rw [h2]; exact this)
          cases this
        simp only [if_true]
        omega
  unfold floatToIntVal
  have hd : FloatKind.f64.decode w = .number s m i := h1
  rw [hd]
  simp only [Datum.toInt, Datum.integral, hcut, hsg]
  rw [if_pos]
  constructor
  · show (-9223372036854775808 : Int) ≤ N
    omega
  · show N ≤ 9223372036854775807
    omega
end Go.Vm
namespace Go.Vm
open Ieee
set_option linter.unusedVariables false
set_option linter.unusedSimpArgs false

/-! ### Sines and cosines of small floats always come -/
def BigI (a : Nat) : Prop := ∃ y, Is a y ∧ 1 ≤ y.abs
theorem big_int {n : Int} {a : Nat} (h : floatOfInt .f64 n = a) (h1 : 1 ≤ n) (h2 : n ≤ 1000) : BigI a := by
  have := ofInt_is (n := n) (by omega)
  rw [h] at this
  refine ⟨_, this, ?_⟩
  have h3 : ((1 : Int) : Rat) ≤ (n : Rat) := by exact_mod_cast h1
  rw [show ((1 : Int) : Rat) = 1 by norm_cast] at h3
  have := (abs_le_self (n : Rat)).1
  grind
theorem stepsR_tot {z : Nat} (hz : Mag 22 z) : ∀ (l : List (Nat × Nat)) (s c : Nat) (e : Int), (∀ p ∈ l, BigI p.1 ∧ BigI p.2) → Mag e s → Mag e c → 0 ≤ e → e + 30 * l.length ≤ 300 →
    ∃ s' c', Mag 300 s' ∧ Mag 300 c' ∧ ∀ (R : Type) (k : Nat → Nat → Option R), stepsR z l s c k = k s' c'
  | [], s, c, e, _, hs, hc, _, hb => ⟨s, c, hs.mono (by simp at hb; omega), hc.mono (by simp at hb; omega), fun R k => rfl⟩
  | p :: l, s, c, e, hl, hs, hc, he, hb => by
    have hlen : ((p :: l).length : Int) = l.length + 1 := by simp
    rw [hlen] at hb
    obtain ⟨⟨y1, i1, b1⟩, ⟨y2, i2, b2⟩⟩ := hl p (by simp)
    have p0 : (2 : Rat) ^ (0 : Int) = 1 := by simp
    have one : Mag 1 4607182418800017408 := mag_lit (by decide)
    obtain ⟨x1, g1, g2⟩ := mag_quo hz i1 (f := 0) (by rw [p0]; exact b1) (by decide) (by decide)
    obtain ⟨x2, g3, g4⟩ := mag_mul g2 hs (by omega) (by omega)
    obtain ⟨s', g5, g6⟩ := mag_sub one g4 (g := 22 - 0 + 1 + e + 1) (by omega) (by omega) (by omega) (by omega)
    obtain ⟨x3, f1, f2⟩ := mag_quo hz i2 (f := 0) (by rw [p0]; exact b2) (by decide) (by decide)
    obtain ⟨x4, f3, f4⟩ := mag_mul f2 hc (by omega) (by omega)
    obtain ⟨c', f5, f6⟩ := mag_sub one f4 (g := 22 - 0 + 1 + e + 1) (by omega) (by omega) (by omega) (by omega)
    obtain ⟨s2, c2, h1, h2, h3⟩ := stepsR_tot hz l s' c' (e + 30) (fun q hq => hl q (by simp [hq])) (g6.mono (by omega)) (f6.mono (by omega)) (by omega) (by omega)
    refine ⟨s2, c2, h1, h2, fun R k => ?_⟩
    show bindF (fbF .quo z p.1) (fun x => bindF (fbF .mul x s) fun x => bindF (fbF .sub 4607182418800017408 x) fun s =>
      bindF (fbF .quo z p.2) fun x => bindF (fbF .mul x c) fun x => bindF (fbF .sub 4607182418800017408 x) fun c => stepsR z l s c k) = k s2 c2
    rw [bindF_eq g1, bindF_eq g3, bindF_eq g5, bindF_eq f1, bindF_eq f3, bindF_eq f5, h3]
theorem steps_big : ∀ p ∈ stepsL, BigI p.1 ∧ BigI p.2 := by
  intro p hp
  simp only [stepsL, List.mem_cons, List.not_mem_nil, or_false] at hp
  rcases hp with rfl | rfl | rfl | rfl | rfl | rfl | rfl | rfl | rfl
  · exact ⟨big_int (n := 342) (by decide) (by decide) (by decide), big_int (n := 306) (by decide) (by decide) (by decide)⟩
  · exact ⟨big_int (n := 272) (by decide) (by decide) (by decide), big_int (n := 240) (by decide) (by decide) (by decide)⟩
  · exact ⟨big_int (n := 210) (by decide) (by decide) (by decide), big_int (n := 182) (by decide) (by decide) (by decide)⟩
  · exact ⟨big_int (n := 156) (by decide) (by decide) (by decide), big_int (n := 132) (by decide) (by decide) (by decide)⟩
  · exact ⟨big_int (n := 110) (by decide) (by decide) (by decide), big_int (n := 90) (by decide) (by decide) (by decide)⟩
  · exact ⟨big_int (n := 72) (by decide) (by decide) (by decide), big_int (n := 56) (by decide) (by decide) (by decide)⟩
  · exact ⟨big_int (n := 42) (by decide) (by decide) (by decide), big_int (n := 30) (by decide) (by decide) (by decide)⟩
  · exact ⟨big_int (n := 20) (by decide) (by decide) (by decide), big_int (n := 12) (by decide) (by decide) (by decide)⟩
  · exact ⟨big_int (n := 6) (by decide) (by decide) (by decide), big_int (n := 2) (by decide) (by decide) (by decide)⟩
theorem stepsK_tot {y : Nat} (hy : Mag 10 y) : ∃ s c, Mag 320 s ∧ Mag 320 c ∧ ∀ (R : Type) (k : Nat → Nat → Option R), stepsK R y k = k s c := by
  obtain ⟨z, z1, z2⟩ := mag_mul hy hy (by decide) (by decide)
  have one : Mag 1 4607182418800017408 := mag_lit (by decide)
  obtain ⟨s, c, h1, h2, h3⟩ := stepsR_tot (z2.mono (by decide)) stepsL _ _ 1 steps_big one one (by decide) (by decide)
  obtain ⟨t, t1, t2⟩ := mag_mul hy h1 (by decide) (by decide)
  refine ⟨t, c, t2.mono (by decide), h2.mono (by decide), fun R k => ?_⟩
  unfold stepsK
  rw [bindF_eq z1, h3, bindF_eq t1]
end Go.Vm
namespace Go.Vm
open Ieee
set_option linter.unusedVariables false
set_option linter.unusedSimpArgs false

/-! ### Turns always come -/
theorem Bv.mag {B : Rat} {w : Nat} {e : Int} (h : Bv B w) (hb : B ≤ (2 : Rat) ^ e) : Mag e w := let ⟨x, h1, h2⟩ := h; ⟨x, h1, Rat.le_trans h2 hb⟩
theorem p2_10 : (2 : Rat) ^ (10 : Int) = 1024 := by rw [show (10 : Int) = ((10 : Nat) : Int) by rfl, p2_nat]; rfl
theorem is_p20 : Is 4697254411347427328 (((2 ^ 20 : Int)) : Rat) := by
  have := ofInt_is (n := 2 ^ 20) (by decide)
  rw [show floatOfInt .f64 (2 ^ 20) = 4697254411347427328 by decide] at this
  exact this
theorem fitK_yes {w : Nat} {x : Rat} (h : Is w x) (hx : x.abs ≤ 100) {R : Type} (k : Bool → Option R) : fitK R w k = k true := by
  have e : fitK R w k = forceB (leF (absW w) 4697254411347427328) fun t => forceB t fun t => forceB t fun t => k t := rfl
  rw [e, forceB_eq, leF_is (abs_is h) is_p20]
  have : x.abs ≤ ((2 ^ 20 : Int) : Rat) := by
    have : ((2 ^ 20 : Int) : Rat) = 1048576 := by rw [show (2 ^ 20 : Int) = 1048576 by decide]; rfl
    rw [this]; grind
  simp only [this, decide_true, forceB_eq]

theorem quarterK_tot {w : Nat} {x : Rat} (h : Is w x) (hx : x.abs ≤ 100) : ∃ y n, Mag 10 y ∧ ∀ (R : Type) (k : Nat → Int → Option R), quarterK R w k = k y n := by
  have bw : Bv 100 w := ⟨x, h, hx⟩
  obtain ⟨y, y1, y2⟩ := bd_mul (b := 4603909380684499075) bw (bd_one (e := 0) (by decide)) (C := 101) (by grind) (by grind)
  obtain ⟨v, iv, bv⟩ := y2
  obtain ⟨m, N, im, bN, hm⟩ := roundK_is (B := 101) iv bv (by decide)
  have bm : Bv 102 m := ⟨N, im, by have := int_abs_le (N := 102) (n := N) (by omega); simpa using this⟩
  have fl : floatToIntVal .f64 m .i64 = some N := toInt_is im (by omega)
  obtain ⟨a1, f1, g1⟩ := bd_mul (b := 4609753056924401664) bm (bd_two (by decide)) (C := 205) (by grind) (by grind)
  obtain ⟨x1, f2, g2⟩ := bd_sub bw g1 (C := 306) (by grind) (by grind)
  obtain ⟨a2, f3, g3⟩ := bd_mul (b := 4454258360616747008) bm (bd_one (e := 0) (by decide)) (C := 103) (by grind) (by grind)
  obtain ⟨x2, f4, g4⟩ := bd_sub g2 g3 (C := 410) (by grind) (by grind)
  obtain ⟨a3, f5, g5⟩ := bd_mul (b := 4297306550709518336) bm (bd_one (e := 0) (by decide)) (C := 103) (by grind) (by grind)
  obtain ⟨x3, f6, g6⟩ := bd_sub g4 g5 (C := 515) (by grind) (by grind)
  have start : ∀ (R : Type) (k : Nat → Int → Option R), quarterK R w k = forceB (eqF m 0) fun t => match t with
      | true => k w 0
      | false => k x3 (andI N 3) := fun R k => by
    unfold quarterK quarterB
    rw [fitK_yes h hx, forceB_eq]
    simp only
    rw [bindF_eq y1, hm, forceB_eq, forceB_eq]
    cases eqF m 0 with
    | true => rfl
    | false =>
      simp only
      unfold lessK
      rw [bindF_eq f1, bindF_eq f2, bindF_eq f3, bindF_eq f4, bindF_eq f5, bindF_eq f6, fl]
      show fiReal R N _ = _
      rw [fiReal_fair]
  cases he : eqF m 0 with
  | true => exact ⟨w, 0, bw.mag (by rw [p2_10]; grind), fun R k => by rw [start, he, forceB_eq]⟩
  | false => exact ⟨x3, andI N 3, g6.mag (by rw [p2_10]; grind), fun R k => by rw [start, he, forceB_eq]⟩

theorem mag_neg {e : Int} {w : Nat} (h : Mag e w) : Mag e (Op.negFloat .f64 w) := by
  obtain ⟨x, h1, h2⟩ := h
  exact ⟨-x, neg_is h1, by rw [abs_neg]; exact h2⟩

theorem turnK_tot {w : Nat} {x : Rat} (h : Is w x) (hx : x.abs ≤ 100) : ∃ s c, Mag 320 s ∧ Mag 320 c ∧ ∀ (R : Type) (k : Nat → Nat → Option R), turnK R w k = k s c := by
  obtain ⟨y, n, my, hq⟩ := quarterK_tot h hx
  obtain ⟨s, c, ms, mc, hs⟩ := stepsK_tot my
  have start : ∀ (R : Type) (k : Nat → Nat → Option R), turnK R w k = forceB (n == 3) fun t => match t with
      | true => k (Op.negFloat .f64 c) (Op.negFloat .f64 (Op.negFloat .f64 s))
      | false => forceB (n == 1) fun t => match t with
        | true => k c (Op.negFloat .f64 s)
        | false => forceB (n == 2) fun t => match t with
          | true => k (Op.negFloat .f64 s) (Op.negFloat .f64 c)
          | false => k s c := fun R k => by
    unfold turnK turnB
    rw [hq, hs]
    simp only [forceN_eq]
    rfl
  cases h3 : (n == 3) with
  | true => exact ⟨_, _, mag_neg mc, mag_neg (mag_neg ms), fun R k => by rw [start, h3, forceB_eq]⟩
  | false =>
    cases h1 : (n == 1) with
    | true => exact ⟨_, _, mc, mag_neg ms, fun R k => by rw [start, h3, forceB_eq]; simp only; rw [h1, forceB_eq]⟩
    | false =>
      cases h2 : (n == 2) with
      | true => exact ⟨_, _, mag_neg ms, mag_neg mc, fun R k => by rw [start, h3, forceB_eq]; simp only; rw [h1, forceB_eq]; simp only; rw [h2, forceB_eq]⟩
      | false => exact ⟨_, _, ms, mc, fun R k => by rw [start, h3, forceB_eq]; simp only; rw [h1, forceB_eq]; simp only; rw [h2, forceB_eq]⟩
end Go.Vm
