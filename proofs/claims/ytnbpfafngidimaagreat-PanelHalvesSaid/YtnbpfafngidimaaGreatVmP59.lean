/- Relative errors, and the words of Pi and of its inverse; no conditions. Whole numbers through ForceLift's functions; no conditions. The rest by 1000, nearness, and clean, of whole numbers; no conditions. -/
import Derived.Test.YtnbpfafngidimaaGreatVmP55
import Derived.Test.YtnbpfafngidimaaGreatVmKH
namespace Go.Vm
open Ieee
set_option linter.unusedVariables false
set_option linter.unusedSimpArgs false

/-! ### Relative errors -/
theorem rnd_zero {x z : Rat} (h : Rnd x z) (hx : x = 0) : z = 0 := by
  have := h.rep 0 0 (by decide) (by decide) (by rw [hx]; simp)
  rw [this, hx]
theorem rl_step {z y f z' e : Rat} (he0 : 0 ≤ e) (he : e ≤ 1 / 2) (h : (z - y).abs ≤ e * y.abs) (hr : Rnd (z * f) z') (hy : y * f = 0 ∨ 1 / 16 ≤ (y * f).abs) : (z' - y * f).abs ≤ (e + 2 * eps) * (y * f).abs := by
  have h1 : (z * f - y * f).abs ≤ e * (y * f).abs := by
    have : z * f - y * f = (z - y) * f := by grind
    rw [this, abs_mul, abs_mul, ← Rat.mul_assoc]
    exact Rat.mul_le_mul_of_nonneg_right h (abs_nonneg f)
  have hn := abs_nonneg (y * f)
  have h2 : (z' - y * f).abs ≤ (z' - z * f).abs + (z * f - y * f).abs := tri
  have h3 : (z * f).abs ≤ (z * f - y * f).abs + (y * f).abs := by
    have := abs_add_le (z * f - y * f) (y * f)
    have e1 : z * f - y * f + y * f = z * f := by grind
    rw [e1] at this
    exact this
  have h4 : (y * f).abs ≤ (z * f - y * f).abs + (z * f).abs := by
    have := abs_add_le (y * f - z * f) (z * f)
    have e1 : y * f - z * f + z * f = y * f := by grind
    rw [e1, abs_sub_comm (y * f) (z * f)] at this
    exact this
  have h5 : e * (y * f).abs ≤ 1 / 2 * (y * f).abs := Rat.mul_le_mul_of_nonneg_right he hn
  have ep := eps_pos
  rcases hy with h0 | h0
  · have g1 : (y * f).abs = 0 := by rw [h0, abs_zero]
    rw [g1] at h1 h3 h5
    have g2 : (z * f).abs ≤ 0 := by grind
    have g3 : z * f = 0 := by
      have := abs_le_iff.1 g2
      grind
    have g4 := rnd_zero hr g3
    rw [g4, h0, show (0 : Rat) - 0 = 0 by grind, abs_zero]
    grind
  · have b : (2 : Rat) ^ (-1000 : Int) ≤ (1 / 32 : Rat) := by
      have := p2_le (show (-1000 : Int) ≤ -5 by decide)
      have e5 := p2_add (-5) 5
      rw [show (-5 : Int) + 5 = 0 by decide, Rat.zpow_zero, show (2 : Rat) ^ (5 : Int) = 32 by rw [show (5 : Int) = ((5 : Nat) : Int) by rfl, p2_nat]; rfl] at e5
      grind
    have h6 := hr.le (B := 2 * (y * f).abs) (by grind) (by grind)
    have h7 : eps * (2 * (y * f).abs) = 2 * eps * (y * f).abs := by grind
    rw [h7] at h6
    have h8 : (e + 2 * eps) * (y * f).abs = e * (y * f).abs + 2 * eps * (y * f).abs := by grind
    rw [h8]
    grind

/-! ### 1/(2 Pi) and Pi, as words -/
def cV : Rat := dv false 5734161139222659 (-55)
def piV : Rat := dv false 7074237752028440 (-51)
theorem is_c : Is 4594902181429758083 cV := ⟨by decide, false, _, _, by decide, rfl⟩
theorem is_pi : Is 4614256656552045848 piV := ⟨by decide, false, _, _, by decide, rfl⟩
theorem is_mpi : Is 13837628693406821656 (-piV) := ⟨by decide, true, 7074237752028440, -51, by decide, by unfold piV dv sg; simp; grind⟩
theorem p2_neg (n : Nat) : (2 : Rat) ^ (-(n : Int)) * ((2 ^ n : Nat) : Rat) = 1 := by
  rw [← p2_nat, ← p2_add, show -(n : Int) + n = 0 by omega, Rat.zpow_zero]
theorem cV_eq : cV = 5734161139222659 / 36028797018963968 := by
  have h := p2_neg 55
  have e : ((2 ^ 55 : Nat) : Rat) = 36028797018963968 := rfl
  rw [e] at h
  unfold cV dv sg
  rw [if_neg (by decide), Rat.one_mul, show ((5734161139222659 : Nat) : Rat) = 5734161139222659 by rfl, show (-55 : Int) = -((55 : Nat) : Int) by rfl]
  grind
theorem piV_eq : piV = 7074237752028440 / 2251799813685248 := by
  have h := p2_neg 51
  have e : ((2 ^ 51 : Nat) : Rat) = 2251799813685248 := rfl
  rw [e] at h
  unfold piV dv sg
  rw [if_neg (by decide), Rat.one_mul, show ((7074237752028440 : Nat) : Rat) = 7074237752028440 by rfl, show (-51 : Int) = -((51 : Nat) : Int) by rfl]
  grind
theorem cV_ge : 1 / 16 ≤ cV := by rw [cV_eq]; grind
theorem cV_le : cV ≤ 1 := by rw [cV_eq]; grind
theorem piV_ge : 3 ≤ piV := by rw [piV_eq]; grind
theorem piV_le : piV ≤ 4 := by rw [piV_eq]; grind
theorem eps_eq : eps = 1 / 2251799813685248 := by
  have h := p2_neg 51
  have e : ((2 ^ 51 : Nat) : Rat) = 2251799813685248 := rfl
  rw [e] at h
  unfold eps
  rw [show (-51 : Int) = -((51 : Nat) : Int) by rfl]
  grind
theorem two_pi_c : (cV * 2 * piV - 1).abs ≤ eps := by
  rw [cV_eq, piV_eq, eps_eq]
  exact abs_le_iff.2 ⟨by grind, by grind⟩
theorem p40m : (2 : Rat) ^ (-40 : Int) = 1 / 1099511627776 := by
  have h := p2_neg 40
  have e : ((2 ^ 40 : Nat) : Rat) = 1099511627776 := rfl
  rw [e] at h
  rw [show (-40 : Int) = -((40 : Nat) : Int) by rfl]
  grind
theorem is_m40 : Is 4427038433705197568 ((2 : Rat) ^ (-40 : Int)) := by
  refine ⟨by decide, false, 4503599627370496, -92, by decide, ?_⟩
  unfold dv sg
  rw [if_neg (by decide), Rat.one_mul, show ((4503599627370496 : Nat) : Rat) = (2 : Rat) ^ ((52 : Nat) : Int) by rw [p2_nat], ← p2_add]
  rfl
theorem is_hair : Is 4517110426252607488 ((2 : Rat) ^ (-20 : Int)) := by
  refine ⟨by decide, false, 4503599627370496, -72, by decide, ?_⟩
  unfold dv sg
  rw [if_neg (by decide), Rat.one_mul, show ((4503599627370496 : Nat) : Rat) = (2 : Rat) ^ ((52 : Nat) : Int) by rw [p2_nat], ← p2_add]
  rfl
end Go.Vm
namespace Go.Vm
open Ieee
set_option linter.unusedVariables false
set_option linter.unusedSimpArgs false

/-! ### Whole numbers through ForceLift's functions -/
theorem sclK_int {a b c : Nat} {x y z : Int} (h : IsC a b x y) (hc : Is c z) (b1 : (x * z).natAbs < 2 ^ 53) (b2 : (y * z).natAbs < 2 ^ 53) :
    ∃ p q, IsC p q (x * z) (y * z) ∧ ∀ (R : Type) (k : Nat → Nat → Option R), sclK R a b c k = k p q := by
  obtain ⟨p, e1, g1⟩ := mul_int h.1 hc b1
  obtain ⟨q, e2, g2⟩ := mul_int h.2 hc b2
  exact ⟨p, q, ⟨g1, g2⟩, fun R k => by unfold sclK; rw [bindF_eq e1, bindF_eq e2]⟩
theorem neg_int {a : Nat} {x : Int} (h : Is a x) : Is (Op.negFloat .f64 a) ((-x : Int) : Rat) := by have := neg_is h; push_cast; exact this
theorem conjK_int {a b : Nat} {x y : Int} (h : IsC a b x y) : ∃ q, IsC a q x (-y) ∧ ∀ (R : Type) (k : Nat → Nat → Option R), conjK R a b k = k a q :=
  ⟨_, ⟨h.1, neg_int h.2⟩, fun R k => by unfold conjK; rw [forceN_eq]⟩
theorem timesK_int {a b : Nat} {x y : Int} (h : IsC a b x y) : ∃ q, IsC q a (-y) x ∧ ∀ (R : Type) (k : Nat → Nat → Option R), timesK R a b k = k q a :=
  ⟨_, ⟨neg_int h.2, h.1⟩, fun R k => by unfold timesK; rw [forceN_eq]⟩
def CK : KEI := checkB placeK withinK noughtK wh1
theorem is_zeroC : IsC 0 0 0 0 := ⟨is_zero, is_zero⟩
theorem eq_zero : eqF 0 0 = true := by rw [eqF_is is_zero is_zero]; simp
section
variable {a1 a2 s1 s2 : Nat} {x y u v : Int} {R : Type}
theorem ei_1 (hs : IsC s1 s2 u v) (b1 : u.natAbs ≤ 2 ^ 40) (b2 : v.natAbs ≤ 2 ^ 40) (X : Option R) : eiT CK R 1 0 0 s1 s2 0 X = X := by
  unfold eiT CK checkB
  rw [forceB_eq]
  show forceB (decide ((1 : Int) > 4)) _ = _
  rw [forceB_eq]
  show placeK R 0 0 _ = _
  rw [placeK_int is_zeroC (by decide) (by decide), forceB_eq]
  show placeK R s1 s2 _ = _
  rw [placeK_int hs b1 b2, forceB_eq]
  show withinK R 0 4787326403894837248 _ = _
  rw [withinK_int (x := 0) is_zero (by decide), forceB_eq]
  show forceB ((1 : Int) == 1) _ = _
  rw [forceB_eq]
  show noughtK R 0 0 _ = _
  rw [noughtK_int is_zeroC, forceB_eq]
  show forceB (eqF 0 0) _ = _
  rw [eq_zero]
  rfl
theorem ei_2 (ha : IsC a1 a2 x y) (hs : IsC s1 s2 u v) (h1 : x.natAbs ≤ 2 ^ 40) (h2 : y.natAbs ≤ 2 ^ 40) (b1 : u.natAbs ≤ 2 ^ 40) (b2 : v.natAbs ≤ 2 ^ 40) (X : Option R) : eiT CK R 2 a1 a2 s1 s2 0 X = X := by
  unfold eiT CK checkB
  rw [forceB_eq]
  show forceB (decide ((2 : Int) > 4)) _ = _
  rw [forceB_eq]
  show placeK R a1 a2 _ = _
  rw [placeK_int ha h1 h2, forceB_eq]
  show placeK R s1 s2 _ = _
  rw [placeK_int hs b1 b2, forceB_eq]
  show withinK R 0 4787326403894837248 _ = _
  rw [withinK_int (x := 0) is_zero (by decide), forceB_eq]
  show forceB ((2 : Int) == 1) _ = _
  rw [forceB_eq]
  show forceB ((2 : Int) == 2) _ = _
  rw [forceB_eq]
  show forceB (eqF 0 0) _ = _
  rw [eq_zero]
  rfl
theorem ge_one : geF 4607182418800017408 4607182418800017408 = true := by rw [geF_is l1 l1]; simp
theorem le_eight : leF 4607182418800017408 4620693217682128896 = true := by rw [leF_is l1 l8]; decide
theorem wh1_one (k : Bool → Option R) : wh1 R 4607182418800017408 k = k true := by
  unfold wh1
  exact bif_yes rfl
theorem ei_3 (ha : IsC a1 a2 x y) (hs : IsC s1 s2 u v) (h1 : x.natAbs ≤ 2 ^ 40) (h2 : y.natAbs ≤ 2 ^ 40) (b1 : u.natAbs ≤ 2 ^ 40) (b2 : v.natAbs ≤ 2 ^ 40) (X : Option R) : eiT CK R 3 a1 a2 s1 s2 4607182418800017408 X = X := by
  unfold eiT CK checkB
  rw [forceB_eq]
  show forceB (decide ((3 : Int) > 4)) _ = _
  rw [forceB_eq]
  show placeK R a1 a2 _ = _
  rw [placeK_int ha h1 h2, forceB_eq]
  show placeK R s1 s2 _ = _
  rw [placeK_int hs b1 b2, forceB_eq]
  show withinK R 4607182418800017408 4787326403894837248 _ = _
  rw [withinK_int (x := 1) l1 (by decide), forceB_eq]
  show forceB ((3 : Int) == 1) _ = _
  rw [forceB_eq]
  show forceB ((3 : Int) == 2) _ = _
  rw [forceB_eq]
  show forceB ((3 : Int) == 3) _ = _
  rw [forceB_eq]
  show wh1 R 4607182418800017408 _ = _
  rw [wh1_one, forceB_eq]
  show forceB (geF 4607182418800017408 4607182418800017408) _ = _
  rw [ge_one, forceB_eq]
  show forceB (leF 4607182418800017408 4620693217682128896) _ = _
  rw [le_eight]
  rfl
theorem WithinK_int (ha : IsC a1 a2 x y) (h1 : x.natAbs ≤ 2 ^ 40) (h2 : y.natAbs ≤ 2 ^ 40) (k : Bool → Option R) : WithinK R a1 a2 4787326403894837248 k = k true := by
  unfold WithinK WithinB
  rw [withinK_int ha.1 h1, forceB_eq]
  simp only
  rw [withinK_int ha.2 h2, forceB_eq]
theorem ge_least {r : Nat} {V : Int} (hr : Is r V) (h1 : 1 ≤ V) : geF r 4427038433705197568 = true := by
  rw [geF_is hr is_m40, p40m]
  have : ((1 : Int) : Rat) ≤ (V : Rat) := by exact_mod_cast h1
  have e : ((1 : Int) : Rat) = 1 := rfl
  exact decide_eq_true (by grind)
theorem le_most {r : Nat} {V : Int} (hr : Is r V) (h1 : V ≤ 2 ^ 40) : leF r 4787326403894837248 = true := by
  rw [leF_is hr is_p40]
  exact decide_eq_true (by exact_mod_cast h1)
theorem fit_told {r : Nat} {V : Int} (ha : IsC a1 a2 x y) (h1 : x.natAbs ≤ 2 ^ 40) (h2 : y.natAbs ≤ 2 ^ 40) (hr : Is r V) (v1 : 1 ≤ V) (v2 : V ≤ 2 ^ 40) (X : Option R) : fitT WithinK R a1 a2 r X = X := by
  unfold fitT fitB
  rw [WithinK_int ha h1 h2, forceB_eq]
  simp only
  rw [ge_least hr v1, forceB_eq]
  simp only
  rw [le_most hr v2]
  rfl

/-! ### Lengths -/
theorem len_zero : ∃ l L, Is l L ∧ L ≤ 1 / 2 ∧ ∀ (R : Type) (k : Nat → Option R), lengthK R 0 0 k = k l := by
  have hz : ((0 : Int) : Rat) = 0 := rfl
  obtain ⟨l, L, h1, h2, _, h3⟩ := lengthK_full (d := (2 : Rat) ^ (-900 : Int)) is_zero is_zero (by rw [hz, abs_zero]; exact Rat.le_of_lt (p2_pos _)) (by rw [hz, abs_zero]; exact Rat.le_of_lt (p2_pos _)) Rat.le_refl (p2_le (by decide))
  refine ⟨l, L, h1, ?_, h3⟩
  have := p2_le (show (-900 : Int) ≤ -2 by decide)
  have e5 := p2_add (-2) 2
  rw [show (-2 : Int) + 2 = 0 by decide, Rat.zpow_zero, show (2 : Rat) ^ (2 : Int) = 4 by rw [show (2 : Int) = ((2 : Nat) : Int) by rfl, p2_nat]; rfl] at e5
  grind
theorem len_any (ha : IsC a1 a2 x y) (h1 : x.natAbs ≤ 1000) (h2 : y.natAbs ≤ 1000) : ∃ l, ∀ (R : Type) (k : Nat → Option R), lengthK R a1 a2 k = k l := by
  have e : (((1000 : Nat) : Int) : Rat) = 1000 := rfl
  have b1 := int_abs_le h1
  have b2 := int_abs_le h2
  rw [e] at b1 b2
  have p10 : (2 : Rat) ^ (10 : Int) = 1024 := by rw [show (10 : Int) = ((10 : Nat) : Int) by rfl, p2_nat]; rfl
  obtain ⟨l, L, _, _, _, h3⟩ := lengthK_full (d := (2 : Rat) ^ (10 : Int)) ha.1 ha.2 (by rw [p10]; grind) (by rw [p10]; grind) (p2_le (by decide)) (p2_le (by decide))
  exact ⟨l, h3⟩
theorem sub_same (h1 : Wd a1 x) (h2 : Wd a2 y) (k : Nat → Nat → Option R) : subK R a1 a2 a1 a2 k = k 0 0 := by
  unfold subK
  have z1 := sub_nought h1.1 h1.1 (fun h => h1.2 (by exact_mod_cast h))
  have z2 := sub_nought h2.1 h2.1 (fun h => h2.2 (by exact_mod_cast h))
  rw [bindF_eq z1, bindF_eq z2]
theorem side_in {kind : Int} {r : Nat} {V : Int} (hk : kind = 2 ∨ kind = 3) (h1 : Wd a1 x) (h2 : Wd a2 y) (hr : Is r V) (v1 : 1 ≤ V) (p : Nat) (X : Option R) : sdT subK lengthK R kind a1 a2 s1 s2 p a1 a2 r X = X := by
  obtain ⟨l, L, i1, i2, hl⟩ := len_zero
  have hlt : ltF l r = true := by
    rw [ltF_is i1 hr]
    have : ((1 : Int) : Rat) ≤ (V : Rat) := by exact_mod_cast v1
    have e : ((1 : Int) : Rat) = 1 := rfl
    exact decide_eq_true (by grind)
  rcases hk with rfl | rfl
  · unfold sdT
    rw [show ((2 : Int) == 1 || (2 : Int) == 2 || (2 : Int) == 3) = true from rfl, cond_true]
    unfold sideB
    rw [sub_same h1 h2, hl, show ((2 : Int) == 1) = false from rfl]
    simp only [cond_false]
    rw [hlt]
    rfl
  · unfold sdT
    rw [show ((3 : Int) == 1 || (3 : Int) == 2 || (3 : Int) == 3) = true from rfl, cond_true]
    unfold sideB
    rw [sub_same h1 h2, hl, show ((3 : Int) == 1) = false from rfl]
    simp only [cond_false]
    rw [hlt]
    rfl
theorem side_stream {r : Nat} (ha : IsC a1 a2 x y) (h1 : x.natAbs ≤ 1000) (h2 : y.natAbs ≤ 1000) (p : Nat) (X : Option R) : sdT subK lengthK R 1 0 0 s1 s2 p a1 a2 r X = X := by
  obtain ⟨d1, d2, hd, he⟩ := subK_int is_zeroC ha (by omega) (by omega)
  obtain ⟨l, hl⟩ := len_any hd (by omega) (by omega)
  unfold sdT
  rw [show ((1 : Int) == 1 || (1 : Int) == 2 || (1 : Int) == 3) = true from rfl, cond_true]
  unfold sideB
  rw [he, hl, show ((1 : Int) == 1) = true from rfl]
  rfl
end
end Go.Vm
namespace Go.Vm
open Ieee
set_option linter.unusedVariables false
set_option linter.unusedSimpArgs false

section
variable {R : Type}
theorem l1000 : Is 4652007308841189376 ((1000 : Int) : Rat) := lit_is (by decide) (by decide)
theorem mod_told {w : Nat} {M : Nat} (h : Is w ((M : Int) : Rat)) (hM : M ≤ 1000) : ∃ (w' : Nat) (N : Int), 0 ≤ N ∧ N ≤ 999 ∧ Is w' N ∧ ∀ (R : Type) (k : Nat → Option R), modK R w k = k w' := by
  by_cases e : M = 1000
  · subst e
    have hw : w = 4652007308841189376 := word_of h l1000 (by decide)
    exact ⟨0, 0, by decide, by decide, is_zero, fun R k => bif_yes hw⟩
  · have hne : w ≠ 4652007308841189376 := fun g => by
      subst g
      have := is_fun h l1000
      have h2 : (M : Int) = 1000 := int_eq_iff.1 this
      omega
    refine ⟨w, M, by omega, by omega, h, fun R k => ?_⟩
    have h0 : ltF w 0 = false := by
      rw [ltF_is h is_zero]
      have : ((0 : Int) : Rat) ≤ ((M : Int) : Rat) := by exact_mod_cast (show (0 : Int) ≤ M by omega)
      exact decide_eq_false (by grind)
    have h1 : geF w 4652007308841189376 = false := by
      rw [geF_is h l1000]
      have : ((M : Int) : Rat) < ((1000 : Int) : Rat) := Rat.intCast_lt_intCast.2 (by omega)
      exact decide_eq_false (by grind)
    refine Eq.trans (bif_no hne) ?_
    unfold modE n2K n1K
    rw [isInfK_no h]
    simp only
    rw [isNanK_no h]
    simp only
    rw [isNanK_no l1000]
    simp only
    rw [h0, forceB_eq]
    simp only
    rw [h1, forceB_eq]
    simp only
    rw [forceB_eq]

/-! ### Near -/
theorem near_told {a b m : Nat} {P W M : Rat} (ha : Is a P) (hb : Is b W) (hm : Is m M) (hs : (P - W).abs < (2 : Rat) ^ (1023 : Int)) (hn : ∀ D, Rnd (P - W) D → D.abs ≤ M) (X : Option R) : nrT absK R a b m X = X := by
  obtain ⟨d, D, h1, h2, h3⟩ := sub_is ha hb hs
  unfold nrT nearFB
  rw [bindF_eq h1]
  show forceB (leF (absW d) m) _ = _
  rw [leF_is (abs_is h2) hm, decide_eq_true (hn D h3)]
  rfl

/-! ### Clean -/
theorem p20m : (2 : Rat) ^ (-20 : Int) = 1 / 1048576 := by
  have h := p2_neg 20
  have e : ((2 ^ 20 : Nat) : Rat) = 1048576 := rfl
  rw [e] at h
  rw [show (-20 : Int) = -((20 : Nat) : Int) by rfl]
  grind
theorem lt_big {x : Rat} (h : x.abs ≤ 1000000000000000) : x.abs < (2 : Rat) ^ (1023 : Int) := by
  have h6 := p2_le (show (50 : Int) ≤ 1023 by decide)
  have h8 : (2 : Rat) ^ (50 : Int) = 1125899906842624 := by rw [show (50 : Int) = ((50 : Nat) : Int) by rfl, p2_nat]; rfl
  grind
theorem clean_told {w0 w1 s1 s2 e1 e2 g2 r : Nat} {x y u v c d g V : Int} (h1 : Wd w0 x) (h2 : Wd w1 y) (b1 : x.natAbs ≤ 1000) (b2 : y.natAbs ≤ 1000) (hs : IsC s1 s2 u v) (b3 : u.natAbs ≤ 1000) (b4 : v.natAbs ≤ 1000)
    (he : IsC e1 e2 c d) (b5 : c.natAbs ≤ 2 ^ 40) (b6 : d.natAbs ≤ 2 ^ 40) (hg : IsC 0 g2 0 g) (b7 : g.natAbs ≤ 1000) (hr : Is r V) (v1 : 1 ≤ V) (v2 : V ≤ 2000) (k : Int → Option R) :
    cleanB (eiT CK) WithinK subK lengthK R 0 0 s1 s2 0 w0 w1 e1 e2 4607182418800017408 w0 w1 0 g2 0 w0 w1 r k = k 0 := by
  have c40 : (1000 : Nat) ≤ 2 ^ 40 := by decide
  have hc : IsC w0 w1 x y := ⟨h1.1, h2.1⟩
  have hV1 : ((1 : Int) : Rat) ≤ (V : Rat) := by exact_mod_cast v1
  have hV2 : (V : Rat) ≤ ((2000 : Int) : Rat) := Rat.intCast_le_intCast.2 v2
  have o1 : ((1 : Int) : Rat) = 1 := rfl
  have o2 : ((2000 : Int) : Rat) = 2000 := rfl
  rw [o1] at hV1
  rw [o2] at hV2
  obtain ⟨t, T, t1, t2, t3⟩ := mul_is hr is_hair (lt_big (by rw [p20m]; exact abs_le_iff.2 ⟨by grind, by grind⟩))
  have eT : T = V * (2 : Rat) ^ (-20 : Int) := t3.rep V (-20) (by omega) (by decide) rfl
  subst eT
  obtain ⟨p, P, p1, p2, p3⟩ := add_is hr t2 (lt_big (by rw [p20m]; exact abs_le_iff.2 ⟨by grind, by grind⟩))
  have eP : P = V + V * (2 : Rat) ^ (-20 : Int) := p3.rep (V * 1048577) (-20) (by omega) (by decide) (by rw [p20m]; push_cast; grind)
  obtain ⟨q, Q, q1, q2, q3⟩ := sub_is hr t2 (lt_big (by rw [p20m]; exact abs_le_iff.2 ⟨by grind, by grind⟩))
  have eQ : Q = V - V * (2 : Rat) ^ (-20 : Int) := q3.rep (V * 1048575) (-20) (by omega) (by decide) (by rw [p20m]; push_cast; grind)
  obtain ⟨l, L, i1, i2, hl⟩ := len_zero
  have hle : leF l p = true := by
    rw [leF_is i1 p2, eP, p20m]
    exact decide_eq_true (by grind)
  have hge : geF l q = false := by
    rw [geF_is i1 q2, eQ, p20m]
    exact decide_eq_false (by grind)
  obtain ⟨d1, d2, hd, hsub⟩ := subK_int is_zeroC hc (by omega) (by omega)
  obtain ⟨l0, hl0⟩ := len_any hd (by omega) (by omega)
  unfold cleanB
  rw [ei_1 hs (by omega) (by omega), ei_3 hc he (by omega) (by omega) b5 b6, ei_2 hc hg (by omega) (by omega) (by decide) (by omega), WithinK_int hc (by omega) (by omega), forceB_eq]
  simp only
  rw [ge_least hr v1, forceB_eq]
  simp only
  rw [le_most hr (by omega), forceB_eq]
  simp only
  rw [bindF_eq t1, hsub, hl0, sub_same h1 h2, hl, bindF_eq p1, hle, forceB_eq]
  simp only
  rw [bindF_eq q1, hge, forceB_eq]
  simp only
  rw [sub_same h1 h2, hl, bindF_eq p1, hle, forceB_eq]
  simp only
  rw [bindF_eq q1, hge, forceB_eq]
theorem cl_told {w0 w1 s1 s2 e1 e2 g2 r : Nat} {x y u v c d g V : Int} (h1 : Wd w0 x) (h2 : Wd w1 y) (b1 : x.natAbs ≤ 1000) (b2 : y.natAbs ≤ 1000) (hs : IsC s1 s2 u v) (b3 : u.natAbs ≤ 1000) (b4 : v.natAbs ≤ 1000)
    (he : IsC e1 e2 c d) (b5 : c.natAbs ≤ 2 ^ 40) (b6 : d.natAbs ≤ 2 ^ 40) (hg : IsC 0 g2 0 g) (b7 : g.natAbs ≤ 1000) (hr : Is r V) (v1 : 1 ≤ V) (v2 : V ≤ 2000) (t : Bool) (X : Option R) :
    clT (eiT CK) WithinK subK lengthK R [.int .u8 1, .complex .f64 0 0, .complex .f64 s1 s2, .float .f64 0, .int .u8 3, .complex .f64 w0 w1, .complex .f64 e1 e2, .float .f64 4607182418800017408, .int .u8 2, .complex .f64 w0 w1, .complex .f64 0 g2, .float .f64 0] w0 w1 r t X = X := by
  unfold clT
  simp only
  rw [show ((1 : Int) == 1 && (3 : Int) == 3 && (2 : Int) == 2) = true from rfl, cond_true, clean_told h1 h2 b1 b2 hs b3 b4 he b5 b6 hg b7 hr v1 v2]
  rfl
end
end Go.Vm
