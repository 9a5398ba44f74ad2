/- The moment's parts, on words; no conditions. What is wanted of a lift, and how near it is, on words; no conditions. What ForceLift computes is true whatever the input; no conditions. -/
import Derived.Test.YtnbpfafngidimaaGreatVmP62
namespace Go.Vm
open Ieee
set_option linter.unusedVariables false
set_option linter.unusedSimpArgs false

/-! ### The moment's parts -/
theorem sq_share {a0 q : Nat} {Q : Rat} (ha : Is a0 ((0 : Int) : Rat)) (iq : Is q Q) (kQ : Q.abs ≤ 2000) :
    ∃ r i A, Is r A ∧ A.abs ≤ 1000000000 ∧ Is i ((0 : Int) : Rat) ∧ ∀ (R : Type) (k : Nat → Nat → Option R), mulK R a0 q a0 q k = k r i := by
  have z0 : ((0 : Int) : Rat) = 0 := rfl
  obtain ⟨x1, ex1, ix1⟩ := mul_int ha ha (by decide)
  rw [show (0 : Int) * 0 = 0 by decide] at ix1
  have b1 := abs_mul_le kQ kQ
  obtain ⟨x2, X2, ex2, ix2, rx2⟩ := mul_is iq iq (lt_big (by grind))
  have k2 := rnd_le2 rx2 b1 (by grind)
  have b2 : (((0 : Int) : Rat) - X2).abs ≤ 8000000 := by rw [z0, show 0 - X2 = -X2 by grind, abs_neg]; grind
  obtain ⟨r, A, er, ir, rr⟩ := sub_is ix1 ix2 (lt_big (by grind))
  have kA := rnd_le2 rr b2 (by grind)
  obtain ⟨x3, X3, ex3, ix3, rx3⟩ := mul_is ha iq (lt_big (by rw [z0, show 0 * Q = 0 by grind, abs_zero]; grind))
  have e3 := rnd_zero rx3 (by rw [z0]; grind)
  obtain ⟨x4, X4, ex4, ix4, rx4⟩ := mul_is iq ha (lt_big (by rw [z0, show Q * 0 = 0 by grind, abs_zero]; grind))
  have e4 := rnd_zero rx4 (by rw [z0]; grind)
  subst e3 e4
  obtain ⟨i, ei, ii⟩ := add_int (x := 0) (y := 0) ix3 ix4 (by decide)
  refine ⟨r, i, A, ir, by grind, ii, fun R k => ?_⟩
  unfold mulK
  rw [bindF_eq ex1, bindF_eq ex2, bindF_eq er, bindF_eq ex3, bindF_eq ex4, bindF_eq ei]
theorem by_nought {a0 q : Nat} {Q : Rat} (ha : Is a0 ((0 : Int) : Rat)) (iq : Is q Q) : ∃ r i, IsC r i 0 0 ∧ ∀ (R : Type) (k : Nat → Nat → Option R), mulK R a0 q 0 0 k = k r i := by
  have z0 : ((0 : Int) : Rat) = 0 := rfl
  obtain ⟨x1, ex1, ix1⟩ := mul_int ha is_zero (by decide)
  rw [show (0 : Int) * 0 = 0 by decide] at ix1
  obtain ⟨x4, X4, ex4, ix4, rx4⟩ := mul_is iq is_zero (lt_big (by rw [z0, show Q * 0 = 0 by grind, abs_zero]; grind))
  have e4 := rnd_zero rx4 (by rw [z0]; grind)
  subst e4
  obtain ⟨r, er, ir⟩ := sub_int (x := 0) (y := 0) ix1 ix4 (by decide)
  obtain ⟨i, ei, ii⟩ := add_int (x := 0) (y := 0) ix1 ix4 (by decide)
  refine ⟨r, i, ⟨ir, ii⟩, fun R k => ?_⟩
  unfold mulK
  rw [bindF_eq ex1, bindF_eq ex4, bindF_eq er, bindF_eq ex1, bindF_eq ex4, bindF_eq ei]

/-- the moment's parts, told -/
structure Moment (a0 q w0 w1 w7 w8 d1 d2 : Nat) (g1 g2 m1 m2 o1 o2 r30 i30 t1 t2 s1 s2 v3 v4 k1 k2 j1 j2 y1 y2 z1 z2 q1 q2 l3 l4 x3 x4 w48 w49 w52 : Nat) : Prop where
  en : ∀ (R : Type) (k : Nat → Nat → Option R), negK R d1 d2 k = k g1 g2
  em : ∀ (R : Type) (k : Nat → Nat → Option R), mulK R g1 g2 0 0 k = k m1 m2
  eo : ∀ (R : Type) (k : Nat → Nat → Option R), sclK R m1 m2 4607182418800017408 k = k o1 o2
  ho : IsC o1 o2 0 0
  e30 : ∀ (R : Type) (k : Nat → Nat → Option R), mulK R a0 q a0 q k = k r30 i30
  et : ∀ (R : Type) (k : Nat → Nat → Option R), mulK R 0 0 0 0 k = k t1 t2
  es1 : ∀ (R : Type) (k : Nat → Nat → Option R), sclK R w7 w8 4607182418800017408 k = k s1 s2
  ev : ∀ (R : Type) (k : Nat → Nat → Option R), addK R t1 t2 s1 s2 k = k v3 v4
  ek : ∀ (R : Type) (k : Nat → Nat → Option R), mulK R g1 g2 v3 v4 k = k k1 k2
  ej : ∀ (R : Type) (k : Nat → Nat → Option R), sclK R k1 k2 4607182418800017408 k = k j1 j2
  ey : ∀ (R : Type) (k : Nat → Nat → Option R), sclK R j1 j2 4611686018427387904 k = k y1 y2
  ez : ∀ (R : Type) (k : Nat → Nat → Option R), addK R r30 i30 y1 y2 k = k z1 z2
  eqn : ∀ (R : Type) (k : Nat → Nat → Option R), mulK R a0 q 0 0 k = k q1 q2
  el : ∀ (R : Type) (k : Nat → Nat → Option R), mulK R q1 q2 w7 w8 k = k l3 l4
  ex : ∀ (R : Type) (k : Nat → Nat → Option R), sclK R l3 l4 4611686018427387904 k = k x3 x4
  ew : ∀ (R : Type) (k : Nat → Nat → Option R), addK R z1 z2 x3 x4 k = k w48 w49
  e52 : fbF .mul 4614256656552045848 w49 = some w52
  i52 : Is w52 0
theorem moment_is {a0 q w0 w1 w7 w8 d1 d2 : Nat} {S T V2 : Int} {Q : Rat} (ha0 : Is a0 ((0 : Int) : Rat)) (iq : Is q Q) (kQ : Q.abs ≤ 2000) (hs : IsC w7 w8 S T) (bS : S.natAbs ≤ 1000) (bT : T.natAbs ≤ 1000)
    (hd : IsC d1 d2 (S * V2) (-T * V2)) (bD1 : (S * V2).natAbs ≤ 1000 * (1000 * 1000)) (bD2 : (-T * V2).natAbs ≤ 1000 * (1000 * 1000)) :
    ∃ g1 g2 m1 m2 o1 o2 r30 i30 t1 t2 s1 s2 v3 v4 k1 k2 j1 j2 y1 y2 z1 z2 q1 q2 l3 l4 x3 x4 w48 w49 w52, Moment a0 q w0 w1 w7 w8 d1 d2 g1 g2 m1 m2 o1 o2 r30 i30 t1 t2 s1 s2 v3 v4 k1 k2 j1 j2 y1 y2 z1 z2 q1 q2 l3 l4 x3 x4 w48 w49 w52 := by
  obtain ⟨g1, g2, hn, en⟩ := negK_int hd
  obtain ⟨m1, m2, hm, _, _, em⟩ := mulK_int (p := 1000 * (1000 * 1000)) (q := 0) hn is_zeroC (by omega) (by omega) (by decide) (by decide) (by decide)
  have hm' : IsC m1 m2 0 0 := by simpa using hm
  obtain ⟨o1, o2, ho, eo⟩ := sclK_int hm' l1 (by decide) (by decide)
  have ho' : IsC o1 o2 0 0 := by simpa using ho
  obtain ⟨r30, i30, A30, ir30, kA30, ii30, e30⟩ := sq_share ha0 iq kQ
  obtain ⟨t1, t2, ht, _, _, et⟩ := mulK_int (p := 0) (q := 0) is_zeroC is_zeroC (by decide) (by decide) (by decide) (by decide) (by decide)
  have ht' : IsC t1 t2 0 0 := by simpa using ht
  obtain ⟨s1, s2, hs1, es1⟩ := sclK_int hs l1 (by omega) (by omega)
  have hs1' : IsC s1 s2 S T := by simpa using hs1
  obtain ⟨v3, v4, hv, ev⟩ := addK_int ht' hs1' (by omega) (by omega)
  have hv' : IsC v3 v4 S T := by simpa using hv
  obtain ⟨k1, k2, hk, bk1, bk2, ek⟩ := mulK_int (p := 1000 * (1000 * 1000)) (q := 1000) hn hv' (by omega) (by omega) bS bT (by decide)
  have him : -(S * V2) * T + -(-T * V2) * S = 0 := by grind
  rw [him] at hk bk2
  generalize -(S * V2) * S - -(-T * V2) * T = K1 at hk bk1
  obtain ⟨j1, j2, hj, ej⟩ := sclK_int hk l1 (by omega) (by omega)
  have hj' : IsC j1 j2 K1 0 := by simpa using hj
  obtain ⟨y1, y2, hy, ey⟩ := sclK_int hj' l2 (by omega) (by omega)
  have hy' : IsC y1 y2 (K1 * 2) 0 := by simpa using hy
  have kK : (((K1 * 2 : Int) : Rat)).abs ≤ 4000000000000 := int_le (N := 4000000000000) (by omega) rfl
  have b41 := abs_add_le A30 ((K1 * 2 : Int) : Rat)
  obtain ⟨z1, Z1, ez1, iz1, rz1⟩ := add_is ir30 hy'.1 (lt_big (by grind))
  have kZ1 := rnd_le2 rz1 (B := 5000000000000) (by grind) (by grind)
  obtain ⟨z2, ez2, iz2⟩ := add_int ii30 hy'.2 (by decide)
  have ez : ∀ (R : Type) (k : Nat → Nat → Option R), addK R r30 i30 y1 y2 k = k z1 z2 := fun R k => by unfold addK; rw [bindF_eq ez1, bindF_eq ez2]
  obtain ⟨q1, q2, hq, eqn⟩ := by_nought ha0 iq
  obtain ⟨l3, l4, hl, _, _, el⟩ := mulK_int (p := 0) (q := 1000) hq hs (by decide) (by decide) bS bT (by decide)
  have hl' : IsC l3 l4 0 0 := by simpa using hl
  obtain ⟨x3, x4, hx, ex⟩ := sclK_int hl' l2 (by decide) (by decide)
  have hx' : IsC x3 x4 0 0 := by simpa using hx
  have b48 : (Z1 + ((0 : Int) : Rat)).abs ≤ 10000000000000 := by rw [show ((0 : Int) : Rat) = 0 from rfl, show Z1 + 0 = Z1 by grind]; grind
  obtain ⟨w48, W48, ew1, _, _⟩ := add_is iz1 hx'.1 (lt_big (by grind))
  obtain ⟨w49, ew2, iw2⟩ := add_int (x := 0) (y := 0) iz2 hx'.2 (by decide)
  have ew : ∀ (R : Type) (k : Nat → Nat → Option R), addK R z1 z2 x3 x4 k = k w48 w49 := fun R k => by unfold addK; rw [bindF_eq ew1, bindF_eq ew2]
  obtain ⟨w52, W52, e52, i52, r52⟩ := mul_is is_pi iw2 (lt_big (by rw [show ((0 + 0 : Int) : Rat) = 0 from rfl, show piV * 0 = 0 by grind, abs_zero]; grind))
  have eW := rnd_zero r52 (by rw [show ((0 + 0 : Int) : Rat) = 0 from rfl]; grind)
  subst eW
  exact ⟨g1, g2, m1, m2, o1, o2, r30, i30, t1, t2, s1, s2, v3, v4, k1, k2, j1, j2, y1, y2, z1, z2, q1, q2, l3, l4, x3, x4, w48, w49, w52, ⟨en, em, eo, ho', e30, et, es1, ev, ek, ej, ey, ez, eqn, el, ex, ew, e52, i52⟩⟩
end Go.Vm
namespace Go.Vm
open Ieee
set_option linter.unusedVariables false
set_option linter.unusedSimpArgs false

/-- what is wanted, told -/
structure Wanted (w6 w7 w8 w9 w12 c1 p1 p2 : Nat) (P1 P2 : Rat) (tq k5 k6 w60 w64 w67 w69 w76 w78 w80 : Nat) (J1 J2 : Int) (L : Int) : Prop where
  etq : ∀ (R : Type) (k : Nat → Nat → Option R), timesK R w7 c1 k = k tq w7
  eW : ∀ (R : Type) (k : Nat → Nat → Option R), sclK R tq w7 (Op.negFloat .f64 w9) k = k k5 k6
  hW : IsC k5 k6 J1 J2
  e60 : fbF .add (absW k5) (absW k6) = some w60
  e64 : fbF .add (absW w7) (absW w8) = some w64
  e67 : fbF .add w64 (absW w9) = some w67
  e69 : fbF .mul w60 4427038433705197568 = some w69
  i69 : Is w69 ((L : Rat) * (2 : Rat) ^ (-40 : Int))
  nb1 : (P1 - (J1 : Rat)).abs < (2 : Rat) ^ (1023 : Int)
  nb1' : ∀ D, Rnd (P1 - (J1 : Rat)) D → D.abs ≤ (L : Rat) * (2 : Rat) ^ (-40 : Int)
  nb2 : (-P2 - (J2 : Rat)).abs < (2 : Rat) ^ (1023 : Int)
  nb2' : ∀ D, Rnd (-P2 - (J2 : Rat)) D → D.abs ≤ (L : Rat) * (2 : Rat) ^ (-40 : Int)
  e76 : fbF .mul w12 w67 = some w76
  e78 : fbF .mul w76 w67 = some w78
  e80 : fbF .mul w78 4427038433705197568 = some w80
  last : ∀ w52, Is w52 0 → leF (absW w52) w80 = true
theorem wanted_is {w6 w7 w8 w9 w12 c1 p1 p2 : Nat} {S T G V2 : Int} {P1 P2 : Rat} (h7 : Is w7 S) (h8 : Is w8 T) (h9 : Is w9 G) (bS : S.natAbs ≤ 1000) (bT : T.natAbs ≤ 1000) (bG : G.natAbs ≤ 1000) (hc1 : IsC w7 c1 S (-T))
    (h12 : Is w12 V2) (bVV : V2.natAbs ≤ 1000 * 1000) (v0 : 0 ≤ V2)
    (s1 : (P1 - (((-T * G : Int)) : Rat) * (cV * 2 * piV)).abs ≤ 12 * eps * ((((-T * G : Int)) : Rat) * (cV * 2 * piV)).abs)
    (s2 : (-P2 - (((-S * G : Int)) : Rat) * (cV * 2 * piV)).abs ≤ 12 * eps * ((((-S * G : Int)) : Rat) * (cV * 2 * piV)).abs) :
    ∃ tq k5 k6 w60 w64 w67 w69 w76 w78 w80 J1 J2 L, Wanted w6 w7 w8 w9 w12 c1 p1 p2 P1 P2 tq k5 k6 w60 w64 w67 w69 w76 w78 w80 J1 J2 L := by
  have h14 : Is (Op.negFloat .f64 w9) ((-G : Int) : Rat) := neg_int h9
  obtain ⟨tq, htq, etq⟩ := timesK_int hc1
  have bW1 := natAbs_mul_le (x := -(-T)) (u := -G) (p := 1000) (q := 1000) (by omega) (by omega)
  have bW2 := natAbs_mul_le (x := S) (u := -G) (p := 1000) (q := 1000) (by omega) (by omega)
  obtain ⟨k5, k6, hW, eW⟩ := sclK_int htq h14 (by omega) (by omega)
  have i57 := abs_int hW.1
  have i58 := abs_int hW.2
  obtain ⟨w60, e60, i60⟩ := add_int i57 i58 (by omega)
  obtain ⟨w64, e64, i64⟩ := add_int (abs_int h7) (abs_int h8) (by omega)
  obtain ⟨w67, e67, i67⟩ := add_int i64 (abs_int h9) (by omega)
  generalize hL : ((((-(-T) * -G).natAbs : Nat) : Int) + (((S * -G).natAbs : Nat) : Int)) = L at i60
  generalize hN : ((((S.natAbs : Nat) : Int) + ((T.natAbs : Nat) : Int)) + ((G.natAbs : Nat) : Int)) = N3 at i67
  have kL : ((L : Rat)).abs ≤ 2000000 := int_le (N := 2000000) (by omega) rfl
  have kM : ((L : Rat) * (2 : Rat) ^ (-40 : Int)).abs ≤ 2000000 := by
    rw [p40m, abs_mul, Rat.abs_of_nonneg (show (0 : Rat) ≤ 1 / 1099511627776 by grind)]
    have := abs_nonneg (L : Rat)
    grind
  obtain ⟨w69, W69, e69, i69, r69⟩ := mul_is i60 is_m40 (lt_big (by grind))
  have eq69 : W69 = (L : Rat) * (2 : Rat) ^ (-40 : Int) := r69.rep L (-40) (by omega) (by decide) rfl
  subst eq69
  have bk : (cV * 2 * piV - 1).abs ≤ eps := two_pi_c
  have gW1 : ((-(-T) * -G : Int) : Rat) = ((-T * G : Int) : Rat) := congrArg _ (by grind)
  have gW2 : ((S * -G : Int) : Rat) = ((-S * G : Int) : Rat) := congrArg _ (by grind)
  have nL : (L : Rat) ≤ 10000000 := by have := (abs_le_iff.1 kL).2; grind
  have aL1 : (((-T * G : Int) : Rat)).abs ≤ (L : Rat) := by
    rw [int_abs]
    have : (((-T * G).natAbs : Nat) : Int) ≤ L := by
      rw [← hL]
      have : (-T * G).natAbs = (-(-T) * -G).natAbs := congrArg _ (by grind)
      omega
    exact Rat.intCast_le_intCast.2 this
  have aL2 : (((-S * G : Int) : Rat)).abs ≤ (L : Rat) := by
    rw [int_abs]
    have : (((-S * G).natAbs : Nat) : Int) ≤ L := by
      rw [← hL]
      have : (-S * G).natAbs = (S * -G).natAbs := congrArg _ (by grind)
      omega
    exact Rat.intCast_le_intCast.2 this
  obtain ⟨nb1, nb1'⟩ := near_bound (near_int s1 bk gW1) aL1 nL
  obtain ⟨nb2, nb2'⟩ := near_bound (near_int s2 bk gW2) aL2 nL
  have bN3 : N3.natAbs ≤ 3000 := by omega
  have c1' := natAbs_mul_le bVV bN3
  obtain ⟨w76, e76, i76⟩ := mul_int h12 i67 (by omega)
  have c2' := natAbs_mul_le c1' bN3
  obtain ⟨w78, e78, i78⟩ := mul_int i76 i67 (by omega)
  have kF0 : 0 ≤ V2 * N3 * N3 := by
    exact Int.mul_nonneg (Int.mul_nonneg v0 (by omega)) (by omega)
  generalize V2 * N3 * N3 = F at i78 c2' kF0
  have kF : ((F : Rat)).abs ≤ 9000000000000 := int_le (N := 9000000000000) (by omega) rfl
  have kFM : ((F : Rat) * (2 : Rat) ^ (-40 : Int)).abs ≤ 9000000000000 := by
    rw [p40m, abs_mul, Rat.abs_of_nonneg (show (0 : Rat) ≤ 1 / 1099511627776 by grind)]
    have := abs_nonneg (F : Rat)
    grind
  obtain ⟨w80, W80, e80, i80, r80⟩ := mul_is i78 is_m40 (lt_big (by grind))
  have eq80 : W80 = (F : Rat) * (2 : Rat) ^ (-40 : Int) := r80.rep F (-40) (by omega) (by decide) rfl
  subst eq80
  have last : ∀ w52, Is w52 0 → leF (absW w52) w80 = true := fun w52 i52 => by
    rw [leF_is (abs_is i52) i80, abs_zero, p40m]
    have : ((0 : Int) : Rat) ≤ (F : Rat) := Rat.intCast_le_intCast.2 kF0
    exact decide_eq_true (by grind)
  exact ⟨tq, k5, k6, w60, w64, w67, w69, w76, w78, w80, _, _, L, ⟨etq, eW, hW, e60, e64, e67, e69, i69, nb1, nb1', nb2, nb2', e76, e78, e80, last⟩⟩
end Go.Vm
namespace Go.Vm
open Ieee
set_option linter.unusedVariables false
set_option linter.unusedSimpArgs false

/-! ### ForceLift's law, in plain -/
theorem conj_eq {R : Type} (a b : Nat) (k : Nat → Nat → Option R) : conjK R a b k = k a (Op.negFloat .f64 b) := by
  unfold conjK
  rw [forceN_eq]
theorem fC_is {R : Type} {a b : Nat} {x y : Rat} (h : Is a x) (g : Is b y) (X : Option R) : fCT FiniteK R a b X = X := by
  unfold fCT
  rw [FiniteK_yes h g]
  rfl
theorem fF_is {R : Type} {a : Nat} {x : Rat} (h : Is a x) (X : Option R) : fFT finiteK R a X = X := by
  unfold fFT
  rw [finiteK_yes h]
  rfl
theorem absK_eq {R : Type} (w : Nat) (k : Nat → Option R) : absK R w k = k (absW w) := rfl
theorem lift_true (s t turn x y radius : Int) {R : Type} (k : Bool → Option R) :
    liftB wholeG absK modK (eiT CK) (fitT WithinK) conjK negK timesK sclK (clT (eiT CK) WithinK subK lengthK) (sdT subK lengthK) subK addK mulK (fCT FiniteK) (fFT finiteK) (nrT absK) R s t turn x y radius k = k true := by
  obtain ⟨X, bX, w0, h0, e0⟩ := whole_any x
  obtain ⟨Y, bY, w1, h1, e1⟩ := whole_any y
  obtain ⟨Z, bZ, w2, h2, e2⟩ := whole_any radius
  obtain ⟨S, bS, w7, h7, e7⟩ := whole_any s
  obtain ⟨T, bT, w8, h8, e8⟩ := whole_any t
  obtain ⟨G, bG, w9, h9, e9⟩ := whole_any turn
  have c40 : (1000 : Nat) ≤ 2 ^ 40 := by decide
  obtain ⟨w4, N, n0, n1, h4, e4⟩ := mod_told (abs_int h2.1) bZ
  obtain ⟨w6, e6, h6⟩ := add_int l1 h4 (by omega)
  have v1 : 1 ≤ 1 + N := by omega
  have v2 : 1 + N ≤ 1000 := by omega
  generalize 1 + N = V at h6 v1 v2
  have bV : V.natAbs ≤ 1000 := by omega
  have hs : IsC w7 w8 S T := ⟨h7.1, h8.1⟩
  have hc : IsC w0 w1 X Y := ⟨h0.1, h1.1⟩
  obtain ⟨c1, hc1, ec1⟩ := conjK_int hs
  have bVV := natAbs_mul_le bV bV
  obtain ⟨w12, e12, h12⟩ := mul_int h6 h6 (by omega)
  have v0 : 0 ≤ V * V := Int.mul_nonneg (by omega) (by omega)
  generalize V * V = V2 at h12 bVV v0
  have bD1 := natAbs_mul_le bS bVV
  have bD2 := natAbs_mul_le (x := -T) (p := 1000) (by omega) bVV
  obtain ⟨d1, d2, hd, ed⟩ := sclK_int hc1 h12 (by omega) (by omega)
  have h14 : Is (Op.negFloat .f64 w9) ((-G : Int) : Rat) := neg_int h9.1
  have hg : IsC 0 (Op.negFloat .f64 w9) 0 (-G) := ⟨is_zero, h14⟩
  obtain ⟨w16, e16, h16⟩ := mul_int l2 h6 (by omega)
  obtain ⟨u1, u2, _, eu⟩ := subK_int hc is_zeroC (by omega) (by omega)
  -- the share
  have kG : (((-G : Int) : Rat)).abs ≤ 1000 := int_le (N := 1000) (by omega) rfl
  obtain ⟨a0, A0, ea0, ia0, ra0⟩ := mul_is is_zero is_c (lt_big (by rw [show ((0 : Int) : Rat) = 0 from rfl, show 0 * cV = 0 by grind, abs_zero]; grind))
  have eA := rnd_zero ra0 (by rw [show ((0 : Int) : Rat) = 0 from rfl]; grind)
  subst eA
  have ha0 : Is a0 ((0 : Int) : Rat) := ia0
  have bQ := abs_mul_le kG cV_abs
  obtain ⟨q, Q, eq, iq, rq⟩ := mul_is h14 is_c (lt_big (by grind))
  have kQ0 := rnd_le2 rq bQ (by grind)
  have kQ : Q.abs ≤ 2000 := by grind
  have esc : ∀ (R : Type) (k : Nat → Nat → Option R), sclK R 0 (Op.negFloat .f64 w9) 4594902181429758083 k = k a0 q := fun R k => by
    unfold sclK
    rw [bindF_eq ea0, bindF_eq eq]
  have EI1 : ∀ X : Option R, eiT CK R 1 0 0 w7 w8 0 X = X := fun X => ei_1 hs (by omega) (by omega) X
  have EI2 : ∀ X : Option R, eiT CK R 2 w0 w1 0 (Op.negFloat .f64 w9) 0 X = X := fun X => ei_2 hc hg (by omega) (by omega) (by decide) (by omega) X
  have EI3 : ∀ X : Option R, eiT CK R 3 w0 w1 d1 d2 4607182418800017408 X = X := fun X => ei_3 hc hd (by omega) (by omega) (by omega) (by omega) X
  have SD2 : ∀ X : Option R, sdT subK lengthK R 2 w0 w1 0 (Op.negFloat .f64 w9) 0 w0 w1 w16 X = X := fun X => side_in (.inl rfl) h0 h1 h16 (by omega) _ X
  have SD3 : ∀ X : Option R, sdT subK lengthK R 3 w0 w1 d1 d2 4607182418800017408 w0 w1 w16 X = X := fun X => side_in (.inr rfl) h0 h1 h16 (by omega) _ X
  have CL : ∀ (t : Bool) (X : Option R), clT (eiT CK) WithinK subK lengthK R [.int .u8 1, .complex .f64 0 0, .complex .f64 w7 w8, .float .f64 0, .int .u8 3, .complex .f64 w0 w1, .complex .f64 d1 d2, .float .f64 4607182418800017408, .int .u8 2, .complex .f64 w0 w1, .complex .f64 0 (Op.negFloat .f64 w9), .float .f64 0] w0 w1 w16 t X = X :=
    fun t X => cl_told h0 h1 bX bY hs bS bT hd (by omega) (by omega) hg (by omega) h16 (by omega) (by omega) t X
  obtain ⟨g1, g2, m1, m2, o1, o2, r30, i30, t1, t2, s1, s2, v3, v4, k1, k2, j1, j2, y1, y2, z1, z2, q1, q2, l3, l4, x3, x4, w48, w49, w52, M⟩ := moment_is (w0 := w0) (w1 := w1) ha0 iq kQ hs bS bT hd bD1 bD2
  obtain ⟨p1, p2, P1, P2, _, _, b1, b2, f1, f2, r1, r2, hsh⟩ := share_is ha0 iq rq h7.1 h8.1 bG bS bT M.ho
  obtain ⟨tq, k5, k6, w60, w64, w67, w69, w76, w78, w80, J1, J2, L, W⟩ := wanted_is (w6 := w6) (p1 := p1) (p2 := p2) h7.1 h8.1 h9.1 bS bT bG hc1 h12 bVV v0 hsh.c1 hsh.c2
  unfold liftB
  refine (e0 _ _).trans ((e1 _ _).trans ((e2 _ _).trans ?_))
  refine (absK_eq _ _).trans ((e4 _ _).trans ?_)
  refine (bindF_eq e6).trans ((e7 _ _).trans ((e8 _ _).trans ((e9 _ _).trans ?_)))
  refine (EI1 _).trans ((fit_told hc (by omega) (by omega) h6 v1 (by omega) _).trans ((ec1 _ _).trans ((bindF_eq e12).trans ((ed _ _).trans ?_))))
  refine (EI1 _).trans ((EI3 _).trans ((forceN_eq _ _).trans ((EI1 _).trans ((EI3 _).trans ((EI2 _).trans ((bindF_eq e16).trans ?_))))))
  refine (CL _ _).trans ((EI1 _).trans ((EI3 _).trans ((SD3 _).trans ((EI1 _).trans ((eu _ _).trans ((EI3 _).trans ((SD3 _).trans ((EI2 _).trans ((esc _ _).trans ((SD2 _).trans ?_))))))))))
  refine (M.en _ _).trans ((M.em _ _).trans ((M.eo _ _).trans ((EI2 _).trans ((esc _ _).trans ((SD2 _).trans ((EI1 _).trans ((eu _ _).trans ((EI3 _).trans ((SD3 _).trans ((EI2 _).trans ((esc _ _).trans ((SD2 _).trans ?_))))))))))))
  refine (esc _ _).trans ((hsh.mul _ _).trans ((hsh.add _ _).trans ((hsh.two _ _).trans ((hsh.fin _ _).trans ((CL _ _).trans ((side_stream hc bX bY _ _).trans ((SD3 _).trans ((SD2 _).trans ?_))))))))
  refine (esc _ _).trans ((M.e30 _ _).trans ((sub_same h0 h1 _).trans ((eu _ _).trans ((M.et _ _).trans ((eu _ _).trans ((M.es1 _ _).trans ((M.ev _ _).trans ((M.en _ _).trans ((M.ek _ _).trans ((M.ej _ _).trans ((M.ey _ _).trans ((M.ez _ _).trans ?_))))))))))))
  refine (sub_same h0 h1 _).trans ((esc _ _).trans ((eu _ _).trans ((M.eqn _ _).trans ((M.el _ _).trans ((M.ex _ _).trans ((M.ew _ _).trans ((hsh.pi _ _).trans ?_)))))))
  refine (conj_eq _ _ _).trans ((bindF_eq M.e52).trans ?_)
  refine (fC_is hsh.i1 (neg_is hsh.i2) _).trans ((fF_is M.i52 _).trans ?_)
  refine Eq.trans (ec1 _ _) ?_
  refine (W.etq _ _).trans ((forceN_eq _ _).trans ((W.eW _ _).trans ?_))
  refine (absK_eq _ _).trans ((absK_eq _ _).trans ?_)
  refine (bindF_eq W.e60).trans ?_
  refine (absK_eq _ _).trans ((absK_eq _ _).trans ?_)
  refine (bindF_eq W.e64).trans ?_
  refine (absK_eq _ _).trans ?_
  refine (bindF_eq W.e67).trans ((bindF_eq W.e69).trans ?_)
  refine (near_told hsh.i1 W.hW.1 W.i69 W.nb1 W.nb1' _).trans ((bindF_eq W.e69).trans ?_)
  refine (near_told (neg_is hsh.i2) W.hW.2 W.i69 W.nb2 W.nb2' _).trans ?_
  refine (absK_eq _ _).trans ?_
  refine (bindF_eq e12).trans ((bindF_eq W.e76).trans ((bindF_eq W.e78).trans ((bindF_eq W.e80).trans ?_)))
  rw [W.last _ M.i52]
  rfl
end Go.Vm
