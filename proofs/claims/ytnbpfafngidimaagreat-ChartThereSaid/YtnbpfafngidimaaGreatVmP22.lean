/- A Moebius map on words, there and back; no conditions. -/
import Derived.Test.YtnbpfafngidimaaGreatVmP21
namespace Go.Vm
open Ieee Cq
set_option linter.unusedVariables false
set_option linter.unusedSimpArgs false

set_option maxHeartbeats 4000000 in
/-- THE OTHER KIND: a Moebius map of whole parts, there and back. -/
theorem moeb_law {m : Mp} {M : GM} (hm : IsM m M) (lm : M.Le 8) {a b : Nat} {x y : Int} (hz : IsC a b x y) (x8 : x.natAbs ≤ 8) (y8 : y.natAbs ≤ 8) :
    (∃ e, (e = 180 ∨ e = 6) ∧ ∀ (R : Type) (ke : Int → Option R) (k : Nat → Nat → Option R), atK R m a b ke k = ke e) ∨
    ∃ w1 w2 b1 b2, (∀ (R : Type) (ke : Int → Option R) (k : Nat → Nat → Option R), atK R m a b ke k = k w1 w2) ∧ (∀ (R : Type) (ke : Int → Option R) (k : Nat → Nat → Option R), bk1K R m w1 w2 ke k = k b1 b2) ∧
      (∀ (R : Type) (k : Bool → Option R), nearK R b1 b2 a b 4517110426252607488 k = k true) := by
  have het := eps_tiny
  have he := eps_pos
  have hee := Rat.mul_nonneg (Rat.le_of_lt he) (Rat.le_of_lt he)
  have hzq := intQ hz
  have z8 := bd8 x8 y8
  by_cases hd : M.No
  · left
    refine ⟨180, .inl rfl, fun R ke k => ?_⟩
    unfold atK atB
    rw [chkK_int hm lm (by decide) (by decide), if_pos hd, forceB_eq]
    rfl
  obtain ⟨s1, t1, i1, b1, b2, e1⟩ := mulK_int (p := 8) (q := 8) hm.c hz lm.c1 lm.c2 x8 y8 (by decide)
  have bd1 := lm.d1
  have bd2 := lm.d2
  obtain ⟨s2, t2, i2, e2⟩ := addK_int i1 hm.d (by omega) (by omega)
  obtain ⟨s3, t3, i3, b3, b4, e3⟩ := mulK_int (p := 8) (q := 8) hm.a hz lm.a1 lm.a2 x8 y8 (by decide)
  have bb1 := lm.b1
  have bb2 := lm.b2
  obtain ⟨s4, t4, i4, e4⟩ := addK_int i3 hm.b (by omega) (by omega)
  have E1 : M.c1 * x - M.c2 * y + M.d1 = M.e1 x y := rfl
  have E2 : M.c1 * y + M.c2 * x + M.d2 = M.e2 x y := rfl
  have N1 : M.a1 * x - M.a2 * y + M.b1 = M.n1 x y := rfl
  have N2 : M.a1 * y + M.a2 * x + M.b2 = M.n2 x y := rfl
  have hun : ∀ (R : Type) (k : Nat → Nat → Option R), underK R m a b k = k s2 t2 := fun R k => by
    unfold underK underB
    rw [e1, e2]
  rw [E1, E2] at i2
  rw [N1, N2] at i4
  by_cases h0 : M.e1 x y = 0 ∧ M.e2 x y = 0
  · left
    refine ⟨6, .inr rfl, fun R ke k => ?_⟩
    unfold atK atB
    rw [chkK_int hm lm (by decide) (by decide), if_neg hd, forceB_eq]
    simp only [bne_self_eq_false]
    rw [placeK_int hz (by omega) (by omega), forceB_eq]
    simp only
    unfold moebK moebB
    rw [hun, noughtK_int i2, forceB_eq]
    simp only [h0, and_self, decide_true]
    exact errIn_eq ke (by decide)
  right
  have en := sq_one h0
  have be : Bd ⟨(M.e1 x y : Int), (M.e2 x y : Int)⟩ 136 := int_bd (n := 136) (by rw [← E1]; omega) (by rw [← E2]; omega)
  have bn : Bd ⟨(M.n1 x y : Int), (M.n2 x y : Int)⟩ 136 := int_bd (n := 136) (by rw [← N1]; omega) (by rw [← N2]; omega)
  have qe := intQ i2
  have qn := intQ i4
  have qa := intQ hm.a
  have qb := intQ hm.b
  have qc := intQ hm.c
  have qd := intQ hm.d
  have ba := bd8 lm.a1 lm.a2
  have bb := bd8 lm.b1 lm.b2
  have bc := bd8 lm.c1 lm.c2
  have bdd := bd8 lm.d1 lm.d2
  have hE : Cq.mk (M.e1 x y : Int) (M.e2 x y : Int) = Cq.add (Cq.mul ⟨M.c1, M.c2⟩ ⟨x, y⟩) ⟨M.d1, M.d2⟩ := by
    rw [← E1, ← E2]; push_cast; rfl
  have hN : Cq.mk (M.n1 x y : Int) (M.n2 x y : Int) = Cq.add (Cq.mul ⟨M.a1, M.a2⟩ ⟨x, y⟩) ⟨M.b1, M.b2⟩ := by
    rw [← N1, ← N2]; push_cast; rfl
  have hdet : 1 ≤ (Cq.sub (Cq.mul ⟨M.a1, M.a2⟩ ⟨M.d1, M.d2⟩) (Cq.mul ⟨M.b1, M.b2⟩ ⟨M.c1, M.c2⟩)).n := by
    have := sq_one (x := M.x) (y := M.y) hd
    have e : Cq.mk (M.x : Int) (M.y : Int) = Cq.sub (Cq.mul ⟨M.a1, M.a2⟩ ⟨M.d1, M.d2⟩) (Cq.mul ⟨M.b1, M.b2⟩ ⟨M.c1, M.c2⟩) := by
      unfold GM.x GM.y; push_cast; rfl
    rw [e] at this
    exact this
  have hchk : ∀ (R : Type) (k : Int → Option R), chkK R m k = k 0 := fun R k => by rw [chkK_int hm lm (by decide) (by decide), if_neg hd]
  generalize Cq.mk (M.e1 x y : Int) (M.e2 x y : Int) = E at *
  generalize Cq.mk (M.n1 x y : Int) (M.n2 x y : Int) = N at *
  generalize Cq.mk (x : Rat) (y : Rat) = z at *
  generalize Cq.mk (M.a1 : Rat) (M.a2 : Rat) = A at *
  generalize Cq.mk (M.b1 : Rat) (M.b2 : Rat) = B at *
  generalize Cq.mk (M.c1 : Rat) (M.c2 : Rat) = C at *
  generalize Cq.mk (M.d1 : Rat) (M.d2 : Rat) = D at *
  have nE : E.n ≤ 36992 := by have := n_le be.1 be.2; grind
  have nN : N.n ≤ 36992 := by have := n_le bn.1 bn.2; grind
  obtain ⟨u, hu⟩ := quo_ex N (b := E) (by grind)
  have bu : Bd u 193 := by
    have k1 := n_mul u E
    rw [hu] at k1
    have k2 := Rat.mul_le_mul_of_nonneg_left en u.n_nonneg
    have k3 := le_n (a := u) (show (0 : Rat) ≤ 193 by decide) (by grind)
    exact ⟨k3.1, k3.2⟩
  obtain ⟨w1, w2, W, iw, nw, ew⟩ := divQ qn qe (by grind) (be.mono (by grind)) hu bu (by grind) (by grind)
  have bw : Bd W 194 := (nw.bd bu).mono (by grind)
  -- the divisor of the way back
  obtain ⟨p1, q1, X, iX, nX, eX⟩ := mulQ qc iw bc bw (B := 1552) (by grind) (by grind) (by grind)
  have nX' : Nr X (Cq.mul C u) (105100 * eps) := (nX.trans (nw.mulLeft bc)).mono (by grind)
  have bX : Bd X 3200 := (nX'.bd (bc.mul bu)).mono (by grind)
  obtain ⟨g1, g2, g, ig, ng, eg⟩ := subQ qa iX (B := 3300) ((ba.sub bX).mono (by grind)) (by grind) (by grind)
  have ng' : Nr g (Cq.sub A (Cq.mul C u)) (108500 * eps) := (ng.trans ((Nr.refl A).sub nX')).mono (by grind)
  obtain ⟨p2, q2, Y, iY, nY, eY⟩ := mulQ qd iw bdd bw (B := 1552) (by grind) (by grind) (by grind)
  have nY' : Nr Y (Cq.mul D u) (105100 * eps) := (nY.trans (nw.mulLeft bdd)).mono (by grind)
  have bY : Bd Y 3200 := (nY'.bd (bdd.mul bu)).mono (by grind)
  obtain ⟨n1, n2, n, inn, nn, enn⟩ := subQ iY qb (B := 3300) ((bY.sub bb).mono (by grind)) (by grind) (by grind)
  have nn' : Nr n (Cq.sub (Cq.mul D u) B) (108500 * eps) := (nn.trans (nY'.sub (Nr.refl B))).mono (by grind)
  -- what they are exactly
  have hγ : Cq.mul (Cq.sub A (Cq.mul C u)) E = Cq.sub (Cq.mul A D) (Cq.mul B C) := by
    have k1 : Cq.mul (Cq.sub A (Cq.mul C u)) E = Cq.sub (Cq.mul A E) (Cq.mul C (Cq.mul u E)) := ext' (by simp only [Cq.mul, Cq.sub]; grind) (by simp only [Cq.mul, Cq.sub]; grind)
    rw [k1, hu, hE, hN]
    exact ext' (by simp only [Cq.mul, Cq.sub, Cq.add]; grind) (by simp only [Cq.mul, Cq.sub, Cq.add]; grind)
  have hν : Cq.sub (Cq.mul D u) B = Cq.mul z (Cq.sub A (Cq.mul C u)) := by
    refine mul_cancel (b := E) ?_ (by grind)
    have k1 : Cq.mul (Cq.sub (Cq.mul D u) B) E = Cq.sub (Cq.mul D (Cq.mul u E)) (Cq.mul B E) := ext' (by simp only [Cq.mul, Cq.sub]; grind) (by simp only [Cq.mul, Cq.sub]; grind)
    have k2 : Cq.mul (Cq.mul z (Cq.sub A (Cq.mul C u))) E = Cq.mul z (Cq.mul (Cq.sub A (Cq.mul C u)) E) := ext' (by simp only [Cq.mul, Cq.sub]; grind) (by simp only [Cq.mul, Cq.sub]; grind)
    rw [k1, k2, hγ, hu, hE, hN]
    exact ext' (by simp only [Cq.mul, Cq.sub, Cq.add]; grind) (by simp only [Cq.mul, Cq.sub, Cq.add]; grind)
  have nγ : 1 / 36992 ≤ (Cq.sub A (Cq.mul C u)).n := by
    have k1 := n_mul (Cq.sub A (Cq.mul C u)) E
    rw [hγ] at k1
    have k2 := Rat.mul_le_mul_of_nonneg_left nE (Cq.sub A (Cq.mul C u)).n_nonneg
    grind
  generalize hγe : Cq.sub A (Cq.mul C u) = γ at *
  rw [hν] at nn'
  have sg := ng'.n
  have sn := nn'.n
  have gn : 1 / 37400 ≤ g.n := by
    have k := n_add' g (Cq.sub γ g)
    rw [show Cq.add g (Cq.sub γ g) = γ from ext' (by simp only [Cq.add, Cq.sub]; grind) (by simp only [Cq.add, Cq.sub]; grind), n_sub_comm] at k
    rw [eps_val] at *
    grind
  have bg : Bd g 10000 := (ng.bd (ba.sub bX)).mono (by grind)
  obtain ⟨β, hβ⟩ := quo_ex n (b := g) (by grind)
  have zn2 : z.n ≤ 128 := by have := n_le z8.1 z8.2; grind
  have nβ : (Cq.sub β z).n ≤ 230000000000000000 * (eps * eps) := by
    have k1 : Cq.mul (Cq.sub β z) g = Cq.sub (Cq.sub n (Cq.mul z γ)) (Cq.mul z (Cq.sub g γ)) := by
      have hx := congrArg Cq.x hβ
      have hy := congrArg Cq.y hβ
      simp only [Cq.mul] at hx hy
      exact ext' (by simp only [Cq.mul, Cq.sub]; grind) (by simp only [Cq.mul, Cq.sub]; grind)
    have k2 := n_mul (Cq.sub β z) g
    rw [k1] at k2
    have k3 := n_sub (Cq.sub n (Cq.mul z γ)) (Cq.mul z (Cq.sub g γ))
    have k4 := n_mul_le zn2 sg
    have k5 := Rat.mul_le_mul_of_nonneg_left gn (Cq.sub β z).n_nonneg
    rw [eps_val] at *
    grind
  have bβ : Bd β 9 := by
    have k := le_n (a := Cq.sub β z) (m := 1) (by grind) (by rw [eps_val] at nβ; grind)
    have k2 := Bd.add (a := Cq.sub β z) (m := 1) ⟨k.1, k.2⟩ z8
    rw [show Cq.add (Cq.sub β z) z = β from ext' (by simp only [Cq.add, Cq.sub]; grind) (by simp only [Cq.add, Cq.sub]; grind)] at k2
    exact k2.mono (by grind)
  obtain ⟨r1, r2, v, iv, nv, ev⟩ := divQ inn ig (by grind) (bg.mono (by grind)) hβ bβ (by grind) (by grind)
  have bv : Bd v 10 := (nv.bd bβ).mono (by grind)
  refine ⟨w1, w2, r1, r2, fun R ke k => ?_, fun R ke k => ?_, fun R k => ?_⟩
  · unfold atK atB
    rw [hchk, forceB_eq]
    simp only [bne_self_eq_false]
    rw [placeQ hzq (z8.mono (by grind)), forceB_eq]
    simp only
    unfold moebK moebB
    rw [hun, noughtK_int i2, forceB_eq]
    simp only [h0, decide_false]
    rw [e3, e4, ew, FiniteK_yes iw.1 iw.2, forceB_eq]
  · unfold bk1K atLB
    rw [hchk, forceB_eq]
    simp only [bne_self_eq_false]
    rw [placeQ iw (bw.mono (by grind)), forceB_eq]
    simp only
    unfold mbackK moebBackB
    rw [eX, eg, noughtQ ig (by grind), forceB_eq]
    simp only
    rw [eY, enn, ev, placeQ iv (bv.mono (by grind)), forceB_eq]
  · have k1 := n_tri v β z
    have k2 := nv.n
    have k := le_n (a := Cq.sub v z) (m := 1 / 3145728) (by grind) (by rw [eps_val] at *; grind)
    exact nearQ_yes iv hzq is_m20 ⟨k.1, k.2⟩ (by grind) (by grind) (by grind) _
end Go.Vm
