/- A part of the evaluator and of what is told of floats; no conditions. -/
import Derived.Test.YtnbpfafngidimaaGreatVmRD3
import Derived.Test.YtnbpfafngidimaaGreatVmRE0
namespace Go.Vm
open Ieee
set_option linter.unusedVariables false
set_option linter.unusedSimpArgs false

/-- A LENGTH, FROM BELOW TOO -/
theorem lengthK_low {a b : Nat} {x y d : Rat} (ha : Is a x) (hb : Is b y) (hx : x.abs ≤ d) (hy : y.abs ≤ d) (d1 : (2 : Rat) ^ (-900 : Int) ≤ d) (d2 : d ≤ (2 : Rat) ^ (400 : Int)) :
    ∃ r L, Is r L ∧ L ≤ 2 * d ∧ (x = 0 → y = 0 → L = 0) ∧ (1 ≤ x.abs ∨ 1 ≤ y.abs → x.abs ≤ 5 * L ∧ y.abs ≤ 5 * L) ∧ ∀ (R : Type) (k : Nat → Option R), lengthK R a b k = k r := by
  have hd0 : 0 < d := by have := p2_pos (-900); grind
  obtain ⟨g, G, hg, gx, gy, hG, hgk⟩ := greatestK_is ha hb
  have hpre : ∀ (R : Type) (k : Nat → Option R), lengthK R a b k = forceB (eqF g 0) fun t => match t with
      | true => k 0
      | false => scaledK R a b fun x y e => squareK R x y fun s => sqrtK R s fun r => scaleK R r e k := fun R k => by
    unfold lengthK lengthB
    rw [isInfK_no ha, forceB_eq]
    simp only
    rw [isInfK_no hb, forceB_eq]
    simp only
    rw [isNanK_no ha, forceB_eq]
    simp only
    rw [isNanK_no hb, forceB_eq]
    simp only
    rw [hgk]
    rfl
  by_cases hG0 : G = 0
  · refine ⟨0, 0, by simpa using is_zero, by grind, fun _ _ => rfl, fun h => absurd h (by grind), fun R k => ?_⟩
    rw [hpre, forceB_eq, eqF_is hg is_zero]
    simp [hG0]
  have hGd : G ≤ d := by rcases hG with h | h <;> grind
  have hGp : 0 < G := by have := abs_nonneg x; grind
  have hGa : G.abs = G := Rat.abs_of_nonneg (Rat.le_of_lt hGp)
  obtain ⟨w, n, n1, n2, n3, n4, hfr⟩ := frexpK_is hg hG0
  rw [hGa] at n1 n2
  have n5 : n ≤ 401 := by
    refine Int.not_lt.1 fun h => ?_
    have h1 := p2_le (show (401 : Int) ≤ n - 1 by omega)
    have h2 := p2_half 401
    rw [show (401 - 1 : Int) = 400 by decide] at h2
    have := p2_pos 400
    grind
  have pn := p2_pos (-n)
  have hcan : (2 : Rat) ^ n * (2 : Rat) ^ (-n) = 1 := p2_cancel n
  have hhalf : (2 : Rat) ^ (n - 1) * (2 : Rat) ^ (-n) = 1 / 2 := by
    have := p2_half n
    have h3 : (2 : Rat) ^ n * (2 : Rat) ^ (-n) = 2 * ((2 : Rat) ^ (n - 1) * (2 : Rat) ^ (-n)) := by rw [this]; grind
    grind
  have hD : 1 / 2 ≤ d * (2 : Rat) ^ (-n) := by
    have := Rat.mul_le_mul_of_nonneg_right (Rat.le_trans n1 hGd) (Rat.le_of_lt pn)
    rwa [hhalf] at this
  have up : ∀ {u : Rat}, u.abs ≤ G → u.abs ≤ d → (u * (2 : Rat) ^ (-n)).abs < 1 ∧ (u * (2 : Rat) ^ (-n)).abs ≤ d * (2 : Rat) ^ (-n) := fun {u} h1 h2 => by
    rw [abs_mul, p2_abs]
    have g1 := Rat.mul_lt_mul_of_pos_right (show u.abs < (2 : Rat) ^ n by grind) pn
    have g2 := Rat.mul_le_mul_of_nonneg_right h2 (Rat.le_of_lt pn)
    rw [hcan] at g1
    exact ⟨g1, g2⟩
  obtain ⟨ux1, ux2⟩ := up gx hx
  obtain ⟨uy1, uy2⟩ := up gy hy
  have hlow : 1 / 2 ≤ (x * (2 : Rat) ^ (-n)).abs ∨ 1 / 2 ≤ (y * (2 : Rat) ^ (-n)).abs := by
    have := Rat.mul_le_mul_of_nonneg_right n1 (Rat.le_of_lt pn)
    rw [hhalf] at this
    rcases hG with h | h
    · left; rw [abs_mul, p2_abs, ← h]; exact this
    · right; rw [abs_mul, p2_abs, ← h]; exact this
  obtain ⟨r1, X, i1, q1, s1⟩ := scaleK_is (n := -n) ha (by omega) (by omega) (lt_p2_1023 (by grind))
  obtain ⟨r2, Y, i2, q2, s2⟩ := scaleK_is (n := -n) hb (by omega) (by omega) (lt_p2_1023 (by grind))
  have c1 := q1.coarse
  have c2 := q2.coarse
  have ht : (2 : Rat) ^ (-1075 : Int) ≤ 1 / 1000 := p2_small (by decide)
  have ht0 := p2_pos (-1075)
  generalize hDD : d * (2 : Rat) ^ (-n) = D at *
  generalize x * (2 : Rat) ^ (-n) = X0 at *
  generalize y * (2 : Rat) ^ (-n) = Y0 at *
  generalize htt : (2 : Rat) ^ (-1075 : Int) = t at *
  have aX : X.abs ≤ X0.abs + (X - X0).abs := by have := abs_add_le (X - X0) X0; rw [show X - X0 + X0 = X by grind] at this; grind
  have aY : Y.abs ≤ Y0.abs + (Y - Y0).abs := by have := abs_add_le (Y - Y0) Y0; rw [show Y - Y0 + Y0 = Y by grind] at this; grind
  have aX' : X0.abs ≤ X.abs + (X - X0).abs := by have := abs_add_le X (X0 - X); rw [show X + (X0 - X) = X0 by grind, abs_sub_comm X0 X] at this; exact this
  have aY' : Y0.abs ≤ Y.abs + (Y - Y0).abs := by have := abs_add_le Y (Y0 - Y); rw [show Y + (Y0 - Y) = Y0 by grind, abs_sub_comm Y0 Y] at this; exact this
  have bX : X.abs ≤ 51 / 50 * D := by grind
  have bY : Y.abs ≤ 51 / 50 * D := by grind
  have bX1 : X.abs ≤ 51 / 50 := by grind
  have bY1 : Y.abs ≤ 51 / 50 := by grind
  have sX := sq_le bX
  have sY := sq_le bY
  have sX1 := sq_le bX1
  have sY1 := sq_le bY1
  have zX := sq_nonneg X
  have zY := sq_nonneg Y
  have aXX : (X * X).abs = X * X := Rat.abs_of_nonneg zX
  have aYY : (Y * Y).abs = Y * Y := Rat.abs_of_nonneg zY
  obtain ⟨r3, Pp, e3, i3, q3⟩ := mul_is i1 i1 (lt_p2_1023 (by rw [aXX]; grind))
  obtain ⟨r4, Qq, e4, i4, q4⟩ := mul_is i2 i2 (lt_p2_1023 (by rw [aYY]; grind))
  have c3 := q3.coarse
  have c4 := q4.coarse
  rw [aXX] at c3
  rw [aYY] at c4
  rw [htt] at c3 c4
  have f3 := abs_le_iff.1 c3
  have f4 := abs_le_iff.1 c4
  have hDsq : 1 / 4 ≤ D * D := by have := Rat.mul_le_mul_of_nonneg_left hD (show (0 : Rat) ≤ D by grind); grind
  have low : 11 / 50 ≤ X * X ∨ 11 / 50 ≤ Y * Y := by
    rcases hlow with h | h
    · left
      have : 47 / 100 ≤ X.abs := by grind
      have := sq_ge this (by grind)
      grind
    · right
      have : 47 / 100 ≤ Y.abs := by grind
      have := sq_ge this (by grind)
      grind
  have hPQ1 : Pp + Qq ≤ 106 / 50 * (D * D) := by grind
  have hPQ2 : 1 / 5 ≤ Pp + Qq := by rcases low with h | h <;> grind
  have hPQ3 : Pp + Qq ≤ 3 := by grind
  have aPQ : (Pp + Qq).abs = Pp + Qq := Rat.abs_of_nonneg (by grind)
  obtain ⟨r5, S, e5, i5, q5⟩ := add_is i3 i4 (lt_p2_1023 (by rw [aPQ]; grind))
  have c5 := q5.coarse
  rw [aPQ, htt] at c5
  have f5 := abs_le_iff.1 c5
  have hS1 : S ≤ 108 / 50 * (D * D) := by grind
  have hS2 : 1 / 10 ≤ S := by grind
  have hS3 : S ≤ 4 := by grind
  obtain ⟨r6, T, e6, i6, t0, t1⟩ := sqrt_is i5 (by grind)
    (by have := lt_p2_1023 (x := 4) (by rw [Rat.abs_of_nonneg (by decide)]; decide)
        have h6 := p2_le (show (10 : Int) ≤ 1000 by decide)
        have h8 : (2 : Rat) ^ (10 : Int) = 1024 := by rw [show (10 : Int) = ((10 : Nat) : Int) by rfl, p2_nat]; rfl
        grind) (by have := p2_small (show (-1000 : Int) ≤ -53 by decide); grind)
  have f6 := abs_le_iff.1 t1
  have e51 : (2 : Rat) ^ (-51 : Int) ≤ 4 / 1000 := by
    have h6 := p2_half (-51)
    have h7 := p2_half (-52)
    rw [show (-51 - 1 : Int) = -52 by decide] at h6
    rw [show (-52 - 1 : Int) = -53 by decide] at h7
    have := e53_le
    grind
  have m51 := Rat.mul_le_mul_of_nonneg_left e51 (show (0 : Rat) ≤ S by grind)
  have hT2 : T * T ≤ 11 / 5 * (D * D) := by grind
  have hT : T ≤ 3 / 2 * D := by
    refine Rat.not_lt.1 fun h => ?_
    have g1 := Rat.mul_le_mul_of_nonneg_left (Rat.le_of_lt h) (show (0 : Rat) ≤ 3 / 2 * D by grind)
    have g2 := Rat.mul_le_mul_of_nonneg_right (Rat.le_of_lt h) (Rat.le_of_lt t0)
    grind
  have hTn : T * (2 : Rat) ^ n ≤ 3 / 2 * d := by
    have g1 := Rat.mul_le_mul_of_nonneg_right hT (Rat.le_of_lt (p2_pos n))
    have g2 : D * (2 : Rat) ^ n = d := by rw [← hDD, Rat.mul_assoc, Rat.mul_comm ((2 : Rat) ^ (-n)), hcan]; grind
    grind
  have hTn0 : 0 ≤ T * (2 : Rat) ^ n := Rat.mul_nonneg (Rat.le_of_lt t0) (Rat.le_of_lt (p2_pos n))
  have aTn : (T * (2 : Rat) ^ n).abs = T * (2 : Rat) ^ n := Rat.abs_of_nonneg hTn0
  obtain ⟨r7, L, i7, q7, s7⟩ := scaleK_is (n := n) i6 (by omega) (by omega) (by
    rw [aTn]
    have g1 := p2_le (show (401 : Int) ≤ 1023 by decide)
    have g2 := p2_half 401
    rw [show (401 - 1 : Int) = 400 by decide] at g2
    grind)
  have c7 := q7.coarse
  rw [aTn, htt] at c7
  have f7 := abs_le_iff.1 c7
  have htd : t ≤ d * (1 / 1000) := by
    have g1 := Rat.mul_le_mul_of_nonneg_right d1 (Rat.le_of_lt (p2_pos (-175)))
    rw [← p2_add, show (-900 + -175 : Int) = -1075 by decide, htt] at g1
    have g2 := Rat.mul_le_mul_of_nonneg_left (p2_small (show (-175 : Int) ≤ -53 by decide)) (Rat.le_of_lt hd0)
    grind
  have hT4 : 1 / 4 ≤ T := by
    refine Rat.not_lt.1 fun h => ?_
    have g2 := Rat.mul_le_mul_of_nonneg_left (Rat.le_of_lt h) (Rat.le_of_lt t0)
    grind
  have hT5 := Rat.mul_le_mul_of_nonneg_right hT4 (Rat.le_of_lt (p2_pos n))
  have hpos : 1 ≤ x.abs ∨ 1 ≤ y.abs → x.abs ≤ 5 * L ∧ y.abs ≤ 5 * L := fun h => by
    have hG1 : 1 ≤ G := by rcases h with h | h <;> grind
    have : G ≤ 5 * L := by grind
    exact ⟨by grind, by grind⟩
  have hz : x = 0 → y = 0 → L = 0 := fun h1 h2 => by
    subst h1
    subst h2
    rw [abs_zero] at hG
    exact absurd (by rcases hG with h | h <;> exact h) hG0
  refine ⟨r7, L, i7, by grind, hz, hpos, fun R k => ?_⟩
  have hG0' : ¬ (G = ((0 : Int) : Rat)) := by simpa using hG0
  rw [hpre, forceB_eq, eqF_is hg is_zero]
  simp only [hG0', decide_false]
  unfold scaledK scaledB
  rw [hgk, hfr]
  rw [show (0 - n) = -n by omega, wrapI (by omega) (by omega), s1, s2]
  simp only [squareK, sqrtK]
  rw [bindF_eq e3, bindF_eq e4, bindF_eq e5, bindF_eq e6, s7]
end Go.Vm
namespace Go.Vm
open Ieee
set_option linter.unusedVariables false
set_option linter.unusedSimpArgs false

/-! ### Sums from the left -/
def plusW (a b : Nat) : Nat := (fbF .add a b).getD 0
/-- the first one stands as it is -/
def gS (ws : List Nat) : Nat → Nat
  | 0 => 0
  | k + 1 => match ws[k]? with
    | none => gS ws k
    | some z => if k = 0 then z else plusW (gS ws k) z
/-- from nought -/
def hS (ws : List Nat) : Nat → Nat
  | 0 => 0
  | k + 1 => match ws[k]? with
    | none => hS ws k
    | some z => plusW (hS ws k) z
theorem plusW_of {a b c : Nat} (h : fbF .add a b = some c) : plusW a b = c := by unfold plusW; rw [h]; rfl
def totI {α : Type} (nf : α → Int) (ys : List α) (k : Nat) : Int := ((ys.take k).map nf).sum
def totN {α : Type} (nf : α → Nat) (ys : List α) (k : Nat) : Nat := ((ys.take k).map nf).sum
section
variable {α : Type} {ys : List α}
theorem totI_step (nf : α → Int) {k : Nat} {y : α} (h : ys[k]? = some y) : totI nf ys (k + 1) = totI nf ys k + nf y := by
  unfold totI
  rw [List.take_add_one, h]
  simp
theorem totN_step (nf : α → Nat) {k : Nat} {y : α} (h : ys[k]? = some y) : totN nf ys (k + 1) = totN nf ys k + nf y := by
  unfold totN
  rw [List.take_add_one, h]
  simp
theorem gS_step {wf : α → Nat} {k : Nat} {y : α} (h : ys[k]? = some y) : gS (ys.map wf) (k + 1) = if k = 0 then wf y else plusW (gS (ys.map wf) k) (wf y) := by
  show (match (ys.map wf)[k]? with | none => gS (ys.map wf) k | some z => if k = 0 then z else plusW (gS (ys.map wf) k) z) = _
  rw [List.getElem?_map, h]
  rfl
theorem hS_step {wf : α → Nat} {k : Nat} {y : α} (h : ys[k]? = some y) : hS (ys.map wf) (k + 1) = plusW (hS (ys.map wf) k) (wf y) := by
  show (match (ys.map wf)[k]? with | none => hS (ys.map wf) k | some z => plusW (hS (ys.map wf) k) z) = _
  rw [List.getElem?_map, h]
  rfl
theorem tot_le {nf : α → Int} {af : α → Nat} (h : ∀ y ∈ ys, (nf y).natAbs ≤ af y) : ∀ k, (totI nf ys k).natAbs ≤ totN af ys k := by
  intro k
  induction k with
  | zero => simp [totI, totN]
  | succ k ih =>
    cases hk : ys[k]? with
    | none =>
      have : ys.length ≤ k := by rwa [List.getElem?_eq_none_iff] at hk
      unfold totI totN at ih ⊢
      rw [List.take_of_length_le (by omega)] at ih ⊢
      exact ih
    | some y =>
      rw [totI_step nf hk, totN_step af hk]
      have := h y (List.mem_of_getElem? hk)
      omega
theorem totN_le {af : α → Nat} {m : Nat} (h : ∀ y ∈ ys, af y ≤ m) : ∀ k, totN af ys k ≤ m * k := by
  intro k
  induction k with
  | zero => simp [totN]
  | succ k ih =>
    cases hk : ys[k]? with
    | none =>
      have : ys.length ≤ k := by rwa [List.getElem?_eq_none_iff] at hk
      unfold totN at ih ⊢
      rw [List.take_of_length_le (by omega)] at ih ⊢
      rw [Nat.mul_add]
      omega
    | some y =>
      rw [totN_step af hk, Nat.mul_add]
      have := h y (List.mem_of_getElem? hk)
      omega

/-! whole numbers -/
theorem gS_int {wf : α → Nat} {nf : α → Int} (h : ∀ y ∈ ys, Is (wf y) ((nf y : Int) : Rat) ∧ (nf y).natAbs ≤ 1000) (hl : ys.length ≤ 1000000) :
    ∀ k, k ≤ ys.length → Is (gS (ys.map wf) k) ((totI nf ys k : Int) : Rat) ∧ (0 < k → ∀ y, ys[k]? = some y → fbF .add (gS (ys.map wf) k) (wf y) = some (gS (ys.map wf) (k + 1))) := by
  have hb : ∀ k, (totI nf ys k).natAbs ≤ 1000 * k := fun k => Nat.le_trans (tot_le (af := fun _ => 1000) (fun y hy => (h y hy).2) k) (totN_le (fun _ _ => Nat.le_refl _) k)
  have key : ∀ k y, ys[k]? = some y → Is (gS (ys.map wf) k) ((totI nf ys k : Int) : Rat) → ∃ r, fbF .add (gS (ys.map wf) k) (wf y) = some r ∧ Is r ((totI nf ys (k + 1) : Int) : Rat) := fun k y hk hi => by
    have hm := h y (List.mem_of_getElem? hk)
    have hkl := (List.getElem?_eq_some_iff.1 hk).1
    rw [totI_step nf hk]
    exact add_int hi hm.1 (by have := hb k; omega)
  have main : ∀ k, k ≤ ys.length → Is (gS (ys.map wf) k) ((totI nf ys k : Int) : Rat) := by
    intro k
    induction k with
    | zero => intro _; exact is_zero
    | succ k ih =>
      intro hk
      have hk' := List.getElem?_eq_getElem (show k < ys.length by omega)
      have hi := ih (by omega)
      rw [gS_step hk']
      by_cases h0 : k = 0
      · rw [if_pos h0, totI_step nf hk']
        subst h0
        rw [show totI nf ys 0 = 0 from by simp [totI], Int.zero_add]
        exact (h _ (List.getElem_mem _)).1
      · rw [if_neg h0]
        obtain ⟨r, e1, e2⟩ := key k _ hk' hi
        rw [plusW_of e1]
        exact e2
  refine fun k hk => ⟨main k hk, fun h0 y hy => ?_⟩
  obtain ⟨r, e1, e2⟩ := key k y hy (main k hk)
  rw [gS_step hy, if_neg (by omega), plusW_of e1]
  exact e1
theorem hS_int {wf : α → Nat} {nf : α → Int} (h : ∀ y ∈ ys, Is (wf y) ((nf y : Int) : Rat) ∧ (nf y).natAbs ≤ 1000) (hl : ys.length ≤ 1000000) :
    ∀ k, k ≤ ys.length → Is (hS (ys.map wf) k) ((totI nf ys k : Int) : Rat) ∧ (∀ y, ys[k]? = some y → fbF .add (hS (ys.map wf) k) (wf y) = some (hS (ys.map wf) (k + 1))) := by
  have hb : ∀ k, (totI nf ys k).natAbs ≤ 1000 * k := fun k => Nat.le_trans (tot_le (af := fun _ => 1000) (fun y hy => (h y hy).2) k) (totN_le (fun _ _ => Nat.le_refl _) k)
  have key : ∀ k y, ys[k]? = some y → Is (hS (ys.map wf) k) ((totI nf ys k : Int) : Rat) → ∃ r, fbF .add (hS (ys.map wf) k) (wf y) = some r ∧ Is r ((totI nf ys (k + 1) : Int) : Rat) := fun k y hk hi => by
    have hm := h y (List.mem_of_getElem? hk)
    have hkl := (List.getElem?_eq_some_iff.1 hk).1
    rw [totI_step nf hk]
    exact add_int hi hm.1 (by have := hb k; omega)
  have main : ∀ k, k ≤ ys.length → Is (hS (ys.map wf) k) ((totI nf ys k : Int) : Rat) := by
    intro k
    induction k with
    | zero => intro _; exact is_zero
    | succ k ih =>
      intro hk
      have hk' := List.getElem?_eq_getElem (show k < ys.length by omega)
      obtain ⟨r, e1, e2⟩ := key k _ hk' (ih (by omega))
      rw [hS_step hk', plusW_of e1]
      exact e2
  refine fun k hk => ⟨main k hk, fun y hy => ?_⟩
  obtain ⟨r, e1, e2⟩ := key k y hy (main k hk)
  rw [hS_step hy, plusW_of e1]
  exact e1

/-! residues: each rounded once, then summed -/
theorem rnd_zero' {x z : Rat} (h : Rnd x z) (hx : x = 0) : z = 0 := by
  have := h.rep 0 0 (by decide) (by decide) (by rw [hx]; simp)
  rw [this, hx]
theorem low_1000 {B : Rat} (h : 1 / 1000000 ≤ B) : (2 : Rat) ^ (-1000 : Int) ≤ B := by
  have h1 := p2_le (show (-1000 : Int) ≤ -20 by decide)
  rw [p20m] at h1
  grind
theorem nat_rat {a : Nat} : a = 0 ∨ (1 : Rat) ≤ (a : Rat) := by
  rcases Nat.eq_zero_or_pos a with h | h
  · exact .inl h
  · right
    have : ((1 : Nat) : Rat) ≤ (a : Rat) := nat_cast_le h
    exact this
theorem gS_near {wf : α → Nat} {nf : α → Int} {af : α → Nat} {q : Rat} (hq0 : 0 ≤ q) (hq : q ≤ 4 / 25) (hn : ∀ y ∈ ys, (nf y).natAbs ≤ af y) (ha : ∀ y ∈ ys, af y ≤ 1000)
    (h : ∀ y ∈ ys, ∃ v, Is (wf y) v ∧ (v - nf y * q).abs ≤ eps * ((af y : Rat) / 5)) (hl : ys.length ≤ 1000) :
    ∀ k, k ≤ ys.length → (∃ V, Is (gS (ys.map wf) k) V ∧ (V - totI nf ys k * q).abs ≤ k * (eps * ((totN af ys k : Rat) / 5))) ∧ (0 < k → ∀ y, ys[k]? = some y → fbF .add (gS (ys.map wf) k) (wf y) = some (gS (ys.map wf) (k + 1))) := by
  have he := eps_pos
  have he1 := eps_tiny
  have hT : ∀ k, ((totI nf ys k : Int) : Rat).abs ≤ (totN af ys k : Rat) := fun k => by
    rw [int_abs]
    exact nat_cast_le (tot_le hn k)
  have hA : ∀ k, ((totN af ys k : Nat) : Rat) ≤ 1000 * (k : Rat) := fun k => by
    have := nat_cast_le (totN_le ha k)
    push_cast at this
    exact this
  have key : ∀ k y V, 0 < k → ys[k]? = some y → Is (gS (ys.map wf) k) V → (V - totI nf ys k * q).abs ≤ k * (eps * ((totN af ys k : Rat) / 5)) →
      ∃ r W, fbF .add (gS (ys.map wf) k) (wf y) = some r ∧ Is r W ∧ (W - totI nf ys (k + 1) * q).abs ≤ ((k + 1 : Nat) : Rat) * (eps * ((totN af ys (k + 1) : Rat) / 5)) := fun k y V h0 hk hi hV => by
    have hm := List.mem_of_getElem? hk
    have hkl := (List.getElem?_eq_some_iff.1 hk).1
    obtain ⟨v, i1, i2⟩ := h y hm
    have n1 : ((nf y : Int) : Rat).abs ≤ (af y : Rat) := by rw [int_abs]; exact nat_cast_le (hn y hm)
    have a1 : (0 : Rat) ≤ (af y : Rat) := Rat.le_trans (abs_nonneg _) n1
    have t1 := hT k
    have A0 : (0 : Rat) ≤ (totN af ys k : Rat) := Rat.le_trans (abs_nonneg _) t1
    have A1 := hA (k + 1)
    have kk : ((k : Nat) : Rat) ≤ 1000 := by have := nat_cast_le (show k ≤ 1000 by omega); exact this
    have k1 : (1 : Rat) ≤ (k : Rat) := by have := nat_cast_le (show 1 ≤ k by omega); exact this
    have eA : ((totN af ys (k + 1) : Nat) : Rat) = (totN af ys k : Rat) + (af y : Rat) := by rw [totN_step af hk]; push_cast; rfl
    have eT : ((totI nf ys (k + 1) : Int) : Rat) = (totI nf ys k : Rat) + (nf y : Rat) := by rw [totI_step nf hk]; push_cast; rfl
    have tT := hT (k + 1)
    have hz : ((totN af ys (k + 1) : Nat) : Rat) = 0 ∨ (1 : Rat) ≤ ((totN af ys (k + 1) : Nat) : Rat) := by
      rcases nat_rat (a := totN af ys (k + 1)) with g | g
      · left; rw [g]; rfl
      · exact .inr g
    rw [eA] at A1 tT hz ⊢
    rw [eT] at tT ⊢
    push_cast at A1 ⊢
    generalize ((totN af ys k : Nat) : Rat) = A at *
    generalize ((totI nf ys k : Int) : Rat) = T at *
    generalize ((nf y : Int) : Rat) = n at *
    generalize ((af y : Nat) : Rat) = a at *
    generalize (k : Rat) = K at *
    -- x = V + v
    have s1 : (V + v - (T + n) * q).abs ≤ K * (eps * (A / 5)) + eps * (a / 5) := by
      have := abs_add_le (V - T * q) (v - n * q)
      rw [show V - T * q + (v - n * q) = V + v - (T + n) * q by grind] at this
      grind
    have s2 : K * (eps * (A / 5)) + eps * (a / 5) ≤ K * (eps * ((A + a) / 5)) := by
      have := Rat.mul_le_mul_of_nonneg_right k1 (Rat.mul_nonneg (Rat.le_of_lt he) (show 0 ≤ a / 5 by grind))
      grind
    have s3 : ((T + n) * q).abs ≤ (A + a) * (4 / 25) := by
      rw [abs_mul, Rat.abs_of_nonneg hq0]
      have := Rat.mul_le_mul_of_nonneg_right tT hq0
      have := Rat.mul_le_mul_of_nonneg_left hq (show 0 ≤ A + a by grind)
      grind
    have s4 : K * (eps * ((A + a) / 5)) ≤ (A + a) * (1 / 25) := by
      have g1 := Rat.mul_le_mul_of_nonneg_right kk (Rat.mul_nonneg (Rat.le_of_lt he) (show 0 ≤ (A + a) / 5 by grind))
      have g2 := Rat.mul_le_mul_of_nonneg_right he1 (show 0 ≤ (A + a) / 1000 by grind)
      grind
    have s5 : (V + v).abs ≤ (A + a) / 5 := by
      have := abs_add_le (V + v - (T + n) * q) ((T + n) * q)
      rw [show V + v - (T + n) * q + (T + n) * q = V + v by grind] at this
      grind
    obtain ⟨r, W, e1, e2, e3⟩ := add_is hi i1 (lt_big (by grind))
    refine ⟨r, W, e1, e2, ?_⟩
    have s6 : (W - (V + v)).abs ≤ eps * ((A + a) / 5) := by
      rcases hz with g | g
      · have hx : V + v = 0 := by
          have := abs_le_iff.1 s5
          grind
        rw [rnd_zero' e3 hx, hx]
        rw [show (0 : Rat) - 0 = 0 by grind, abs_zero, g]
        grind
      · exact e3.le s5 (low_1000 (by grind))
    have := tri (x := W) (y := V + v) (z := (T + n) * q)
    grind
  have main : ∀ k, k ≤ ys.length → ∃ V, Is (gS (ys.map wf) k) V ∧ (V - totI nf ys k * q).abs ≤ k * (eps * ((totN af ys k : Rat) / 5)) := by
    intro k
    induction k with
    | zero =>
      intro _
      refine ⟨0, is_zero, ?_⟩
      rw [show totI nf ys 0 = 0 from by simp [totI], show totN af ys 0 = 0 from by simp [totN]]
      have e0 : ((0 : Int) : Rat) = 0 := rfl
      have e1 : ((0 : Nat) : Rat) = 0 := rfl
      rw [e0, e1, show (0 : Rat) - 0 * q = 0 by grind, abs_zero]
      grind
    | succ k ih =>
      intro hk
      have hk' := List.getElem?_eq_getElem (show k < ys.length by omega)
      obtain ⟨V, i1, i2⟩ := ih (by omega)
      rw [gS_step hk']
      by_cases h0 : k = 0
      · rw [if_pos h0, totI_step nf hk', totN_step af hk']
        subst h0
        rw [show totI nf ys 0 = 0 from by simp [totI], show totN af ys 0 = 0 from by simp [totN], Int.zero_add, Nat.zero_add, Nat.zero_add]
        obtain ⟨v, j1, j2⟩ := h _ (List.getElem_mem (show 0 < ys.length by omega))
        refine ⟨v, j1, ?_⟩
        have e1 : ((1 : Nat) : Rat) = 1 := rfl
        rw [e1]
        grind
      · rw [if_neg h0]
        obtain ⟨r, W, e1, e2, e3⟩ := key k _ V (by omega) hk' i1 i2
        rw [plusW_of e1]
        exact ⟨W, e2, e3⟩
  refine fun k hk => ⟨main k hk, fun h0 y hy => ?_⟩
  obtain ⟨V, i1, i2⟩ := main k hk
  obtain ⟨r, W, e1, e2, e3⟩ := key k y V h0 hy i1 i2
  rw [gS_step hy, if_neg (by omega), plusW_of e1]
  exact e1
/-- lengths, summed -/
theorem hS_low {wf : α → Nat} {af : α → Nat} (ha : ∀ y ∈ ys, af y ≤ 1000) (h : ∀ y ∈ ys, ∃ L, Is (wf y) L ∧ L ≤ 2000 ∧ (af y = 0 → L = 0) ∧ (1 ≤ af y → (af y : Rat) ≤ 5 * L)) (hl : ys.length ≤ 500) :
    ∀ k, k ≤ ys.length → (∃ S, Is (hS (ys.map wf) k) S ∧ S ≤ 2001 * k ∧ (totN af ys k = 0 → S = 0) ∧ (1 ≤ totN af ys k → (totN af ys k : Rat) * (1 - k / 1000) ≤ 5 * S)) ∧
      (∀ y, ys[k]? = some y → fbF .add (hS (ys.map wf) k) (wf y) = some (hS (ys.map wf) (k + 1))) := by
  have he := eps_pos
  have he1 := eps_tiny
  have key : ∀ k y S, ys[k]? = some y → Is (hS (ys.map wf) k) S → S ≤ 2001 * k → (totN af ys k = 0 → S = 0) → (1 ≤ totN af ys k → (totN af ys k : Rat) * (1 - k / 1000) ≤ 5 * S) →
      ∃ r W, fbF .add (hS (ys.map wf) k) (wf y) = some r ∧ Is r W ∧ W ≤ 2001 * ((k + 1 : Nat) : Rat) ∧ (totN af ys (k + 1) = 0 → W = 0) ∧ (1 ≤ totN af ys (k + 1) → (totN af ys (k + 1) : Rat) * (1 - ((k + 1 : Nat) : Rat) / 1000) ≤ 5 * W) := fun k y S hk hi hS1 hS2 hS3 => by
    have hm := List.mem_of_getElem? hk
    have hkl := (List.getElem?_eq_some_iff.1 hk).1
    obtain ⟨L, i1, i2, i3, i4⟩ := h y hm
    have kk : ((k : Nat) : Rat) ≤ 500 := by have := nat_cast_le (show k ≤ 500 by omega); exact this
    have k0 : (0 : Rat) ≤ ((k : Nat) : Rat) := by have := nat_cast_le (show 0 ≤ k by omega); exact this
    have eA : ((totN af ys (k + 1) : Nat) : Rat) = (totN af ys k : Rat) + (af y : Rat) := by rw [totN_step af hk]; push_cast; rfl
    have eN := totN_step af hk
    have z1 : totN af ys k = 0 ∧ S = 0 ∨ 1 ≤ totN af ys k ∧ (1 : Rat) ≤ (totN af ys k : Rat) ∧ (totN af ys k : Rat) * (1 - k / 1000) ≤ 5 * S := by
      rcases Nat.eq_zero_or_pos (totN af ys k) with g | g
      · exact .inl ⟨g, hS2 g⟩
      · exact .inr ⟨g, nat_cast_le g, hS3 g⟩
    have z2 : af y = 0 ∧ L = 0 ∨ 1 ≤ af y ∧ (1 : Rat) ≤ (af y : Rat) ∧ (af y : Rat) ≤ 5 * L := by
      rcases Nat.eq_zero_or_pos (af y) with g | g
      · exact .inl ⟨g, i3 g⟩
      · exact .inr ⟨g, nat_cast_le g, i4 g⟩
    have e0 : ((0 : Nat) : Rat) = 0 := rfl
    have ek : ((k + 1 : Nat) : Rat) = (k : Rat) + 1 := by push_cast; rfl
    have kd : (k : Rat) / 1000 ≤ 1 / 2 := by grind
    -- lower bounds
    have lS : 0 ≤ S := by
      rcases z1 with ⟨_, g⟩ | ⟨_, g1, g2⟩
      · rw [g]; exact Rat.le_refl
      · have := Rat.mul_le_mul_of_nonneg_right g1 (show (0 : Rat) ≤ 1 - (k : Rat) / 1000 by grind)
        grind
    have lL : 0 ≤ L := by
      rcases z2 with ⟨_, g⟩ | ⟨_, g1, g2⟩
      · rw [g]; exact Rat.le_refl
      · grind
    have hab : (S + L).abs = S + L := Rat.abs_of_nonneg (by grind)
    obtain ⟨r, W, e1, e2, e3⟩ := add_is hi i1 (lt_big (by rw [hab]; grind))
    refine ⟨r, W, e1, e2, ?_⟩
    rw [ek, eA]
    by_cases hz : totN af ys (k + 1) = 0
    · rw [eN] at hz
      have q1 : S = 0 := hS2 (by omega)
      have q2 : L = 0 := i3 (by omega)
      have hW := rnd_zero' e3 (by rw [q1, q2]; grind)
      refine ⟨by rw [hW]; grind, fun _ => hW, fun g => absurd g (by omega)⟩
    · have hbig : 1 / 10 ≤ S + L := by
        rcases z1 with ⟨g0, g⟩ | ⟨_, g1, g2⟩
        · rcases z2 with ⟨g0', _⟩ | ⟨_, g3, g4⟩
          · rw [eN] at hz; omega
          · grind
        · have := Rat.mul_le_mul_of_nonneg_right g1 (show (0 : Rat) ≤ 1 - (k : Rat) / 1000 by grind)
          grind
      have c := e3.le (B := S + L) (by rw [hab]; exact Rat.le_refl) (low_1000 (by grind))
      have c' := abs_le_iff.1 c
      have c2 : eps * (S + L) ≤ (S + L) * (1 / 1000000000) := by
        have := Rat.mul_le_mul_of_nonneg_right he1 (show 0 ≤ S + L by grind)
        grind
      refine ⟨by grind, fun g => absurd g hz, fun _ => ?_⟩
      have lo : ((totN af ys k : Rat) + (af y : Rat)) * (1 - k / 1000) ≤ 5 * (S + L) := by
        have a0 : (0 : Rat) ≤ (af y : Rat) := by have := nat_cast_le (Nat.zero_le (af y)); exact this
        have s1 : (af y : Rat) * (1 - k / 1000) ≤ 5 * L := by
          have := Rat.mul_nonneg a0 (show (0 : Rat) ≤ k / 1000 by grind)
          rcases z2 with ⟨g0, g⟩ | ⟨_, g3, g4⟩
          · rw [g0, g, e0]; grind
          · grind
        have s2 : (totN af ys k : Rat) * (1 - k / 1000) ≤ 5 * S := by
          rcases z1 with ⟨g0, g⟩ | ⟨_, g1, g2⟩
          · rw [g0, g, e0]; grind
          · exact g2
        grind
      have t0 : (0 : Rat) ≤ (totN af ys k : Rat) + (af y : Rat) := by
        rw [← eA]
        have := nat_cast_le (Nat.zero_le (totN af ys (k + 1)))
        exact this
      generalize (totN af ys k : Rat) + (af y : Rat) = A at *
      have m1 : A * (1 - k / 1000) * (1 - 1 / 1000000000) ≤ 5 * (S + L) * (1 - 1 / 1000000000) := Rat.mul_le_mul_of_nonneg_right lo (by grind)
      have m2 : A * (1 - (k + 1) / 1000) ≤ A * (1 - k / 1000) * (1 - 1 / 1000000000) := by
        have := Rat.mul_nonneg t0 (show (0 : Rat) ≤ (1 - (k : Rat) / 1000) * (1 - 1 / 1000000000) - (1 - (k + 1) / 1000) by grind)
        grind
      grind
  have main : ∀ k, k ≤ ys.length → ∃ S, Is (hS (ys.map wf) k) S ∧ S ≤ 2001 * k ∧ (totN af ys k = 0 → S = 0) ∧ (1 ≤ totN af ys k → (totN af ys k : Rat) * (1 - k / 1000) ≤ 5 * S) := by
    intro k
    induction k with
    | zero =>
      intro _
      have e0 : ((0 : Nat) : Rat) = 0 := rfl
      exact ⟨0, is_zero, by rw [e0]; grind, fun _ => rfl, fun g => by simp [totN] at g⟩
    | succ k ih =>
      intro hk
      have hk' := List.getElem?_eq_getElem (show k < ys.length by omega)
      obtain ⟨S, j1, j2, j3, j4⟩ := ih (by omega)
      obtain ⟨r, W, e1, e2, e3, e4, e5⟩ := key k _ S hk' j1 j2 j3 j4
      rw [hS_step hk', plusW_of e1]
      exact ⟨W, e2, e3, e4, e5⟩
  refine fun k hk => ⟨main k hk, fun y hy => ?_⟩
  obtain ⟨S, j1, j2, j3, j4⟩ := main k hk
  obtain ⟨r, W, e1, e2, e3, e4, e5⟩ := key k y S hy j1 j2 j3 j4
  rw [hS_step hy, plusW_of e1]
  exact e1
end
end Go.Vm
namespace Go.Vm
open Ieee
set_option linter.unusedVariables false
set_option linter.unusedSimpArgs false

/-! ### Whole numbers, times what stands for 1/(2 Pi), summed, times 2 Pi -/
def pi2V : Rat := 2 * piV
theorem is_pi2 : Is 4618760256179416344 pi2V := by
  refine ⟨by decide, false, 7074237752028440, -50, by decide, ?_⟩
  have h := p2_half (-50)
  rw [show (-50 - 1 : Int) = -51 by decide] at h
  unfold pi2V piV dv sg
  rw [h]
  grind
theorem pi2_eq : pi2V = 7074237752028440 / 1125899906842624 := by unfold pi2V; rw [piV_eq]; grind
theorem pi2_le : pi2V ≤ 63 / 10 := by rw [pi2_eq]; grind
theorem pi2_ge : 6 ≤ pi2V := by rw [pi2_eq]; grind
theorem cV_le' : cV ≤ 4 / 25 := by rw [cV_eq]; grind
theorem scale_near {r N : Nat} {V K : Rat} {n : Int} {A : Nat} (hi : Is r V) (hV : (V - n * cV).abs ≤ K * (eps * ((A : Rat) / 5))) (hK : K ≤ 50) (hK0 : 0 ≤ K) (hn : n.natAbs ≤ A) (hA : (A : Rat) ≤ 1000000) :
    ∃ w W, fbF .mul r 4618760256179416344 = some w ∧ Is w W ∧ (W - n).abs ≤ 66 * (eps * (A : Rat)) ∧ (A = 0 → W = 0) := by
  have he := eps_pos
  have he1 := eps_tiny
  have n1 : ((n : Int) : Rat).abs ≤ (A : Rat) := by rw [int_abs]; exact nat_cast_le hn
  have a0 : (0 : Rat) ≤ (A : Rat) := Rat.le_trans (abs_nonneg _) n1
  have p0 := pi2_le
  have p1 := pi2_ge
  have pc : (cV * pi2V - 1).abs ≤ eps := by
    have := two_pi_c
    rw [show cV * 2 * piV = cV * pi2V by unfold pi2V; grind] at this
    exact this
  have v1 : (V - n * cV).abs ≤ 10 * (eps * (A : Rat)) := by
    have := Rat.mul_le_mul_of_nonneg_right hK (Rat.mul_nonneg (Rat.le_of_lt he) (show 0 ≤ (A : Rat) / 5 by grind))
    grind
  have v2 : (V * pi2V - n).abs ≤ 64 * (eps * (A : Rat)) := by
    have t1 : V * pi2V - n = (V - n * cV) * pi2V + n * (cV * pi2V - 1) := by grind
    rw [t1]
    have t2 := abs_add_le ((V - n * cV) * pi2V) (n * (cV * pi2V - 1))
    rw [abs_mul, abs_mul, Rat.abs_of_nonneg (show 0 ≤ pi2V by grind)] at t2
    have t3 := Rat.mul_le_mul_of_nonneg_right v1 (show 0 ≤ pi2V by grind)
    have t4 := Rat.mul_le_mul_of_nonneg_left pc (abs_nonneg (n : Rat))
    have t5 := Rat.mul_le_mul_of_nonneg_right n1 (Rat.le_of_lt he)
    have t6 := Rat.mul_le_mul_of_nonneg_left p0 (show 0 ≤ 10 * (eps * (A : Rat)) by have := Rat.mul_nonneg (Rat.le_of_lt he) a0; grind)
    have t7 := Rat.mul_nonneg (Rat.le_of_lt he) a0
    rw [Rat.mul_comm (A : Rat) eps] at t5
    generalize eps * (A : Rat) = E at *
    generalize ((V - n * cV) * pi2V + n * (cV * pi2V - 1)).abs = X at *
    generalize (V - n * cV).abs * pi2V = Y at *
    generalize (n : Rat).abs * (cV * pi2V - 1).abs = Z at *
    grind
  have v3 : (V * pi2V).abs ≤ 11 / 10 * (A : Rat) := by
    have := abs_add_le (V * pi2V - n) n
    rw [show V * pi2V - n + n = V * pi2V by grind] at this
    have := Rat.mul_le_mul_of_nonneg_right he1 a0
    grind
  obtain ⟨w, W, e1, e2, e3⟩ := mul_is hi is_pi2 (lt_big (by grind))
  refine ⟨w, W, e1, e2, ?_⟩
  rcases nat_rat (a := A) with g | g
  · have g' : (A : Rat) = 0 := by rw [g]; rfl
    rw [g'] at v3 v2 n1
    have hx : V * pi2V = 0 := by have := abs_le_iff.1 v3; grind
    have hn0 : (n : Rat) = 0 := by have := abs_le_iff.1 n1; grind
    have hW := rnd_zero' e3 hx
    refine ⟨?_, fun _ => hW⟩
    rw [hW, hn0, g', show (0 : Rat) - 0 = 0 by grind, abs_zero]
    grind
  · refine ⟨?_, fun h => ?_⟩
    · have c := e3.le v3 (low_1000 (by grind))
      have c2 := tri (x := W) (y := V * pi2V) (z := (n : Rat))
      have c3 := Rat.mul_nonneg (Rat.le_of_lt he) a0
      rw [show eps * (11 / 10 * (A : Rat)) = 11 / 10 * (eps * (A : Rat)) by grind] at c
      generalize eps * (A : Rat) = E at *
      generalize (W - (n : Rat)).abs = X at *
      generalize (W - V * pi2V).abs = Y at *
      generalize (V * pi2V - (n : Rat)).abs = Z at *
      grind
    · subst h
      have e0 : ((0 : Nat) : Rat) = 0 := rfl
      rw [e0] at g
      grind
/-- Near, of noughts -/
theorem near_noughts {a b c d m : Nat} {M : Rat} (ha : Is a 0) (hb : Is b 0) (hc : Is c 0) (hd : Is d 0) (hm : Is m M) (hM : 0 ≤ M) {R : Type} (k : Bool → Option R) : nearK R a b c d m k = k true := by
  have z : (0 : Rat) - 0 = 0 := by grind
  obtain ⟨p, X, f1, g1, r1⟩ := sub_is ha hc (lt_big (by rw [z, abs_zero]; grind))
  obtain ⟨q, Y, f2, g2, r2⟩ := sub_is hb hd (lt_big (by rw [z, abs_zero]; grind))
  have hX := rnd_zero' r1 z
  have hY := rnd_zero' r2 z
  subst hX
  subst hY
  obtain ⟨r, L, i1, l1, l2, l3, s1⟩ := lengthK_low g1 g2 (d := (2 : Rat) ^ (0 : Int)) (by rw [abs_zero]; exact Rat.le_of_lt (p2_pos _)) (by rw [abs_zero]; exact Rat.le_of_lt (p2_pos _)) (p2_le (by decide)) (p2_le (by decide))
  have hL := l2 rfl rfl
  subst hL
  unfold nearK nearB subK
  rw [bindF_eq f1, bindF_eq f2]
  simp only
  rw [s1, forceB_eq, leF_is i1 hm, decide_eq_true hM]
/-- RINGAPART'S NEARNESS -/
theorem ring_near {a b r1 r2 s : Nat} {n1 n2 : Int} {V1 V2 K S : Rat} {A B : Nat} (ha : Is a n1) (hb : Is b n2) (h1 : Is r1 V1) (h2 : Is r2 V2) (hV1 : (V1 - n1 * cV).abs ≤ K * (eps * ((A : Rat) / 5))) (hV2 : (V2 - n2 * cV).abs ≤ K * (eps * ((A : Rat) / 5)))
    (hK : K ≤ 50) (hK0 : 0 ≤ K) (hn1 : n1.natAbs ≤ A) (hn2 : n2.natAbs ≤ A) (hA : A ≤ B) (hB : B ≤ 50000) (hs : Is s S) (hS : S ≤ 200000) (hS0 : B = 0 → S = 0) (hS1 : 1 ≤ B → (B : Rat) * (19 / 20) ≤ 5 * S) :
    ∃ w1 w2 m, fbF .mul r1 4618760256179416344 = some w1 ∧ fbF .mul r2 4618760256179416344 = some w2 ∧ fbF .mul 4427038433705197568 s = some m ∧ ∀ (R : Type) (k : Bool → Option R), nearK R a b w1 w2 m k = k true := by
  have he := eps_pos
  have he1 := eps_tiny
  have hAB : (A : Rat) ≤ (B : Rat) := nat_cast_le hA
  have hB' : (B : Rat) ≤ 50000 := nat_cast_le hB
  have a0 : (0 : Rat) ≤ (A : Rat) := by have := nat_cast_le (Nat.zero_le A); exact this
  obtain ⟨w1, W1, e1, i1, b1, z1⟩ := scale_near (N := 0) h1 hV1 hK hK0 hn1 (by grind)
  obtain ⟨w2, W2, e2, i2, b2, z2⟩ := scale_near (N := 0) h2 hV2 hK hK0 hn2 (by grind)
  have S0 : 0 ≤ S := by
    rcases nat_rat (a := B) with g | g
    · rw [hS0 g]; exact Rat.le_refl
    · have := hS1 (by exact_mod_cast g)
      grind
  have hp : (0 : Rat) < (2 : Rat) ^ (-40 : Int) := p2_pos _
  have hm0 : 0 ≤ (2 : Rat) ^ (-40 : Int) * S := Rat.mul_nonneg (Rat.le_of_lt hp) S0
  have hm1 : ((2 : Rat) ^ (-40 : Int) * S).abs ≤ 200000 := by
    rw [Rat.abs_of_nonneg hm0, p40m]
    grind
  obtain ⟨m, M, e3, i3, r3⟩ := mul_is is_m40 hs (lt_big (by grind))
  refine ⟨w1, w2, m, e1, e2, e3, fun R k => ?_⟩
  rcases nat_rat (a := A) with g | g
  · have hW1 := z1 g
    have hW2 := z2 g
    subst hW1
    subst hW2
    have q1 : n1 = 0 := by omega
    have q2 : n2 = 0 := by omega
    subst q1
    subst q2
    have hM : 0 ≤ M := by
      rcases nat_rat (a := B) with g2 | g2
      · rw [rnd_zero' r3 (by rw [hS0 g2]; grind)]; exact Rat.le_refl
      · have g3 := hS1 (by exact_mod_cast g2)
        have c := r3.le (B := (2 : Rat) ^ (-40 : Int) * S) (by rw [Rat.abs_of_nonneg hm0]; exact Rat.le_refl) (by
          have x1 := p2_le (show (-1000 : Int) ≤ -45 by decide)
          have x2 := p2_add (-40) (-5)
          rw [show (-40 + -5 : Int) = -45 by decide] at x2
          have x3 := p2_neg 5
          have x4 : ((2 ^ 5 : Nat) : Rat) = 32 := rfl
          rw [x4, show (-((5 : Nat) : Int)) = (-5 : Int) by rfl] at x3
          have x5 := Rat.mul_le_mul_of_nonneg_left (show (2 : Rat) ^ (-5 : Int) ≤ S by grind) (Rat.le_of_lt hp)
          grind)
        have c' := abs_le_iff.1 c
        have := Rat.mul_le_mul_of_nonneg_right he1 hm0
        grind
    have e0 : ((0 : Int) : Rat) = 0 := rfl
    rw [e0] at ha hb
    exact near_noughts ha hb i1 i2 i3 hM k
  · have g3 := hS1 (by have : 1 ≤ A := by exact_mod_cast g
                       omega)
    have c := r3.le (B := (2 : Rat) ^ (-40 : Int) * S) (by rw [Rat.abs_of_nonneg hm0]; exact Rat.le_refl) (by
          have x1 := p2_le (show (-1000 : Int) ≤ -45 by decide)
          have x2 := p2_add (-40) (-5)
          rw [show (-40 + -5 : Int) = -45 by decide] at x2
          have x3 := p2_neg 5
          have x4 : ((2 ^ 5 : Nat) : Rat) = 32 := rfl
          rw [x4, show (-((5 : Nat) : Int)) = (-5 : Int) by rfl] at x3
          have x5 := Rat.mul_le_mul_of_nonneg_left (show (2 : Rat) ^ (-5 : Int) ≤ S by grind) (Rat.le_of_lt hp)
          grind)
    have c' := abs_le_iff.1 c
    have c2 := Rat.mul_le_mul_of_nonneg_right he1 hm0
    rw [p40m] at c' c2
    refine nearK_yes ha hb i1 i2 i3 (e := 66 * (eps * (A : Rat))) (by rw [abs_sub_comm]; exact b1) (by rw [abs_sub_comm]; exact b2) ?_ ?_ ?_ k
    · have x1 : (2 : Rat) ^ (-800 : Int) ≤ eps := p2_le (show (-800 : Int) ≤ -51 by decide)
      have x3 := Rat.mul_le_mul_of_nonneg_left g (Rat.le_of_lt he)
      rw [Rat.mul_one] at x3
      refine Rat.le_trans x1 (Rat.le_trans x3 ?_)
      have x4 := Rat.mul_nonneg (Rat.le_of_lt he) a0
      clear c c' c2 b1 b2 hm1 hm0
      grind
    · have x1 : (1 : Rat) ≤ (2 : Rat) ^ (300 : Int) := one_le_p2 300
      have x3 := Rat.mul_le_mul_of_nonneg_right he1 a0
      refine Rat.le_trans ?_ x1
      clear c c' c2 b1 b2 hm1 hm0 x1
      grind
    · have x1 : eps * (A : Rat) = (A : Rat) * (1 / 2251799813685248) := by rw [eps_eq]; grind
      rw [x1]
      clear b1 b2 hm1 hm0 he he1 c hV1 hV2
      grind
end Go.Vm
namespace Go.Vm
open Go.Proofs Ieee
set_option linter.unusedVariables false
set_option linter.unusedSimpArgs false
set_option maxRecDepth 1000000

/-! ### RingApart's things: what is known of them -/
theorem fI_is {n : Int} (h : n.natAbs < 2 ^ 53) : Is (fI n) n := ofInt_is h
theorem smI_le {x y : Int} (h : smI x y = true) : x.natAbs ≤ 1000 ∧ y.natAbs ≤ 1000 := by
  unfold smI at h
  simp only [Bool.and_eq_true, decide_eq_true_eq] at h
  omega
structure FineT (h : Th) : Prop where
  small : h.small = true
  pow : h.p.natAbs ≤ 1000
section
variable {h : Th} (f : FineT h)
include f
theorem FineT.xy : h.x.natAbs ≤ 1000 ∧ h.y.natAbs ≤ 1000 ∧ h.s.natAbs ≤ 1000 ∧ h.t.natAbs ≤ 1000 := by
  have := f.small
  unfold Th.small at this
  rw [Bool.and_eq_true] at this
  have a := smI_le this.1
  have b := smI_le this.2
  exact ⟨a.1, a.2, b.1, b.2⟩
theorem FineT.at : IsC (fI h.x) (fI h.y) h.x h.y := by
  have := f.xy
  exact ⟨fI_is (by omega), fI_is (by omega)⟩
theorem FineT.st : IsC (fI h.s) (fI h.t) h.s h.t := by
  have := f.xy
  exact ⟨fI_is (by omega), fI_is (by omega)⟩
end
open Classical in
/-- the check's answer -/
noncomputable def erE (x : El) : Int := Classical.epsilon fun e => ∀ (R : Type) (k : Int → Option R), checkE R x.kind x.a1 x.a2 x.s1 x.s2 x.p k = k e
theorem erE_told {h : Th} (f : FineT h) : ToldE erE h.el := by
  have b := f.xy
  have hp := f.pow
  have key : ∃ e, ∀ (R : Type) (k : Int → Option R), checkE R h.el.kind h.el.a1 h.el.a2 h.el.s1 h.el.s2 h.el.p k = k e :=
    ⟨_, fun R k => check_eq f.at f.st (by omega) (by omega) (by omega) (by omega) (fI_is (n := h.p) (by omega)).1 k⟩
  exact Classical.epsilon_spec key
theorem firstEr_all : ∀ {l : List Int}, firstEr l = 0 → ∀ e ∈ l, e = 0
  | [], _, e, h => by simp at h
  | a :: r, h, e, hm => by
    unfold firstEr at h
    split at h
    · rename_i h0
      rcases List.mem_cons.1 hm with rfl | hm
      · exact h0
      · exact firstEr_all h e hm
    · rename_i h0; exact absurd h h0
theorem flowEr_all {er : El → Int} {xs : List El} (h : flowEr er xs = 0) : ∀ x ∈ xs, er x = 0 := by
  unfold flowEr at h
  split at h
  · cases h
  · exact fun x hx => firstEr_all h _ (List.mem_map_of_mem hx)
/-! the circle -/
theorem fits_of {x y r : Int} (hs : smI x y = true) (h1 : 1 ≤ r) (h2 : r ≤ 40000) : Fits (fI x) (fI y) (fI r) := by
  have b := smI_le hs
  have hc : IsC (fI x) (fI y) x y := ⟨fI_is (by omega), fI_is (by omega)⟩
  have hr : Is (fI r) r := fI_is (by omega)
  exact ⟨fun R k => WithinK_int hc (by omega) (by omega) k, ge_least hr h1, le_most hr (by omega)⟩
open Classical in
noncomputable def lwE (c1 c2 : Nat) (x : El) : Nat := Classical.epsilon fun l => ∀ (R : Type) (k : Nat → Option R), outC subK lengthK R x.a1 x.a2 c1 c2 k = k l
theorem sight_of {x y r : Int} (hs : smI x y = true) (h1 : 1 ≤ r) (h2 : r ≤ 40000) : ∃ S : Sight (fI x) (fI y) (fI r), ∀ h : Th, FineT h → Seen (fI x) (fI y) S.lw h.el := by
  have b := smI_le hs
  have hc : IsC (fI x) (fI y) x y := ⟨fI_is (by omega), fI_is (by omega)⟩
  have hr : Is (fI r) r := fI_is (by omega)
  have r1 : ((1 : Int) : Rat) ≤ (r : Rat) := Rat.intCast_le_intCast.2 h1
  have r2 : (r : Rat) ≤ ((40000 : Int) : Rat) := Rat.intCast_le_intCast.2 h2
  have o1 : ((1 : Int) : Rat) = 1 := rfl
  have o2 : ((40000 : Int) : Rat) = 40000 := rfl
  rw [o1] at r1
  rw [o2] at r2
  obtain ⟨t, T, e1, i1, q1⟩ := mul_is hr is_hair (lt_big (by rw [p20m]; exact abs_le_iff.2 ⟨by grind, by grind⟩))
  have eT : T = r * (2 : Rat) ^ (-20 : Int) := q1.rep r (-20) (by omega) (by decide) rfl
  rw [p20m] at eT
  obtain ⟨p, _, e2, _, _⟩ := add_is hr i1 (lt_big (by rw [eT]; exact abs_le_iff.2 ⟨by grind, by grind⟩))
  obtain ⟨m, _, e3, _, _⟩ := sub_is hr i1 (lt_big (by rw [eT]; exact abs_le_iff.2 ⟨by grind, by grind⟩))
  refine ⟨⟨t, p, m, lwE (fI x) (fI y), e1, e2, e3⟩, fun h f => ?_⟩
  have bb := f.xy
  obtain ⟨d1, d2, hd, hsub⟩ := subK_int f.at hc (by omega) (by omega)
  have n1 := int_abs_le (n := h.x - x) (N := 2000) (by omega)
  have n2 := int_abs_le (n := h.y - y) (N := 2000) (by omega)
  have o3 : (((2000 : Nat) : Int) : Rat) = 2000 := rfl
  rw [o3] at n1 n2
  have p11 : (2 : Rat) ^ (11 : Int) = 2048 := by rw [show (11 : Int) = ((11 : Nat) : Int) by rfl, p2_nat]; rfl
  obtain ⟨l, L, _, _, _, _, hl⟩ := lengthK_low (d := (2 : Rat) ^ (11 : Int)) hd.1 hd.2 (by rw [p11]; grind) (by rw [p11]; grind) (p2_le (by decide)) (p2_le (by decide))
  have key : ∃ l, ∀ (R : Type) (k : Nat → Option R), outC subK lengthK R h.el.a1 h.el.a2 (fI x) (fI y) k = k l := ⟨l, fun R k => by
    unfold outC
    exact (hsub R _).trans (hl R k)⟩
  exact Classical.epsilon_spec key
theorem whole_of {h : Th} (f : FineT h) : WholeP h.el := fun _ => by
  have := f.pow
  have hi : Is h.el.p ((h.p : Int) : Rat) := fI_is (n := h.p) (by omega)
  refine ⟨h.p, toInt_is hi (by omega), ?_⟩
  have e := neF_is hi hi
  simp only [decide_true, Bool.not_true] at e
  exact e
/-! lengths of strengths -/
open Classical in
noncomputable def lnE (x : El) : Nat := Classical.epsilon fun l => ∀ (R : Type) (k : Nat → Option R), lengthK R x.s1 x.s2 k = k l
theorem lnE_spec {h : Th} (f : FineT h) : (∀ (R : Type) (k : Nat → Option R), lengthK R h.el.s1 h.el.s2 k = k (lnE h.el)) ∧
    ∃ L, Is (lnE h.el) L ∧ L ≤ 2000 ∧ (max h.s.natAbs h.t.natAbs = 0 → L = 0) ∧ (1 ≤ max h.s.natAbs h.t.natAbs → ((max h.s.natAbs h.t.natAbs : Nat) : Rat) ≤ 5 * L) := by
  have b := f.xy
  have n1 := int_abs_le (n := h.s) (N := 1000) (by omega)
  have n2 := int_abs_le (n := h.t) (N := 1000) (by omega)
  have o3 : (((1000 : Nat) : Int) : Rat) = 1000 := rfl
  rw [o3] at n1 n2
  have q1 := p2_le (show (-900 : Int) ≤ 0 by decide)
  have q2 := one_le_p2 400
  have q0 : (2 : Rat) ^ (0 : Int) = 1 := Rat.zpow_zero _
  rw [q0] at q1
  have q3 := p2_le (show (10 : Int) ≤ 400 by decide)
  have p10 : (2 : Rat) ^ (10 : Int) = 1024 := by rw [show (10 : Int) = ((10 : Nat) : Int) by rfl, p2_nat]; rfl
  obtain ⟨l, L, i1, i2, i3, i4, hl⟩ := lengthK_low (d := 1000) f.st.1 f.st.2 n1 n2 (by grind) (by grind)
  have key : ∃ l, ∀ (R : Type) (k : Nat → Option R), lengthK R h.el.s1 h.el.s2 k = k l := ⟨l, hl⟩
  have hspec := Classical.epsilon_spec key
  have same : lnE h.el = l := by
    have e := hspec Nat some
    rw [show lengthK Nat h.el.s1 h.el.s2 some = some l from hl Nat some] at e
    exact (Option.some.inj e).symm
  rw [same]
  refine ⟨hl, L, i1, by grind, fun hz => ?_, fun hz => ?_⟩
  · have z1 : h.s = 0 := by omega
    have z2 : h.t = 0 := by omega
    exact i3 (by rw [z1]; rfl) (by rw [z2]; rfl)
  · have abs1 : ((h.s : Int) : Rat).abs = ((h.s.natAbs : Nat) : Rat) := int_abs h.s
    have abs2 : ((h.t : Int) : Rat).abs = ((h.t.natAbs : Nat) : Rat) := int_abs h.t
    rw [abs1, abs2] at i4
    have c1 : 1 ≤ h.s.natAbs → (1 : Rat) ≤ ((h.s.natAbs : Nat) : Rat) := fun g => nat_cast_le g
    have c2 : 1 ≤ h.t.natAbs → (1 : Rat) ≤ ((h.t.natAbs : Nat) : Rat) := fun g => nat_cast_le g
    have k : 1 ≤ h.s.natAbs ∨ 1 ≤ h.t.natAbs := by omega
    have r := i4 (by rcases k with g | g
                     · exact .inl (c1 g)
                     · exact .inr (c2 g))
    rcases Nat.le_total h.s.natAbs h.t.natAbs with g | g
    · rw [Nat.max_eq_right g]; exact r.2
    · rw [Nat.max_eq_left g]; exact r.1
end Go.Vm
