/- Complex numbers of fractions and the squares of their lengths; no conditions. The product of two roots is near to one of two differences; no conditions. Half of a sum is near to one of two numbers; no conditions. The square root of a complex number on words, its first part; no conditions. The square root of a complex number on words, its second part; no conditions. The square root of a complex number on words; no conditions. Sums, products, quotients of complex words are near to those of their numbers; no conditions. -/
import Derived.Test.YtnbpfafngidimaaGreatVmP6
import Derived.Test.YtnbpfafngidimaaGreatVmKC
namespace Go.Vm
open Ieee
set_option linter.unusedVariables false
set_option linter.unusedSimpArgs false

/-! ### Complex numbers of fractions, and the squares of their lengths -/
structure Cq where
  x : Rat
  y : Rat
namespace Cq
def add (a b : Cq) : Cq := ⟨a.x + b.x, a.y + b.y⟩
def sub (a b : Cq) : Cq := ⟨a.x - b.x, a.y - b.y⟩
def mul (a b : Cq) : Cq := ⟨a.x * b.x - a.y * b.y, a.x * b.y + a.y * b.x⟩
def neg (a : Cq) : Cq := ⟨-a.x, -a.y⟩
def n (a : Cq) : Rat := a.x * a.x + a.y * a.y
theorem ext' {a b : Cq} (h : a.x = b.x) (g : a.y = b.y) : a = b := by cases a; cases b; cases h; cases g; rfl

theorem n_nonneg (a : Cq) : 0 ≤ a.n := by
  have := sq_nonneg a.x; have := sq_nonneg a.y; unfold n; grind
theorem n_mul (a b : Cq) : (mul a b).n = a.n * b.n := by unfold n mul; grind
theorem n_neg (a : Cq) : (neg a).n = a.n := by unfold n neg; grind
theorem n_sub_comm (a b : Cq) : (sub a b).n = (sub b a).n := by unfold n sub; grind
theorem n_add (a b : Cq) : (add a b).n ≤ 2 * a.n + 2 * b.n := by
  have h1 := sq_nonneg (a.x - b.x); have h2 := sq_nonneg (a.y - b.y); unfold n add; grind
theorem n_sub (a b : Cq) : (sub a b).n ≤ 2 * a.n + 2 * b.n := by
  have h1 := sq_nonneg (a.x + b.x); have h2 := sq_nonneg (a.y + b.y); unfold n sub; grind
theorem n_add3 (a b c : Cq) : (add (add a b) c).n ≤ 3 * a.n + 3 * b.n + 3 * c.n := by
  have h1 := sq_nonneg (a.x - b.x); have h2 := sq_nonneg (a.y - b.y)
  have h3 := sq_nonneg (a.x - c.x); have h4 := sq_nonneg (a.y - c.y)
  have h5 := sq_nonneg (b.x - c.x); have h6 := sq_nonneg (b.y - c.y)
  unfold n add; grind
theorem n_tri (a b c : Cq) : (sub a c).n ≤ 2 * (sub a b).n + 2 * (sub b c).n := by
  have := n_add (sub a b) (sub b c)
  rw [show add (sub a b) (sub b c) = sub a c from ext' (by simp only [add, sub]; grind) (by simp only [add, sub]; grind)] at this
  exact this
theorem n_le {a : Cq} {m : Rat} (h : a.x.abs ≤ m) (g : a.y.abs ≤ m) : a.n ≤ 2 * (m * m) := by
  have := sq_le h; have := sq_le g; unfold n; grind
theorem le_n {a : Cq} {m : Rat} (hm : 0 ≤ m) (h : a.n ≤ m * m) : a.x.abs ≤ m ∧ a.y.abs ≤ m := by
  have h1 := sq_nonneg a.x; have h2 := sq_nonneg a.y
  unfold n at h
  have key : ∀ t : Rat, t * t ≤ m * m → t.abs ≤ m := fun t ht => by
    rcases (Rat.le_total : t.abs ≤ m ∨ m ≤ t.abs) with g | g
    · exact g
    · have h3 := sq_ge g hm
      have h4 : (t.abs - m) * (t.abs + m) = 0 := by
        have : t.abs * t.abs = t * t := by rw [← abs_mul, Rat.abs_of_nonneg (sq_nonneg t)]
        grind
      rcases Rat.mul_eq_zero.1 h4 with h5 | h5
      · grind
      · grind
  exact ⟨key _ (by grind), key _ (by grind)⟩
theorem mul_le {a b A B : Rat} (ha0 : 0 ≤ a) (ha : a ≤ A) (hb0 : 0 ≤ b) (hb : b ≤ B) : a * b ≤ A * B := by
  have h1 := Rat.mul_le_mul_of_nonneg_right ha hb0
  have h2 := Rat.mul_le_mul_of_nonneg_left hb (show 0 ≤ A by grind)
  grind
theorem n_mul_le {a b : Cq} {A B : Rat} (h : a.n ≤ A) (g : b.n ≤ B) : (mul a b).n ≤ A * B := by
  rw [n_mul]; exact mul_le a.n_nonneg h b.n_nonneg g
/-- squares near to one another -/
theorem n_sqrt {a b : Cq} : (sub a b).n * (add a b).n = (sub (mul a a) (mul b b)).n := by
  rw [← n_mul]; congr 1; exact ext' (by simp only [add, sub, mul]; grind) (by simp only [add, sub, mul]; grind)
theorem par (a b : Cq) : (sub a b).n + (add a b).n = 2 * a.n + 2 * b.n := by unfold n add sub; grind
theorem near_root {a b : Cq} {t : Rat} (ht : 0 ≤ t) (h : (sub (mul a a) (mul b b)).n ≤ t * t) : (sub a b).n ≤ t ∨ (add a b).n ≤ t := by
  rw [← n_sqrt] at h
  rcases (Rat.le_total : (sub a b).n ≤ t ∨ t ≤ (sub a b).n) with g | g
  · exact .inl g
  rcases (Rat.le_total : (add a b).n ≤ t ∨ t ≤ (add a b).n) with k | k
  · exact .inr k
  have h1 := mul_le ht g ht k
  have h2 : ((sub a b).n - t) * ((add a b).n) + t * ((add a b).n - t) = 0 := by
    have h3 := Rat.mul_nonneg (show 0 ≤ (sub a b).n - t by grind) (add a b).n_nonneg
    have h4 := Rat.mul_nonneg ht (show 0 ≤ (add a b).n - t by grind)
    grind
  have h3 := Rat.mul_nonneg (show 0 ≤ (sub a b).n - t by grind) (add a b).n_nonneg
  have h4 := Rat.mul_nonneg ht (show 0 ≤ (add a b).n - t by grind)
  have h5 : t * ((add a b).n - t) = 0 := by grind
  rcases Rat.mul_eq_zero.1 h5 with h6 | h6
  · have h7 : ((sub a b).n - t) * (add a b).n = 0 := by grind
    rcases Rat.mul_eq_zero.1 h7 with h8 | h8
    · left; grind
    · right; grind
  · right; grind
theorem near_root_far {a b : Cq} {t : Rat} (hb : 1 ≤ b.n) (h : (sub (mul a a) (mul b b)).n ≤ t) : (sub a b).n ≤ t ∨ (add a b).n ≤ t := by
  rw [← n_sqrt] at h
  have hp := par a b
  have h0 := a.n_nonneg
  have h1 := (sub a b).n_nonneg
  have h2 := (add a b).n_nonneg
  rcases (Rat.le_total : 1 ≤ (sub a b).n ∨ (sub a b).n ≤ 1) with g | g
  · have := Rat.mul_le_mul_of_nonneg_right g h2
    right; grind
  · have := Rat.mul_le_mul_of_nonneg_left (show 1 ≤ (add a b).n by grind) h1
    left; grind
end Cq

open Cq

/-- THE CORE: how near the product of both roots comes to the difference, in squares. -/
theorem jouk_sq {w f s0 d g P1 P2 s : Cq} {E1 W1 ρ e X : Rat} (id : mul s0 s0 = sub (mul w w) (mul f f))
    (hd : (sub d (sub w f)).n ≤ E1) (hg : (sub g (add w f)).n ≤ E1) (hw1 : (sub w f).n ≤ W1) (hw2 : (add w f).n ≤ W1)
    (h1 : (sub (mul P1 P1) d).n ≤ ρ * d.n) (h2 : (sub (mul P2 P2) g).n ≤ ρ * g.n) (hρ0 : 0 ≤ ρ) (hρ : ρ ≤ 1 / 100)
    (hs : (sub s (mul P1 P2)).n ≤ e) (hX : s0.n ≤ X) :
    ∃ D V : Rat, D ≤ 2 * (X * X) + 2 * (6 * (E1 * W1) + 3 * (E1 * E1)) ∧ 0 ≤ V ∧ V * V ≤ 3 * D ∧
      (sub (mul s s) (mul s0 s0)).n ≤ 3 * (e * (8 * V + 2 * e)) + 3 * (7 * ρ * D) + 3 * (6 * (E1 * W1) + 3 * (E1 * E1)) := by
  have hE0 : 0 ≤ E1 := by have := (sub d (sub w f)).n_nonneg; grind
  have he0 : 0 ≤ e := by have := (sub s (mul P1 P2)).n_nonneg; grind
  have t1 : (sub (mul d g) (mul s0 s0)).n ≤ 6 * (E1 * W1) + 3 * (E1 * E1) := by
    have idd : sub (mul d g) (mul s0 s0) = add (add (mul (sub d (sub w f)) (add w f)) (mul (sub g (add w f)) (sub w f))) (mul (sub d (sub w f)) (sub g (add w f))) := by
      rw [id]; exact ext' (by simp only [add, sub, mul]; grind) (by simp only [add, sub, mul]; grind)
    rw [idd]
    have q := n_add3 (mul (sub d (sub w f)) (add w f)) (mul (sub g (add w f)) (sub w f)) (mul (sub d (sub w f)) (sub g (add w f)))
    have q1 := n_mul_le hd hw2
    have q2 := n_mul_le hg hw1
    have q3 := n_mul_le hd hg
    grind
  generalize 6 * (E1 * W1) + 3 * (E1 * E1) = T1 at *
  have t2 : (mul d g).n ≤ 2 * (X * X) + 2 * T1 := by
    have q := n_add (mul s0 s0) (sub (mul d g) (mul s0 s0))
    rw [show add (mul s0 s0) (sub (mul d g) (mul s0 s0)) = mul d g from ext' (by simp only [add, sub]; grind) (by simp only [add, sub]; grind)] at q
    have q2 := n_mul_le hX hX
    grind
  have t3 : (sub (mul (mul P1 P2) (mul P1 P2)) (mul d g)).n ≤ 7 * ρ * (mul d g).n := by
    have idd : sub (mul (mul P1 P2) (mul P1 P2)) (mul d g) = add (add (mul (sub (mul P1 P1) d) g) (mul d (sub (mul P2 P2) g))) (mul (sub (mul P1 P1) d) (sub (mul P2 P2) g)) :=
      ext' (by simp only [add, sub, mul]; grind) (by simp only [add, sub, mul]; grind)
    rw [idd]
    have q := n_add3 (mul (sub (mul P1 P1) d) g) (mul d (sub (mul P2 P2) g)) (mul (sub (mul P1 P1) d) (sub (mul P2 P2) g))
    have q1 := n_mul_le h1 (Rat.le_refl : g.n ≤ g.n)
    have q2 := n_mul_le (Rat.le_refl : d.n ≤ d.n) h2
    have q3 := n_mul_le h1 h2
    rw [n_mul] at *
    have q4 : ρ * d.n * (ρ * g.n) = ρ * (ρ * (d.n * g.n)) := by grind
    have q5 : ρ * (ρ * (d.n * g.n)) ≤ 1 / 100 * (ρ * (d.n * g.n)) :=
      Rat.mul_le_mul_of_nonneg_right hρ (Rat.mul_nonneg hρ0 (Rat.mul_nonneg d.n_nonneg g.n_nonneg))
    have q6 := Rat.mul_nonneg hρ0 (Rat.mul_nonneg d.n_nonneg g.n_nonneg)
    have q7 : ρ * d.n * g.n = ρ * (d.n * g.n) := by grind
    have q8 : d.n * (ρ * g.n) = ρ * (d.n * g.n) := by grind
    have q9 : 7 * ρ * (d.n * g.n) = 7 * (ρ * (d.n * g.n)) := by grind
    rw [q9]
    generalize ρ * (d.n * g.n) = Y at *
    rw [q7, q8] at *
    simp only [n_mul] at q
    grind
  have hD0 := (mul d g).n_nonneg
  refine ⟨(mul d g).n, (mul P1 P2).n, t2, n_nonneg _, ?_, ?_⟩
  · have q := n_add (mul d g) (sub (mul (mul P1 P2) (mul P1 P2)) (mul d g))
    rw [show add (mul d g) (sub (mul (mul P1 P2) (mul P1 P2)) (mul d g)) = mul (mul P1 P2) (mul P1 P2) from ext' (by simp only [add, sub]; grind) (by simp only [add, sub]; grind), n_mul (mul P1 P2)] at q
    have q2 := Rat.mul_le_mul_of_nonneg_right hρ hD0
    have q3 : 7 * ρ * (mul d g).n = 7 * (ρ * (mul d g).n) := by grind
    rw [q3] at t3
    grind
  · have idd : sub (mul s s) (mul s0 s0) = add (add (mul (sub s (mul P1 P2)) (add s (mul P1 P2))) (sub (mul (mul P1 P2) (mul P1 P2)) (mul d g))) (sub (mul d g) (mul s0 s0)) :=
      ext' (by simp only [add, sub, mul]; grind) (by simp only [add, sub, mul]; grind)
    rw [idd]
    have q := n_add3 (mul (sub s (mul P1 P2)) (add s (mul P1 P2))) (sub (mul (mul P1 P2) (mul P1 P2)) (mul d g)) (sub (mul d g) (mul s0 s0))
    have q1 : (add s (mul P1 P2)).n ≤ 8 * (mul P1 P2).n + 2 * e := by
      have r := n_add (sub s (mul P1 P2)) (add (mul P1 P2) (mul P1 P2))
      rw [show add (sub s (mul P1 P2)) (add (mul P1 P2) (mul P1 P2)) = add s (mul P1 P2) from ext' (by simp only [add, sub]; grind) (by simp only [add, sub]; grind)] at r
      have r2 : (add (mul P1 P2) (mul P1 P2)).n = 4 * (mul P1 P2).n := by unfold n add; grind
      grind
    have q2 := n_mul_le hs q1
    grind
end Go.Vm
namespace Go.Vm
open Ieee Cq
set_option linter.unusedVariables false
set_option linter.unusedSimpArgs false

theorem eps_val : eps = 1 / 2251799813685248 := by
  have h7 : (2 : Rat) ^ (-51 : Int) * (2 : Rat) ^ (51 : Int) = 1 := by rw [← p2_add, show (-51 + 51 : Int) = 0 by decide, Rat.zpow_zero]
  have h8 : (2 : Rat) ^ (51 : Int) = 2251799813685248 := by rw [show (51 : Int) = ((51 : Nat) : Int) by rfl, p2_nat]; rfl
  rw [h8] at h7
  unfold eps
  grind

/-- the root, near -/
def RootOf (P d : Cq) : Prop := (sub (mul P P) d).n ≤ 4000000 * (eps * eps) * d.n

theorem jouk_small {w f s0 d g P1 P2 s : Cq} (id : mul s0 s0 = sub (mul w w) (mul f f)) (hX : s0.n ≤ 1)
    (hd : (sub d (sub w f)).n ≤ 288800 * (eps * eps)) (hg : (sub g (add w f)).n ≤ 288800 * (eps * eps)) (hw1 : (sub w f).n ≤ 3200) (hw2 : (add w f).n ≤ 3200)
    (h1 : RootOf P1 d) (h2 : RootOf P2 g) (hs : (sub s (mul P1 P2)).n ≤ 84500000 * (eps * eps)) : (sub s s0).n ≤ 160000 * eps ∨ (add s s0).n ≤ 160000 * eps := by
  have h1' : (sub (mul P1 P1) d).n ≤ 4000000 * (eps * eps) * d.n := h1
  have h2' : (sub (mul P2 P2) g).n ≤ 4000000 * (eps * eps) * g.n := h2
  refine near_root (by rw [eps_val]; grind) ?_
  rw [eps_val] at *
  obtain ⟨D, V, b1, b2, b3, b4⟩ := jouk_sq id hd hg hw1 hw2 h1' h2' (by grind) (by grind) hs hX
  have D3 : D ≤ 3 := by grind
  have V3 : V ≤ 3 := by
    rcases (Rat.le_total : V ≤ 3 ∨ 3 ≤ V) with g | g
    · exact g
    · have := mul_le (by decide) g (by decide) g
      grind
  grind

theorem jouk_far {w f s0 d g P1 P2 s : Cq} (id : mul s0 s0 = sub (mul w w) (mul f f)) (hX1 : 1 ≤ s0.n) (hX : s0.n ≤ 36992)
    (hd : (sub d (sub w f)).n ≤ 48000000 * (eps * eps)) (hg : (sub g (add w f)).n ≤ 48000000 * (eps * eps)) (hw1 : (sub w f).n ≤ 46208) (hw2 : (add w f).n ≤ 46208)
    (h1 : RootOf P1 d) (h2 : RootOf P2 g) (hs : (sub s (mul P1 P2)).n ≤ 2270000000000 * (eps * eps)) : (sub s s0).n ≤ 160000 * eps ∨ (add s s0).n ≤ 160000 * eps := by
  have h1' : (sub (mul P1 P1) d).n ≤ 4000000 * (eps * eps) * d.n := h1
  have h2' : (sub (mul P2 P2) g).n ≤ 4000000 * (eps * eps) * g.n := h2
  refine near_root_far hX1 ?_
  rw [eps_val] at *
  obtain ⟨D, V, b1, b2, b3, b4⟩ := jouk_sq id hd hg hw1 hw2 h1' h2' (by grind) (by grind) hs hX
  have D3 : D ≤ 2740000000 := by grind
  have V3 : V ≤ 100000 := by
    rcases (Rat.le_total : V ≤ 100000 ∨ 100000 ≤ V) with g | g
    · exact g
    · have := mul_le (by decide) g (by decide) g
      grind
  grind
end Go.Vm
namespace Go.Vm
open Ieee Cq
set_option linter.unusedVariables false
set_option linter.unusedSimpArgs false

theorem Cq.n_add' (a b : Cq) : (add a b).n ≤ 101 / 100 * a.n + 101 * b.n := by
  have h1 := sq_nonneg (a.x / 10 - 10 * b.x); have h2 := sq_nonneg (a.y / 10 - 10 * b.y); unfold n add; grind
theorem Cq.n_two (a : Cq) : (add a a).n = 4 * a.n := by unfold n add; grind

/-- half of the sum is near to the one -/
theorem jouk_half {z u W s b : Cq} (hW : (sub W (add z u)).n ≤ 38000000 * (eps * eps)) (hb : (sub (add b b) (add W s)).n ≤ 8000000 * (eps * eps))
    (hs : (sub s (sub z u)).n ≤ 160000 * eps) : (sub b z).n ≤ 120001 * eps := by
  have q := n_add3 (sub (add b b) (add W s)) (sub W (add z u)) (sub s (sub z u))
  have idd : add (add (sub (add b b) (add W s)) (sub W (add z u))) (sub s (sub z u)) = add (sub b z) (sub b z) :=
    ext' (by simp only [add, sub]; grind) (by simp only [add, sub]; grind)
  rw [idd, n_two] at q
  rw [eps_val] at *
  grind
/-- .. or to the other one -/
theorem jouk_half' {z u W s b : Cq} (hW : (sub W (add z u)).n ≤ 38000000 * (eps * eps)) (hb : (sub (add b b) (add W s)).n ≤ 8000000 * (eps * eps))
    (hs : (add s (sub z u)).n ≤ 160000 * eps) : (sub b u).n ≤ 120001 * eps := by
  have q := n_add3 (sub (add b b) (add W s)) (sub W (add z u)) (add s (sub z u))
  have idd : add (add (sub (add b b) (add W s)) (sub W (add z u))) (add s (sub z u)) = add (sub b u) (sub b u) :=
    ext' (by simp only [add, sub]; grind) (by simp only [add, sub]; grind)
  rw [idd, n_two] at q
  rw [eps_val] at *
  grind

def Cq.dot (a b : Cq) : Rat := a.x * b.x + a.y * b.y
theorem Cq.n_dot (a b : Cq) : (add a b).n = a.n + b.n + 2 * dot a b := by unfold n add dot; grind

/-- the one taken is not the shorter one -/
theorem jouk_long {z u W s b : Cq} (hz : 1 ≤ z.n) (hW : (sub W (add z u)).n ≤ 38000000 * (eps * eps)) (hb : (sub (add b b) (add W s)).n ≤ 8000000 * (eps * eps))
    (hs : (add s (sub z u)).n ≤ 160000 * eps) (hd : -(1 / 1000) ≤ dot W s) : 48 / 100 * z.n ≤ b.n := by
  have p := par z u
  have q1 := n_add' W (sub (add z u) W)
  rw [show add W (sub (add z u) W) = add z u from ext' (by simp only [add, sub]; grind) (by simp only [add, sub]; grind), n_sub_comm] at q1
  have q2 := n_add' (neg s) (add s (sub z u))
  rw [show add (neg s) (add s (sub z u)) = sub z u from ext' (by simp only [add, sub, neg]; grind) (by simp only [add, sub, neg]; grind), n_neg] at q2
  have q3 := n_dot W s
  have q4 := n_add' (add b b) (sub (add W s) (add b b))
  rw [show add (add b b) (sub (add W s) (add b b)) = add W s from ext' (by simp only [add, sub]; grind) (by simp only [add, sub]; grind), n_sub_comm, n_two] at q4
  have q5 := u.n_nonneg
  rw [eps_val] at *
  grind

/-- the quotient of complex numbers of fractions -/
theorem Cq.quo_ex (a : Cq) {b : Cq} (hb : 0 < b.n) : ∃ c, mul c b = a := by
  have hb' : b.n ≠ 0 := by grind
  refine ⟨⟨(a.x * b.x + a.y * b.y) / b.n, (a.y * b.x - a.x * b.y) / b.n⟩, ?_⟩
  have h1 : (a.x * b.x + a.y * b.y) / b.n * b.n = a.x * b.x + a.y * b.y := Rat.div_mul_cancel hb'
  have h2 : (a.y * b.x - a.x * b.y) / b.n * b.n = a.y * b.x - a.x * b.y := Rat.div_mul_cancel hb'
  generalize (a.x * b.x + a.y * b.y) / b.n = c1 at *
  generalize (a.y * b.x - a.x * b.y) / b.n = c2 at *
  have e1 : (c1 * b.x - c2 * b.y - a.x) * b.n = 0 := by
    have e : b.n = b.x * b.x + b.y * b.y := rfl
    grind
  have e2 : (c1 * b.y + c2 * b.x - a.y) * b.n = 0 := by
    have e : b.n = b.x * b.x + b.y * b.y := rfl
    grind
  refine ext' ?_ ?_
  · show c1 * b.x - c2 * b.y = a.x
    rcases Rat.mul_eq_zero.1 e1 with h | h
    · grind
    · exact absurd h hb'
  · show c1 * b.y + c2 * b.x = a.y
    rcases Rat.mul_eq_zero.1 e2 with h | h
    · grind
    · exact absurd h hb'

/-- the other one, by the quotient -/
theorem jouk_other {z u b c : Cq} (hz : 1 ≤ z.n) (hb : (sub b u).n ≤ 120001 * eps) (hl : 48 / 100 * z.n ≤ b.n) (hc : mul c b = mul u z) : (sub c z).n ≤ 250003 * eps := by
  have id : mul (sub c z) b = mul z (sub u b) := by
    have h1 := congrArg Cq.x hc
    have h2 := congrArg Cq.y hc
    simp only [mul] at h1 h2
    exact ext' (by simp only [sub, mul]; grind) (by simp only [sub, mul]; grind)
  have h1 := n_mul (sub c z) b
  rw [id, n_mul, n_sub_comm u b] at h1
  have h2 := Rat.mul_le_mul_of_nonneg_left hl (sub c z).n_nonneg
  have h3 := Rat.mul_le_mul_of_nonneg_left hb z.n_nonneg
  have h4 : z.n * (48 / 100 * (sub c z).n - 120001 * eps) ≤ 0 := by grind
  rcases (Rat.le_total : 48 / 100 * (sub c z).n - 120001 * eps ≤ 0 ∨ 0 ≤ 48 / 100 * (sub c z).n - 120001 * eps) with g | g
  · have := eps_pos; grind
  · have h5 := Rat.mul_le_mul_of_nonneg_right hz g
    have := eps_pos
    grind
end Go.Vm
namespace Go.Vm
open Ieee Cq
set_option linter.unusedVariables false
set_option linter.unusedSimpArgs false

theorem is_two : Is 4611686018427387904 2 := by
  have := fields_is (s := false) (E := 1024) (f := 0) (by decide) (by decide) (by decide)
  have e : dv false (2 ^ 52 + 0) (((1024 : Nat) : Int) - 1075) = 2 := by
    unfold dv sg
    rw [if_neg (by decide), Rat.one_mul, Nat.add_zero, ← p2_nat, ← p2_add]
    show (2 : Rat) ^ (1 : Int) = 2
    exact p2_one
  rw [e] at this
  exact this

theorem p2_m1000 {B : Rat} {k : Int} (hk : -900 ≤ k) (h : (2 : Rat) ^ k ≤ B) : (2 : Rat) ^ (-1000 : Int) ≤ B := Rat.le_trans (p2_le (show (-1000 : Int) ≤ k by omega)) h
theorem m1000_one : (2 : Rat) ^ (-1000 : Int) ≤ 1 := by have := p2_le (show (-1000 : Int) ≤ 0 by decide); rwa [Rat.zpow_zero] at this
theorem p1000_big : (1000 : Rat) < (2 : Rat) ^ (1000 : Int) := by
  have h6 := p2_le (show (10 : Int) ≤ 1000 by decide)
  have h8 : (2 : Rat) ^ (10 : Int) = 1024 := by rw [show (10 : Int) = ((10 : Nat) : Int) by rfl, p2_nat]; rfl
  grind
theorem m1000_small : (2 : Rat) ^ (-1000 : Int) ≤ 1 / 1000 := p2_small (by decide)

/-- a word's double is a word -/
theorem twice_is {a : Nat} {x : Rat} (h : Is a x) (hx : (2 * x).abs < (2 : Rat) ^ (1023 : Int)) : ∃ r, fbF .mul 4611686018427387904 a = some r ∧ Is r (2 * x) := by
  obtain ⟨r, z, h1, h2, h3⟩ := mul_is is_two h hx
  obtain ⟨K, q, k1, k2, k3, k4⟩ := is_rep h
  have : z = 2 * x := h3.rep K (q + 1) k1 (by omega) (by rw [k4, p2_succ]; grind)
  subst this
  exact ⟨r, h1, h2⟩

theorem abs_le_two {x a b : Rat} (h : (x - a).abs ≤ b) {m : Rat} (ha : a.abs ≤ m) : x.abs ≤ m + b := by have := abs_near h; grind

/-- THE ROOT, the first part, on words: the number s and the scale. -/
theorem root_words {a b : Nat} {X Y : Rat} (ia : Is a X) (ib : Is b Y) (hX0 : 0 ≤ X) {k : Int} (k1 : -600 ≤ k) (k2 : k ≤ 450)
    (up : X * (2 : Rat) ^ (-2 * k) ≤ 2) (up' : (Y * (2 : Rat) ^ (-2 * k)).abs ≤ 2) (lo : 1 / 2 ≤ X * (2 : Rat) ^ (-2 * k) ∨ 1 / 2 ≤ (Y * (2 : Rat) ^ (-2 * k)).abs) :
    ∃ (b1 b2 m1 m2 q r t h s S d : Nat) (Z : Rat), (∀ (R : Type) (kk : Nat → Option R), scaleK R a (-2 * k) kk = kk b1) ∧ (∀ (R : Type) (kk : Nat → Option R), scaleK R b (-2 * k) kk = kk b2) ∧
      fbF .mul b1 b1 = some m1 ∧ fbF .mul b2 b2 = some m2 ∧ fbF .add m1 m2 = some q ∧ double.sqrt q = some r ∧ fbF .add b1 r = some t ∧
      fbF .quo t 4611686018427387904 = some h ∧ double.sqrt h = some s ∧ (∀ (R : Type) (kk : Nat → Option R), scaleK R s k kk = kk S) ∧ fbF .mul 4611686018427387904 S = some d ∧
      Is S Z ∧ 0 < Z ∧ Is d (2 * Z) ∧ Z ≤ 2 * (2 : Rat) ^ k ∧ (2 : Rat) ^ k ≤ 3 * Z ∧
      ∀ y Q : Rat, y.abs = (Y * (2 : Rat) ^ (-2 * k)).abs → (Q - y * (2 : Rat) ^ (2 * k) / (2 * Z)).abs ≤ 10 * eps * (2 : Rat) ^ k →
        (Z * Z - Q * Q - X).abs ≤ 700 * eps * (2 : Rat) ^ (2 * k) ∧ (2 * Z * Q - y * (2 : Rat) ^ (2 * k)).abs ≤ 40 * eps * (2 : Rat) ^ (2 * k) := by
  have he := eps_pos
  have he2 := eps_tiny
  have hc := p2_cancel (2 * k)
  rw [show -(2 * k) = -2 * k by omega] at hc
  have hkk : (2 : Rat) ^ (2 * k) = (2 : Rat) ^ k * (2 : Rat) ^ k := by rw [← p2_add]; congr 1; omega
  have hck := p2_cancel k
  have hX' : 0 ≤ X * (2 : Rat) ^ (-2 * k) := Rat.mul_nonneg hX0 (Rat.le_of_lt (p2_pos _))
  have one := m1000_one
  have big := p1000_big
  have small := m1000_small
  obtain ⟨b1, z1, i1, n1, e1⟩ := scaleK_is (n := -2 * k) ia (by omega) (by omega) (lt_p2_1023 (by rw [Rat.abs_of_nonneg hX']; grind))
  obtain ⟨b2, z2, i2, n2, e2⟩ := scaleK_is (n := -2 * k) ib (by omega) (by omega) (lt_p2_1023 (by grind))
  have hXY : X = X * (2 : Rat) ^ (-2 * k) * (2 : Rat) ^ (2 * k) := by rw [Rat.mul_assoc, Rat.mul_comm ((2 : Rat) ^ (-2 * k)), hc]; grind
  generalize hx : X * (2 : Rat) ^ (-2 * k) = x at *
  generalize hy : Y * (2 : Rat) ^ (-2 * k) = y at *
  have xa : x.abs ≤ 2 := by rw [Rat.abs_of_nonneg hX']; exact up
  have d1 := n1.le xa (by grind)
  have d2 := n2.le up' (by grind)
  have z1a : z1.abs ≤ 21 / 10 := by have := abs_near d1; grind
  have z2a : z2.abs ≤ 21 / 10 := by have := abs_near d2; grind
  have p1 := abs_mul_le z1a z1a
  have p2 := abs_mul_le z2a z2a
  obtain ⟨m1, v1, f1, j1, r1⟩ := mul_is i1 i1 (lt_p2_1023 (by grind))
  obtain ⟨m2, v2, f2, j2, r2⟩ := mul_is i2 i2 (lt_p2_1023 (by grind))
  have d3 := r1.le p1 (by grind)
  have d4 := r2.le p2 (by grind)
  have q1 : (v1 - x * x).abs ≤ 30 * eps := by
    have g := abs_mul_le d1 (abs_le_two (x := z1 + x) (a := 0) (b := 5) (by rw [abs_le_iff] at *; grind) (m := 0) (by rw [abs_zero]; grind))
    have g2 := abs_add_le (v1 - z1 * z1) ((z1 - x) * (z1 + x))
    rw [show v1 - z1 * z1 + (z1 - x) * (z1 + x) = v1 - x * x by grind] at g2
    grind
  have q2 : (v2 - y * y).abs ≤ 30 * eps := by
    have g := abs_mul_le d2 (abs_le_two (x := z2 + y) (a := 0) (b := 5) (by rw [abs_le_iff] at *; grind) (m := 0) (by rw [abs_zero]; grind))
    have g2 := abs_add_le (v2 - z2 * z2) ((z2 - y) * (z2 + y))
    rw [show v2 - z2 * z2 + (z2 - y) * (z2 + y) = v2 - y * y by grind] at g2
    grind
  have xx : x * x ≤ 4 := by have := sq_le xa; grind
  have yy : y * y ≤ 4 := by have := sq_le up'; grind
  have xn := sq_nonneg x
  have yn := sq_nonneg y
  have lo2 : 1 / 4 ≤ x * x + y * y := by
    rcases lo with g | g
    · have := sq_ge (x := x) (m := 1 / 2) (by rw [Rat.abs_of_nonneg hX']; exact g) (by grind); grind
    · have := sq_ge g (by grind); grind
  obtain ⟨u1, u2⟩ := abs_le_iff.1 q1
  obtain ⟨u3, u4⟩ := abs_le_iff.1 q2
  have sa : (v1 + v2).abs ≤ 9 := by rw [abs_le_iff]; grind
  obtain ⟨q, vq, f3, j3, r3⟩ := add_is j1 j2 (lt_p2_1023 (by grind))
  have d5 := r3.le sa (by grind)
  obtain ⟨u5, u6⟩ := abs_le_iff.1 d5
  have q3 : (vq - (v1 + v2)).abs ≤ 20 * eps := by grind
  obtain ⟨r, vr, f4, j4, r4, d6⟩ := sqrt_is j3 (by grind) (by grind) (by grind)
  have q4 : (vr * vr - vq).abs ≤ 20 * eps := by
    have := Rat.mul_le_mul_of_nonneg_right (show vq ≤ 10 by grind) (Rat.le_of_lt he)
    have e : (2 : Rat) ^ (-51 : Int) = eps := rfl
    rw [e] at d6
    grind
  have vr4 : vr ≤ 4 := by
    rcases (Rat.le_total : vr ≤ 4 ∨ 4 ≤ vr) with g | g
    · exact g
    · have := Cq.mul_le (by decide) g (by decide) g
      obtain ⟨c1, c2⟩ := abs_le_iff.1 q4
      grind
  obtain ⟨u7, u8⟩ := abs_le_iff.1 d1
  have ta : (z1 + vr).abs ≤ 7 := by rw [abs_le_iff]; grind
  obtain ⟨t, vt, f5, j5, r5⟩ := add_is i1 j4 (lt_p2_1023 (by grind))
  have d7 := r5.le ta (by grind)
  obtain ⟨u9, u10⟩ := abs_le_iff.1 d7
  have q5 : (vt - (x + vr)).abs ≤ 12 * eps := by rw [abs_le_iff]; grind
  have ha : (vt / 2).abs ≤ 4 := by rw [abs_le_iff]; grind
  obtain ⟨h, vh, f6, j6, r6⟩ := div_is j5 is_two (by decide) (by
    have h6 := p2_le (show (10 : Int) ≤ 1022 by decide)
    have h8 : (2 : Rat) ^ (10 : Int) = 1024 := by rw [show (10 : Int) = ((10 : Nat) : Int) by rfl, p2_nat]; rfl
    grind)
  have q6 := r6.le ha (by grind)
  obtain ⟨u11, u12⟩ := abs_le_iff.1 q6
  have vr0 : 49 / 100 ≤ vr := by
    rcases (Rat.le_total : vr ≤ 49 / 100 ∨ 49 / 100 ≤ vr) with g | g
    · have := Cq.mul_le (Rat.le_of_lt r4) g (Rat.le_of_lt r4) g
      obtain ⟨c1, c2⟩ := abs_le_iff.1 q4
      grind
    · exact g
  obtain ⟨s, vs, f7, j7, r7, d8⟩ := sqrt_is j6 (by grind) (by grind) (by grind)
  have q7 : (vs * vs - vh).abs ≤ 5 * eps := by
    have := Rat.mul_le_mul_of_nonneg_right (show vh ≤ 5 by grind) (Rat.le_of_lt he)
    have e : (2 : Rat) ^ (-51 : Int) = eps := rfl
    rw [e] at d8
    grind
  have vs2 : vs ≤ 19 / 10 := by
    rcases (Rat.le_total : vs ≤ 19 / 10 ∨ 19 / 10 ≤ vs) with g | g
    · exact g
    · have := Cq.mul_le (show (0 : Rat) ≤ 19 / 10 by grind) g (by grind) g
      obtain ⟨c1, c2⟩ := abs_le_iff.1 q7
      grind
  have vs0 : 48 / 100 ≤ vs := by
    rcases (Rat.le_total : vs ≤ 48 / 100 ∨ 48 / 100 ≤ vs) with g | g
    · have := Cq.mul_le (Rat.le_of_lt r7) g (Rat.le_of_lt r7) g
      obtain ⟨c1, c2⟩ := abs_le_iff.1 q7
      grind
    · exact g
  have pk := p2_pos k
  have pk' := p2_pos (-k)
  have hbig := p2_le (show k ≤ 450 by omega)
  have h450 := p2_le (show (450 : Int) ≤ 1020 by decide)
  have h1023 : (2 : Rat) ^ (1023 : Int) = 8 * (2 : Rat) ^ (1020 : Int) := by
    rw [show (1023 : Int) = 1020 + 3 by decide, p2_add]
    have : (2 : Rat) ^ (3 : Int) = 8 := by rw [show (3 : Int) = ((3 : Nat) : Int) by rfl, p2_nat]; rfl
    rw [this]; grind
  have h1020 := p2_pos 1020
  have hlow := p2_le (show (-1000 : Int) ≤ k by omega)
  have sk : (vs * (2 : Rat) ^ k).abs ≤ 2 * (2 : Rat) ^ k := by
    rw [Rat.abs_of_nonneg (Rat.mul_nonneg (Rat.le_of_lt r7) (Rat.le_of_lt pk))]
    exact Rat.mul_le_mul_of_nonneg_right (by grind) (Rat.le_of_lt pk)
  obtain ⟨S, Z, iS, nS, eS⟩ := scaleK_is (n := k) j7 (by omega) (by omega) (by grind)
  have d9 := nS.le sk (by grind)
  generalize hp : (2 : Rat) ^ k = p at *
  generalize hp' : (2 : Rat) ^ (-k) = p' at *
  have hσ : Z = (Z * p') * p := by rw [Rat.mul_assoc, Rat.mul_comm p', hck]; grind
  have d10 : (Z * p' - vs).abs ≤ 2 * eps := by
    have e : Z - vs * p = (Z * p' - vs) * p := by grind
    rw [e, abs_mul, Rat.abs_of_nonneg (Rat.le_of_lt pk)] at d9
    rcases (Rat.le_total : (Z * p' - vs).abs ≤ 2 * eps ∨ 2 * eps ≤ (Z * p' - vs).abs) with g | g
    · exact g
    · have g1 : ((Z * p' - vs).abs - 2 * eps) * p = 0 := by
        have := Rat.mul_nonneg (show 0 ≤ (Z * p' - vs).abs - 2 * eps by grind) (Rat.le_of_lt pk)
        grind
      rcases Rat.mul_eq_zero.1 g1 with g2 | g2
      · grind
      · grind
  generalize Z * p' = σ at *
  obtain ⟨u13, u14⟩ := abs_le_iff.1 d10
  have σ0 : 0 < σ := by grind
  have q8 : (σ * σ - vh).abs ≤ 24 * eps := by
    have g := abs_mul_le d10 (show (σ + vs).abs ≤ 5 by rw [abs_le_iff]; grind)
    have g2 := abs_add_le (vs * vs - vh) ((σ - vs) * (σ + vs))
    rw [show vs * vs - vh + (σ - vs) * (σ + vs) = σ * σ - vh by grind] at g2
    grind
  obtain ⟨k1', k2', k3', k4'⟩ := root_scaled hX' up up' lo q1 q2 q3 r4 q4 q5 (by grind) σ0 q8
  have Z2 : Z ≤ 2 * p := by rw [hσ]; exact Rat.mul_le_mul_of_nonneg_right k2' (Rat.le_of_lt pk)
  have Z3 : p ≤ 3 * Z := by
    have := Rat.mul_le_mul_of_nonneg_right k3' (Rat.le_of_lt pk)
    rw [hσ]; grind
  have Zp : 0 < Z := by grind
  obtain ⟨d, f8, j8⟩ := twice_is iS (by rw [Rat.abs_of_nonneg (by grind)]; grind)
  refine ⟨b1, b2, m1, m2, q, r, t, h, s, S, d, Z, e1, e2, f1, f2, f3, f4, f5, f6, f7, eS, f8, iS, Zp, j8, Z2, Z3, fun y' Q hyy hQ => ?_⟩
  have yy' : y' * y' = y * y := by
    have g1 : y'.abs * y'.abs = y' * y' := by rw [← abs_mul, Rat.abs_of_nonneg (sq_nonneg y')]
    have g2 : y.abs * y.abs = y * y := by rw [← abs_mul, Rat.abs_of_nonneg (sq_nonneg y)]
    rw [← g1, ← g2, hyy]
  rw [hkk] at hQ hXY ⊢
  have hQ' : (Q * p' - y' / (2 * σ)).abs ≤ 10 * eps := by
    have e1 : y' * (p * p) / (2 * Z) = y' / (2 * σ) * p := by
      have g1 : y' * (p * p) / (2 * Z) * (2 * Z) = y' * (p * p) := Rat.div_mul_cancel (by grind)
      have g2 : y' / (2 * σ) * (2 * σ) = y' := Rat.div_mul_cancel (by grind)
      have g3 : (y' * (p * p) / (2 * Z) - y' / (2 * σ) * p) * (2 * Z) = 0 := by
        rw [show (y' * (p * p) / (2 * Z) - y' / (2 * σ) * p) * (2 * Z) = y' * (p * p) / (2 * Z) * (2 * Z) - y' / (2 * σ) * p * (2 * Z) by grind, g1]
        have : y' / (2 * σ) * p * (2 * Z) = (y' / (2 * σ) * (2 * σ)) * (p * p) := by rw [hσ]; grind
        rw [this, g2]; grind
      rcases Rat.mul_eq_zero.1 g3 with g | g <;> grind
    have e2 : Q - y' * (p * p) / (2 * Z) = (Q * p' - y' / (2 * σ)) * p := by
      rw [e1]; grind
    rw [e2, abs_mul, Rat.abs_of_nonneg (Rat.le_of_lt pk)] at hQ
    rcases (Rat.le_total : (Q * p' - y' / (2 * σ)).abs ≤ 10 * eps ∨ 10 * eps ≤ (Q * p' - y' / (2 * σ)).abs) with g | g
    · exact g
    · have g1 : ((Q * p' - y' / (2 * σ)).abs - 10 * eps) * p = 0 := by
        have := Rat.mul_nonneg (show 0 ≤ (Q * p' - y' / (2 * σ)).abs - 10 * eps by grind) (Rat.le_of_lt pk)
        grind
      rcases Rat.mul_eq_zero.1 g1 with g2 | g2
      · grind
      · grind
  obtain ⟨w1, w2⟩ := root_parts (x := x) (y := y') (s := σ) (Q := Q * p') hX' up (by rw [hyy]; exact up') k1' k2' k3' (by rw [yy']; exact k4') hQ'
  have hQp : Q = (Q * p') * p := by rw [Rat.mul_assoc, Rat.mul_comm p', hck]; grind
  have pp : 0 ≤ p * p := Rat.le_of_lt (Rat.mul_pos pk pk)
  refine ⟨?_, ?_⟩
  · have e : Z * Z - Q * Q - X = (σ * σ - Q * p' * (Q * p') - x) * (p * p) := by
      rw [hXY]
      generalize Q * p' = Q' at *
      rw [hσ, hQp]; grind
    rw [e, abs_mul, Rat.abs_of_nonneg pp]
    exact Rat.mul_le_mul_of_nonneg_right w1 pp
  · have e : 2 * Z * Q - y' * (p * p) = (2 * σ * (Q * p') - y') * (p * p) := by
      generalize Q * p' = Q' at *
      rw [hσ, hQp]; grind
    rw [e, abs_mul, Rat.abs_of_nonneg pp]
    exact Rat.mul_le_mul_of_nonneg_right w2 pp
end Go.Vm
namespace Go.Vm
open Ieee Cq
set_option linter.unusedVariables false
set_option linter.unusedSimpArgs false

theorem is_fun {w : Nat} {x y : Rat} (h : Is w x) (g : Is w y) : x = y := by
  obtain ⟨_, s, m, i, h1, rfl⟩ := h
  obtain ⟨_, t, n, j, h2, rfl⟩ := g
  rw [h1] at h2
  cases h2
  rfl

theorem or_xor63 {a : Nat} (ha : a < 2 ^ 63) : a ||| 2 ^ 63 = a ^^^ 2 ^ 63 := by
  apply Nat.eq_of_testBit_eq
  intro j
  rw [Nat.testBit_or, Nat.testBit_xor, Nat.testBit_two_pow]
  by_cases h : 63 = j
  · subst h
    rw [Nat.testBit_lt_two_pow ha]
    simp
  · simp [h]

theorem split63 {b : Nat} (hb : b < 2 ^ 64) (h : b.testBit 63 = true) : b = b % 2 ^ 63 ^^^ 2 ^ 63 := by
  apply Nat.eq_of_testBit_eq
  intro j
  rw [Nat.testBit_xor, Nat.testBit_mod_two_pow, Nat.testBit_two_pow]
  by_cases h' : 63 = j
  · subst h'; simp [h]
  · by_cases hj : j < 63
    · simp [hj, h']
    · have : b < 2 ^ j := Nat.lt_of_lt_of_le hb (Nat.pow_le_pow_right (by decide) (by omega))
      rw [Nat.testBit_lt_two_pow this]
      simp [hj, h']
theorem low63 {b : Nat} (hb : b < 2 ^ 64) (h : b.testBit 63 = false) : b % 2 ^ 63 = b := by
  apply Nat.eq_of_testBit_eq
  intro j
  rw [Nat.testBit_mod_two_pow]
  by_cases h' : j = 63
  · subst h'; simp [h]
  · by_cases hj : j < 63
    · simp [hj]
    · have : b < 2 ^ j := Nat.lt_of_lt_of_le hb (Nat.pow_le_pow_right (by decide) (by omega))
      rw [Nat.testBit_lt_two_pow this]
      simp

/-- a number's size with another one's sign -/
theorem copy_is {a b : Nat} {Z Y : Rat} (ia : Is a Z) (ib : Is b Y) : ∃ (w : Nat) (sn : Rat), (sn = 1 ∨ sn = -1) ∧ Is w (sn * Z.abs) ∧ sn * Y.abs = Y ∧ ∀ (R : Type) (k : Nat → Option R), copyK R a b k = k w := by
  have hy := ib.1
  have h1 := andU_eq (a := b) (b := 9223372036854775808) hy (by decide)
  rw [show ((9223372036854775808 : Nat) : Int) = 9223372036854775808 by rfl] at h1
  have h2 : b &&& 9223372036854775808 = (b.testBit 63).toNat * 2 ^ 63 := by
    rw [show (9223372036854775808 : Nat) = 2 ^ 63 by decide, and_two_pow']
  have h0 := andNotU_eq (a := a) (b := 9223372036854775808) ia.1 (by decide)
  rw [show ((9223372036854775808 : Nat) : Int) = 9223372036854775808 by rfl] at h0
  have hm : 2 ^ 64 - 1 - 9223372036854775808 = 2 ^ 63 - 1 := by decide
  rw [hm, Nat.and_two_pow_sub_one_eq_mod] at h0
  have hlt : a % 2 ^ 63 < 2 ^ 63 := Nat.mod_lt _ (by decide)
  have iA := abs_is ia
  have iB := abs_is ib
  rw [absW_eq] at iA iB
  have hk : ∀ (R : Type) (k : Nat → Option R), copyK R a b k = k (a % 2 ^ 63 ||| (b.testBit 63).toNat * 2 ^ 63) := fun R k => by
    unfold copyK
    rw [h0, h1, h2, orU_eq (by omega) (by cases b.testBit 63 <;> decide), Int.toNat_natCast]
  cases hb : b.testBit 63 with
  | false =>
    refine ⟨a % 2 ^ 63, 1, .inl rfl, by rw [Rat.one_mul]; exact iA, ?_, fun R k => by rw [hk, hb]; simp⟩
    rw [low63 hy hb] at iB
    rw [Rat.one_mul]
    exact is_fun iB ib
  | true =>
    refine ⟨a % 2 ^ 63 ^^^ 2 ^ 63, -1, .inr rfl, ?_, ?_, fun R k => by rw [hk, hb]; simp only [Bool.toNat_true, Nat.one_mul]; rw [or_xor63 hlt]⟩
    · rw [show (-1 : Rat) * Z.abs = -Z.abs by grind]; exact neg_is iA
    · have := neg_is iB
      have e : Op.negFloat .f64 (b % 2 ^ 63) = b % 2 ^ 63 ^^^ 2 ^ 63 := rfl
      rw [e, ← split63 hy hb] at this
      rw [show (-1 : Rat) * Y.abs = -Y.abs by grind]
      exact is_fun this ib

/-- both parts of the root on words, given its first part -/
theorem root_quo {b d : Nat} {X Y Z : Rat} {k : Int} (k1 : -600 ≤ k) (k2 : k ≤ 450) (ib : Is b Y) (id : Is d (2 * Z)) (hZ : 0 < Z) (hZk : (2 : Rat) ^ k ≤ 3 * Z)
    (up' : (Y * (2 : Rat) ^ (-2 * k)).abs ≤ 2) (lo : 1 / 2 ≤ X * (2 : Rat) ^ (-2 * k) ∨ 1 / 2 ≤ (Y * (2 : Rat) ^ (-2 * k)).abs)
    (key : ∀ y Q : Rat, y.abs = (Y * (2 : Rat) ^ (-2 * k)).abs → (Q - y * (2 : Rat) ^ (2 * k) / (2 * Z)).abs ≤ 10 * eps * (2 : Rat) ^ k →
        (Z * Z - Q * Q - X).abs ≤ 700 * eps * (2 : Rat) ^ (2 * k) ∧ (2 * Z * Q - y * (2 : Rat) ^ (2 * k)).abs ≤ 40 * eps * (2 : Rat) ^ (2 * k)) :
    ∃ w Q, fbF .quo b d = some w ∧ Is w Q ∧ (Z * Z - Q * Q - X).abs ≤ 700 * eps * (2 : Rat) ^ (2 * k) ∧ (2 * Z * Q - Y).abs ≤ 40 * eps * (2 : Rat) ^ (2 * k) ∧ (2 : Rat) ^ (2 * k) * (2 : Rat) ^ (2 * k) ≤ 4 * (X * X + Y * Y) := by
  have hc := p2_cancel (2 * k)
  rw [show -(2 * k) = -2 * k by omega] at hc
  have hkk : (2 : Rat) ^ (2 * k) = (2 : Rat) ^ k * (2 : Rat) ^ k := by rw [← p2_add]; congr 1; omega
  have hY : Y = Y * (2 : Rat) ^ (-2 * k) * (2 : Rat) ^ (2 * k) := by rw [Rat.mul_assoc, Rat.mul_comm ((2 : Rat) ^ (-2 * k)), hc]; grind
  have hX : X = X * (2 : Rat) ^ (-2 * k) * (2 : Rat) ^ (2 * k) := by rw [Rat.mul_assoc, Rat.mul_comm ((2 : Rat) ^ (-2 * k)), hc]; grind
  have pk := p2_pos k
  have pc := p2_pos (2 * k)
  have hbig := p2_le (show k ≤ 450 by omega)
  have h450 := p2_le (show (450 : Int) ≤ 1020 by decide)
  have h1022 : (2 : Rat) ^ (1022 : Int) = 4 * (2 : Rat) ^ (1020 : Int) := by
    rw [show (1022 : Int) = 1020 + 2 by decide, p2_add]
    have : (2 : Rat) ^ (2 : Int) = 4 := by rw [show (2 : Int) = ((2 : Nat) : Int) by rfl, p2_nat]; rfl
    rw [this]; grind
  have h1020 := p2_pos 1020
  have hlow := p2_le (show (-1000 : Int) ≤ k by omega)
  have qa : (Y / (2 * Z)).abs ≤ 3 * (2 : Rat) ^ k := abs_div_le (by grind) (by
    rw [Rat.abs_of_nonneg (show 0 ≤ 2 * Z by grind), hY, abs_mul, Rat.abs_of_nonneg (Rat.le_of_lt pc), hkk]
    have g1 := Rat.mul_le_mul_of_nonneg_right up' (Rat.le_of_lt (Rat.mul_pos pk pk))
    have g2 := Rat.mul_le_mul_of_nonneg_left hZk (Rat.le_of_lt pk)
    grind)
  obtain ⟨w, Q, e1, i1, n1⟩ := div_is ib id (by grind) (by
    have := Rat.mul_le_mul_of_nonneg_left hbig (show (0 : Rat) ≤ 3 by decide)
    grind)
  have d1 := n1.le qa (by grind)
  obtain ⟨g1, g2⟩ := key (Y * (2 : Rat) ^ (-2 * k)) Q rfl (by
    rw [← hY]
    have := Rat.mul_nonneg (Rat.le_of_lt eps_pos) (Rat.le_of_lt pk)
    grind)
  rw [← hY] at g2
  refine ⟨w, Q, e1, i1, g1, g2, ?_⟩
  generalize X * (2 : Rat) ^ (-2 * k) = x at *
  generalize Y * (2 : Rat) ^ (-2 * k) = y at *
  have l2 : 1 / 4 ≤ x * x + y * y := by
    have xn := sq_nonneg x
    have yn := sq_nonneg y
    rcases lo with g | g
    · have := Cq.mul_le (show (0 : Rat) ≤ 1 / 2 by grind) g (show (0 : Rat) ≤ 1 / 2 by grind) g; grind
    · have := sq_ge g (by grind); grind
  have cc := Rat.mul_nonneg (Rat.le_of_lt pc) (Rat.le_of_lt pc)
  have l3 := Rat.mul_le_mul_of_nonneg_right l2 cc
  have e : (x * x + y * y) * ((2 : Rat) ^ (2 * k) * (2 : Rat) ^ (2 * k)) = X * X + Y * Y := by rw [hX, hY]; grind
  rw [e] at l3
  grind

theorem rootOf_mk {P d : Cq} {c : Rat} (hc : 0 ≤ c) (h1 : (P.x * P.x - P.y * P.y - d.x).abs ≤ 700 * eps * c) (h2 : (2 * P.x * P.y - d.y).abs ≤ 40 * eps * c) (h3 : c * c ≤ 4 * d.n) : RootOf P d := by
  unfold RootOf
  have he := eps_pos
  have hec := Rat.mul_nonneg (Rat.le_of_lt he) hc
  have g := n_le (a := sub (mul P P) d) (m := 700 * eps * c) (by simpa only [sub, mul] using h1) (by
    simp only [sub, mul]
    rw [show P.x * P.y + P.y * P.x - d.y = 2 * P.x * P.y - d.y by grind]
    grind)
  have h4 := Rat.mul_le_mul_of_nonneg_left h3 (Rat.mul_nonneg (Rat.le_of_lt he) (Rat.le_of_lt he))
  have h5 := Rat.mul_nonneg (Rat.mul_nonneg (Rat.le_of_lt he) (Rat.le_of_lt he)) d.n_nonneg
  generalize d.n = D at *
  generalize (sub (mul P P) d).n = E at *
  generalize eps = e at *
  have e1 : 700 * e * c * (700 * e * c) = 490000 * (e * e * (c * c)) := by grind
  rw [e1] at g
  grind
end Go.Vm
namespace Go.Vm
open Ieee Cq
set_option linter.unusedVariables false
set_option linter.unusedSimpArgs false

theorem is0 : Is 0 0 := ⟨by decide, false, 0, -1074, by decide, dv_zero _ _⟩
theorem bindF_ok {R : Type} {o : Option Nat} {n : Nat} (h : o = some n) (k : Nat → Option R) : bindF o k = k n := by
  subst h; exact forceN_eq n k
theorem squareK_ok {x y a b c : Nat} (h1 : fbF .mul x x = some a) (h2 : fbF .mul y y = some b) (h3 : fbF .add a b = some c) {R : Type} (k : Nat → Option R) : squareK R x y k = k c := by
  unfold squareK; rw [bindF_ok h1, bindF_ok h2, bindF_ok h3]
theorem sqrtK_ok {x a : Nat} (h : double.sqrt x = some a) {R : Type} (k : Nat → Option R) : sqrtK R x k = k a := by
  unfold sqrtK; rw [bindF_ok h]
theorem absK_ok {x : Nat} {R : Type} (k : Nat → Option R) : absK R x k = k (absW x) := rfl
theorem isInfPK_no {a : Nat} {x : Rat} (h : Is a x) {R : Type} (k : Bool → Option R) : isInfPK R a k = k false := by
  show forceB (gtF a 9218868437227405311) (fun t => k t) = k false
  rw [forceB_eq, gtF_is h is_max]
  have := abs_le_max h
  have := abs_le_self x
  have : ¬ (((2 ^ 53 - 1 : Nat) : Rat) * (2 : Rat) ^ (971 : Int) < x) := by grind
  simp only [this, decide_false]
theorem isInfMK_no {a : Nat} {x : Rat} (h : Is a x) {R : Type} (k : Bool → Option R) : isInfMK R a k = k false := by
  show forceN (Op.negFloat .f64 a) (fun x => forceB (gtF x 9218868437227405311) (fun t => k t)) = k false
  rw [forceN_eq, forceB_eq, gtF_is (neg_is h) is_max]
  have := abs_le_max h
  have := abs_le_self x
  have : ¬ (((2 ^ 53 - 1 : Nat) : Rat) * (2 : Rat) ^ (971 : Int) < -x) := by grind
  simp only [this, decide_false]

def edgeK : KFFCB := edgeB isInfK isInfPK isInfMK isNanK copyK
def rootK : KCC := rootB fiReal edgeK greatestK frexpK scaleK absK squareK sqrtK copyK

theorem edgeK_is {a b : Nat} {x y : Rat} (ha : Is a x) (hb : Is b y) {R : Type} (k : Nat → Nat → Bool → Option R) :
    edgeK R a b k = if x = 0 ∧ y = 0 then k 0 b true else k 0 0 false := by
  unfold edgeK edgeB
  rw [isInfK_no hb, forceB_eq]
  simp only
  rw [isInfPK_no ha, forceB_eq]
  simp only
  rw [isInfMK_no ha, forceB_eq]
  simp only
  rw [isInfMK_no ha, forceB_eq]
  simp only
  rw [isNanK_no ha, forceB_eq]
  simp only
  rw [isNanK_no hb, forceB_eq]
  simp only
  rw [forceB_eq, eqF_is ha is0]
  by_cases h1 : x = 0
  · simp only [h1, decide_true, forceB_eq, eqF_is hb is0]
    by_cases h2 : y = 0
    · simp [h2]
    · simp [h2]
  · simp [h1]

theorem shr1 (n : Int) : shrU n 1 = n / 2 := by
  unfold shrU
  have : (2 : Int) ^ min (1 : Int).toNat IntKind.u64.bits = 2 := by decide
  rw [this, Int.fdiv_eq_ediv_of_nonneg _ (by decide)]

/-- THE ROOT on words. -/
theorem rootK_is {a b : Nat} {X Y : Rat} (ia : Is a X) (ib : Is b Y) (hX : X.abs ≤ (2 : Rat) ^ (300 : Int)) (hY : Y.abs ≤ (2 : Rat) ^ (300 : Int)) :
    ∃ p q P Q, Is p P ∧ Is q Q ∧ RootOf ⟨P, Q⟩ ⟨X, Y⟩ ∧ ∀ (R : Type) (k : Nat → Nat → Option R), rootK R a b k = k p q := by
  by_cases h0 : X = 0 ∧ Y = 0
  · obtain ⟨rfl, rfl⟩ := h0
    refine ⟨0, b, 0, 0, is0, ib, ?_, fun R k => ?_⟩
    · unfold RootOf n sub mul; simp only; grind
    · unfold rootK rootB
      rw [edgeK_is ia ib]
      simp [forceB_eq]
  obtain ⟨g, G, ig, gx, gy, hG, eg⟩ := greatestK_is ia ib
  have gne : G ≠ 0 := by
    rintro rfl
    have h1 := abs_nonneg X
    have h2 := abs_nonneg Y
    have h3 := abs_le_self X
    have h4 := abs_le_self Y
    exact h0 ⟨by grind, by grind⟩
  have G0 : 0 ≤ G := by have := abs_nonneg X; grind
  obtain ⟨w, n, l1, l2, n1, n2, ef⟩ := frexpK_is ig gne
  rw [Rat.abs_of_nonneg G0] at l1 l2
  have n3 : n ≤ 301 := by
    have h1 : G ≤ (2 : Rat) ^ (300 : Int) := by rcases hG with h | h <;> (rw [h]; assumption)
    have h2 : (2 : Rat) ^ (n - 1) < (2 : Rat) ^ (301 : Int) := by
      have := p2_succ 300
      rw [show (300 + 1 : Int) = 301 by decide] at this
      have := p2_pos 300
      grind
    have := p2_lt_of h2
    omega
  have hk1 : -600 ≤ n / 2 := by omega
  have hk2 : n / 2 ≤ 450 := by omega
  have pc := p2_pos (-2 * (n / 2))
  have top : G * (2 : Rat) ^ (-2 * (n / 2)) ≤ 2 := by
    have h1 := Rat.mul_le_mul_of_nonneg_right (Rat.le_of_lt l2) (Rat.le_of_lt pc)
    rw [← p2_add] at h1
    have h2 := p2_le (show n + -2 * (n / 2) ≤ 1 by omega)
    rw [p2_one] at h2
    exact Rat.le_trans h1 h2
  have bot : 1 / 2 ≤ G * (2 : Rat) ^ (-2 * (n / 2)) := by
    have h1 := Rat.mul_le_mul_of_nonneg_right l1 (Rat.le_of_lt pc)
    rw [← p2_add] at h1
    have h2 := p2_le (show -1 ≤ n - 1 + -2 * (n / 2) by omega)
    have h3 : (2 : Rat) ^ (-1 : Int) = 1 / 2 := by
      have := p2_half 0
      rw [Rat.zpow_zero, show (0 - 1 : Int) = -1 by decide] at this
      grind
    rw [h3] at h2
    exact Rat.le_trans h2 h1
  have ax : X.abs * (2 : Rat) ^ (-2 * (n / 2)) ≤ 2 := Rat.le_trans (Rat.mul_le_mul_of_nonneg_right gx (Rat.le_of_lt pc)) top
  have ay : (Y * (2 : Rat) ^ (-2 * (n / 2))).abs ≤ 2 := by
    rw [abs_mul, p2_abs]
    exact Rat.le_trans (Rat.mul_le_mul_of_nonneg_right gy (Rat.le_of_lt pc)) top
  have lo : 1 / 2 ≤ X.abs * (2 : Rat) ^ (-2 * (n / 2)) ∨ 1 / 2 ≤ (Y * (2 : Rat) ^ (-2 * (n / 2))).abs := by
    rcases hG with h | h
    · left; rw [← h]; exact bot
    · right; rw [abs_mul, p2_abs, ← h]; exact bot
  obtain ⟨b1, b2, m1, m2, q, r, t, h, s, S, d, Z, e1, e2, f1, f2, f3, f4, f5, f6, f7, e3, f8, iS, Z0, iD, Z1, Z2, key⟩ := root_words (abs_is ia) ib (abs_nonneg X) hk1 hk2 ax ay lo
  have hrun : ∀ (R : Type) (k : Nat → Nat → Option R), rootK R a b k = forceB (geF a 0) fun t => match t with
    | true => bindF (fbF .mul 4611686018427387904 S) fun d => bindF (fbF .quo b d) fun q => k S q
    | false => absK R b fun ay => bindF (fbF .mul 4611686018427387904 S) fun d => bindF (fbF .quo ay d) fun p => copyK R S b fun q => k p q := fun R k => by
    unfold rootK rootB
    rw [edgeK_is ia ib]
    simp only [h0, if_false, forceB_eq]
    rw [eg, ef]
    have hw : IntKind.i64.wrap (-2 * shrU n 1) = -2 * (n / 2) := by rw [shr1]; exact wrapI (by omega) (by omega)
    have fr : ∀ (R : Type) (n : Int) (k : Int → Option R), fiReal R n k = k n := fiReal_fair
    rw [absK_ok, fr, hw, e1, fr, e2, squareK_ok f1 f2 f3, sqrtK_ok f4, bindF_ok f5, bindF_ok f6, sqrtK_ok f7, shr1, e3]
    cases geF a 0 <;> rfl
  have fin : (2 : Rat) ^ (2 * (n / 2)) * (2 : Rat) ^ (2 * (n / 2)) ≤ 4 * (X.abs * X.abs + Y * Y) → (2 : Rat) ^ (2 * (n / 2)) * (2 : Rat) ^ (2 * (n / 2)) ≤ 4 * (X * X + Y * Y) := fun h => by
    rw [show X.abs * X.abs = X * X by rw [← abs_mul, Rat.abs_of_nonneg (sq_nonneg X)]] at h
    exact h
  have cpos := Rat.le_of_lt (p2_pos (2 * (n / 2)))
  by_cases hs : 0 ≤ X
  · obtain ⟨w, Q, g1, g2, g3, g4, g5⟩ := root_quo hk1 hk2 ib iD Z0 Z2 ay lo key
    rw [Rat.abs_of_nonneg hs] at g3
    refine ⟨S, w, Z, Q, iS, g2, rootOf_mk cpos g3 g4 (fin g5), fun R k => ?_⟩
    rw [hrun, forceB_eq, geF_is ia is0]
    simp only [hs, decide_true]
    rw [bindF_ok f8, bindF_ok g1]
  · have hs' : X ≤ 0 := by grind
    have ay' : (Y.abs * (2 : Rat) ^ (-2 * (n / 2))).abs = (Y * (2 : Rat) ^ (-2 * (n / 2))).abs := by
      rw [abs_mul, abs_mul, Rat.abs_of_nonneg (abs_nonneg Y)]
    obtain ⟨w, Q, g1, g2, g3, g4, g5⟩ := root_quo (b := absW b) (Y := Y.abs) hk1 hk2 (abs_is ib) iD Z0 Z2 (by rw [ay']; exact ay) (by rw [ay']; exact lo) (by rw [ay']; exact key)
    obtain ⟨v, sn, c1, c2, c3, c4⟩ := copy_is iS ib
    rw [Rat.abs_of_nonneg (Rat.le_of_lt Z0)] at c2
    rw [Rat.abs_of_nonpos hs'] at g3
    refine ⟨w, v, Q, sn * Z, g2, c2, rootOf_mk cpos (P := ⟨Q, sn * Z⟩) (d := ⟨X, Y⟩) ?_ ?_ ?_, fun R k => ?_⟩
    · have e : Q * Q - sn * Z * (sn * Z) - X = -(Z * Z - Q * Q - -X) := by
        rcases c1 with rfl | rfl <;> grind
      show (Q * Q - sn * Z * (sn * Z) - X).abs ≤ _
      rw [e, abs_neg]; exact g3
    · have e : 2 * Q * (sn * Z) - Y = sn * (2 * Z * Q - Y.abs) := by rw [← c3]; rcases c1 with rfl | rfl <;> grind
      show (2 * Q * (sn * Z) - Y).abs ≤ _
      rw [e, abs_mul]
      rcases c1 with rfl | rfl
      · rw [Rat.abs_of_nonneg (show (0 : Rat) ≤ 1 by decide), Rat.one_mul]; exact g4
      · rw [abs_neg, Rat.abs_of_nonneg (show (0 : Rat) ≤ 1 by decide), Rat.one_mul]; exact g4
    · rw [show Y.abs * Y.abs = Y * Y by rw [← abs_mul, Rat.abs_of_nonneg (sq_nonneg Y)]] at g5
      exact fin g5
    · rw [hrun, forceB_eq, geF_is ia is0]
      simp only [hs, decide_false]
      rw [absK_ok, bindF_ok f8, bindF_ok g1, c4]
end Go.Vm
namespace Go.Vm
open Ieee Cq
set_option linter.unusedVariables false
set_option linter.unusedSimpArgs false

/-! ### Complex words, near to complex fractions -/
def IsQ (a b : Nat) (z : Cq) : Prop := Is a z.x ∧ Is b z.y
def Nr (a b : Cq) (e : Rat) : Prop := (a.x - b.x).abs ≤ e ∧ (a.y - b.y).abs ≤ e
def Bd (a : Cq) (m : Rat) : Prop := a.x.abs ≤ m ∧ a.y.abs ≤ m

theorem big_lt {x B : Rat} (h : x.abs ≤ B) (hB : B ≤ 1000000000000) : x.abs < (2 : Rat) ^ (1022 : Int) := by
  have h6 := p2_le (show (50 : Int) ≤ 1022 by decide)
  have h8 : (2 : Rat) ^ (50 : Int) = 1125899906842624 := by rw [show (50 : Int) = ((50 : Nat) : Int) by rfl, p2_nat]; rfl
  grind
theorem big_lt' {x B : Rat} (h : x.abs ≤ B) (hB : B ≤ 1000000000000) : x.abs < (2 : Rat) ^ (1023 : Int) := by
  have h6 := p2_le (show (1022 : Int) ≤ 1023 by decide)
  have := big_lt h hB
  grind
theorem low_le {B : Rat} (h : 1 / 1000 ≤ B) : (2 : Rat) ^ (-1000 : Int) ≤ B := by have := m1000_small; grind

theorem Nr.bd {a b : Cq} {e m : Rat} (h : Nr a b e) (g : Bd b m) : Bd a (m + e) := ⟨by have := abs_near h.1; have := g.1; grind, by have := abs_near h.2; have := g.2; grind⟩
theorem Bd.mono {a : Cq} {m n : Rat} (h : Bd a m) (g : m ≤ n) : Bd a n := ⟨Rat.le_trans h.1 g, Rat.le_trans h.2 g⟩
theorem Nr.mono {a b : Cq} {m n : Rat} (h : Nr a b m) (g : m ≤ n) : Nr a b n := ⟨Rat.le_trans h.1 g, Rat.le_trans h.2 g⟩
theorem Bd.add {a b : Cq} {m n : Rat} (h : Bd a m) (g : Bd b n) : Bd (a.add b) (m + n) :=
  ⟨by have := abs_add_le a.x b.x; have := h.1; have := g.1; show (a.x + b.x).abs ≤ _; grind, by have := abs_add_le a.y b.y; have := h.2; have := g.2; show (a.y + b.y).abs ≤ _; grind⟩
theorem Bd.neg {a : Cq} {m : Rat} (h : Bd a m) : Bd a.neg m := ⟨by show (-a.x).abs ≤ m; rw [abs_neg]; exact h.1, by show (-a.y).abs ≤ m; rw [abs_neg]; exact h.2⟩
theorem sub_eq (a b : Cq) : a.sub b = a.add b.neg := ext' (by simp only [Cq.sub, Cq.add, Cq.neg]; grind) (by simp only [Cq.sub, Cq.add, Cq.neg]; grind)
theorem Bd.sub {a b : Cq} {m n : Rat} (h : Bd a m) (g : Bd b n) : Bd (a.sub b) (m + n) := by rw [sub_eq]; exact h.add g.neg
theorem Nr.trans {a b c : Cq} {e d : Rat} (h : Nr a b e) (g : Nr b c d) : Nr a c (e + d) :=
  ⟨by have := tri (x := a.x) (y := b.x) (z := c.x); have := h.1; have := g.1; grind, by have := tri (x := a.y) (y := b.y) (z := c.y); have := h.2; have := g.2; grind⟩
theorem Nr.add {a b c d : Cq} {e f : Rat} (h : Nr a b e) (g : Nr c d f) : Nr (a.add c) (b.add d) (e + f) := by
  constructor
  · have := abs_add_le (a.x - b.x) (c.x - d.x); have := h.1; have := g.1
    show (a.x + c.x - (b.x + d.x)).abs ≤ _
    rw [show a.x + c.x - (b.x + d.x) = a.x - b.x + (c.x - d.x) by grind]; grind
  · have := abs_add_le (a.y - b.y) (c.y - d.y); have := h.2; have := g.2
    show (a.y + c.y - (b.y + d.y)).abs ≤ _
    rw [show a.y + c.y - (b.y + d.y) = a.y - b.y + (c.y - d.y) by grind]; grind
theorem Nr.neg {a b : Cq} {e : Rat} (h : Nr a b e) : Nr a.neg b.neg e := by
  constructor
  · show (-a.x - -b.x).abs ≤ e
    rw [show -a.x - -b.x = -(a.x - b.x) by grind, abs_neg]; exact h.1
  · show (-a.y - -b.y).abs ≤ e
    rw [show -a.y - -b.y = -(a.y - b.y) by grind, abs_neg]; exact h.2
theorem Nr.sub {a b c d : Cq} {e f : Rat} (h : Nr a b e) (g : Nr c d f) : Nr (a.sub c) (b.sub d) (e + f) := by rw [sub_eq, sub_eq]; exact h.add g.neg
theorem Nr.refl (a : Cq) : Nr a a 0 := ⟨by rw [Rat.sub_self, abs_zero]; exact Rat.le_refl, by rw [Rat.sub_self, abs_zero]; exact Rat.le_refl⟩
theorem Nr.n {a b : Cq} {e : Rat} (h : Nr a b e) : (a.sub b).n ≤ 2 * (e * e) := n_le h.1 h.2
/-- a factor times what is near -/
theorem Nr.mulLeft {a b c : Cq} {e m : Rat} (h : Nr a b e) (g : Bd c m) : Nr (c.mul a) (c.mul b) (2 * (m * e)) := by
  have k1 := abs_mul_le g.1 h.1
  have k2 := abs_mul_le g.2 h.2
  have k3 := abs_mul_le g.1 h.2
  have k4 := abs_mul_le g.2 h.1
  constructor
  · show (c.x * a.x - c.y * a.y - (c.x * b.x - c.y * b.y)).abs ≤ _
    have := abs_add_le (c.x * (a.x - b.x)) (-(c.y * (a.y - b.y)))
    rw [abs_neg] at this
    rw [show c.x * a.x - c.y * a.y - (c.x * b.x - c.y * b.y) = c.x * (a.x - b.x) + -(c.y * (a.y - b.y)) by grind]; grind
  · show (c.x * a.y + c.y * a.x - (c.x * b.y + c.y * b.x)).abs ≤ _
    have := abs_add_le (c.x * (a.y - b.y)) (c.y * (a.x - b.x))
    rw [show c.x * a.y + c.y * a.x - (c.x * b.y + c.y * b.x) = c.x * (a.y - b.y) + c.y * (a.x - b.x) by grind]; grind
theorem Bd.mul {a b : Cq} {m n : Rat} (h : Bd a m) (g : Bd b n) : Bd (a.mul b) (2 * (m * n)) := by
  have k1 := abs_mul_le h.1 g.1
  have k2 := abs_mul_le h.2 g.2
  have k3 := abs_mul_le h.1 g.2
  have k4 := abs_mul_le h.2 g.1
  constructor
  · show (a.x * b.x - a.y * b.y).abs ≤ _
    have := abs_add_le (a.x * b.x) (-(a.y * b.y))
    rw [abs_neg] at this
    rw [show a.x * b.x - a.y * b.y = a.x * b.x + -(a.y * b.y) by grind]; grind
  · show (a.x * b.y + a.y * b.x).abs ≤ _
    have := abs_add_le (a.x * b.y) (a.y * b.x)
    grind

theorem addQ {a b c d : Nat} {z w : Cq} {B : Rat} (h : IsQ a b z) (g : IsQ c d w) (hB : Bd (z.add w) B) (B1 : 1 / 1000 ≤ B) (B2 : B ≤ 1000000000000) :
    ∃ p q s, IsQ p q s ∧ Nr s (z.add w) (eps * B) ∧ ∀ (R : Type) (k : Nat → Nat → Option R), addK R a b c d k = k p q := by
  obtain ⟨p, x, e1, i1, n1⟩ := add_is h.1 g.1 (big_lt' hB.1 B2)
  obtain ⟨q, y, e2, i2, n2⟩ := add_is h.2 g.2 (big_lt' hB.2 B2)
  exact ⟨p, q, ⟨x, y⟩, ⟨i1, i2⟩, ⟨n1.le hB.1 (low_le B1), n2.le hB.2 (low_le B1)⟩, fun R k => by unfold addK; rw [bindF_eq e1, bindF_eq e2]⟩
theorem subQ {a b c d : Nat} {z w : Cq} {B : Rat} (h : IsQ a b z) (g : IsQ c d w) (hB : Bd (z.sub w) B) (B1 : 1 / 1000 ≤ B) (B2 : B ≤ 1000000000000) :
    ∃ p q s, IsQ p q s ∧ Nr s (z.sub w) (eps * B) ∧ ∀ (R : Type) (k : Nat → Nat → Option R), subK R a b c d k = k p q := by
  obtain ⟨p, x, e1, i1, n1⟩ := sub_is h.1 g.1 (big_lt' hB.1 B2)
  obtain ⟨q, y, e2, i2, n2⟩ := sub_is h.2 g.2 (big_lt' hB.2 B2)
  exact ⟨p, q, ⟨x, y⟩, ⟨i1, i2⟩, ⟨n1.le hB.1 (low_le B1), n2.le hB.2 (low_le B1)⟩, fun R k => by unfold subK; rw [bindF_eq e1, bindF_eq e2]⟩
theorem mulQ {a b c d : Nat} {z w : Cq} {m n B : Rat} (h : IsQ a b z) (g : IsQ c d w) (hz : Bd z m) (hw : Bd w n) (hB : m * n ≤ B) (B1 : 1 / 1000 ≤ B) (B2 : B ≤ 100000000000) :
    ∃ p q s, IsQ p q s ∧ Nr s (z.mul w) (401 / 100 * (eps * B)) ∧ ∀ (R : Type) (k : Nat → Nat → Option R), mulK R a b c d k = k p q := by
  have he := eps_pos
  have he2 := eps_tiny
  have k1 := Rat.le_trans (abs_mul_le hz.1 hw.1) hB
  have k2 := Rat.le_trans (abs_mul_le hz.2 hw.2) hB
  have k3 := Rat.le_trans (abs_mul_le hz.1 hw.2) hB
  have k4 := Rat.le_trans (abs_mul_le hz.2 hw.1) hB
  have B2' : B ≤ 1000000000000 := by grind
  have eB : eps * B * 1000000000 ≤ B := by
    have := Rat.mul_le_mul_of_nonneg_right he2 (show 0 ≤ B by grind)
    grind
  have eB0 : 0 ≤ eps * B := Rat.mul_nonneg (Rat.le_of_lt he) (by grind)
  obtain ⟨r1, x1, e1, i1, n1⟩ := mul_is h.1 g.1 (big_lt' k1 B2')
  obtain ⟨r2, x2, e2, i2, n2⟩ := mul_is h.2 g.2 (big_lt' k2 B2')
  have d1 := n1.le k1 (low_le B1)
  have d2 := n2.le k2 (low_le B1)
  have s1 : (x1 - x2).abs ≤ 2002 / 1000 * B := by
    have a1 := abs_near d1
    have a2 := abs_near d2
    have a3 := abs_add_le x1 (-x2)
    rw [abs_neg] at a3
    rw [show x1 - x2 = x1 + -x2 by grind]; grind
  obtain ⟨r3, x3, e3, i3, n3⟩ := sub_is i1 i2 (big_lt' s1 (by grind))
  have d3 := n3.le s1 (low_le (by grind))
  obtain ⟨r4, x4, e4, i4, n4⟩ := mul_is h.1 g.2 (big_lt' k3 B2')
  obtain ⟨r5, x5, e5, i5, n5⟩ := mul_is h.2 g.1 (big_lt' k4 B2')
  have d4 := n4.le k3 (low_le B1)
  have d5 := n5.le k4 (low_le B1)
  have s2 : (x4 + x5).abs ≤ 2002 / 1000 * B := by
    have a1 := abs_near d4
    have a2 := abs_near d5
    have a3 := abs_add_le x4 x5
    grind
  obtain ⟨r6, x6, e6, i6, n6⟩ := add_is i4 i5 (big_lt' s2 (by grind))
  have d6 := n6.le s2 (low_le (by grind))
  refine ⟨r3, r6, ⟨x3, x6⟩, ⟨i3, i6⟩, ⟨?_, ?_⟩, fun R k => by unfold mulK; rw [bindF_eq e1, bindF_eq e2, bindF_eq e3, bindF_eq e4, bindF_eq e5, bindF_eq e6]⟩
  · show (x3 - (z.x * w.x - z.y * w.y)).abs ≤ _
    have a1 := abs_add_le (x3 - (x1 - x2)) (x1 - z.x * w.x)
    have a2 := abs_add_le (x3 - (x1 - x2) + (x1 - z.x * w.x)) (-(x2 - z.y * w.y))
    rw [abs_neg] at a2
    rw [show x3 - (z.x * w.x - z.y * w.y) = x3 - (x1 - x2) + (x1 - z.x * w.x) + -(x2 - z.y * w.y) by grind]; grind
  · show (x6 - (z.x * w.y + z.y * w.x)).abs ≤ _
    have a1 := abs_add_le (x6 - (x4 + x5)) (x4 - z.x * w.y)
    have a2 := abs_add_le (x6 - (x4 + x5) + (x4 - z.x * w.y)) (x5 - z.y * w.x)
    rw [show x6 - (z.x * w.y + z.y * w.x) = x6 - (x4 + x5) + (x4 - z.x * w.y) + (x5 - z.y * w.x) by grind]; grind

theorem divQ {a b c d : Nat} {z g u : Cq} {M : Rat} (h : IsQ a b z) (hg : IsQ c d g) (gn : 1 / 1000000 ≤ g.n) (gb : Bd g 1000000000000) (e : u.mul g = z) (hu : Bd u M) (M1 : 1 ≤ M) (M2 : M ≤ 1000000) :
    ∃ p q s, IsQ p q s ∧ Nr s u (32 * (M * eps)) ∧ ∀ (R : Type) (k : Nat → Nat → Option R), divK R a b c d k = k p q := by
  have h6 := p2_le (show (50 : Int) ≤ 300 by decide)
  have h8 : (2 : Rat) ^ (50 : Int) = 1125899906842624 := by rw [show (50 : Int) = ((50 : Nat) : Int) by rfl, p2_nat]; rfl
  have h7 : (2 : Rat) ^ (-300 : Int) ≤ 1 / 2000 := by
    have g1 := p2_le (show (-300 : Int) ≤ -51 by decide)
    have g2 : (2 : Rat) ^ (-51 : Int) = eps := rfl
    have := eps_tiny
    rw [g2] at g1
    grind
  have ex := congrArg Cq.x e
  have ey := congrArg Cq.y e
  simp only [Cq.mul] at ex ey
  have hW : ∃ W : Rat, g.x.abs ≤ W ∧ g.y.abs ≤ W ∧ (W = g.x.abs ∨ W = g.y.abs) := by
    rcases (Rat.le_total : g.x.abs ≤ g.y.abs ∨ g.y.abs ≤ g.x.abs) with h | h
    · exact ⟨_, h, Rat.le_refl, .inr rfl⟩
    · exact ⟨_, Rat.le_refl, h, .inl rfl⟩
  obtain ⟨W, w1, w2, w3⟩ := hW
  have W0 : 0 ≤ W := by have := abs_nonneg g.x; grind
  have W1 : 1 / 2000 ≤ W := by
    rcases (Rat.le_total : W ≤ 1 / 2000 ∨ 1 / 2000 ≤ W) with k | k
    · have s1 := sq_le (Rat.le_trans w1 k)
      have s2 := sq_le (Rat.le_trans w2 k)
      unfold Cq.n at gn
      grind
    · exact k
  have W2 : W ≤ 1000000000000 := by rcases w3 with k | k <;> (rw [k]; first | exact gb.1 | exact gb.2)
  obtain ⟨p, q, U, V, j1, j2, j3, j4, j5⟩ := divK_near (u := u.x) (v := u.y) h.1 h.2 hg.1 hg.2 w1 w2 w3 (by grind) (by grind) hu.1 hu.2 (by grind) (by grind) (by rw [← ex]) (by rw [← ey])
  exact ⟨p, q, ⟨U, V⟩, ⟨j1, j2⟩, ⟨j3, j4⟩, j5⟩

theorem p40_eq : ((2 ^ 40 : Int) : Rat) = 1099511627776 := by rfl
theorem withinK_is {a : Nat} {x : Rat} (h : Is a x) (hb : x.abs ≤ 1000000) {R : Type} (k : Bool → Option R) : withinK R a 4787326403894837248 k = k true := by
  unfold withinK withinB absK
  show forceB (leF (absW a) 4787326403894837248) (fun t => k t) = k true
  rw [forceB_eq, leF_is (abs_is h) is_p40]
  have : x.abs ≤ ((2 ^ 40 : Int) : Rat) := by rw [p40_eq]; grind
  simp only [this, decide_true]
theorem placeQ {a b : Nat} {z : Cq} (h : IsQ a b z) (hb : Bd z 1000000) {R : Type} (k : Bool → Option R) : placeK R a b k = k true := by
  unfold placeK placeB WithinK WithinB
  rw [withinK_is h.1 hb.1, forceB_eq]
  simp only
  rw [withinK_is h.2 hb.2]
  simp only [forceB_eq]
theorem noughtQ {a b : Nat} {z : Cq} (h : IsQ a b z) (hz : z.n ≠ 0) {R : Type} (k : Bool → Option R) : noughtK R a b k = k false := by
  unfold noughtK
  rw [forceB_eq, eqF_is h.1 is0]
  by_cases h1 : z.x = 0
  · simp only [h1, decide_true]
    rw [forceB_eq, eqF_is h.2 is0]
    by_cases h2 : z.y = 0
    · exact absurd (by unfold Cq.n; rw [h1, h2]; grind) hz
    · simp [h2]
  · simp [h1]
theorem negQ {a b : Nat} {z : Cq} (h : IsQ a b z) : ∃ p q, IsQ p q z.neg ∧ ∀ (R : Type) (k : Nat → Nat → Option R), negK R a b k = k p q :=
  ⟨_, _, ⟨neg_is h.1, neg_is h.2⟩, fun R k => by unfold negK; rw [forceN_eq, forceN_eq]⟩
theorem rootQ {a b : Nat} {z : Cq} (h : IsQ a b z) (hb : Bd z 1000000000000) : ∃ p q P, IsQ p q P ∧ RootOf P z ∧ ∀ (R : Type) (k : Nat → Nat → Option R), rootK R a b k = k p q := by
  have h6 := p2_le (show (50 : Int) ≤ 300 by decide)
  have h8 : (2 : Rat) ^ (50 : Int) = 1125899906842624 := by rw [show (50 : Int) = ((50 : Nat) : Int) by rfl, p2_nat]; rfl
  obtain ⟨p, q, P, Q, i1, i2, r, e⟩ := rootK_is h.1 h.2 (by have := hb.1; grind) (by have := hb.2; grind)
  exact ⟨p, q, ⟨P, Q⟩, ⟨i1, i2⟩, r, e⟩
/-- near or not: an answer comes -/
theorem nearQ {a b c d m : Nat} {z w : Cq} {M : Rat} (h : IsQ a b z) (g : IsQ c d w) (hm : Is m M) (hz : Bd z 1000000) (hw : Bd w 1000000) : ∃ t, ∀ (R : Type) (k : Bool → Option R), nearK R a b c d m k = k t := by
  obtain ⟨p, q, s, i, n, e⟩ := subQ h g (hz.sub hw) (by grind) (by grind)
  have he := eps_tiny
  have h6 := p2_le (show (50 : Int) ≤ 400 by decide)
  have h8 : (2 : Rat) ^ (50 : Int) = 1125899906842624 := by rw [show (50 : Int) = ((50 : Nat) : Int) by rfl, p2_nat]; rfl
  have hs := n.bd (hz.sub hw)
  obtain ⟨r, L, j, _, el⟩ := lengthK_le (d := 3000000) i.1 i.2 (by have := hs.1; grind) (by have := hs.2; grind) (by
    have g1 := p2_le (show (-900 : Int) ≤ 0 by decide)
    rw [Rat.zpow_zero] at g1
    grind) (by grind)
  refine ⟨leF r m, fun R k => ?_⟩
  unfold nearK nearB
  rw [e, el, forceB_eq]
theorem nearQ_yes {a b c d m : Nat} {z w : Cq} {M e : Rat} (h : IsQ a b z) (g : IsQ c d w) (hm : Is m M) (he : Nr z w e) (e1 : 1 / 1000000000000 ≤ e) (e2 : e ≤ 1) (hM : 3 * e ≤ M) {R : Type} (k : Bool → Option R) : nearK R a b c d m k = k true :=
  nearK_yes h.1 h.2 g.1 g.2 hm he.1 he.2 (by
    have g1 := p2_le (show (-800 : Int) ≤ -51 by decide)
    have g2 : (2 : Rat) ^ (-51 : Int) = eps := rfl
    rw [g2, eps_val] at g1
    grind) (by
    have g1 := p2_le (show (0 : Int) ≤ 300 by decide)
    rw [Rat.zpow_zero] at g1
    grind) hM k
end Go.Vm
