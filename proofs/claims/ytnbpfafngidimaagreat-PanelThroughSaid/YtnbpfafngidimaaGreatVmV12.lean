/- A part of the evaluator and of what is told of floats; no conditions. -/
import Derived.Test.YtnbpfafngidimaaGreatVmUJ5
import Derived.Test.YtnbpfafngidimaaGreatVmU1
import Derived.Test.YtnbpfafngidimaaGreatVmRD4
namespace Go.Vm
open Go.Proofs Ieee
set_option linter.unusedVariables false
set_option linter.unusedSectionVars false
set_option linter.unusedSimpArgs false

/-! ### A row with strengths: what comes through -/
theorem p2_40 : (2 : Rat) ^ (40 : Int) = 1099511627776 := by rw [show (40 : Int) = ((40 : Nat) : Int) by rfl, p2_nat]; rfl
theorem big200_lo : (100000000000000000000000 : Rat) ≤ big200 := by
  have h := p2_le (show (77 : Int) ≤ 200 by decide)
  have e : (2 : Rat) ^ (77 : Int) = 151115727451828646838272 := by rw [show (77 : Int) = ((77 : Nat) : Int) by rfl, p2_nat]; rfl
  unfold big200
  grind
theorem p2_90_lo : (1000000000000000000 : Rat) ≤ (2 : Rat) ^ (90 : Int) := by
  have h := p2_le (show (60 : Int) ≤ 90 by decide)
  have e : (2 : Rat) ^ (60 : Int) = 1152921504606846976 := by rw [show (60 : Int) = ((60 : Nat) : Int) by rfl, p2_nat]; rfl
  grind
theorem sm_le_mul {f : Nat → Rat} {B : Rat} : ∀ (m c : Nat), (∀ j, c ≤ j → j < c + m → f j ≤ B) → sm f c m ≤ (m : Rat) * B
  | 0, c, h => by simp only [sm]; rw [show ((0 : Nat) : Rat) = 0 from rfl]; grind
  | m + 1, c, h => by
    simp only [sm]
    have h1 := h c (Nat.le_refl _) (by omega)
    have h2 := sm_le_mul m (c + 1) fun j g1 g2 => h j (by omega) (by omega)
    rw [show ((m + 1 : Nat) : Rat) = (m : Rat) + 1 by norm_cast]
    grind
theorem sm_mono' {f g : Nat → Rat} : ∀ (m c : Nat), (∀ j, c ≤ j → j < c + m → f j ≤ g j) → sm f c m ≤ sm g c m
  | 0, c, h => by simp only [sm]; exact Rat.le_refl
  | m + 1, c, h => by
    simp only [sm]
    have h1 := h c (Nat.le_refl _) (by omega)
    have h2 := sm_mono' m (c + 1) fun j g1 g2 => h j (by omega) (by omega)
    grind
theorem sm_const {B : Rat} : ∀ (m c : Nat), sm (fun _ => B) c m = (m : Rat) * B
  | 0, c => by simp only [sm]; rw [show ((0 : Nat) : Rat) = 0 from rfl]; grind
  | m + 1, c => by simp only [sm]; rw [sm_const m, show ((m + 1 : Nat) : Rat) = (m : Rat) + 1 by norm_cast]; grind
theorem sm_sub (f g : Nat → Rat) (m c : Nat) : sm f c m - sm g c m = sm (fun j => f j - g j) c m := by
  have h := sm_add (fun j => f j - g j) g m c
  rw [sm_congr (f := fun j => f j - g j + g j) (g := f) m c fun j _ _ => by grind] at h
  grind
theorem strengths_near {n : Nat} (hn : n ≤ 8) {x : Nat → Rat} {P p : Nat → Rat} {S : Rat} (bp : ∀ j, j < n → (p j).abs ≤ 262) (hP : ∀ j, j < n → (P j - p j * x j).abs ≤ eps / 4 * (262 * (x j).abs) + tn) (hS : (S - sm P 0 n).abs ≤ 8 * (eps * sm (fun l => (P l).abs) 0 n + 2 * tn)) :
    (S - sm (fun j => p j * x j) 0 n).abs ≤ 2200 * (eps * sm (fun j => (x j).abs) 0 n) + 30 * tn ∧ sm (fun l => (P l).abs) 0 n ≤ 263 * sm (fun j => (x j).abs) 0 n + 8 * tn := by
  have ep := eps_pos
  have el := eps_le
  have t0 := tn_pos
  have X0 := sm_nonneg (f := fun j => (x j).abs) (fun j => abs_nonneg _) n 0
  have n8 : (n : Rat) ≤ 8 := by exact_mod_cast hn
  have nt := Rat.mul_le_mul_of_nonneg_right n8 (Rat.le_of_lt t0)
  have e1 : (sm P 0 n - sm (fun j => p j * x j) 0 n).abs ≤ eps / 4 * (262 * sm (fun j => (x j).abs) 0 n) + 8 * tn := by
    rw [sm_sub]
    refine Rat.le_trans (sm_abs (g := fun j => (eps / 4 * 262) * (x j).abs + tn) n 0 fun j _ hj => ?_) ?_
    · have := hP j (by omega); grind
    · rw [sm_add, sm_mul, sm_const]; grind
  have e2 : sm (fun l => (P l).abs) 0 n ≤ 263 * sm (fun j => (x j).abs) 0 n + 8 * tn := by
    refine Rat.le_trans (sm_mono' (g := fun j => 263 * (x j).abs + tn) n 0 fun j _ hj => ?_) ?_
    · have g := abs_near (hP j (by omega))
      rw [abs_mul] at g
      have nx := abs_nonneg (x j)
      have := Rat.mul_le_mul_of_nonneg_right (bp j (by omega)) nx
      have := Rat.mul_le_mul_of_nonneg_right el nx
      grind
    · rw [sm_add, sm_mul, sm_const]; grind
  refine ⟨?_, e2⟩
  have g := abs_add_le (S - sm P 0 n) (sm P 0 n - sm (fun j => p j * x j) 0 n)
  rw [show S - sm P 0 n + (sm P 0 n - sm (fun j => p j * x j) 0 n) = S - sm (fun j => p j * x j) 0 n by grind] at g
  have g2 := Rat.mul_le_mul_of_nonneg_left e2 (Rat.le_of_lt ep)
  have g3 := Rat.mul_le_mul_of_nonneg_right el (Rat.le_of_lt t0)
  have g4 := Rat.mul_nonneg (Rat.le_of_lt ep) X0
  grind
theorem foldP_zero {v : Nat → Nat × Nat} (hv : ∀ l, l < 8 → Is (v l).1 0 ∧ Is (v l).2 0) : ∀ (m j a b : Nat), Is a 0 → Is b 0 → j + m ≤ 8 → ∃ s1 s2, Is s1 0 ∧ Is s2 0 ∧ ∀ (R : Type) (k : Nat → Nat → Option R), foldP addK v m j a b k = k s1 s2
  | 0, j, a, b, ha, hb, _ => ⟨a, b, ha, hb, fun R k => rfl⟩
  | m + 1, j, a, b, ha, hb, hj => by
    have l200 := big200_lo
    obtain ⟨x, X, f1, i1, _, z1, _⟩ := fine_add ha (hv j (by omega)).1 (by rw [abs_zero]; grind)
    obtain ⟨y, Y, f2, i2, _, z2, _⟩ := fine_add hb (hv j (by omega)).2 (by rw [abs_zero]; grind)
    rw [z1 (by grind)] at i1
    rw [z2 (by grind)] at i2
    obtain ⟨s1, s2, g1, g2, g3⟩ := foldP_zero hv m (j + 1) x y i1 i2 (by omega)
    refine ⟨s1, s2, g1, g2, fun R k => ?_⟩
    simp only [foldP]
    unfold addK
    rw [bindF_eq f1, bindF_eq f2]
    exact g3 R k
theorem sumP_zero {v : Nat → Nat × Nat} {n : Nat} (h0 : 0 < n) (hn : n ≤ 8) (hv : ∀ l, l < n → Is (v l).1 0 ∧ Is (v l).2 0) : ∃ s1 s2, Is s1 0 ∧ Is s2 0 ∧ ∀ (R : Type) (k : Nat → Nat → Option R), sumP addK v n k = k s1 s2 := by
  let v' : Nat → Nat × Nat := fun j => if j < n then v j else (0, 0)
  have e : ∀ l, l < n → v l = v' l := fun l hl => by show v l = if l < n then v l else (0, 0); rw [if_pos hl]
  have hv' : ∀ l, Is (v' l).1 0 ∧ Is (v' l).2 0 := fun l => by
    by_cases hl : l < n
    · rw [← e l hl]; exact hv l hl
    · show Is (if l < n then v l else (0, 0)).1 0 ∧ Is (if l < n then v l else (0, 0)).2 0
      rw [if_neg hl]
      exact ⟨is0, is0⟩
  cases n with
  | zero => omega
  | succ m =>
    obtain ⟨s1, s2, g1, g2, g3⟩ := foldP_zero (v := v') (fun l _ => hv' l) m 1 (v' 0).1 (v' 0).2 (hv' 0).1 (hv' 0).2 (by omega)
    refine ⟨s1, s2, g1, g2, fun R k => ?_⟩
    rw [sumP_congr e]
    exact g3 R k
section
variable {n : Nat} (h0 : 0 < n) (hn : n ≤ 8) {v : Nat → Nat × Nat} {p q : Nat → Rat} (hv : ∀ j, j < n → Is (v j).1 (p j) ∧ Is (v j).2 (q j)) (bp : ∀ j, j < n → (p j).abs ≤ 262 ∧ (q j).abs ≤ 262)
  {xs : Nat → Nat} {x : Nat → Rat} (hx : ∀ j, j < n → Is (xs j) (x j)) (bx : ∀ j, j < n → (x j).abs ≤ (2 : Rat) ^ (40 : Int))
  {s1 s2 : Nat} {S1 S2 : Rat} (is1 : Is s1 S1) (is2 : Is s2 S2) (bs1 : S1.abs ≤ 1000) (bs2 : S2.abs ≤ 1000)
  {u1 u2 : Nat} {U1 U2 : Rat} (iu1 : Is u1 U1) (iu2 : Is u2 U2) (bu1 : U1.abs ≤ 101 / 100) (bu2 : U2.abs ≤ 101 / 100)
include h0 hn hv bp hx bx
/-- one part of the sum of the strengths' speeds -/
theorem scaled_list : ∃ (w : Nat → Nat × Nat) (P Q : Nat → Rat), (∀ l, l < 8 → Is (w l).1 (P l) ∧ Is (w l).2 (Q l)) ∧ (∀ j, j < n → ∀ (R : Type) (k : Nat → Nat → Option R), sclK R (v j).1 (v j).2 (xs j) k = k (w j).1 (w j).2) ∧
    (∀ j, j < n → (P j - p j * x j).abs ≤ eps / 4 * (262 * (x j).abs) + tn ∧ (Q j - q j * x j).abs ≤ eps / 4 * (262 * (x j).abs) + tn) ∧ (∀ j, j < n → x j = 0 → P j = 0 ∧ Q j = 0) := by
  have ep := eps_pos
  have key : ∀ j, ∃ (a b : Nat) (A B : Rat), Is a A ∧ Is b B ∧ (j < n → (∀ (R : Type) (k : Nat → Nat → Option R), sclK R (v j).1 (v j).2 (xs j) k = k a b) ∧ ((A - p j * x j).abs ≤ eps / 4 * (262 * (x j).abs) + tn ∧ (B - q j * x j).abs ≤ eps / 4 * (262 * (x j).abs) + tn) ∧ (x j = 0 → A = 0 ∧ B = 0)) := fun j => by
    by_cases hj : j < n
    · have b200 := big200_lo
      have x40 := bx j hj
      rw [p2_40] at x40
      have nx := abs_nonneg (x j)
      have m1 := Rat.mul_le_mul_of_nonneg_right (bp j hj).1 nx
      have m2 := Rat.mul_le_mul_of_nonneg_right (bp j hj).2 nx
      obtain ⟨a, A, f1, i1, e1, z1⟩ := fine_mul (hv j hj).1 (hx j hj) (by grind)
      obtain ⟨b, B, f2, i2, e2, z2⟩ := fine_mul (hv j hj).2 (hx j hj) (by grind)
      have g1 := Rat.mul_le_mul_of_nonneg_left m1 (show 0 ≤ eps / 4 by grind)
      have g2 := Rat.mul_le_mul_of_nonneg_left m2 (show 0 ≤ eps / 4 by grind)
      exact ⟨a, b, A, B, i1, i2, fun _ => ⟨fun R k => by unfold sclK; rw [bindF_eq f1, bindF_eq f2], ⟨by grind, by grind⟩, fun h => ⟨z1 (.inr h), z2 (.inr h)⟩⟩⟩
    · exact ⟨0, 0, 0, 0, is0, is0, fun h => absurd h hj⟩
  refine ⟨fun j => (Classical.choose (key j), Classical.choose (Classical.choose_spec (key j))), fun j => Classical.choose (Classical.choose_spec (Classical.choose_spec (key j))), fun j => Classical.choose (Classical.choose_spec (Classical.choose_spec (Classical.choose_spec (key j)))), fun l _ => ?_, fun j hj => ?_, fun j hj => ?_, fun j hj => ?_⟩
  · have h := Classical.choose_spec (Classical.choose_spec (Classical.choose_spec (Classical.choose_spec (key l))))
    exact ⟨h.1, h.2.1⟩
  · exact ((Classical.choose_spec (Classical.choose_spec (Classical.choose_spec (Classical.choose_spec (key j))))).2.2 hj).1
  · exact ((Classical.choose_spec (Classical.choose_spec (Classical.choose_spec (Classical.choose_spec (key j))))).2.2 hj).2.1
  · exact ((Classical.choose_spec (Classical.choose_spec (Classical.choose_spec (Classical.choose_spec (key j))))).2.2 hj).2.2
include is1 is2 bs1 bs2 iu1 iu2 bu1 bu2
theorem strong_row : ∃ (w : Nat → Nat × Nat) (S T z : Nat × Nat), (∀ j, j < n → ∀ (R : Type) (k : Nat → Nat → Option R), sclK R (v j).1 (v j).2 (xs j) k = k (w j).1 (w j).2) ∧
    (∀ (R : Type) (k : Nat → Nat → Option R), sumP addK w n k = k S.1 S.2) ∧ (∀ (R : Type) (k : Nat → Nat → Option R), addK R s1 s2 S.1 S.2 k = k T.1 T.2) ∧ (∀ (R : Type) (k : Nat → Nat → Option R), mulK R T.1 T.2 u1 u2 k = k z.1 z.2) ∧
    ∃ Z, Is z.2 Z ∧ (Z - (S1 * U2 + S2 * U1 + sm (fun j => (p j * U2 + q j * U1) * x j) 0 n)).abs ≤ eps * (6000 * sm (fun j => (x j).abs) 0 n + 6 * (S1.abs + S2.abs)) + 200 * tn ∧ ((∀ j, j < n → x j = 0) → S1 = 0 → S2 = 0 → Z = 0) := by
  have ep := eps_pos
  have el := eps_le
  have t0 := tn_pos
  have ts := tn_small
  obtain ⟨w, P, Q, hw, hsc, hpq, hzz⟩ := scaled_list h0 hn hv bp hx bx
  have b200 := big200_lo
  have X0 := sm_nonneg (f := fun j => (x j).abs) (fun j => abs_nonneg _) n 0
  have X1 : sm (fun j => (x j).abs) 0 n ≤ 8 * 1099511627776 := by
    have h := sm_le_mul (f := fun j => (x j).abs) (B := 1099511627776) n 0 fun j _ hj => by have := bx j (by omega); rw [p2_40] at this; exact this
    have n8 : (n : Rat) ≤ 8 := by exact_mod_cast hn
    have := Rat.mul_le_mul_of_nonneg_right n8 (show (0 : Rat) ≤ 1099511627776 by decide)
    grind
  have sb : ∀ {F f : Nat → Rat}, (∀ j, j < n → (F j - f j * x j).abs ≤ eps / 4 * (262 * (x j).abs) + tn) → (∀ j, j < n → (f j).abs ≤ 262) → sm (fun l => (F l).abs) 0 n ≤ 263 * sm (fun j => (x j).abs) 0 n + 8 * tn := fun {F f} hF hf =>
    (strengths_near hn (x := x) (P := F) (p := f) (S := sm F 0 n) hf hF (by
      rw [show sm F 0 n - sm F 0 n = 0 by grind, abs_zero]
      have := sm_nonneg (f := fun l => (F l).abs) (fun l => abs_nonneg _) n 0
      have := Rat.mul_nonneg (Rat.le_of_lt ep) this
      grind)).2
  have sP := sb (fun j hj => (hpq j hj).1) fun j hj => (bp j hj).1
  have sQ := sb (fun j hj => (hpq j hj).2) fun j hj => (bp j hj).2
  obtain ⟨a, b, A, B, ia, ib, ea, eb, hsum⟩ := sumP_fine h0 hn hw (by grind) (by grind)
  have nA := (strengths_near hn (x := x) (fun j hj => (bp j hj).1) (fun j hj => (hpq j hj).1) ea).1
  have nB := (strengths_near hn (x := x) (fun j hj => (bp j hj).2) (fun j hj => (hpq j hj).2) eb).1
  -- the strengths' speeds are not great
  have mA : (sm (fun j => p j * x j) 0 n).abs ≤ 262 * sm (fun j => (x j).abs) 0 n := by
    have := sm_abs (f := fun j => p j * x j) (g := fun j => 262 * (x j).abs) n 0 fun j _ hj => by
      rw [abs_mul]; exact Rat.mul_le_mul_of_nonneg_right (bp j (by omega)).1 (abs_nonneg _)
    rw [sm_mul] at this
    exact this
  have mB : (sm (fun j => q j * x j) 0 n).abs ≤ 262 * sm (fun j => (x j).abs) 0 n := by
    have := sm_abs (f := fun j => q j * x j) (g := fun j => 262 * (x j).abs) n 0 fun j _ hj => by
      rw [abs_mul]; exact Rat.mul_le_mul_of_nonneg_right (bp j (by omega)).2 (abs_nonneg _)
    rw [sm_mul] at this
    exact this
  have zA : (∀ j, j < n → x j = 0) → A = 0 ∧ B = 0 := fun hz => by
    obtain ⟨a', b', h1, h2, h3⟩ := sumP_zero (v := w) h0 hn fun l hl => by
      have g := hw l (by omega)
      have z := hzz l hl (hz l hl)
      rw [z.1, z.2] at g
      exact g
    have e := (hsum (Nat × Nat) fun x y => some (x, y)).symm.trans (h3 (Nat × Nat) fun x y => some (x, y))
    cases e
    exact ⟨is_fun ia h1, is_fun ib h2⟩
  generalize hX : sm (fun j => (x j).abs) 0 n = X at *
  have split : sm (fun j => (p j * U2 + q j * U1) * x j) 0 n = sm (fun j => p j * x j) 0 n * U2 + sm (fun j => q j * x j) 0 n * U1 := by
    have h1 := sm_add (fun j => U2 * (p j * x j)) (fun j => U1 * (q j * x j)) n 0
    rw [sm_mul, sm_mul] at h1
    rw [sm_congr (f := fun j => (p j * U2 + q j * U1) * x j) (g := fun j => U2 * (p j * x j) + U1 * (q j * x j)) n 0 fun j _ _ => by grind, h1]
    grind
  rw [split]
  have zG : (∀ j, j < n → x j = 0) → sm (fun j => p j * x j) 0 n = 0 ∧ sm (fun j => q j * x j) 0 n = 0 := fun hz => by
    constructor
    · rw [sm_congr (g := fun _ => (0 : Rat)) n 0 fun j _ hj => by rw [hz j (by omega)]; grind, sm_const]; grind
    · rw [sm_congr (g := fun _ => (0 : Rat)) n 0 fun j _ hj => by rw [hz j (by omega)]; grind, sm_const]; grind
  generalize sm (fun j => p j * x j) 0 n = G at *
  generalize sm (fun j => q j * x j) 0 n = K at *
  have eX := Rat.mul_nonneg (Rat.le_of_lt ep) X0
  have eXl := Rat.mul_le_mul_of_nonneg_right el X0
  have tl : tn ≤ 1 / 1000 := by
    have := Rat.mul_le_mul_of_nonneg_right el (show (0 : Rat) ≤ 1 / 1000000 by grind)
    grind
  have bA := abs_near nA
  have bB := abs_near nB
  have aA : A.abs ≤ 265 * X + 30 * tn := by grind
  have aB : B.abs ≤ 265 * X + 30 * tn := by grind
  have n1 := abs_nonneg S1
  have n2 := abs_nonneg S2
  obtain ⟨T1, Y1, f1, i1, e1, z1, _⟩ := fine_add is1 ia (by grind)
  obtain ⟨T2, Y2, f2, i2, e2, z2, _⟩ := fine_add is2 ib (by grind)
  have near1 : (Y1 - (S1 + G)).abs ≤ eps * (2270 * X + S1.abs) + 40 * tn := by
    have g := abs_add_le (Y1 - (S1 + A)) (A - G)
    rw [show Y1 - (S1 + A) + (A - G) = Y1 - (S1 + G) by grind] at g
    have g2 := Rat.mul_le_mul_of_nonneg_left (show S1.abs + A.abs ≤ S1.abs + (265 * X + 30 * tn) by grind) (show 0 ≤ eps / 4 by grind)
    have g3 := Rat.mul_le_mul_of_nonneg_right el (Rat.le_of_lt t0)
    have g4 := Rat.mul_nonneg (Rat.le_of_lt ep) n1
    grind
  have near2 : (Y2 - (S2 + K)).abs ≤ eps * (2270 * X + S2.abs) + 40 * tn := by
    have g := abs_add_le (Y2 - (S2 + B)) (B - K)
    rw [show Y2 - (S2 + B) + (B - K) = Y2 - (S2 + K) by grind] at g
    have g2 := Rat.mul_le_mul_of_nonneg_left (show S2.abs + B.abs ≤ S2.abs + (265 * X + 30 * tn) by grind) (show 0 ≤ eps / 4 by grind)
    have g3 := Rat.mul_le_mul_of_nonneg_right el (Rat.le_of_lt t0)
    have g4 := Rat.mul_nonneg (Rat.le_of_lt ep) n2
    grind
  have size1 : Y1.abs ≤ S1.abs + 266 * X + S1.abs / 100 + 100 * tn := by
    have g := abs_near near1
    have g2 := abs_add_le S1 G
    have g3 := Rat.mul_le_mul_of_nonneg_right el n1
    grind
  have size2 : Y2.abs ≤ S2.abs + 266 * X + S2.abs / 100 + 100 * tn := by
    have g := abs_near near2
    have g2 := abs_add_le S2 K
    have g3 := Rat.mul_le_mul_of_nonneg_right el n2
    grind
  have P90 := p2_90_lo
  obtain ⟨z1', z2', Z, iZ, eZ, zZ, hmul⟩ := fine_im i1 i2 iu1 iu2 (by grind) (by grind) (by grind) (by grind)
  refine ⟨w, (a, b), (T1, T2), (z1', z2'), hsc, hsum, fun R k => by unfold addK; rw [bindF_eq f1, bindF_eq f2], hmul, Z, iZ, ?_, fun hz hs1 hs2 => ?_⟩
  · have t1 : Z - (S1 * U2 + S2 * U1 + (G * U2 + K * U1)) = (Z - (Y1 * U2 + Y2 * U1)) + ((Y1 - (S1 + G)) * U2 + (Y2 - (S2 + K)) * U1) := by grind
    rw [t1]
    have g1 := abs_add_le (Z - (Y1 * U2 + Y2 * U1)) ((Y1 - (S1 + G)) * U2 + (Y2 - (S2 + K)) * U1)
    have g2 := abs_add_le ((Y1 - (S1 + G)) * U2) ((Y2 - (S2 + K)) * U1)
    rw [abs_mul, abs_mul] at g2
    have nU1 := abs_nonneg U1
    have nU2 := abs_nonneg U2
    have q1 : 0 ≤ eps * (2270 * X + S1.abs) + 40 * tn := Rat.le_trans (abs_nonneg _) near1
    have q2 : 0 ≤ eps * (2270 * X + S2.abs) + 40 * tn := Rat.le_trans (abs_nonneg _) near2
    have m1 := mul_mono' near1 bu2 nU2 q1
    have m2 := mul_mono' near2 bu1 nU1 q2
    have m3 := mul_mono' size1 bu2 nU2 (Rat.le_trans (abs_nonneg _) size1)
    have m4 := mul_mono' size2 bu1 nU1 (Rat.le_trans (abs_nonneg _) size2)
    have m5 := Rat.mul_le_mul_of_nonneg_left (show Y1.abs * U2.abs + Y2.abs * U1.abs ≤ (S1.abs + 266 * X + S1.abs / 100 + 100 * tn) * (101 / 100) + (S2.abs + 266 * X + S2.abs / 100 + 100 * tn) * (101 / 100) by grind) (Rat.le_of_lt ep)
    have g3 := Rat.mul_le_mul_of_nonneg_right el (Rat.le_of_lt t0)
    have g4 := Rat.mul_nonneg (Rat.le_of_lt ep) n1
    have g5 := Rat.mul_nonneg (Rat.le_of_lt ep) n2
    have e5 : eps * ((S1.abs + 266 * X + S1.abs / 100 + 100 * tn) * (101 / 100) + (S2.abs + 266 * X + S2.abs / 100 + 100 * tn) * (101 / 100)) = (10201 / 10000) * (eps * S1.abs) + (10201 / 10000) * (eps * S2.abs) + (53732 / 100) * (eps * X) + 202 * (eps * tn) := by grind
    grind
  · have g := zA hz
    have h := zG hz
    refine zZ (z1 ?_) (z2 ?_)
    · rw [hs1, g.1]; grind
    · rw [hs2, g.2]; grind
end
end Go.Vm
namespace Go.Vm
open Go.Proofs
set_option linter.unusedVariables false
set_option linter.unusedSimpArgs false
set_option maxRecDepth 1000000

/-! ### PanelThrough: its loops -/
abbrev GB := ∀ R : Type, List Value → Nat → (Bool → Option R) → Option R
def gB (g : GB) : Ld := fun R cs off k => g R cs off fun t => k (.bool t)
def rB : GB := fun R cs off k => match cs[off]? with | some (.bool t) => k t | _ => none
theorem ldB_ok {P : Program} {t : TypeId} (h : OneCell P t) : LdOk P t (gB rB) := fun R cs off k r hr => by
  unfold gB rB at hr
  split at hr
  · rename_i a hc
    exact ⟨_, hr, fun R' k' => by rw [h, hc]; rfl⟩
  · cases hr
abbrev KIIC := ∀ R : Type, Int → Int → (Nat → Nat → Option R) → Option R
def sIIC (g : KIIC) : Sum := fun R args k => match args with
  | [.int .i64 a, .int .i64 b] => g R a b fun x y => k (.complex .f64 x y)
  | _ => none
def lim2 (b : Nat) : Bool := Nat.beq b 0 || Nat.beq b 1
noncomputable def lwC (gi : GI) (gb : GB) (at_ : KIIC) (ab : KFF) (gl : List (Nat × HSum)) (ml : List (Nat × MSum)) : Cx :=
  { cxM fiReal Tryz.prog (fun _ _ => none) [(48, sIIC at_), (53, sFF ab)] [] gl ml (mmOf lim2 [(3, gI .i64 gi), (4, gB gb)] (fun _ _ _ _ _ => none) (fun _ _ _ _ _ _ _ _ _ => none)) with wild := wildT }
noncomputable def lwL (i : Nat) : Code := (loopsIn (codeOf 8)).getD i .skip
/-! ### the first loop: the places -/
def idxB (i L : Nat) : Bool := decide ((0 : Int) ≤ Int.ofNat i) && decide (Int.ofNat i < (L : Int)) && true
def lw1E (a : Option Addr) (V1 : Value) (L c0 i : Nat) : Env := [(0, .slice a L c0), (1, V1), (5, .bool true), (6, vecV 2 i), (7, intV i)]
def lw1A (i : Nat) (l : Nat → Nat × Nat) : Objs := match i with
  | 0 => []
  | i + 1 => [(2, .cells (cxL l 0 (i + 1)) 1)]
def lw1N (i : Nat) : Nat := match i with
  | 0 => 3
  | _ => 4
def lw1B (i : Nat) : List Nat := match i with
  | 0 => [3]
  | _ => [2, 4]
def lw1T : List Nat := [0, 1, 5, 6, 7]
def lw1H (i : Nat) (l : Nat → Nat × Nat) (O : Objs) : AH := ⟨bif Nat.beq i 0 then 2 else 3, lw1A i l ++ O⟩
def old1 (b : Bool) (cs : List Value) (sz : Nat) (x : AObj) : Objs := match b with
  | true => [(0, .cells cs sz), (1, x)]
  | false => [(0, .cells cs sz)]
def EqL1 (i : Nat) : Prop := ∀ (R : Type) (gi : GI) (gb : GB) (at_ : KIIC) (ab : KFF) (V1 : Value) (L c0 sz : Nat) (cs : List Value) (x : AObj) (b : Bool) (l : Nat → Nat × Nat) (K : Ex → Env → Objs → Option R),
  evTop (lwC gi gb at_ ab [] []) 100 noL 2 237 (lwL 0) (lw1E (some ⟨0, 0, none⟩) V1 L c0 i) (lw1H i l (old1 b cs sz x)) (takeC lw1T (lw1B i) K) =
    bif decide (Int.ofNat i < (L : Int)) then (bif idxB i L then gi R cs (2 * i) fun a => bif idxB i L then gi R cs (2 * i + 1) fun b => at_ R a b fun x y =>
      K .normal [(0, sliceV 0 L c0), (1, V1), (5, .bool true), (6, sliceV (lw1N i) (i + 1) (i + 1)), (7, intV (i + 1))] [(lw1N i, .cells (cxL (updP l i (x, y)) 0 (i + 1)) 1)] else none else none)
    else K (.exit 0) (lw1E (some ⟨0, 0, none⟩) V1 L c0 i) (lw1A i l)
theorem l1_all : ∀ i, i < 8 → EqL1 i := by
  repeat' first | exact lt_none | refine lt_split ?_ ?_
  all_goals (intro R gi gb at_ ab V1 L c0 sz cs x b l K; cases b <;> kernel_rfl)
theorem l1_full (R : Type) (gi : GI) (gb : GB) (at_ : KIIC) (ab : KFF) (V1 : Value) (L c0 sz : Nat) (cs : List Value) (x : AObj) (b : Bool) (l : Nat → Nat × Nat) (K : Ex → Env → Objs → Option R) :
  evTop (lwC gi gb at_ ab [] []) 100 noL 2 237 (lwL 0) (lw1E (some ⟨0, 0, none⟩) V1 L c0 8) (lw1H 8 l (old1 b cs sz x)) (takeC lw1T [2] K) =
    bif decide (Int.ofNat 8 < (L : Int)) then K (.exit 0) (lw1E (some ⟨0, 0, none⟩) V1 L c0 8) (lw1A 8 l) else K (.exit 0) (lw1E (some ⟨0, 0, none⟩) V1 L c0 8) (lw1A 8 l) := by kernel_rfl
theorem l1_none (R : Type) (gi : GI) (gb : GB) (at_ : KIIC) (ab : KFF) (V1 : Value) (a : Option Addr) (c0 : Nat) (O : Objs) (K : Ex → Env → Objs → Option R) :
  evTop (lwC gi gb at_ ab [] []) 100 noL 2 237 (lwL 0) (lw1E a V1 0 c0 0) ⟨2, O⟩ (takeC lw1T [] K) = K (.exit 0) (lw1E a V1 0 c0 0) [] := by kernel_rfl
end Go.Vm
namespace Go.Vm
open Go.Proofs
set_option linter.unusedVariables false
set_option linter.unusedSimpArgs false
set_option maxRecDepth 1000000

/-! ### PanelThrough's second loop: the elements -/
def lw2T : List Nat := [1, 5, 6, 8, 9]
def lw2E (a : Option Addr) (lV : Value) (M c1 j : Nat) : Env := [(1, .slice a M c1), (5, .bool true), (6, lV), (8, ptrV 3), (9, intV j)]
def loO (b : Bool) (lo : AObj) : Objs := match b with
  | true => [(2, lo)]
  | false => []
def lw2A (j : Nat) (f : Nat → El) (b : Bool) (lo : AObj) : Objs := match j with
  | 0 => (3, .cells [nilS] 0) :: loO b lo
  | j + 1 => (3, .cells [sliceV 4 (j + 1) (j + 1)] 0) :: (4, .cells (elsV f 0 (j + 1)) 4) :: loO b lo
def old2 (b : Bool) (x : AObj) (cs : List Value) (sz : Nat) : Objs := [(1, .cells cs sz)]
def lw2H (j : Nat) (f : Nat → El) (b : Bool) (lo : AObj) (O : Objs) : AH := ⟨bif Nat.beq j 0 then 4 else 5, lw2A j f b lo ++ O⟩
def lw2N (j : Nat) : Nat := match j with
  | 0 => 6
  | _ => 7
def lw2B (j : Nat) : List Nat := match j with
  | 0 => [3, 6, 2]
  | _ => [3, 4, 7, 2]
def updF (f : Nat → El) (i : Nat) (x : El) (j : Nat) : El := match Nat.beq j i with
  | true => x
  | false => f j
/-- the round's end -/
def lw2K {R : Type} (V1 lV : Value) (j : Nat) (f : Nat → El) (b : Bool) (lo : AObj) (K : Ex → Env → Objs → Option R) (x : El) : Option R :=
  K .normal [(1, V1), (5, .bool true), (6, lV), (8, ptrV 3), (9, intV (j + 1))] ((3, .cells [sliceV (lw2N j) (j + 1) (j + 1)] 0) :: (lw2N j, .cells (elsV (updF f j x) 0 (j + 1)) 4) :: loO b lo)
def EqL2 (j : Nat) : Prop := ∀ (R : Type) (gi : GI) (gb : GB) (at_ : KIIC) (ab : KFF) (lV : Value) (M c1 sz : Nat) (cs : List Value) (x lo : AObj) (b : Bool) (f : Nat → El) (K : Ex → Env → Objs → Option R),
  evTop (lwC gi gb at_ ab [] []) 100 noL 2 237 (lwL 1) (lw2E (some ⟨1, 0, none⟩) lV M c1 j) (lw2H j f b lo (old2 b x cs sz)) (takeC lw2T (lw2B j) K) =
    bif decide (Int.ofNat j < (M : Int)) then (bif idxB j M then gi R cs (5 * j + 3) fun s => bif idxB j M then gi R cs (5 * j + 4) fun t => at_ R s t fun s1 s2 => bif idxB j M then gb R cs (5 * j) fun so => bif so then
        (bif idxB j M then gi R cs (5 * j + 1) fun x => bif idxB j M then gi R cs (5 * j + 2) fun y => at_ R x y fun a1 a2 => lw2K (sliceV 1 M c1) lV j f b lo K ⟨2, a1, a2, s1, s2, 0⟩ else none else none)
        else lw2K (sliceV 1 M c1) lV j f b lo K ⟨1, 0, 0, s1, s2, 0⟩ else none else none else none)
    else K (.exit 2) (lw2E (some ⟨1, 0, none⟩) lV M c1 j) (lw2A j f b lo)
theorem l2_all : ∀ j, j < 4 → EqL2 j := by
  repeat' first | exact lt_none | refine lt_split ?_ ?_
  all_goals (intro R gi gb at_ ab lV M c1 sz cs x lo b f K; cases b <;> kernel_rfl)
theorem l2_full (R : Type) (gi : GI) (gb : GB) (at_ : KIIC) (ab : KFF) (lV : Value) (M c1 sz : Nat) (cs : List Value) (x lo : AObj) (b : Bool) (f : Nat → El) (K : Ex → Env → Objs → Option R) :
  evTop (lwC gi gb at_ ab [] []) 100 noL 2 237 (lwL 1) (lw2E (some ⟨1, 0, none⟩) lV M c1 4) (lw2H 4 f b lo (old2 b x cs sz)) (takeC lw2T [3, 4, 2] K) =
    bif decide (Int.ofNat 4 < (M : Int)) then K (.exit 2) (lw2E (some ⟨1, 0, none⟩) lV M c1 4) (lw2A 4 f b lo) else K (.exit 2) (lw2E (some ⟨1, 0, none⟩) lV M c1 4) (lw2A 4 f b lo) := by cases b <;> kernel_rfl
def old0 (b : Bool) (x : AObj) : Objs := []
theorem l2_none (R : Type) (gi : GI) (gb : GB) (at_ : KIIC) (ab : KFF) (lV : Value) (a : Option Addr) (c1 : Nat) (x lo : AObj) (b : Bool) (f : Nat → El) (K : Ex → Env → Objs → Option R) :
  evTop (lwC gi gb at_ ab [] []) 100 noL 2 237 (lwL 1) (lw2E a lV 0 c1 0) (lw2H 0 f b lo (old0 b x)) (takeC lw2T [3, 2] K) = K (.exit 2) (lw2E a lV 0 c1 0) (lw2A 0 f b lo) := by cases b <;> kernel_rfl
end Go.Vm
namespace Go.Vm
open Go.Proofs
set_option linter.unusedVariables false
set_option linter.unusedSimpArgs false
set_option maxRecDepth 1000000

/-! ### PanelThrough's third loop: strengths and speeds -/
abbrev KSdH := ∀ R : Type, List Value → AH → (Nat → Nat → Int → Option R) → Option R
def sSdH (g : KSdH) : HSum := fun R args H k => g R args H fun x y e => k (.tuple ⟨[.complex .f64 x y, .int .i64 e]⟩)
def lw3T : List Nat := [5, 6, 8, 13, 14, 16, 17, 18]
def lw3E (n th : Nat) (sv mv : Value) (i : Nat) : Env := [(5, .bool true), (6, sliceV 2 n n), (8, ptrV 3), (13, sliceV 6 n n), (14, fl th), (16, sv), (17, mv), (18, intV i)]
def midO (t : Bool) (o lo x y : AObj) : Objs := match t with
  | true => [(4, o), (2, lo)]
  | false => [(2, lo)]
def lw3H (n : Nat) (q : Nat → Pn) (po : AObj) (X : Value) (t : Bool) (o x y : AObj) (l : Nat → Nat × Nat) : AH := ⟨7, (6, .cells (panC q 0 n) 3) :: (5, po) :: (3, .cells [X] 0) :: midO t o (.cells (cxL l 0 n) 1) x y⟩
def contE {R : Type} (ts : List Nat) (K : Ex → Env → AH → Option R) : Ex → Env → AH → Option R := fun ex e H => K ex (takeE ts e) H
/-- the op of such a name -/
def opsIn : Code → List Oper
  | .seq a b => opsIn a ++ opsIn b
  | .cond _ a b => opsIn a ++ opsIn b
  | .block _ a => opsIn a
  | .loop a => opsIn a
  | .region _ ops _ => ops.toList
  | _ => []
def opOf (d : Nat) : List Oper → Option Oper
  | [] => none
  | o :: r => match o.dst with
    | some k => bif Nat.beq k d then some o else opOf d r
    | none => opOf d r
noncomputable def mxOp : Oper := (opOf 227 (opsIn (codeOf 8))).getD default
def mxF (m c : Nat) (x : Operand) : Value := match x with
  | .tmp 219 => fl m
  | .tmp 226 => fl c
  | _ => undef
/-- the greater of two, as the language tells it -/
noncomputable def maxE {R : Type} (m c : Nat) (k : Value → Option R) : Option R :=
  match calm Tryz.prog (execOp (mxF m c) mxOp) with
  | some (.value v) => bif flat v then k v else none
  | _ => none
def cxQ {R : Type} (a b c d : Nat) (k : Bool → Option R) : Option R := forceB (eqF a c) fun t => match t with
  | true => forceB (eqF b d) fun t => match t with | true => k true | false => k false
  | false => forceB (eqF b d) fun t => match t with | true => k false | false => k false
def halfB {R : Type} (f1 f2 t1 t2 : Nat) (k : Nat → Nat → Option R) : Option R :=
  bindF (fbF .quo f1 4611686018427387904) fun a => bindF (fbF .quo t1 4611686018427387904) fun b => bindF (fbF .add a b) fun m1 => bindF (fbF .quo f2 4611686018427387904) fun a => bindF (fbF .quo t2 4611686018427387904) fun b => bindF (fbF .add a b) fun m2 => k m1 m2
def EqL3 (n i : Nat) : Prop := ∀ (R : Type) (gi : GI) (gb : GB) (at_ : KIIC) (ab : KFF) (sd : KSdH) (th s m : Nat) (X : Value) (po o x y : AObj) (q : Nat → Pn) (l : Nat → Nat × Nat) (t : Bool) (K : Ex → Env → AH → Option R),
  evTop (lwC gi gb at_ ab [(52, sSdH sd)] []) 100 noL 2 237 (lwL 2) (lw3E n th (fl s) (fl m) i) (lw3H n q po X t o x y l) (contE lw3T K) =
    cxQ (q i).f1 (q i).f2 (l i).1 (l i).2 fun b => match b with
      | false => K .ret (lw3E n th (fl s) (fl m) i) (lw3H n q po X t o x y l)
      | true => cxQ (q i).t1 (q i).t2 (l (nxt n i)).1 (l (nxt n i)).2 fun b => match b with
        | false => K .ret (lw3E n th (fl s) (fl m) i) (lw3H n q po X t o x y l)
        | true => halfB (q i).f1 (q i).f2 (q i).t1 (q i).t2 fun m1 m2 => sd R [.agg ⟨[X]⟩, .complex .f64 m1 m2] (lw3H n q po X t o x y l) fun a b e => bif e != 0 then K .ret (lw3E n th (fl s) (fl m) i) (lw3H n q po X t o x y l)
          else ab R (q i).s fun c => bindF (fbF .add s c) fun s => ab R a fun a => ab R b fun b => bindF (fbF .add a b) fun c => maxE m c fun v => K .normal (lw3E n th (fl s) v (i + 1)) (lw3H n q po X t o x y l)
def EqX3 (n : Nat) : Prop := ∀ (R : Type) (gi : GI) (gb : GB) (at_ : KIIC) (ab : KFF) (sd : KSdH) (th : Nat) (s m : Value) (X : Value) (po o x y : AObj) (q : Nat → Pn) (l : Nat → Nat × Nat) (t : Bool) (K : Ex → Env → AH → Option R),
  evTop (lwC gi gb at_ ab [(52, sSdH sd)] []) 100 noL 2 237 (lwL 2) (lw3E n th s m n) (lw3H n q po X t o x y l) (contE lw3T K) = K (.exit 4) (lw3E n th s m n) (lw3H n q po X t o x y l)
end Go.Vm
namespace Go.Vm
open Go.Proofs
set_option linter.unusedVariables false
set_option linter.unusedSimpArgs false
set_option maxRecDepth 1000000

/-! ### PanelThrough: the way through, its loops told -/
def tellE (ts : List Nat) (ex : Ex) (e' : Env) (H' : AH) (g : LT) : Hand := fun R lo sz a e H k => g R lo sz a (takeE ts e) H ex e' H' (k ex e' H')
abbrev KLst := ∀ R : Type, List Value → AH → (Nat → Option R) → (List Value → Option R) → Option R
/-- an error, or a list of n panels -/
def sLst (n : Nat) (g : KLst) : MSum := fun R args H k => g R args H (fun e => k (.tuple ⟨[nilS, .int .i64 (Int.ofNat (e + 1))]⟩) H) fun pc => k (.tuple ⟨[sliceV H.next n n, .int .i64 0]⟩) ⟨H.next + 1, (H.next, .cells pc 3) :: H.objs⟩
abbrev KThr := ∀ R : Type, List Value → AH → (Nat → Option R) → Option R
def sThr (g : KThr) : HSum := fun R args H k => g R args H fun m => k (.tuple ⟨[fl m, .int .i64 0]⟩)
noncomputable def topC (n : Nat) (gi : GI) (gb : GB) (at_ : KIIC) (ab : KFF) (ga : HT) (of sl : KLst) (tg : KThr) : Cx := lwC gi gb at_ ab [(47, saysV (.bool true) ga), (51, sThr tg)] [(49, sLst n of), (50, sLst n sl)]
def oldT (b t : Bool) (x y : AObj) : Objs := []
def endT (t : Bool) (X : Value) (o : AObj) (r : Objs) : Objs := match t with
  | true => (3, .cells [X] 0) :: (4, o) :: r
  | false => (3, .cells [X] 0) :: r
def lw2Z (b t : Bool) (X : Value) (o lo x y : AObj) : AH := ⟨5, endT t X o (loO b lo ++ oldT b t x y)⟩
noncomputable def topL (n m : Nat) (b t : Bool) (V0 V1 lV X : Value) (o lo x y : AObj) (th s mo : Nat) (pc qc : List Value) (g1 g2 g3 : LT) : Hand :=
  orL 18 (tellE lw3T (.exit 4) (lw3E n th (fl s) (fl mo) n) ⟨7, (6, .cells qc 3) :: (5, .cells pc 3) :: (lw2Z b t X o lo x y).objs⟩ g3)
    (orL 9 (tellE lw2T (.exit 2) [(1, V1), (5, .bool true), (6, lV), (8, ptrV 3), (9, intV m)] (lw2Z b t X o lo x y) g2)
      (tellE lw1T (.exit 0) [(0, V0), (1, V1), (5, .bool true), (6, lV), (7, intV n)] ⟨3, loO b lo ++ oldT b t x y⟩ g1))
def tpZ {R : Type} (K : Ex → Env → Objs → Option R) (t : Bool) : Option R := K .ret [(4, .bool t)] []
def topK (R : Type) (ga : HT) (of sl : KLst) (tg : KThr) (n m : Nat) (b t : Bool) (V0 V1 lV X : Value) (o lo x y : AObj) (th s mo : Nat) (pc qc : List Value) (g1 g2 g3 : LT) (K : Ex → Env → Objs → Option R) (b1 b2 b3 : Code) : Option R :=
  ga R [] ⟨2, oldT b t x y⟩ <| g1 R 2 237 b1 [(0, V0), (1, V1), (5, .bool true), (6, nilS), (7, intV 0)] ⟨2, oldT b t x y⟩ (.exit 0) [(0, V0), (1, V1), (5, .bool true), (6, lV), (7, intV n)] ⟨3, loO b lo ++ oldT b t x y⟩ <|
    g2 R 2 237 b2 [(1, V1), (5, .bool true), (6, lV), (8, ptrV 3), (9, intV 0)] ⟨4, (3, .cells [nilS] 0) :: (loO b lo ++ oldT b t x y)⟩ (.exit 2) [(1, V1), (5, .bool true), (6, lV), (8, ptrV 3), (9, intV m)] (lw2Z b t X o lo x y) <|
      of R [lV] (lw2Z b t X o lo x y) (fun e => tpZ K true) fun pc' => sl R [sliceV 5 n n, .agg ⟨[X]⟩] ⟨6, (5, .cells pc' 3) :: (lw2Z b t X o lo x y).objs⟩ (fun e => tpZ K true) fun qc' =>
        bif ((n : Int) != (n : Int)) then tpZ K false else bif ((n : Int) != (n : Int)) then tpZ K false else
          tg R [sliceV 6 n n, .agg ⟨[X]⟩] ⟨7, (6, .cells qc' 3) :: (5, .cells pc' 3) :: (lw2Z b t X o lo x y).objs⟩ fun th' =>
            g3 R 2 237 b3 (lw3E n th' (fl 0) (fl 0) 0) ⟨7, (6, .cells qc' 3) :: (5, .cells pc' 3) :: (lw2Z b t X o lo x y).objs⟩ (.exit 4) (lw3E n th (fl s) (fl mo) n) ⟨7, (6, .cells qc 3) :: (5, .cells pc 3) :: (lw2Z b t X o lo x y).objs⟩ <|
              bindF (fbF .add s mo) fun a => bindF (fbF .mul a 4481081629233643520) fun c => forceB (leF th c) fun t => tpZ K t
theorem top_eq (R : Type) (gi : GI) (gb : GB) (at_ : KIIC) (ab : KFF) (ga : HT) (of sl : KLst) (tg : KThr) (n m : Nat) (t : Bool) (V0 V1 X : Value) (o lo x y : AObj) (th s mo : Nat) (pc qc : List Value) (g1 g2 g3 : LT) (K : Ex → Env → Objs → Option R) :
  evTop (topC n gi gb at_ ab ga of sl tg) 100 (topL n m true t V0 V1 (sliceV 2 n n) X o lo x y th s mo pc qc g1 g2 g3) 2 237 (codeOf 8) (enumE 0 [V0, V1]) ⟨2, oldT true t x y⟩ (takeC [4] [] K) =
    topK R ga of sl tg n m true t V0 V1 (sliceV 2 n n) X o lo x y th s mo pc qc g1 g2 g3 K (lwL 0) (lwL 1) (lwL 2) := by cases t <;> kernel_rfl
/-- no places -/
abbrev KErr := ∀ R : Type, List Value → AH → (Nat → Option R) → Option R
def sErr (g : KErr) : MSum := fun R args H k => g R args H (fun e => k (.tuple ⟨[nilS, .int .i64 (Int.ofNat (e + 1))]⟩) H)
noncomputable def topC0 (gi : GI) (gb : GB) (at_ : KIIC) (ab : KFF) (ga : HT) (of : KErr) : Cx := lwC gi gb at_ ab [(47, saysV (.bool true) ga)] [(49, sErr of)]
theorem top_eq0 (R : Type) (gi : GI) (gb : GB) (at_ : KIIC) (ab : KFF) (ga : HT) (of : KErr) (m : Nat) (t : Bool) (V0 V1 X : Value) (o lo x y : AObj) (th s mo : Nat) (pc qc : List Value) (g1 g2 g3 : LT) (K : Ex → Env → Objs → Option R) :
  evTop (topC0 gi gb at_ ab ga of) 100 (topL 0 m false t V0 V1 nilS X o lo x y th s mo pc qc g1 g2 g3) 2 237 (codeOf 8) (enumE 0 [V0, V1]) ⟨2, oldT false t x y⟩ (takeC [4] [] K) =
    (ga R [] ⟨2, oldT false t x y⟩ <| g1 R 2 237 (lwL 0) [(0, V0), (1, V1), (5, .bool true), (6, nilS), (7, intV 0)] ⟨2, oldT false t x y⟩ (.exit 0) [(0, V0), (1, V1), (5, .bool true), (6, nilS), (7, intV 0)] ⟨3, loO false lo ++ oldT false t x y⟩ <|
      g2 R 2 237 (lwL 1) [(1, V1), (5, .bool true), (6, nilS), (8, ptrV 3), (9, intV 0)] ⟨4, (3, .cells [nilS] 0) :: (loO false lo ++ oldT false t x y)⟩ (.exit 2) [(1, V1), (5, .bool true), (6, nilS), (8, ptrV 3), (9, intV m)] (lw2Z false t X o lo x y) <|
        of R [nilS] (lw2Z false t X o lo x y) fun e => tpZ K true) := by cases t <;> kernel_rfl
/-- few places -/
theorem top_eq1 (R : Type) (gi : GI) (gb : GB) (at_ : KIIC) (ab : KFF) (ga : HT) (of : KErr) (n m : Nat) (t : Bool) (V0 V1 X : Value) (o lo x y : AObj) (th s mo : Nat) (pc qc : List Value) (g1 g2 g3 : LT) (K : Ex → Env → Objs → Option R) :
  evTop (topC0 gi gb at_ ab ga of) 100 (topL n m true t V0 V1 (sliceV 2 n n) X o lo x y th s mo pc qc g1 g2 g3) 2 237 (codeOf 8) (enumE 0 [V0, V1]) ⟨2, oldT true t x y⟩ (takeC [4] [] K) =
    (ga R [] ⟨2, oldT true t x y⟩ <| g1 R 2 237 (lwL 0) [(0, V0), (1, V1), (5, .bool true), (6, nilS), (7, intV 0)] ⟨2, oldT true t x y⟩ (.exit 0) [(0, V0), (1, V1), (5, .bool true), (6, sliceV 2 n n), (7, intV n)] ⟨3, loO true lo ++ oldT true t x y⟩ <|
      g2 R 2 237 (lwL 1) [(1, V1), (5, .bool true), (6, sliceV 2 n n), (8, ptrV 3), (9, intV 0)] ⟨4, (3, .cells [nilS] 0) :: (loO true lo ++ oldT true t x y)⟩ (.exit 2) [(1, V1), (5, .bool true), (6, sliceV 2 n n), (8, ptrV 3), (9, intV m)] (lw2Z true t X o lo x y) <|
        of R [sliceV 2 n n] (lw2Z true t X o lo x y) fun e => tpZ K true) := by cases t <;> kernel_rfl
end Go.Vm
namespace Go.Vm
open Go.Proofs
set_option linter.unusedVariables false
set_option linter.unusedSectionVars false
set_option linter.unusedSimpArgs false
set_option maxRecDepth 1000000

/-! ### panel.Of: the contract -/
theorem take_of {b : Nat} {ex ex1 : Ex} {e e1 : Env} {H1 : AH} {O : Objs} (h : takeOf (R := Ex × Env × Objs) b (fun ex e O => some (ex, e, O)) ex1 e1 H1 = some (ex, e, O)) : ex = ex1 ∧ e = takeE [2, 3] e1 ∧ ∃ bo, O = takeO bo H1.objs := by
  unfold takeOf at h
  split at h
  · cases h; exact ⟨rfl, rfl, [b], rfl⟩
  · cases h; exact ⟨rfl, rfl, [], rfl⟩
theorem fun_of {C : Cx} (hC : C.Ok) (hmix : C.P.follows .mixedOrders = true) {n : Nat} {f : FuncId} {fn : Func} {c : Code} (hf : C.P.funcs[f]? = some fn) (hb : fn.body = some c) {L : Hand} {args : List Value} {H : AH} (hL : ∀ a ∈ loopsIn c, LOk C.P L a)
    {b : Nat} {ex : Ex} {e' : Env} {O : Objs} {vs : List Value} (hl : args.length ≤ fn.ntmps)
    (h : evTop C n L H.next fn.ntmps c (enumE 0 args) H (takeOf b fun ex e O => some (ex, e, O)) = some (ex, e', O)) (hex : ex = .normal ∨ ex = .ret) (hr : resE C.P e' ⟨0, O⟩ fn.results.toList = some vs) :
    ∃ H', (∀ x, x ∈ O → x ∈ H'.objs) ∧ ∀ ρ w args', Inv ρ H w → VRels ρ args args' → Calls C.P f ⟨args'⟩ w fun e w' => ∃ ρ' v', e = .returned v' ∧ VRel ρ' (oneOf vs) v' ∧ Next H.next ρ H w ρ' H' w' := by
  obtain ⟨ex1, e1, H1, g1, g2⟩ := evTop_base (H0 := H) hC hmix c (fun a ha => (hL a ha).baseB) _ _ _ _ h
  obtain ⟨rfl, rfl, bo, rfl⟩ := take_of g1
  have g3 : BaseOk C.P H.next fn.ntmps H (enumE 0 args) H ex (takeE [2, 3] e1) H1 (fun Q a w => c.wp C.P Q a w) := BaseOk.env g2 (fun t v h => h) fun t v h => getE_take h
  exact ⟨H1, fun x hx => takeO_mem hx, calls_next hf hb hl (BaseOk.code g3) hex (resE_take hr)⟩
section
variable {n : Nat} {l : Nat → Nat × Nat} {U : Nat → Un} {bad : Nat → Bool}
structure OfD (n : Nat) (l : Nat → Nat × Nat) (U : Nat → Un) (bad : Nat → Bool) : Prop where
  wi : ∀ i, i < n → ∀ (R : Type) (X : Option R), cfT WithinK R (l i).1 (l i).2 4787326403894837248 X = X
  er : ∀ i, i < n → bad i = true → ∀ (R : Type) (er : Option R) (ok : Nat → Nat → Nat → Nat → Nat → Option R), of2K R (l i).1 (l i).2 (l (nxt n i)).1 (l (nxt n i)).2 0 er ok = er
  ok : ∀ i, i < n → bad i = false → ∀ (R : Type) (er : Option R) (ok : Nat → Nat → Nat → Nat → Nat → Option R), of2K R (l i).1 (l i).2 (l (nxt n i)).1 (l (nxt n i)).2 0 er ok = ok (U i).u1 (U i).u2 (U i).m1 (U i).m2 (U i).l
theorem wiP_told (D : OfD n l U bad) {R : Type} {k : Option R} : ∀ m i, i + m ≤ n → wiP (cfT WithinK) l m i k = k
  | 0, _, _ => rfl
  | m + 1, i, h => by
    simp only [wiP]
    rw [D.wi i (by omega)]
    exact wiP_told D m (i + 1) (by omega)
theorem pofK_told (D : OfD n l U bad) : ∀ m i, i + m = n → (∃ j, i ≤ j ∧ j < n ∧ bad j = true ∧ ∀ (R : Type) (er k : Option R), pofK of2K n l er m i k = er) ∨ ((∀ j, i ≤ j → j < n → bad j = false) ∧ ∀ (R : Type) (er k : Option R), pofK of2K n l er m i k = k)
  | 0, i, h => .inr ⟨fun j h1 h2 => by omega, fun R er k => rfl⟩
  | m + 1, i, h => by
    cases hb : bad i with
    | true => exact .inl ⟨i, Nat.le_refl _, by omega, hb, fun R er k => by simp only [pofK]; rw [D.er i (by omega) hb]⟩
    | false =>
      have hs : ∀ (R : Type) (er k : Option R), pofK of2K n l er (m + 1) i k = pofK of2K n l er m (i + 1) k := fun R er k => by
        simp only [pofK]
        rw [D.ok i (by omega) hb]
      rcases pofK_told D m (i + 1) (by omega) with ⟨j, g1, g2, g3, g4⟩ | ⟨g1, g2⟩
      · exact .inl ⟨j, by omega, g2, g3, fun R er k => (hs R er k).trans (g4 R er k)⟩
      · exact .inr ⟨fun j q1 q2 => by
          by_cases hj : j = i
          · rw [hj]; exact hb
          · exact g1 j (by omega) q2, fun R er k => (hs R er k).trans (g2 R er k)⟩
noncomputable def pofR : Cx := pofC (cfT WithinK) of2K
theorem pofR_ok : pofR.Ok := uC_ok (.cons k135t h135 (.cons k136 h136 .nil)) .nil .nil
theorem pof_loops : ∀ a ∈ loopsIn (codeOf 49), LOk Tryz.prog (rollL pofR 100) a := fun a _ => rollL_ok pofR_ok zm_ok 100 a
theorem of_call (Q : EqOf n) (D : OfD n l U bad) : (∃ j, j < n ∧ bad j = true ∧ ∀ (b sz : Nat) (H : AH), (b, .cells (cxL l 0 n) sz) ∈ H.objs → MemCall Tryz.prog 49 [sliceV b n n] H (.tuple ⟨[nilS, .int .i64 250]⟩) H) ∨
    ((∀ j, j < n → bad j = false) ∧ ∀ (b sz : Nat) (H : AH), (b, .cells (cxL l 0 n) sz) ∈ H.objs → MemCall Tryz.prog 49 [sliceV b n n] H (.tuple ⟨[sliceV H.next n n, .int .i64 0]⟩) ⟨H.next + 1, (H.next, .cells (panC (pn n l) 0 n) 3) :: H.objs⟩) := by
  rcases pofK_told D n 0 (by omega) with ⟨j, g1, g2, g3, g4⟩ | ⟨g1, g2⟩
  · refine .inl ⟨j, g2, g3, fun b sz H hb => ?_⟩
    have h := Q (Ex × Env × Objs) (cfT WithinK) of2K l sz fun ex e O => some (ex, e, O)
    rw [wiP_told D n 0 (by omega), g4] at h
    obtain ⟨H', hO, g⟩ := fun_of (C := pofR) (H := ⟨1, [(0, .cells (cxL l 0 n) sz)]⟩) (args := [sliceV 0 n n]) pofR_ok zm_ok Tryz.func49 b49 pof_loops (Nat.le_of_ble_eq_true rfl) h (.inr rfl) (vs := [nilS, .int .i64 250]) rfl
    exact lift_none (q := only b) (within_only (cxL_flat l n 0) hb) rfl rfl g
  · refine .inr ⟨fun j hj => g1 j (Nat.zero_le _) hj, fun b sz H hb => ?_⟩
    have h := Q (Ex × Env × Objs) (cfT WithinK) of2K l sz fun ex e O => some (ex, e, O)
    rw [wiP_told D n 0 (by omega), g2] at h
    obtain ⟨H', hO, g⟩ := fun_of (C := pofR) (H := ⟨1, [(0, .cells (cxL l 0 n) sz)]⟩) (args := [sliceV 0 n n]) pofR_ok zm_ok Tryz.func49 b49 pof_loops (Nat.le_of_ble_eq_true rfl) h (.inr rfl) (vs := [sliceV (4 * n + 3) n n, .int .i64 0]) rfl
    exact lift_one (j := 4 * n + 3) (q := only b) (within_only (cxL_flat l n 0) hb) rfl (show 1 ≤ 4 * n + 3 by omega) (hO _ List.mem_cons_self) (panC_flat _ n 0) (lift_sl (show 1 ≤ 4 * n + 3 by omega)) g
end
/-- too few -/
theorem of_few1 (l : Nat → Nat × Nat) {n : Nat} (hn : n = 1 ∨ n = 2) {b sz : Nat} {H : AH} (hb : (b, .cells (cxL l 0 n) sz) ∈ H.objs) : MemCall Tryz.prog 49 [sliceV b n n] H (.tuple ⟨[nilS, .int .i64 4]⟩) H := by
  have h : evTop pofR 100 (rollL pofR 100) 1 66 (codeOf 49) (enumE 0 [sliceV 0 n n]) ⟨1, [(0, .cells (cxL l 0 n) sz)]⟩ (takeC [2, 3] [] fun ex e O => some (ex, e, O)) = some (.ret, [(2, nilS), (3, .int .i64 4)], []) := by
    rcases hn with rfl | rfl
    · exact few_1 _ _ _ _ _ _ _ _
    · exact few_2 _ _ _ _ _ _ _ _
  obtain ⟨H', hO, g⟩ := fun_mem (C := pofR) (H := ⟨1, [(0, .cells (cxL l 0 n) sz)]⟩) (args := [sliceV 0 n n]) pofR_ok zm_ok Tryz.func49 b49 pof_loops (Nat.le_of_ble_eq_true rfl) h (.inr rfl) (vs := [nilS, .int .i64 4]) rfl
  exact lift_none (q := only b) (within_only (cxL_flat l n 0) hb) rfl rfl g
theorem of_few0 (H : AH) : MemCall Tryz.prog 49 [nilS] H (.tuple ⟨[nilS, .int .i64 4]⟩) H := by
  have h := few_nil (rollL pofR 100) (Ex × Env × Objs) (cfT WithinK) of2K fun ex e O => some (ex, e, O)
  obtain ⟨H', hO, g⟩ := fun_mem (C := pofR) (H := ⟨0, []⟩) (args := [nilS]) pofR_ok zm_ok Tryz.func49 b49 pof_loops (Nat.le_of_ble_eq_true rfl) h (.inr rfl) (vs := [nilS, .int .i64 4]) rfl
  exact lift_none (q := fun _ => none) within_nil0 rfl rfl g
end Go.Vm
namespace Go.Vm
open Go.Proofs
set_option linter.unusedVariables false
set_option linter.unusedSectionVars false
set_option linter.unusedSimpArgs false
set_option maxRecDepth 1000000

/-! ### RingApart's rounds, over real lists -/
theorem one3 : OneCell Tryz.prog 3 := fun R cs off k => by kernel_rfl
section
variable {es : List Value} {c1 c2 r : Nat} {xs : List El} (S : Sight c1 c2 r)
end
end Go.Vm
