/- A part of the evaluator and of what is told of floats; no conditions. -/
import Derived.Test.YtnbpfafngidimaaGreatVmP29
import Derived.Test.YtnbpfafngidimaaGreatVmP7
namespace Go.Vm
open Ieee
set_option linter.unusedVariables false
set_option linter.unusedSimpArgs false

/-! ### What a row is off by -/
noncomputable def offBy (M : Nat → Nat → Nat) (x : Nat → Rat) (c n r : Nat) : Rat := sm (fun j => vl (M r j) * x j) c (n - c) - vl (M r n)
theorem quo_off {M : Nat → Nat → Nat} {c r : Nat} {B : Rat} (hq : Fin (M r c)) (hp : Fin (M c c)) (hp0 : vl (M c c) ≠ 0) (hle : (vl (M r c)).abs ≤ (vl (M c c)).abs) (hB : (vl (M c c)).abs ≤ B) :
    (vl (gQuo (M r c) (M c c))).abs ≤ 1001 / 1000 ∧ (vl (M r c) - vl (gQuo (M r c) (M c c)) * vl (M c c)).abs ≤ eps * B := by
  have he := eps_pos
  have he1 := eps_tiny
  have ht : tau ≤ 1 := by
    unfold tau
    have := p2_le (show (-1000 : Int) ≤ 0 by decide)
    rw [Rat.zpow_zero] at this
    exact this
  obtain ⟨q1, q2, q3, q4⟩ := g_quo (C := 1) hq hp hp0 (by grind) ht (by
    have := one_le_p2 400
    exact this)
  refine ⟨by have := near_bd q3 q4; grind, ?_⟩
  have e : vl (M r c) - vl (gQuo (M r c) (M c c)) * vl (M c c) = (vl (M r c) / vl (M c c) - vl (gQuo (M r c) (M c c))) * vl (M c c) := by
    have := Rat.div_mul_cancel (a := vl (M r c)) hp0
    grind
  rw [e, abs_mul, abs_sub_comm]
  have g1 := Rat.mul_le_mul_of_nonneg_right q3 (abs_nonneg (vl (M c c)))
  have g2 := Rat.mul_le_mul_of_nonneg_left hB (Rat.le_of_lt he)
  grind
theorem off_step {M : Nat → Nat → Nat} {x : Nat → Rat} {c n r : Nat} {B D X e0 E : Rat} (hr : c < r) (hrn : r < n) (hB : ∀ j, c ≤ j → j < n → Le B (M r j) ∧ Le B (M c j)) (hD : Le D (M r n) ∧ Le D (M c n)) (hp0 : vl (M c c) ≠ 0)
    (hle : (vl (M r c)).abs ≤ (vl (M c c)).abs) (tB : tau ≤ B) (tD : tau ≤ D) (bB : B ≤ (2 : Rat) ^ (300 : Int)) (bD : D ≤ (2 : Rat) ^ (300 : Int)) (hX : sm (fun j => (x j).abs) c (n - c) ≤ X)
    (h0 : (offBy M x c n c).abs ≤ e0) (h1 : (offBy (stepW M c) x (c + 1) n r).abs ≤ E) : (offBy M x c n r).abs ≤ E + 1001 / 1000 * e0 + 5 * (eps * (B * X + D)) := by
  have he := eps_pos
  have hcn : c < n := by omega
  obtain ⟨b1, b2⟩ := hB c (Nat.le_refl _) hcn
  obtain ⟨f1, f2⟩ := quo_off b1.1 b2.1 hp0 hle b2.2
  generalize hF : vl (gQuo (M r c) (M c c)) = F at f1 f2
  have sj : ∀ j, c < j → j < n → (vl (stepW M c r j) - (vl (M r j) - F * vl (M c j))).abs ≤ 4 * (eps * B) := fun j h1 h2 => by
    have := (step_ok hr h1 (hB j (by omega) h2).1 (hB j (by omega) h2).2 b2.1 hp0 b1.1 hle tB bB).near
    rw [hF] at this
    exact this
  have sn : (vl (stepW M c r n) - (vl (M r n) - F * vl (M c n))).abs ≤ 4 * (eps * D) := by
    have := (step_ok hr hcn hD.1 hD.2 b2.1 hp0 b1.1 hle tD bD).near
    rw [hF] at this
    exact this
  have hm : n - c = (n - (c + 1)) + 1 := by omega
  generalize n - (c + 1) = m at hm
  have hnm : n = c + 1 + m := by omega
  unfold offBy at h0 h1 ⊢
  rw [show n - (c + 1) = m by omega] at h1
  rw [hm] at h0 hX ⊢
  simp only [sm] at h0 hX ⊢
  -- the sums
  have S : (sm (fun j => vl (M r j) * x j) (c + 1) m - F * sm (fun j => vl (M c j) * x j) (c + 1) m - sm (fun j => vl (stepW M c r j) * x j) (c + 1) m).abs ≤ 4 * (eps * B) * sm (fun j => (x j).abs) (c + 1) m := by
    have e1 : sm (fun j => vl (M r j) * x j) (c + 1) m - F * sm (fun j => vl (M c j) * x j) (c + 1) m - sm (fun j => vl (stepW M c r j) * x j) (c + 1) m =
        sm (fun j => vl (M r j) * x j + (-F * (vl (M c j) * x j) + -1 * (vl (stepW M c r j) * x j))) (c + 1) m := by
      rw [sm_add, sm_add, sm_mul, sm_mul]
      grind
    rw [e1, ← sm_mul]
    refine sm_abs m (c + 1) fun j g1 g2 => ?_
    have e2 : vl (M r j) * x j + (-F * (vl (M c j) * x j) + -1 * (vl (stepW M c r j) * x j)) = -(vl (stepW M c r j) - (vl (M r j) - F * vl (M c j))) * x j := by grind
    rw [e2, abs_mul, abs_neg]
    exact Rat.mul_le_mul_of_nonneg_right (sj j (by omega) (by omega)) (abs_nonneg _)
  have C1 : ((vl (M r c) - F * vl (M c c)) * x c).abs ≤ eps * B * (x c).abs := by
    rw [abs_mul]
    exact Rat.mul_le_mul_of_nonneg_right f2 (abs_nonneg _)
  have P : (F * (vl (M c c) * x c + sm (fun j => vl (M c j) * x j) (c + 1) m - vl (M c n))).abs ≤ 1001 / 1000 * e0 := by
    rw [abs_mul]
    have g1 := Rat.mul_le_mul_of_nonneg_left h0 (abs_nonneg F)
    have g2 := Rat.mul_le_mul_of_nonneg_right f1 (Rat.le_trans (abs_nonneg _) h0)
    grind
  have B0 : 0 ≤ B := Rat.le_trans (abs_nonneg _) b1.2
  have D0 : 0 ≤ D := Rat.le_trans (abs_nonneg _) hD.1.2
  have xs0 := sm_nonneg (f := fun j => (x j).abs) (fun j => abs_nonneg _) m (c + 1)
  have xc0 := abs_nonneg (x c)
  have eB := Rat.mul_nonneg (Rat.le_of_lt he) B0
  have eD := Rat.mul_nonneg (Rat.le_of_lt he) D0
  -- together
  have key : vl (M r c) * x c + sm (fun j => vl (M r j) * x j) (c + 1) m - vl (M r n) =
      F * (vl (M c c) * x c + sm (fun j => vl (M c j) * x j) (c + 1) m - vl (M c n)) + ((sm (fun j => vl (stepW M c r j) * x j) (c + 1) m - vl (stepW M c r n)) +
        ((vl (M r c) - F * vl (M c c)) * x c + ((sm (fun j => vl (M r j) * x j) (c + 1) m - F * sm (fun j => vl (M c j) * x j) (c + 1) m - sm (fun j => vl (stepW M c r j) * x j) (c + 1) m) + (vl (stepW M c r n) - (vl (M r n) - F * vl (M c n)))))) := by grind
  rw [key]
  refine Rat.le_trans (le_both (abs_add_le _ _) P (le_both (abs_add_le _ _) h1 (le_both (abs_add_le _ _) C1 (le_both (abs_add_le _ _) S sn)))) ?_
  have u1 : eps * B * ((x c).abs + sm (fun j => (x j).abs) (c + 1) m) ≤ eps * B * X := Rat.mul_le_mul_of_nonneg_left hX eB
  have u2 := Rat.mul_nonneg eB xc0
  have u3 := Rat.mul_nonneg eB xs0
  clear key P C1 S sn sj hle f1 f2 hB hD b1 b2
  have e5 : eps * (B * X + D) = eps * B * X + eps * D := by grind
  rw [e5]
  generalize eps * B = u at *
  generalize sm (fun j => (x j).abs) (c + 1) m = v at *
  generalize (x c).abs = w at *
  generalize eps * D = d at *
  clear h0 h1 hp0 tB tD bB bD he e5
  grind
end Go.Vm
namespace Go.Vm
open Ieee
set_option linter.unusedVariables false
set_option linter.unusedSimpArgs false

/-! ### The way back -/
def tW (M : Nat → Nat → Nat) (xs : Nat → Nat) (c n : Nat) : Nat → Nat
  | 0 => M c n
  | k + 1 => gSub (tW M xs c n k) (gMul (M c (c + 1 + k)) (xs (c + 1 + k)))
theorem sm_last (f : Nat → Rat) (k c : Nat) : sm f c (k + 1) = sm f c k + f (c + k) := by
  rw [sm_split f k 1 c]
  simp only [sm]
  grind
theorem sm_part {f : Nat → Rat} (h : ∀ j, 0 ≤ f j) {k m c : Nat} (hk : k ≤ m) : sm f c k ≤ sm f c m := by
  have := sm_split f k (m - k) c
  rw [show k + (m - k) = m by omega] at this
  have := sm_nonneg h (m - k) (c + k)
  grind
theorem sm_one_le {f : Nat → Rat} (h : ∀ j, 0 ≤ f j) {k m c : Nat} (hk : k < m) : f (c + k) ≤ sm f c m := by
  have h1 := sm_part h (c := c) (show k + 1 ≤ m by omega)
  rw [sm_last] at h1
  have := sm_nonneg h k c
  grind
theorem huge_of {G : Rat} (h : G ≤ (2 : Rat) ^ (390 : Int)) : 10 * G ≤ huge := by
  have h7 := p2_add 390 10
  rw [show (390 + 10 : Int) = 400 by decide] at h7
  have h8 : (2 : Rat) ^ (10 : Int) = 1024 := by rw [show (10 : Int) = ((10 : Nat) : Int) by rfl, p2_nat]; rfl
  rw [h8] at h7
  have := p2_pos 390
  unfold huge
  grind
theorem tW_ok {M : Nat → Nat → Nat} {xs : Nat → Nat} {c n m : Nat} {B D X : Rat} (hn : n = c + 1 + m) (hm : m ≤ 8) (hB : ∀ j, c < j → j < n → Le B (M c j)) (hD : Le D (M c n)) (hx : ∀ j, c < j → j < n → Fin (xs j))
    (hX : sm (fun j => (vl (xs j)).abs) (c + 1) m ≤ X) (tD : tau ≤ D) (B0 : 0 ≤ B) (hG : D + B * X ≤ (2 : Rat) ^ (390 : Int)) :
    ∀ k, k ≤ m → Fin (tW M xs c n k) ∧ (vl (tW M xs c n k) - (vl (M c n) - sm (fun j => vl (M c j) * vl (xs j)) (c + 1) k)).abs ≤ (k : Rat) * (4 * (eps * (D + B * X))) ∧ (vl (tW M xs c n k)).abs ≤ 101 / 100 * (D + B * X) ∧
      (k < m → fbF .mul (M c (c + 1 + k)) (xs (c + 1 + k)) = some (gMul (M c (c + 1 + k)) (xs (c + 1 + k))) ∧ fbF .sub (tW M xs c n k) (gMul (M c (c + 1 + k)) (xs (c + 1 + k))) = some (tW M xs c n (k + 1))) := by
  have he := eps_pos
  have he1 := eps_tiny
  have hX0 := sm_nonneg (f := fun j => (vl (xs j)).abs) (fun j => abs_nonneg _) m (c + 1)
  have X0 : 0 ≤ X := Rat.le_trans hX0 hX
  have t0 : 0 < tau := p2_pos _
  have BX := Rat.mul_nonneg B0 X0
  generalize hGG : D + B * X = G at hG ⊢
  have G0 : 0 < G := by grind
  have hu := huge_of hG
  have eG : 0 ≤ eps * G := Rat.mul_nonneg (Rat.le_of_lt he) (Rat.le_of_lt G0)
  have eG1 : eps * G ≤ G * (1 / 1000000000) := by
    have := Rat.mul_le_mul_of_nonneg_right he1 (Rat.le_of_lt G0)
    grind
  -- partial sums stay below
  have part : ∀ k, k ≤ m → (vl (M c n) - sm (fun j => vl (M c j) * vl (xs j)) (c + 1) k).abs ≤ G := fun k hk => by
    have a1 : (sm (fun j => vl (M c j) * vl (xs j)) (c + 1) k).abs ≤ sm (fun j => B * (vl (xs j)).abs) (c + 1) k := sm_abs k (c + 1) fun j g1 g2 => by
      rw [abs_mul]
      exact Rat.mul_le_mul_of_nonneg_right (hB j (by omega) (by omega)).2 (abs_nonneg _)
    rw [sm_mul] at a1
    have a2 := sm_part (f := fun j => (vl (xs j)).abs) (fun j => abs_nonneg _) (c := c + 1) hk
    have a3 := Rat.mul_le_mul_of_nonneg_left (Rat.le_trans a2 hX) B0
    have a4 := abs_add_le (vl (M c n)) (-sm (fun j => vl (M c j) * vl (xs j)) (c + 1) k)
    rw [abs_neg, show vl (M c n) + -sm (fun j => vl (M c j) * vl (xs j)) (c + 1) k = vl (M c n) - sm (fun j => vl (M c j) * vl (xs j)) (c + 1) k by grind] at a4
    have := hD.2
    grind
  have bound : ∀ k : Nat, k ≤ m → (vl (tW M xs c n k) - (vl (M c n) - sm (fun j => vl (M c j) * vl (xs j)) (c + 1) k)).abs ≤ (k : Rat) * (4 * (eps * G)) → (vl (tW M xs c n k)).abs ≤ 101 / 100 * G := fun k hk h => by
    have := near_bd h (part k hk)
    have kk : (k : Rat) ≤ 8 := nat_cast_le (show k ≤ 8 by omega)
    have := Rat.mul_le_mul_of_nonneg_right kk (show 0 ≤ 4 * (eps * G) by grind)
    grind
  have next : ∀ k : Nat, k < m → Fin (tW M xs c n k) → (vl (tW M xs c n k) - (vl (M c n) - sm (fun j => vl (M c j) * vl (xs j)) (c + 1) k)).abs ≤ (k : Rat) * (4 * (eps * G)) →
      fbF .mul (M c (c + 1 + k)) (xs (c + 1 + k)) = some (gMul (M c (c + 1 + k)) (xs (c + 1 + k))) ∧ fbF .sub (tW M xs c n k) (gMul (M c (c + 1 + k)) (xs (c + 1 + k))) = some (tW M xs c n (k + 1)) ∧ Fin (tW M xs c n (k + 1)) ∧
        (vl (tW M xs c n (k + 1)) - (vl (M c n) - sm (fun j => vl (M c j) * vl (xs j)) (c + 1) (k + 1))).abs ≤ ((k + 1 : Nat) : Rat) * (4 * (eps * G)) := fun k hk hf hb => by
    have tb := bound k (by omega) hb
    have hxj := hx (c + 1 + k) (by omega) (by omega)
    have hMj := hB (c + 1 + k) (by omega) (by omega)
    have x1 := Rat.le_trans (sm_one_le (f := fun j => (vl (xs j)).abs) (fun j => abs_nonneg _) (c := c + 1) hk) hX
    have x2 := Rat.mul_le_mul_of_nonneg_left x1 B0
    obtain ⟨m1, m2, m3, m4⟩ := g_mul (A := B) (B := (vl (xs (c + 1 + k))).abs) (C := G) hMj ⟨hxj, Rat.le_refl⟩ (by grind) (by grind) (by grind)
    have pb : Le (101 / 100 * G) (gMul (M c (c + 1 + k)) (xs (c + 1 + k))) := ⟨m2, by
      have := near_bd m3 m4
      grind⟩
    obtain ⟨s1, s2, s3, s4⟩ := g_sub (C := 202 / 100 * G) ⟨hf, tb⟩ pb (by grind) (by grind) (by grind)
    refine ⟨m1, s1, s2, ?_⟩
    show (vl (gSub (tW M xs c n k) (gMul (M c (c + 1 + k)) (xs (c + 1 + k)))) - _).abs ≤ _
    rw [sm_last]
    have key : vl (gSub (tW M xs c n k) (gMul (M c (c + 1 + k)) (xs (c + 1 + k)))) - (vl (M c n) - (sm (fun j => vl (M c j) * vl (xs j)) (c + 1) k + vl (M c (c + 1 + k)) * vl (xs (c + 1 + k)))) =
        (vl (gSub (tW M xs c n k) (gMul (M c (c + 1 + k)) (xs (c + 1 + k)))) - (vl (tW M xs c n k) - vl (gMul (M c (c + 1 + k)) (xs (c + 1 + k))))) +
          ((vl (tW M xs c n k) - (vl (M c n) - sm (fun j => vl (M c j) * vl (xs j)) (c + 1) k)) + -(vl (gMul (M c (c + 1 + k)) (xs (c + 1 + k))) - vl (M c (c + 1 + k)) * vl (xs (c + 1 + k)))) := by grind
    rw [key]
    rw [← abs_neg] at m3
    refine Rat.le_trans (le_both (abs_add_le _ _) s3 (le_both (abs_add_le _ _) hb m3)) ?_
    have ek : ((k + 1 : Nat) : Rat) = (k : Rat) + 1 := by push_cast; rfl
    rw [ek]
    have e2 : eps * (202 / 100 * G) = 202 / 100 * (eps * G) := by grind
    rw [e2]
    clear key m3 m4 s3 s4 hb part bound
    grind
  have main : ∀ k, k ≤ m → Fin (tW M xs c n k) ∧ (vl (tW M xs c n k) - (vl (M c n) - sm (fun j => vl (M c j) * vl (xs j)) (c + 1) k)).abs ≤ (k : Rat) * (4 * (eps * G)) := by
    intro k
    induction k with
    | zero =>
      intro _
      refine ⟨hD.1, ?_⟩
      show (vl (M c n) - (vl (M c n) - sm _ (c + 1) 0)).abs ≤ _
      simp only [sm]
      have e0 : ((0 : Nat) : Rat) = 0 := rfl
      rw [show vl (M c n) - (vl (M c n) - 0) = 0 by grind, abs_zero, e0]
      grind
    | succ k ih =>
      intro hk
      obtain ⟨h1, h2⟩ := ih (by omega)
      obtain ⟨_, _, h3, h4⟩ := next k (by omega) h1 h2
      exact ⟨h3, h4⟩
  intro k hk
  obtain ⟨h1, h2⟩ := main k hk
  exact ⟨h1, h2, bound k hk h2, fun hkm => let ⟨a, b, _, _⟩ := next k hkm h1 h2; ⟨a, b⟩⟩
/-- how far a row of the way back is off -/
theorem off_back {M : Nat → Nat → Nat} {xs : Nat → Nat} {c n m : Nat} {B D X : Rat} (hn : n = c + 1 + m) (hm : m ≤ 8) (hB : ∀ j, c ≤ j → j < n → Le B (M c j)) (hD : Le D (M c n)) (hx : ∀ j, c < j → j < n → Fin (xs j))
    (hX : sm (fun j => (vl (xs j)).abs) (c + 1) m ≤ X) (tD : (2 : Rat) ^ (-300 : Int) ≤ D) (bB : B ≤ (2 : Rat) ^ (300 : Int)) (hG : D + B * X ≤ (2 : Rat) ^ (390 : Int)) (hp0 : vl (M c c) ≠ 0)
    (hq : xs c = gQuo (tW M xs c n m) (M c c)) (hs : (vl (tW M xs c n m) / vl (M c c)).abs ≤ huge) : (offBy M (fun j => vl (xs j)) c n c).abs ≤ 34 * (eps * (D + B * X)) := by
  have he := eps_pos
  have he1 := eps_tiny
  have tt : tau ≤ (2 : Rat) ^ (-300 : Int) := p2_le (by decide)
  have t0 : 0 < tau := p2_pos _
  have bc := hB c (Nat.le_refl _) (by omega)
  have B0 : 0 ≤ B := Rat.le_trans (abs_nonneg _) bc.2
  have hX0 := sm_nonneg (f := fun j => (vl (xs j)).abs) (fun j => abs_nonneg _) m (c + 1)
  have X0 : 0 ≤ X := Rat.le_trans hX0 hX
  have BX := Rat.mul_nonneg B0 X0
  obtain ⟨h1, h2, h3, _⟩ := tW_ok hn hm (fun j g1 g2 => hB j (by omega) g2) hD hx hX (by grind) B0 hG m (Nat.le_refl _)
  have mm : (m : Rat) ≤ 8 := nat_cast_le hm
  generalize hGG : D + B * X = G at *
  have G0 : 0 < G := by have := p2_pos (-300); grind
  have eG : 0 ≤ eps * G := Rat.mul_nonneg (Rat.le_of_lt he) (Rat.le_of_lt G0)
  have h2' : (vl (tW M xs c n m) - (vl (M c n) - sm (fun j => vl (M c j) * vl (xs j)) (c + 1) m)).abs ≤ 32 * (eps * G) := by
    have := Rat.mul_le_mul_of_nonneg_right mm (show 0 ≤ 4 * (eps * G) by grind)
    grind
  -- the quotient
  have quo : (vl (xs c) * vl (M c c) - vl (tW M xs c n m)).abs ≤ 2 * (eps * G) := by
    have one : ∃ C, (vl (tW M xs c n m)).abs ≤ C * (vl (M c c)).abs ∧ tau ≤ C ∧ C ≤ huge ∧ C * (vl (M c c)).abs ≤ 2 * G := by
      have e0 : (vl (tW M xs c n m) / vl (M c c)).abs * (vl (M c c)).abs = (vl (tW M xs c n m)).abs := by rw [← abs_mul, Rat.div_mul_cancel hp0]
      by_cases g : tau ≤ (vl (tW M xs c n m) / vl (M c c)).abs
      · exact ⟨_, by rw [e0]; exact Rat.le_refl, g, hs, by rw [e0]; grind⟩
      · refine ⟨tau, ?_, Rat.le_refl, ?_, ?_⟩
        · rw [← e0]
          exact Rat.mul_le_mul_of_nonneg_right (by grind) (abs_nonneg _)
        · unfold tau huge
          exact p2_le (by decide)
        · have g1 := Rat.mul_le_mul_of_nonneg_left (Rat.le_trans bc.2 bB) (Rat.le_of_lt t0)
          have g2 : tau * (2 : Rat) ^ (300 : Int) ≤ (2 : Rat) ^ (-300 : Int) := by
            unfold tau
            rw [← p2_add]
            exact p2_le (by decide)
          grind
    obtain ⟨C, c1, c2, c3, c4⟩ := one
    obtain ⟨q1, q2, q3, q4⟩ := g_quo h1 bc.1 hp0 c1 c2 c3
    rw [hq]
    have e : vl (gQuo (tW M xs c n m) (M c c)) * vl (M c c) - vl (tW M xs c n m) = (vl (gQuo (tW M xs c n m) (M c c)) - vl (tW M xs c n m) / vl (M c c)) * vl (M c c) := by
      have := Rat.div_mul_cancel (a := vl (tW M xs c n m)) hp0
      grind
    rw [e, abs_mul]
    have g1 := Rat.mul_le_mul_of_nonneg_right q3 (abs_nonneg (vl (M c c)))
    have g2 := Rat.mul_le_mul_of_nonneg_left c4 (Rat.le_of_lt he)
    grind
  unfold offBy
  rw [show n - c = m + 1 by omega]
  simp only [sm]
  have key : vl (M c c) * vl (xs c) + sm (fun j => vl (M c j) * vl (xs j)) (c + 1) m - vl (M c n) =
      (vl (xs c) * vl (M c c) - vl (tW M xs c n m)) + (vl (tW M xs c n m) - (vl (M c n) - sm (fun j => vl (M c j) * vl (xs j)) (c + 1) m)) := by grind
  rw [key]
  refine Rat.le_trans (le_both (abs_add_le _ _) quo h2') ?_
  clear key quo h2' h2
  grind
end Go.Vm
namespace Go.Vm
open Ieee
set_option linter.unusedVariables false
set_option linter.unusedSectionVars false
set_option linter.unusedSimpArgs false

/-! ### The whole elimination -/
def gp : Nat → Rat
  | 0 => 1
  | c + 1 => 201 / 100 * gp c
theorem gp_ge : ∀ c, 1 ≤ gp c
  | 0 => by simp only [gp]; grind
  | c + 1 => by simp only [gp]; have := gp_ge c; grind
theorem gp_mono : ∀ {c d : Nat}, c ≤ d → gp c ≤ gp d
  | c, 0, h => by rw [show c = 0 by omega]; exact Rat.le_refl
  | c, d + 1, h => by
    rcases Nat.lt_or_ge c (d + 1) with g | g
    · have := gp_mono (show c ≤ d by omega)
      have := gp_ge d
      simp only [gp]
      grind
    · rw [show c = d + 1 by omega]; exact Rat.le_refl
theorem gp_8 : gp 8 ≤ 267 := by simp only [gp]; grind
def es : Nat → Nat → Rat
  | _, 0 => 0
  | c, m + 1 => gp c + es (c + 1) m
theorem es_8 : es 0 8 ≤ 264 := by simp only [es, gp]; grind
theorem es_nonneg : ∀ (m c : Nat), 0 ≤ es c m
  | 0, c => by simp only [es]; grind
  | m + 1, c => by simp only [es]; have := gp_ge c; have := es_nonneg m (c + 1); grind
theorem es_mono : ∀ (m k c : Nat), m ≤ k → es c m ≤ es c k
  | 0, k, c, h => by simp only [es]; exact es_nonneg k c
  | m + 1, 0, c, h => by omega
  | m + 1, k + 1, c, h => by simp only [es]; have := es_mono m k (c + 1) (by omega); grind
/-- the stages, one behind the other; pv: which row was taken -/
structure Elim (n l : Nat) (W : Nat → Nat → Nat → Nat) (pv : Nat → Nat) : Prop where
  hl : l ≤ n
  next : ∀ c, c < l → W (c + 1) = stepW (swp c (pv c) (W c)) c
  lo : ∀ c, c < l → c ≤ pv c ∧ pv c < n
  nz : ∀ c, c < l → vl (W c (pv c) c) ≠ 0
  top : ∀ c, c < l → ∀ r, c ≤ r → r < n → (vl (W c r c)).abs ≤ (vl (W c (pv c) c)).abs
section
variable {n l : Nat} {W : Nat → Nat → Nat → Nat} {pv : Nat → Nat}
theorem swp_row (c p : Nat) (W : Nat → Nat → Nat) (r : Nat) : ∃ r', (∀ j, swp c p W r j = W r' j) ∧ (r' = r ∨ r = c ∧ r' = p ∨ r = p ∧ r' = c) := by
  unfold swp
  by_cases h1 : r = c
  · exact ⟨p, fun j => by rw [if_pos h1], .inr (.inl ⟨h1, rfl⟩)⟩
  · by_cases h2 : r = p
    · exact ⟨c, fun j => by rw [if_neg h1, if_pos h2], .inr (.inr ⟨h2, rfl⟩)⟩
    · exact ⟨r, fun j => by rw [if_neg h1, if_neg h2], .inl rfl⟩
theorem swp_top (c p : Nat) (W : Nat → Nat → Nat) (j : Nat) : swp c p W c j = W p j := by unfold swp; rw [if_pos rfl]
variable (E : Elim n l W pv)
include E
/-- the same rows, in another order -/
theorem Elim.rows {c : Nat} (hc : c < l) {r : Nat} (h1 : c ≤ r) (h2 : r < n) : ∃ r', c ≤ r' ∧ r' < n ∧ ∀ j, swp c (pv c) (W c) r j = W c r' j := by
  obtain ⟨r', e, h⟩ := swp_row c (pv c) (W c) r
  have := E.lo c hc
  have hn' := E.hl
  refine ⟨r', ?_, ?_, e⟩
  · rcases h with h | ⟨_, h⟩ | ⟨_, h⟩ <;> omega
  · rcases h with h | ⟨_, h⟩ | ⟨_, h⟩ <;> omega
theorem Elim.rows' {c : Nat} (hc : c < l) {r : Nat} (h1 : c ≤ r) (h2 : r < n) : ∃ r', c ≤ r' ∧ r' < n ∧ ∀ j, W c r j = swp c (pv c) (W c) r' j := by
  have hl := E.lo c hc
  have hn' := E.hl
  by_cases h3 : r = c
  · refine ⟨pv c, hl.1, hl.2, fun j => ?_⟩
    unfold swp
    by_cases h4 : pv c = c
    · rw [if_pos h4, h3, h4]
    · rw [if_neg h4, if_pos rfl, h3]
  · by_cases h4 : r = pv c
    · refine ⟨c, Nat.le_refl _, by omega, fun j => ?_⟩
      rw [swp_top, h4]
    · refine ⟨r, h1, h2, fun j => ?_⟩
      unfold swp
      rw [if_neg h3, if_neg h4]
variable {B0 D0 : Rat} (hB : ∀ r j, r < n → j < n → Le B0 (W 0 r j)) (hD : ∀ r, r < n → Le D0 (W 0 r n)) (hn : n ≤ 8) (tB : tau ≤ B0) (tD : tau ≤ D0) (bB : B0 * 300 ≤ (2 : Rat) ^ (300 : Int)) (bD : D0 * 300 ≤ (2 : Rat) ^ (300 : Int))
include hB hD hn tB tD bB bD
theorem Elim.bounds : ∀ c, c ≤ l → ∀ r, c ≤ r → r < n → (∀ j, c ≤ j → j < n → Le (gp c * B0) (W c r j)) ∧ Le (gp c * D0) (W c r n) := by
  have t0 : 0 < tau := p2_pos _
  intro c
  induction c with
  | zero =>
    intro _ r _ hr
    simp only [gp, Rat.one_mul]
    exact ⟨fun j _ hj => hB r j hr hj, hD r hr⟩
  | succ c ih =>
    intro hc r h1 h2
    have ih' := ih (by omega)
    have hcm : c < l := by omega
    have hcn : c < n := by have := E.hl; omega
    have g8 := gp_8
    have g1 := gp_ge c
    have g2 := gp_mono (show c ≤ 8 by omega)
    have mm : ∀ {Q : Rat}, tau ≤ Q → Q * 300 ≤ (2 : Rat) ^ (300 : Int) → tau ≤ gp c * Q ∧ gp c * Q ≤ (2 : Rat) ^ (300 : Int) := fun {Q} a b => by
      have q0 : 0 ≤ Q := by grind
      have := Rat.mul_le_mul_of_nonneg_right g1 q0
      have := Rat.mul_le_mul_of_nonneg_right (show gp c ≤ 300 by grind) q0
      constructor <;> grind
    rw [E.next c hcm]
    obtain ⟨r1, a1, a2, a3⟩ := E.rows hcm (show c ≤ r by omega) h2
    obtain ⟨r0, b1, b2, b3⟩ := E.rows hcm (Nat.le_refl c) hcn
    have hpc := E.lo c hcm
    have nz : vl (swp c (pv c) (W c) c c) ≠ 0 := by rw [swp_top]; exact E.nz c hcm
    have top : (vl (swp c (pv c) (W c) r c)).abs ≤ (vl (swp c (pv c) (W c) c c)).abs := by rw [swp_top, a3]; exact E.top c hcm r1 a1 a2
    have fp : Fin (swp c (pv c) (W c) c c) := by rw [b3]; exact ((ih' r0 b1 b2).1 c (Nat.le_refl _) hcn).1
    have fq : Fin (swp c (pv c) (W c) r c) := by rw [a3]; exact ((ih' r1 a1 a2).1 c (Nat.le_refl _) hcn).1
    have go : ∀ {Q : Rat} {j : Nat}, c < j → tau ≤ Q → Q * 300 ≤ (2 : Rat) ^ (300 : Int) → Le (gp c * Q) (W c r1 j) → Le (gp c * Q) (W c r0 j) → Le (gp (c + 1) * Q) (stepW (swp c (pv c) (W c)) c r j) := fun {Q j} hj a b l1 l2 => by
      have h := (step_ok (W := swp c (pv c) (W c)) (by omega) hj (by rw [a3]; exact l1) (by rw [b3]; exact l2) fp nz fq top (mm a b).1 (mm a b).2).le
      refine h.mono ?_
      simp only [gp]
      grind
    exact ⟨fun j h3 h4 => go (by omega) tB bB ((ih' r1 a1 a2).1 j (by omega) h4) ((ih' r0 b1 b2).1 j (by omega) h4), go (by omega) tD bD (ih' r1 a1 a2).2 (ih' r0 b1 b2).2⟩
omit hB hD hn tB tD bB bD in
/-- a row that is done stays -/
theorem Elim.done {c : Nat} (hc : c < l) : ∀ k, c < k → k ≤ l → ∀ j, W k c j = swp c (pv c) (W c) c j := by
  intro k
  induction k with
  | zero => intro h; omega
  | succ k ih =>
    intro h1 h2 j
    rw [E.next k (by omega)]
    unfold stepW
    rw [if_pos (.inl (by omega))]
    rcases Nat.lt_or_ge c k with g | g
    · have hl := E.lo k (by omega)
      rw [← ih g (by omega) j]
      unfold swp
      rw [if_neg (by omega), if_neg (by omega)]
    · rw [show k = c by omega]
/-- THE ELIMINATION'S REST -/
theorem Elim.off (hln : n = l) {xs : Nat → Nat} {X : Rat} (hx : ∀ j, j < n → Fin (xs j)) (hX : sm (fun j => (vl (xs j)).abs) 0 n ≤ X) (tD3 : (2 : Rat) ^ (-300 : Int) ≤ D0) (hG : (D0 + B0 * X) * 300 ≤ (2 : Rat) ^ (390 : Int))
    (hq : ∀ c, c < n → xs c = gQuo (tW (swp c (pv c) (W c)) xs c n (n - (c + 1))) (swp c (pv c) (W c) c c))
    (hs : ∀ c, c < n → (vl (tW (swp c (pv c) (W c)) xs c n (n - (c + 1))) / vl (swp c (pv c) (W c) c c)).abs ≤ huge) :
    ∀ (m c : Nat), c + m = n → ∀ r, c ≤ r → r < n → (offBy (W c) (fun j => vl (xs j)) c n r).abs ≤ 40 * (eps * (D0 + B0 * X)) * es c m := by
  subst hln
  have he := eps_pos
  have t0 : 0 < tau := p2_pos _
  have bnd := E.bounds hB hD hn tB tD bB bD
  have same : ∀ {M N : Nat → Nat → Nat} {r r' c : Nat}, (∀ j, M r j = N r' j) → offBy M (fun j => vl (xs j)) c n r = offBy N (fun j => vl (xs j)) c n r' := fun {M N r r' c} h => by
    unfold offBy
    simp only [h]
  have sub : ∀ c, c ≤ n → sm (fun j => (vl (xs j)).abs) c (n - c) ≤ X := fun c hc => by
    have h1 := sm_split (fun j => (vl (xs j)).abs) c (n - c) 0
    rw [show c + (n - c) = n by omega, Nat.zero_add] at h1
    have := sm_nonneg (f := fun j => (vl (xs j)).abs) (fun j => abs_nonneg _) c 0
    grind
  have X0 : 0 ≤ X := Rat.le_trans (sm_nonneg (f := fun j => (vl (xs j)).abs) (fun j => abs_nonneg _) n 0) hX
  have B00 : 0 ≤ B0 := by grind
  have G0 : 0 ≤ D0 + B0 * X := by have := Rat.mul_nonneg B00 X0; grind
  intro m
  induction m with
  | zero => intro c hc r h1 h2; omega
  | succ m ih =>
    intro c hc r h1 h2
    have hcn : c < n := by omega
    have ih' := ih (c + 1) (by omega)
    have g8 := gp_8
    have g1 := gp_ge c
    have g2 := gp_mono (show c ≤ 8 by omega)
    have mm : ∀ {Q : Rat}, tau ≤ Q → Q * 300 ≤ (2 : Rat) ^ (300 : Int) → tau ≤ gp c * Q ∧ gp c * Q ≤ (2 : Rat) ^ (300 : Int) := fun {Q} a b => by
      have q0 : 0 ≤ Q := by grind
      have := Rat.mul_le_mul_of_nonneg_right g1 q0
      have := Rat.mul_le_mul_of_nonneg_right (show gp c ≤ 300 by grind) q0
      constructor <;> grind
    obtain ⟨r0, b1, b2, b3⟩ := E.rows hcn (Nat.le_refl c) hcn
    have eG : gp c * D0 + gp c * B0 * X = gp c * (D0 + B0 * X) := by grind
    have e0 : (offBy (swp c (pv c) (W c)) (fun j => vl (xs j)) c n c).abs ≤ 34 * (eps * (gp c * (D0 + B0 * X))) := by
      have sx := sub (c + 1) (by omega)
      rw [← eG]
      refine off_back (m := n - (c + 1)) (by omega) (by omega) (fun j g1 g2 => by rw [b3]; exact (bnd c (by omega) r0 b1 b2).1 j g1 g2) (by rw [b3]; exact (bnd c (by omega) r0 b1 b2).2) (fun j g1 g2 => hx j g2) sx ?_ (mm tB bB).2 ?_ (by rw [swp_top]; exact E.nz c hcn) (hq c hcn) (hs c hcn)
      · have := Rat.mul_le_mul_of_nonneg_right g1 (show 0 ≤ D0 by grind)
        grind
      · rw [eG]
        have := Rat.mul_le_mul_of_nonneg_right (show gp c ≤ 300 by grind) G0
        grind
    have eg0 : 0 ≤ eps * (D0 + B0 * X) := Rat.mul_nonneg (Rat.le_of_lt he) G0
    have es0 := es_nonneg m (c + 1)
    have row : ∀ r, c ≤ r → r < n → (offBy (swp c (pv c) (W c)) (fun j => vl (xs j)) c n r).abs ≤ 40 * (eps * (D0 + B0 * X)) * es c (m + 1) := fun r h1 h2 => by
      simp only [es]
      have gpe := Rat.mul_nonneg eg0 (show 0 ≤ gp c by grind)
      have ese := Rat.mul_nonneg eg0 es0
      have e1 : eps * (gp c * (D0 + B0 * X)) = eps * (D0 + B0 * X) * gp c := by grind
      by_cases hr : r = c
      · subst hr
        rw [e1] at e0
        grind
      · obtain ⟨r1, a1, a2, a3⟩ := E.rows hcn h1 h2
        have hE := ih' r (by omega) h2
        rw [E.next c hcn] at hE
        have h := off_step (M := swp c (pv c) (W c)) (x := fun j => vl (xs j)) (n := n) (B := gp c * B0) (D := gp c * D0) (X := X) (show c < r by omega) h2 (fun j g1 g2 => ⟨by rw [a3]; exact (bnd c (by omega) r1 a1 a2).1 j g1 g2, by rw [b3]; exact (bnd c (by omega) r0 b1 b2).1 j g1 g2⟩)
          ⟨by rw [a3]; exact (bnd c (by omega) r1 a1 a2).2, by rw [b3]; exact (bnd c (by omega) r0 b1 b2).2⟩ (by rw [swp_top]; exact E.nz c hcn) (by rw [swp_top, a3]; exact E.top c hcn r1 a1 a2) (mm tB bB).1 (mm tD bD).1 (mm tB bB).2 (mm tD bD).2 (sub c (by omega)) e0 hE
        rw [show gp c * B0 * X + gp c * D0 = gp c * (D0 + B0 * X) by grind, e1] at h
        grind
    obtain ⟨r', a1, a2, a3⟩ := E.rows' hcn h1 h2
    rw [same a3]
    exact row r' a1 a2
end
end Go.Vm
namespace Go.Vm
open Ieee
set_option linter.unusedVariables false
set_option linter.unusedSimpArgs false

/-! ### What is too great comes out great -/
theorem inf_none {s : Bool} {z : Rat} : ¬ Is (double.word s (2047 * 2 ^ 52)) z := by
  rintro ⟨_, t, m, i, h, _⟩
  cases s
  · have : double.read (double.word false (2047 * 2 ^ 52)) = .infinity false := by decide
    rw [this] at h
    cases h
  · have : double.read (double.word true (2047 * 2 ^ 52)) = .infinity true := by decide
    rw [this] at h
    cases h
theorem nearest_big {s : Bool} {m : Nat} {i : Int} (h : (2 : Rat) ^ (1000 : Int) ≤ (m : Rat) * (2 : Rat) ^ i) {z : Rat} (hz : Is (double.nearest s m i) z) : (2 : Rat) ^ (999 : Int) ≤ z.abs := by
  have p0 := p2_pos 1000
  have hm : m ≠ 0 := by
    rintro rfl
    have e0 : ((0 : Nat) : Rat) = 0 := rfl
    rw [e0] at h
    grind
  have hL1 : 2 ^ m.log2 ≤ m := Nat.log2_self_le hm
  have hL2 : m < 2 ^ (m.log2 + 1) := Nat.lt_log2_self
  have e1 : double.leastPlace = -1074 := by decide
  have e2 : double.binade = 2 ^ 52 := by decide
  have e3 : double.infRung = 2047 * 2 ^ 52 := by decide
  have e4 : (double.fractionBits : Int) = 52 := by decide
  generalize hLd : m.log2 = L at *
  have hLi : 1000 < (L : Int) + 1 + i := by
    refine p2_lt_of (Rat.not_le.1 fun hle => ?_)
    have g1 : (m : Rat) * (2 : Rat) ^ i < ((2 ^ (L + 1) : Nat) : Rat) * (2 : Rat) ^ i := Rat.mul_lt_mul_of_pos_right (nat_cast_lt hL2) (p2_pos i)
    have g2 : ((2 ^ (L + 1) : Nat) : Rat) = (2 : Rat) ^ (((L + 1 : Nat) : Int)) := (p2_nat (L + 1)).symm
    rw [g2, ← p2_add] at g1
    have g3 : ((L + 1 : Nat) : Int) + i = (L : Int) + 1 + i := by omega
    rw [g3] at g1
    grind
  generalize hlast : max (i + (L : Int) - 52) (-1074) = last
  have hl : last = i + L - 52 := by omega
  generalize hkept : Toward.even.cut s (m <<< (i - last).toNat) (last - i).toNat = kept
  obtain ⟨c1, c2, c3, c4⟩ := cut_spec s (m <<< (i - last).toNat) (last - i).toNat
  rw [hkept] at c1 c2 c3 c4
  have key : kept ≤ 2 ^ 53 ∧ 2 ^ 52 ≤ kept := by
    by_cases hil : last ≤ i
    · obtain ⟨a, ha⟩ := Int.eq_ofNat_of_zero_le (show 0 ≤ i - last by omega)
      have h1 : (i - last).toNat = a := by omega
      have h2 : (last - i).toNat = 0 := by omega
      rw [h1, h2] at c3
      have hk : kept = m * 2 ^ a := by
        have := c3 (by simp)
        rw [Nat.shiftLeft_eq] at this
        simpa using this
      have ha52 : a + L = 52 := by omega
      have hlt53 : m * 2 ^ a < 2 ^ (L + 1 + a) := by
        rw [Nat.pow_add]
        exact Nat.mul_lt_mul_of_pos_right hL2 (Nat.two_pow_pos a)
      have hle53 : 2 ^ (L + 1 + a) ≤ 2 ^ 53 := Nat.pow_le_pow_right (by decide) (by omega)
      refine ⟨by omega, ?_⟩
      rw [hk]
      have : 2 ^ 52 = 2 ^ L * 2 ^ a := by rw [← Nat.pow_add, show L + a = 52 by omega]
      rw [this]
      exact Nat.mul_le_mul_right _ hL1
    · obtain ⟨b, hb⟩ := Int.eq_ofNat_of_zero_le (show 0 ≤ last - i by omega)
      have h1 : (i - last).toNat = 0 := by omega
      have h2 : (last - i).toNat = b := by omega
      rw [h1, h2] at c1 c2 c3 c4
      rw [Nat.shiftLeft_zero] at c1 c2 c3 c4
      refine ⟨?_, ?_⟩
      · have : m / 2 ^ b < 2 ^ 53 := by
          rw [Nat.div_lt_iff_lt_mul (Nat.two_pow_pos b), ← Nat.pow_add]
          exact Nat.lt_of_lt_of_le hL2 (Nat.pow_le_pow_right (by decide) (by omega))
        omega
      · have hLb : L = 52 + b := by omega
        rw [hLb, Nat.pow_add] at hL1
        have h5 : 2 * (2 ^ 52 * 2 ^ b) ≤ 2 * (kept * 2 ^ b) + 2 ^ b := Nat.le_trans (Nat.mul_le_mul_left 2 hL1) c2
        have hpos := Nat.two_pow_pos b
        refine Nat.not_lt.1 fun hlt => ?_
        have h6 : (kept + 1) * 2 ^ b ≤ 2 ^ 52 * 2 ^ b := Nat.mul_le_mul_right _ hlt
        rw [Nat.add_mul, Nat.one_mul] at h6
        omega
  have hn : double.nearest s m i = double.word s (min ((last - -1074).toNat * 2 ^ 52 + kept) (2047 * 2 ^ 52)) := by
    unfold Format.nearest
    simp only [if_neg hm, e1, e2, e3, e4, hLd, hlast, hkept]
  rw [hn] at hz
  by_cases hr : (last - -1074).toNat * 2 ^ 52 + kept < 2047 * 2 ^ 52
  · rw [Nat.min_eq_left (by omega)] at hz
    have := is_rung (s := s) (t := (last - -1074).toNat) (k := kept) key.1 (.inr key.2) hr
    rw [show (-1074 + ((last - -1074).toNat : Int)) = last by omega] at this
    rw [is_fun hz this, dv_abs]
    have g1 : ((2 ^ 52 : Nat) : Rat) * (2 : Rat) ^ last ≤ (kept : Rat) * (2 : Rat) ^ last := Rat.mul_le_mul_of_nonneg_right (nat_cast_le key.2) (Rat.le_of_lt (p2_pos last))
    rw [← p2_nat, ← p2_add] at g1
    exact Rat.le_trans (p2_le (by omega)) g1
  · rw [Nat.min_eq_right (by omega)] at hz
    exact absurd hz inf_none
/-- a quotient that comes out small was small -/
theorem quo_small {a b r : Nat} {x y z : Rat} (ha : Is a x) (hb : Is b y) (hy : y ≠ 0) (hr : fbF .quo a b = some r) (hz : Is r z) (hs : z.abs < (2 : Rat) ^ (999 : Int)) : (x / y).abs < (2 : Rat) ^ (1022 : Int) := by
  obtain ⟨_, s, m, i, h1, rfl⟩ := ha
  obtain ⟨_, t, n, j, h2, rfl⟩ := hb
  have hn : n ≠ 0 := by rintro rfl; exact hy (dv_zero _ _)
  obtain ⟨c, k, e, h3, h4, h5⟩ := @quotient_val s t m n i j hn
  generalize dv s m i / dv t n j = q at *
  refine Rat.not_le.1 fun hbig => ?_
  have hw : r = double.nearest c k e := by
    rw [fbF_eq] at hr
    have : double.div a b = some r := hr
    unfold Format.div at this
    rw [h1, h2] at this
    have f54 : double.fractionBits + 2 = 54 := by decide
    rw [f54, h3] at this
    simp only [Option.map_some, Option.some.injEq] at this
    rw [← this]
    rfl
  rw [hw] at hz
  have hk := dv_abs c k e
  have hv : q.abs ≤ (dv c k e).abs + q.abs * (2 : Rat) ^ (-54 : Int) := by
    have := abs_add_le (q - dv c k e) (dv c k e)
    rw [show q - dv c k e + dv c k e = q by grind, abs_sub_comm] at this
    grind
  have p54 : (2 : Rat) ^ (-54 : Int) ≤ 1 / 1000 := p2_small (by decide)
  have g1 := Rat.mul_le_mul_of_nonneg_left p54 (abs_nonneg q)
  have g2 := p2_le (show (1001 : Int) ≤ 1022 by decide)
  have g3 := p2_half 1001
  rw [show (1001 - 1 : Int) = 1000 by decide] at g3
  have := nearest_big (s := c) (m := k) (i := e) (by rw [← hk]; grind) hz
  grind
end Go.Vm
namespace Go.Vm
open Ieee
set_option linter.unusedVariables false
set_option linter.unusedSimpArgs false

/-- A LENGTH, FROM BELOW TOO -/
theorem rnd_nonneg {w : Nat} {x z : Rat} (h : Is w z) (q : Rnd x z) (hx : 0 ≤ x) : 0 ≤ z := by
  obtain ⟨K, e, k1, k2, k3, rfl⟩ := is_rep h
  rcases Int.lt_or_le K 0 with hK | hK
  · exfalso
    have pe := p2_pos e
    have hK' : (K : Rat) ≤ -1 := by
      have : K ≤ -1 := by omega
      have h2 : (K : Rat) ≤ ((-1 : Int) : Rat) := by exact_mod_cast this
      rwa [show ((-1 : Int) : Rat) = -1 by norm_cast] at h2
    have m := Rat.mul_le_mul_of_nonneg_right hK' (Rat.le_of_lt pe)
    have p1 := p2_le (show (-1074 : Int) ≤ e by omega)
    have p2 := p2_half (-1074)
    rw [show (-1074 - 1 : Int) = -1075 by decide] at p2
    have p3 := p2_pos (-1075)
    have p53 := p2_le (show (-53 : Int) ≤ 0 by decide)
    rw [Rat.zpow_zero] at p53
    have p54 := p2_pos (-53)
    rcases q.near with g | g
    · rw [Rat.abs_of_nonneg hx] at g
      have := abs_le_iff.1 g
      have m2 := Rat.mul_le_mul_of_nonneg_left p53 hx
      grind
    · have := abs_le_iff.1 g
      grind
  · exact Rat.mul_nonneg (by exact_mod_cast hK) (Rat.le_of_lt (p2_pos e))
theorem lengthK_pos {a b : Nat} {x y d : Rat} (ha : Is a x) (hb : Is b y) (hx : x.abs ≤ d) (hy : y.abs ≤ d) (d1 : (2 : Rat) ^ (-900 : Int) ≤ d) (d2 : d ≤ (2 : Rat) ^ (400 : Int)) :
    ∃ r L, Is r L ∧ 0 ≤ L ∧ L ≤ 2 * d ∧ (x = 0 → y = 0 → L = 0) ∧ (1 ≤ x.abs ∨ 1 ≤ y.abs → x.abs ≤ 5 * L ∧ y.abs ≤ 5 * L) ∧ ∀ (R : Type) (k : Nat → Option R), lengthK R a b k = k r := by
  have hd0 : 0 < d := by have := p2_pos (-900); grind
  obtain ⟨g, G, hg, gx, gy, hG, hgk⟩ := greatestK_is ha hb
  have hpre : ∀ (R : Type) (k : Nat → Option R), lengthK R a b k = forceB (eqF g 0) fun t => match t with
      | true => k 0
      | false => scaledK R a b fun x y e => squareK R x y fun s => sqrtK R s fun r => scaleK R r e k := fun R k => by
    unfold lengthK lengthB
    rw [isInfK_no ha, forceB_eq]
    simp only
    rw [isInfK_no hb, forceB_eq]
    simp only
    rw [isNanK_no ha, forceB_eq]
    simp only
    rw [isNanK_no hb, forceB_eq]
    simp only
    rw [hgk]
    rfl
  by_cases hG0 : G = 0
  · refine ⟨0, 0, by simpa using is_zero, Rat.le_refl, by grind, fun _ _ => rfl, fun h => absurd h (by grind), fun R k => ?_⟩
    rw [hpre, forceB_eq, eqF_is hg is_zero]
    simp [hG0]
  have hGd : G ≤ d := by rcases hG with h | h <;> grind
  have hGp : 0 < G := by have := abs_nonneg x; grind
  have hGa : G.abs = G := Rat.abs_of_nonneg (Rat.le_of_lt hGp)
  obtain ⟨w, n, n1, n2, n3, n4, hfr⟩ := frexpK_is hg hG0
  rw [hGa] at n1 n2
  have n5 : n ≤ 401 := by
    refine Int.not_lt.1 fun h => ?_
    have h1 := p2_le (show (401 : Int) ≤ n - 1 by omega)
    have h2 := p2_half 401
    rw [show (401 - 1 : Int) = 400 by decide] at h2
    have := p2_pos 400
    grind
  have pn := p2_pos (-n)
  have hcan : (2 : Rat) ^ n * (2 : Rat) ^ (-n) = 1 := p2_cancel n
  have hhalf : (2 : Rat) ^ (n - 1) * (2 : Rat) ^ (-n) = 1 / 2 := by
    have := p2_half n
    have h3 : (2 : Rat) ^ n * (2 : Rat) ^ (-n) = 2 * ((2 : Rat) ^ (n - 1) * (2 : Rat) ^ (-n)) := by rw [this]; grind
    grind
  have hD : 1 / 2 ≤ d * (2 : Rat) ^ (-n) := by
    have := Rat.mul_le_mul_of_nonneg_right (Rat.le_trans n1 hGd) (Rat.le_of_lt pn)
    rwa [hhalf] at this
  have up : ∀ {u : Rat}, u.abs ≤ G → u.abs ≤ d → (u * (2 : Rat) ^ (-n)).abs < 1 ∧ (u * (2 : Rat) ^ (-n)).abs ≤ d * (2 : Rat) ^ (-n) := fun {u} h1 h2 => by
    rw [abs_mul, p2_abs]
    have g1 := Rat.mul_lt_mul_of_pos_right (show u.abs < (2 : Rat) ^ n by grind) pn
    have g2 := Rat.mul_le_mul_of_nonneg_right h2 (Rat.le_of_lt pn)
    rw [hcan] at g1
    exact ⟨g1, g2⟩
  obtain ⟨ux1, ux2⟩ := up gx hx
  obtain ⟨uy1, uy2⟩ := up gy hy
  have hlow : 1 / 2 ≤ (x * (2 : Rat) ^ (-n)).abs ∨ 1 / 2 ≤ (y * (2 : Rat) ^ (-n)).abs := by
    have := Rat.mul_le_mul_of_nonneg_right n1 (Rat.le_of_lt pn)
    rw [hhalf] at this
    rcases hG with h | h
    · left; rw [abs_mul, p2_abs, ← h]; exact this
    · right; rw [abs_mul, p2_abs, ← h]; exact this
  obtain ⟨r1, X, i1, q1, s1⟩ := scaleK_is (n := -n) ha (by omega) (by omega) (lt_p2_1023 (by grind))
  obtain ⟨r2, Y, i2, q2, s2⟩ := scaleK_is (n := -n) hb (by omega) (by omega) (lt_p2_1023 (by grind))
  have c1 := q1.coarse
  have c2 := q2.coarse
  have ht : (2 : Rat) ^ (-1075 : Int) ≤ 1 / 1000 := p2_small (by decide)
  have ht0 := p2_pos (-1075)
  generalize hDD : d * (2 : Rat) ^ (-n) = D at *
  generalize x * (2 : Rat) ^ (-n) = X0 at *
  generalize y * (2 : Rat) ^ (-n) = Y0 at *
  generalize htt : (2 : Rat) ^ (-1075 : Int) = t at *
  have aX : X.abs ≤ X0.abs + (X - X0).abs := by have := abs_add_le (X - X0) X0; rw [show X - X0 + X0 = X by grind] at this; grind
  have aY : Y.abs ≤ Y0.abs + (Y - Y0).abs := by have := abs_add_le (Y - Y0) Y0; rw [show Y - Y0 + Y0 = Y by grind] at this; grind
  have aX' : X0.abs ≤ X.abs + (X - X0).abs := by have := abs_add_le X (X0 - X); rw [show X + (X0 - X) = X0 by grind, abs_sub_comm X0 X] at this; exact this
  have aY' : Y0.abs ≤ Y.abs + (Y - Y0).abs := by have := abs_add_le Y (Y0 - Y); rw [show Y + (Y0 - Y) = Y0 by grind, abs_sub_comm Y0 Y] at this; exact this
  have bX : X.abs ≤ 51 / 50 * D := by grind
  have bY : Y.abs ≤ 51 / 50 * D := by grind
  have bX1 : X.abs ≤ 51 / 50 := by grind
  have bY1 : Y.abs ≤ 51 / 50 := by grind
  have sX := sq_le bX
  have sY := sq_le bY
  have sX1 := sq_le bX1
  have sY1 := sq_le bY1
  have zX := sq_nonneg X
  have zY := sq_nonneg Y
  have aXX : (X * X).abs = X * X := Rat.abs_of_nonneg zX
  have aYY : (Y * Y).abs = Y * Y := Rat.abs_of_nonneg zY
  obtain ⟨r3, Pp, e3, i3, q3⟩ := mul_is i1 i1 (lt_p2_1023 (by rw [aXX]; grind))
  obtain ⟨r4, Qq, e4, i4, q4⟩ := mul_is i2 i2 (lt_p2_1023 (by rw [aYY]; grind))
  have c3 := q3.coarse
  have c4 := q4.coarse
  rw [aXX] at c3
  rw [aYY] at c4
  rw [htt] at c3 c4
  have f3 := abs_le_iff.1 c3
  have f4 := abs_le_iff.1 c4
  have hDsq : 1 / 4 ≤ D * D := by have := Rat.mul_le_mul_of_nonneg_left hD (show (0 : Rat) ≤ D by grind); grind
  have low : 11 / 50 ≤ X * X ∨ 11 / 50 ≤ Y * Y := by
    rcases hlow with h | h
    · left
      have : 47 / 100 ≤ X.abs := by grind
      have := sq_ge this (by grind)
      grind
    · right
      have : 47 / 100 ≤ Y.abs := by grind
      have := sq_ge this (by grind)
      grind
  have hPQ1 : Pp + Qq ≤ 106 / 50 * (D * D) := by grind
  have hPQ2 : 1 / 5 ≤ Pp + Qq := by rcases low with h | h <;> grind
  have hPQ3 : Pp + Qq ≤ 3 := by grind
  have aPQ : (Pp + Qq).abs = Pp + Qq := Rat.abs_of_nonneg (by grind)
  obtain ⟨r5, S, e5, i5, q5⟩ := add_is i3 i4 (lt_p2_1023 (by rw [aPQ]; grind))
  have c5 := q5.coarse
  rw [aPQ, htt] at c5
  have f5 := abs_le_iff.1 c5
  have hS1 : S ≤ 108 / 50 * (D * D) := by grind
  have hS2 : 1 / 10 ≤ S := by grind
  have hS3 : S ≤ 4 := by grind
  obtain ⟨r6, T, e6, i6, t0, t1⟩ := sqrt_is i5 (by grind)
    (by have := lt_p2_1023 (x := 4) (by rw [Rat.abs_of_nonneg (by decide)]; decide)
        have h6 := p2_le (show (10 : Int) ≤ 1000 by decide)
        have h8 : (2 : Rat) ^ (10 : Int) = 1024 := by rw [show (10 : Int) = ((10 : Nat) : Int) by rfl, p2_nat]; rfl
        grind) (by have := p2_small (show (-1000 : Int) ≤ -53 by decide); grind)
  have f6 := abs_le_iff.1 t1
  have e51 : (2 : Rat) ^ (-51 : Int) ≤ 4 / 1000 := by
    have h6 := p2_half (-51)
    have h7 := p2_half (-52)
    rw [show (-51 - 1 : Int) = -52 by decide] at h6
    rw [show (-52 - 1 : Int) = -53 by decide] at h7
    have := e53_le
    grind
  have m51 := Rat.mul_le_mul_of_nonneg_left e51 (show (0 : Rat) ≤ S by grind)
  have hT2 : T * T ≤ 11 / 5 * (D * D) := by grind
  have hT : T ≤ 3 / 2 * D := by
    refine Rat.not_lt.1 fun h => ?_
    have g1 := Rat.mul_le_mul_of_nonneg_left (Rat.le_of_lt h) (show (0 : Rat) ≤ 3 / 2 * D by grind)
    have g2 := Rat.mul_le_mul_of_nonneg_right (Rat.le_of_lt h) (Rat.le_of_lt t0)
    grind
  have hTn : T * (2 : Rat) ^ n ≤ 3 / 2 * d := by
    have g1 := Rat.mul_le_mul_of_nonneg_right hT (Rat.le_of_lt (p2_pos n))
    have g2 : D * (2 : Rat) ^ n = d := by rw [← hDD, Rat.mul_assoc, Rat.mul_comm ((2 : Rat) ^ (-n)), hcan]; grind
    grind
  have hTn0 : 0 ≤ T * (2 : Rat) ^ n := Rat.mul_nonneg (Rat.le_of_lt t0) (Rat.le_of_lt (p2_pos n))
  have aTn : (T * (2 : Rat) ^ n).abs = T * (2 : Rat) ^ n := Rat.abs_of_nonneg hTn0
  obtain ⟨r7, L, i7, q7, s7⟩ := scaleK_is (n := n) i6 (by omega) (by omega) (by
    rw [aTn]
    have g1 := p2_le (show (401 : Int) ≤ 1023 by decide)
    have g2 := p2_half 401
    rw [show (401 - 1 : Int) = 400 by decide] at g2
    grind)
  have c7 := q7.coarse
  rw [aTn, htt] at c7
  have f7 := abs_le_iff.1 c7
  have htd : t ≤ d * (1 / 1000) := by
    have g1 := Rat.mul_le_mul_of_nonneg_right d1 (Rat.le_of_lt (p2_pos (-175)))
    rw [← p2_add, show (-900 + -175 : Int) = -1075 by decide, htt] at g1
    have g2 := Rat.mul_le_mul_of_nonneg_left (p2_small (show (-175 : Int) ≤ -53 by decide)) (Rat.le_of_lt hd0)
    grind
  have hT4 : 1 / 4 ≤ T := by
    refine Rat.not_lt.1 fun h => ?_
    have g2 := Rat.mul_le_mul_of_nonneg_left (Rat.le_of_lt h) (Rat.le_of_lt t0)
    grind
  have hT5 := Rat.mul_le_mul_of_nonneg_right hT4 (Rat.le_of_lt (p2_pos n))
  have hpos : 1 ≤ x.abs ∨ 1 ≤ y.abs → x.abs ≤ 5 * L ∧ y.abs ≤ 5 * L := fun h => by
    have hG1 : 1 ≤ G := by rcases h with h | h <;> grind
    have : G ≤ 5 * L := by grind
    exact ⟨by grind, by grind⟩
  have hz : x = 0 → y = 0 → L = 0 := fun h1 h2 => by
    subst h1
    subst h2
    rw [abs_zero] at hG
    exact absurd (by rcases hG with h | h <;> exact h) hG0
  refine ⟨r7, L, i7, rnd_nonneg i7 q7 hTn0, by grind, hz, hpos, fun R k => ?_⟩
  have hG0' : ¬ (G = ((0 : Int) : Rat)) := by simpa using hG0
  rw [hpre, forceB_eq, eqF_is hg is_zero]
  simp only [hG0', decide_false]
  unfold scaledK scaledB
  rw [hgk, hfr]
  rw [show (0 - n) = -n by omega, wrapI (by omega) (by omega), s1, s2]
  simp only [squareK, sqrtK]
  rw [bindF_eq e3, bindF_eq e4, bindF_eq e5, bindF_eq e6, s7]
end Go.Vm
