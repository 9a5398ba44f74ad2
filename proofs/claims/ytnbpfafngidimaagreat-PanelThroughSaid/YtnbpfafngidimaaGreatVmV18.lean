/- What comes through the middles is small beside strengths and speeds; bounds of the numbers are premises. PanelThrough returns true once its two loops are told; the loops are premises here. Slices of pairs and of five cells, opened; no conditions. A call of PanelThrough returns true, its lists told; no conditions. A slice that is handed in, opened; no conditions. -/
import Derived.Test.YtnbpfafngidimaaGreatVmV8
import Derived.Deep.Slices
import Derived.Carry
import Derived.Lib.SmallJoins
import Derived.OpenShut
import Derived.ProofKit
import Derived.Test.YtnbpfafngidimaaGreatRows
namespace Go.Vm
open Go.Proofs Ieee
set_option linter.unusedVariables false
set_option linter.unusedSimpArgs false
set_option linter.unusedSectionVars false
set_option maxRecDepth 1000000

/-! ### What comes through is small -/
theorem mul_nonneg_is {a b : Nat} {A B : Rat} (ha : Is a A) (hb : Is b B) (h : A.abs * B.abs ≤ big200) (h0 : 0 ≤ A * B) : ∃ c C, fbF .mul a b = some c ∧ Is c C ∧ (C - A * B).abs ≤ eps / 4 * (A.abs * B.abs) + tn ∧ 0 ≤ C := by
  obtain ⟨c, C, g1, g2, g3⟩ := mul_is ha hb (big200_lt (by rw [abs_mul]; exact h))
  have := g3.fine
  rw [abs_mul] at this
  exact ⟨c, C, g1, g2, by grind, rnd_nonneg g2 g3 h0⟩
theorem abs_nought {x : Rat} (h : x.abs ≤ 0) : x = 0 := by
  have g := abs_le_iff.1 h
  grind
theorem round_lo {C x : Rat} (h : (C - x).abs ≤ eps / 4 * x + tn) (h0 : 0 ≤ x) : x - (eps * x + tq) ≤ C := by
  have g := (abs_le_iff.1 h).1
  have m2 := Rat.mul_nonneg (Rat.le_of_lt eps_pos) h0
  have tt := tn_tq
  grind
theorem lo_step {s k t q M : Rat} (h : s - (k + t) ≤ M) (tt : t ≤ q) : s - (k + q) ≤ M := by grind
theorem through_sum {Z E O X σ s q t e G : Rat} (t1 : Z.abs ≤ E.abs + (e * (6000 * X + 6 * s) + 200 * t)) (t2 : E.abs ≤ O.abs + (e * (530 * X + 2 * σ) + 4 * t)) (o : O.abs ≤ 40 * (e * (103 / 100 * σ + q + 530 * X)) * G) (m1 : 40 * (e * (103 / 100 * σ + q + 530 * X)) * G ≤ 40 * (e * (103 / 100 * σ + q + 530 * X)) * 264)
    (m2 : e * s ≤ e * σ) (m3 : 0 ≤ e * X) (m4 : 0 ≤ e * σ) (tt : t ≤ q) (q0 : 0 ≤ q) : Z.abs ≤ 10560 * (e * (103 / 100 * σ + q + 530 * X)) + e * (6600 * X + 20 * σ) + 1000 * q := by
  generalize O.abs = A at *
  generalize Z.abs = B at *
  generalize E.abs = C at *
  have h1 : A ≤ 10560 * (e * (103 / 100 * σ + q + 530 * X)) := by
    refine Rat.le_trans o (Rat.le_trans m1 ?_)
    have : 40 * (e * (103 / 100 * σ + q + 530 * X)) * 264 = 10560 * (e * (103 / 100 * σ + q + 530 * X)) := by grind
    rw [this]
    exact Rat.le_refl
  generalize 10560 * (e * (103 / 100 * σ + q + 530 * X)) = K at *
  clear o m1
  grind
section
variable {n : Nat} (hn1 : 3 ≤ n) (hn : n ≤ 8) {U : Nat → Un} (hU : ∀ i, PieceOk (U i)) (hu : ∀ i, i < n → UnitU (U i)) {v : Nat → Nat → Nat × Nat} {e : Nat → Nat → Int} (hv : ∀ i j, e i j = 0 → Bv 261 (v i j).1 ∧ Bv 261 (v i j).2) (hd : ∀ i, (vl (v i i).1 - vl (U i).u2 / 2).abs ≤ eps ∧ (vl (v i i).2 - vl (U i).u1 / 2).abs ≤ eps)
  {xy : Nat → Nat × Nat} {es : Nat → Int} (hs : ∀ i, SpOut 70 235 (xy i).1 (xy i).2 (es i)) (hok : ∀ i, i < n → okRow n e es i) {cA : Nat → Nat → Nat} {cB : Nat → Nat} (hN : ∀ i, i < n → Near n U v xy cA cB i)
  {σ : Rat} (hσ : ∀ j, j < n → (vl (xy j).1).abs + (vl (xy j).2).abs ≤ σ) (hσ2 : ∃ j, j < n ∧ (vl (xy j).1).abs + (vl (xy j).2).abs = σ)
  {xs : Nat → Nat} (hx : ∀ j, j < n → Fin (xs j) ∧ (vl (xs j)).abs ≤ (2 : Rat) ^ (40 : Int))
/-- the row, not rounded -/
noncomputable def rwE (n : Nat) (U : Nat → Un) (v : Nat → Nat → Nat × Nat) (xy : Nat → Nat × Nat) (x : Nat → Rat) (i : Nat) : Rat := vl (xy i).1 * vl (U i).u2 + vl (xy i).2 * vl (U i).u1 + sm (fun j => (vl (v i j).1 * vl (U i).u2 + vl (v i j).2 * vl (U i).u1) * x j) 0 n
include hn1 hn hU hv hs hok hx
theorem mids_exist : ∃ (w : Nat → Nat → Nat × Nat) (S T z : Nat → Nat × Nat), ∀ i, i < n → MidD n U v xy xs w S T z i ∧
    ∃ Z, Is (z i).2 Z ∧ (Z - rwE n U v xy (fun j => vl (xs j)) i).abs ≤ eps * (6000 * sm (fun j => (vl (xs j)).abs) 0 n + 6 * ((vl (xy i).1).abs + (vl (xy i).2).abs)) + 200 * tn ∧ ((∀ j, j < n → vl (xs j) = 0) → vl (xy i).1 = 0 → vl (xy i).2 = 0 → Z = 0) := by
  have key : ∀ i, ∃ r : (Nat → Nat × Nat) × (Nat × Nat) × (Nat × Nat) × (Nat × Nat), i < n → (∀ j, j < n → ∀ (R : Type) (k : Nat → Nat → Option R), sclK R (v i j).1 (v i j).2 (xs j) k = k (r.1 j).1 (r.1 j).2) ∧
      (∀ (R : Type) (k : Nat → Nat → Option R), sumP addK r.1 n k = k r.2.1.1 r.2.1.2) ∧ (∀ (R : Type) (k : Nat → Nat → Option R), addK R (xy i).1 (xy i).2 r.2.1.1 r.2.1.2 k = k r.2.2.1.1 r.2.2.1.2) ∧ (∀ (R : Type) (k : Nat → Nat → Option R), mulK R r.2.2.1.1 r.2.2.1.2 (U i).u1 (U i).u2 k = k r.2.2.2.1 r.2.2.2.2) ∧
      ∃ Z, Is r.2.2.2.2 Z ∧ (Z - rwE n U v xy (fun j => vl (xs j)) i).abs ≤ eps * (6000 * sm (fun j => (vl (xs j)).abs) 0 n + 6 * ((vl (xy i).1).abs + (vl (xy i).2).abs)) + 200 * tn ∧ ((∀ j, j < n → vl (xs j) = 0) → vl (xy i).1 = 0 → vl (xy i).2 = 0 → Z = 0) := fun i => by
    by_cases hi : i < n
    · obtain ⟨⟨i1, b1, _⟩, ⟨i2, b2, _⟩⟩ := sp_is hs hok hi
      obtain ⟨i3, c3⟩ := (hU i).u1.vl
      obtain ⟨i4, c4⟩ := (hU i).u2.vl
      obtain ⟨w, S, T, z, h⟩ := strong_row (n := n) (by omega) hn (v := v i) (p := fun j => vl (v i j).1) (q := fun j => vl (v i j).2) (fun j hj => ⟨(ok_v hv (hok i hi) hj).1.vl.1, (ok_v hv (hok i hi) hj).2.vl.1⟩)
        (fun j hj => ⟨Rat.le_trans (ok_v hv (hok i hi) hj).1.vl.2 (by grind), Rat.le_trans (ok_v hv (hok i hi) hj).2.vl.2 (by grind)⟩) (xs := xs) (x := fun j => vl (xs j)) (fun j hj => vl_is (hx j hj).1) (fun j hj => (hx j hj).2)
        i1 i2 (by grind) (by grind) i3 i4 c3 c4
      exact ⟨(w, S, T, z), fun _ => h⟩
    · exact ⟨(fun _ => (0, 0), (0, 0), (0, 0), (0, 0)), fun h => absurd h hi⟩
  obtain ⟨F, hF⟩ : ∃ F : Nat → (Nat → Nat × Nat) × (Nat × Nat) × (Nat × Nat) × (Nat × Nat), ∀ i, i < n → (∀ j, j < n → ∀ (R : Type) (k : Nat → Nat → Option R), sclK R (v i j).1 (v i j).2 (xs j) k = k ((F i).1 j).1 ((F i).1 j).2) ∧
      (∀ (R : Type) (k : Nat → Nat → Option R), sumP addK (F i).1 n k = k (F i).2.1.1 (F i).2.1.2) ∧ (∀ (R : Type) (k : Nat → Nat → Option R), addK R (xy i).1 (xy i).2 (F i).2.1.1 (F i).2.1.2 k = k (F i).2.2.1.1 (F i).2.2.1.2) ∧ (∀ (R : Type) (k : Nat → Nat → Option R), mulK R (F i).2.2.1.1 (F i).2.2.1.2 (U i).u1 (U i).u2 k = k (F i).2.2.2.1 (F i).2.2.2.2) ∧
      ∃ Z, Is (F i).2.2.2.2 Z ∧ (Z - rwE n U v xy (fun j => vl (xs j)) i).abs ≤ eps * (6000 * sm (fun j => (vl (xs j)).abs) 0 n + 6 * ((vl (xy i).1).abs + (vl (xy i).2).abs)) + 200 * tn ∧ ((∀ j, j < n → vl (xs j) = 0) → vl (xy i).1 = 0 → vl (xy i).2 = 0 → Z = 0) :=
    ⟨fun i => Classical.choose (key i), fun i => Classical.choose_spec (key i)⟩
  exact ⟨fun i => (F i).1, fun i => (F i).2.1, fun i => (F i).2.2.1, fun i => (F i).2.2.2, fun i hi => ⟨⟨(hF i hi).1, (hF i hi).2.1, (hF i hi).2.2.1, (hF i hi).2.2.2.1⟩, (hF i hi).2.2.2.2⟩⟩
omit hx in
theorem speeds_told : (∀ i, i < n → fbF .add (absW (xy i).1) (absW (xy i).2) = some (sCw xy i)) ∧ ∃ Mo, Is (sMx xy n) Mo ∧ 0 ≤ Mo ∧ (∀ j, j < n → (vl (xy j).1).abs + (vl (xy j).2).abs - (eps * ((vl (xy j).1).abs + (vl (xy j).2).abs) + tn) ≤ Mo) ∧ Mo ≤ big200 / 4 ∧ ∀ i, i < n → ∀ (R : Type) (k : Value → Option R), maxE (sMx xy i) (sCw xy i) k = k (fl (sMx xy (i + 1))) := by
  have h1 : ∀ j, j < n → Is (xy j).1 (vl (xy j).1) ∧ Is (xy j).2 (vl (xy j).2) := fun j hj => ⟨(sp_is hs hok hj).1.1, (sp_is hs hok hj).2.1⟩
  have h2 : ∀ j, j < n → (vl (xy j).1).abs ≤ 1000 ∧ (vl (xy j).2).abs ≤ 1000 := fun j hj => ⟨Rat.le_trans (sp_is hs hok hj).1.2.1 (by grind), Rat.le_trans (sp_is hs hok hj).2.2.1 (by grind)⟩
  refine ⟨fun i hi => ?_, most_is h1 h2 n (Nat.le_refl n)⟩
  obtain ⟨C, h, _⟩ := speed_is h1 h2 hi
  exact h
include hσ hσ2 hN hd hu
/-- THE END: what comes through lies beneath -/
theorem end_le {z : Nat → Nat × Nat} (hz : ∀ i, i < n → ∃ Z, Is (z i).2 Z ∧ (Z - rwE n U v xy (fun j => vl (xs j)) i).abs ≤ eps * (6000 * sm (fun j => (vl (xs j)).abs) 0 n + 6 * ((vl (xy i).1).abs + (vl (xy i).2).abs)) + 200 * tn ∧ ((∀ j, j < n → vl (xs j) = 0) → vl (xy i).1 = 0 → vl (xy i).2 = 0 → Z = 0))
    (hoff : ∀ r, r < n → (offBy (W0f n (matA cA) (vecB cB)) (fun j => vl (xs j)) 0 n r).abs ≤ 40 * (eps * (103 / 100 * σ + tq + 530 * sm (fun j => (vl (xs j)).abs) 0 n)) * Go.Vm.es 0 n)
    (hzero : σ = 0 → ∀ j, j < n → vl (xs j) = 0) :
    Fin (mxW z n 0 0) ∧ (∀ j, j < n → fbF .add (sSz xs j) (absW (xs j)) = some (sSz xs (j + 1))) ∧ ∃ a c, fbF .add (sSz xs n) (sMx xy n) = some a ∧ fbF .mul a 4481081629233643520 = some c ∧ leF (mxW z n 0 0) c = true := by
  have ep := eps_pos
  have el := eps_le
  have t0 := tn_pos
  have tt := tn_tq
  have q0 := tq_pos
  have q1 := tq_small
  obtain ⟨s0, s1, s2⟩ := sig_bd hs hok hσ2
  obtain ⟨V, iV, V0, vV, fV⟩ := sizes_is (n := n) hn (xs := xs) (x := fun j => vl (xs j)) (fun j hj => vl_is (hx j hj).1) (fun j hj => (hx j hj).2) n (Nat.le_refl n)
  obtain ⟨_, Mo, iM, M0, hM, hM2, _⟩ := speeds_told hn1 hn hU hv hs hok
  have X0 := sm_nonneg (f := fun j => (vl (xs j)).abs) (fun j => abs_nonneg _) n 0
  have n8 : (n : Rat) ≤ 8 := by exact_mod_cast hn
  have X1 : sm (fun j => (vl (xs j)).abs) 0 n ≤ 8 * 1099511627776 := by
    have h := sm_le_mul (f := fun j => (vl (xs j)).abs) (B := 1099511627776) n 0 fun j _ hj => by have := (hx j (by omega)).2; rw [p2_40] at this; exact this
    have := Rat.mul_le_mul_of_nonneg_right n8 (show (0 : Rat) ≤ 1099511627776 by decide)
    grind
  obtain ⟨j0, hj0, ej0⟩ := hσ2
  have hMo := hM j0 hj0
  rw [ej0] at hMo
  have b200 := big200_lo
  have aV : V.abs = V := Rat.abs_of_nonneg V0
  have aM : Mo.abs = Mo := Rat.abs_of_nonneg M0
  have hV : sm (fun j => (vl (xs j)).abs) 0 n - 8 * (eps * sm (fun j => (vl (xs j)).abs) 0 n + 2 * tq) ≤ V := by
    have g := (abs_le_iff.1 vV.1).1
    have m := Rat.mul_le_mul_of_nonneg_right n8 (show 0 ≤ eps * sm (fun j => (vl (xs j)).abs) 0 n + 2 * tn by have := Rat.mul_nonneg (Rat.le_of_lt ep) X0; grind)
    grind
  have Vb : V ≤ 9 * 1099511627776 := by
    have g := (abs_le_iff.1 vV.1).2
    have m := Rat.mul_le_mul_of_nonneg_right n8 (show 0 ≤ eps * sm (fun j => (vl (xs j)).abs) 0 n + 2 * tn by have := Rat.mul_nonneg (Rat.le_of_lt ep) X0; grind)
    have m2 := Rat.mul_le_mul_of_nonneg_right el X0
    grind
  obtain ⟨a, f1, i1, e1, a0⟩ := gAdd_is iV iM (by rw [aV, aM]; grind)
  rw [aV, aM] at e1
  have A0 := a0 (by grind)
  have ab : (1 / 268435456 : Rat).abs = 1 / 268435456 := Rat.abs_of_nonneg (by grind)
  have aA : a.abs = a := Rat.abs_of_nonneg A0
  have Ab : a ≤ big200 / 2 := by
    have g := (abs_le_iff.1 e1).2
    have m2 := Rat.mul_le_mul_of_nonneg_right el (show 0 ≤ V + Mo by grind)
    grind
  obtain ⟨c, C, f2, i2, e2, C0⟩ := mul_nonneg_is i1 p28_is (by rw [aA, ab]; grind) (by have := Rat.mul_nonneg A0 (show (0 : Rat) ≤ 1 / 268435456 by grind); exact this)
  rw [aA, ab] at e2
  -- what comes through
  have main : ∃ B, 0 ≤ B ∧ B ≤ C ∧ ∀ j, j < n → ∃ Z, Is (z j).2 Z ∧ Z.abs ≤ B := by
    rcases Classical.em (σ = 0) with hs0 | hs0
    · refine ⟨0, Rat.le_refl, C0, fun j hj => ?_⟩
      obtain ⟨Z, g1, _, g3⟩ := hz j hj
      have hb := hσ j hj
      have n1 := abs_nonneg (vl (xy j).1)
      have n2 := abs_nonneg (vl (xy j).2)
      have z1 : vl (xy j).1 = 0 := abs_nought (by grind)
      have z2 : vl (xy j).2 = 0 := abs_nought (by grind)
      refine ⟨Z, g1, ?_⟩
      rw [g3 (hzero hs0) z1 z2, abs_zero]
      exact Rat.le_refl
    · generalize hX : sm (fun j => (vl (xs j)).abs) 0 n = X at *
      refine ⟨10560 * (eps * (103 / 100 * σ + tq + 530 * X)) + eps * (6600 * X + 20 * σ) + 1000 * tq, ?_, ?_, fun j hj => ?_⟩
      · have m1 := Rat.mul_nonneg (Rat.le_of_lt ep) (show 0 ≤ 103 / 100 * σ + tq + 530 * X by grind)
        have m2 := Rat.mul_nonneg (Rat.le_of_lt ep) (show 0 ≤ 6600 * X + 20 * σ by grind)
        grind
      · refine final_ineq X0 (Rat.le_of_lt q0) (s2 hs0) Rat.le_refl hV (lo_step hMo tt) (a := a) ?_ ?_
        · exact round_lo e1 (by grind)
        · exact round_lo e2 (Rat.mul_nonneg A0 (by grind))
      · obtain ⟨Z, g1, g2, _⟩ := hz j hj
        refine ⟨Z, g1, ?_⟩
        have r := row_rest hU hu hd hs hok hN hσ ⟨j0, hj0, ej0⟩ hj (x := fun j => vl (xs j)) (X := X) (by rw [hX]; exact Rat.le_refl)
        have o := hoff j hj
        have e8 := es_8
        have em : Go.Vm.es 0 n ≤ 264 := Rat.le_trans (es_mono n 8 0 hn) e8
        have m1 := Rat.mul_le_mul_of_nonneg_left em (show 0 ≤ 40 * (eps * (103 / 100 * σ + tq + 530 * X)) by have := Rat.mul_nonneg (Rat.le_of_lt ep) (show 0 ≤ 103 / 100 * σ + tq + 530 * X by grind); grind)
        have m2 := Rat.mul_le_mul_of_nonneg_left (hσ j hj) (Rat.le_of_lt ep)
        have t1 := abs_near g2
        have t2 := abs_near r
        unfold rwE at t1
        exact through_sum t1 t2 o m1 m2 (Rat.mul_nonneg (Rat.le_of_lt ep) X0) (Rat.mul_nonneg (Rat.le_of_lt ep) s0) tt (Rat.le_of_lt q0)
  obtain ⟨B, B0, BC, hB⟩ := main
  obtain ⟨M, iM2, hMB⟩ := mxW_le (z := z) (B := B) n 0 0 ⟨0, is0, B0⟩ fun j _ hj => hB j (by omega)
  refine ⟨⟨M, iM2⟩, fV, gAdd (sSz xs n) (sMx xy n), c, f1, f2, ?_⟩
  rw [leF_is iM2 i2]
  exact decide_eq_true (Rat.le_trans hMB BC)
end
end Go.Vm
namespace Go.Vm
open Go.Proofs Ieee
set_option linter.unusedVariables false
set_option linter.unusedSimpArgs false
set_option linter.unusedSectionVars false
set_option maxRecDepth 1000000

/-! ### PanelThrough, from its two loops -/
theorem eq3_all : ∀ n, 3 ≤ n → n ≤ 8 → (∀ i, i < n → EqL3 n i) ∧ EqX3 n
  | 3, _, _ => ⟨l3_3, x3_3⟩
  | 4, _, _ => ⟨l3_4, x3_4⟩
  | 5, _, _ => ⟨l3_5, x3_5⟩
  | 6, _, _ => ⟨l3_6, x3_6⟩
  | 7, _, _ => ⟨l3_7, x3_7⟩
  | 8, _, _ => ⟨l3_8, x3_8⟩
  | 0, h, _ => absurd h (by omega)
  | 1, h, _ => absurd h (by omega)
  | 2, h, _ => absurd h (by omega)
  | n + 9, _, h => absurd h (by omega)
def oF4 (t : Bool) (f : Nat → El) (m : Nat) : AObj := match t with
  | true => .cells (elsV f 0 m) 4
  | false => .cells [nilS] 0
def cF4 (t : Bool) : Nat := match t with
  | true => 4
  | false => 3
theorem oF_flat {t : Bool} {f : Nat → El} {m : Nat} : ∀ q, renO q (oF4 t f m) = some (oF4 t f m) := fun q => by
  cases t with
  | true => simp only [oF4, renO, rens_flat (elsV_flat _ _ _), Option.bind_some]
  | false => rfl
theorem oF_in {t : Bool} {f : Nat → El} {m : Nat} {r : Objs} : (cF4 t, oF4 t f m) ∈ endT t (flX 4 t m m) (.cells (elsV f 0 m) 4) r := by
  cases t with
  | true => exact List.mem_cons_of_mem _ List.mem_cons_self
  | false => exact List.mem_cons_self
theorem flX_c {t : Bool} {m : Nat} : flX (cF4 t) t m m = flX 4 t m m := by cases t <;> rfl
theorem cF4_lt {t : Bool} : cF4 t < 5 := by cases t <;> decide
theorem lo_in {t : Bool} {X : Value} {o lo x y : AObj} : (2, lo) ∈ (lw2Z true t X o lo x y).objs := by
  cases t with
  | true => exact List.mem_cons_of_mem _ (List.mem_cons_of_mem _ List.mem_cons_self)
  | false => exact List.mem_cons_of_mem _ List.mem_cons_self
theorem lw3_eq {n : Nat} {q p : Nat → Pn} {X : Value} {t : Bool} {o x y : AObj} {l : Nat → Nat × Nat} : lw3H n q (.cells (panC p 0 n) 3) X t o x y l = ⟨7, (6, .cells (panC q 0 n) 3) :: (5, .cells (panC p 0 n) 3) :: (lw2Z true t X o (.cells (cxL l 0 n) 1) x y).objs⟩ := by cases t <;> rfl
theorem w16_fin {w : Nat} (h : W16 w) : Fin w := let ⟨_, _, g⟩ := h; ⟨_, g⟩
theorem half_told {f1 f2 t1 t2 : Nat} {U : Un} (h : MidU f1 f2 t1 t2 U) {R : Type} {k : Nat → Nat → Option R} : halfB f1 f2 t1 t2 k = k U.m1 U.m2 := by
  obtain ⟨p, q, a1, a2, a3⟩ := h.a
  obtain ⟨p', q', b1, b2, b3⟩ := h.b
  unfold halfB
  rw [bindF_eq a1, bindF_eq a2, bindF_eq a3, bindF_eq b1, bindF_eq b2, bindF_eq b3]
/-- what was found -/
theorem sol_told {n : Nat} {W0 : Nat → Nat → Nat} {xs : Nat → Nat} (h : solR n W0 = some xs) (hin : allIn xs n 0 = true) : Found n W0 ∧ xs = wordX (bX n (Wc n W0 n) n) ∧ ∀ k, k < n → ∃ w, bX n (Wc n W0 n) n k = some w ∧ leF (absW w) 4787326403894837248 = true := by
  unfold solR at h
  split at h
  · rename_i F
    cases h
    refine ⟨F, rfl, fun k hk => ?_⟩
    obtain ⟨w, hw, _⟩ := F.2 k hk
    have e : wordX (bX n (Wc n W0 n) n) k = w := by unfold wordX; rw [hw]; rfl
    have := allIn_get n 0 hin k (Nat.zero_le _) (by omega)
    rw [e] at this
    exact ⟨w, hw, this⟩
  · cases h
theorem law_run {n : Nat} (hn1 : 3 ≤ n) (hn : n ≤ 8) {l : Nat → Nat × Nat} (hl : ∀ i, W16 (l i).1 ∧ W16 (l i).2) {t : Bool} {m : Nat} {f : Nat → El} (hf : FlOk t m f) {V0 V1 : Value} {x y : AObj} {ρ : Map} {w0 : World} (hi0 : Inv ρ ⟨2, oldT true t x y⟩ w0)
    (h1 : BaseAt Tryz.prog ρ w0 2 237 ⟨2, oldT true t x y⟩ [(0, V0), (1, V1), (5, .bool true), (6, nilS), (7, intV 0)] ⟨2, oldT true t x y⟩ (.exit 0) [(0, V0), (1, V1), (5, .bool true), (6, sliceV 2 n n), (7, intV n)] ⟨3, loO true (.cells (cxL l 0 n) 1) ++ oldT true t x y⟩ (fun Q a w => Code.wp Tryz.prog (.loop (lwL 0)) Q a w))
    (h2 : BaseAt Tryz.prog ρ w0 2 237 ⟨2, oldT true t x y⟩ [(1, V1), (5, .bool true), (6, sliceV 2 n n), (8, ptrV 3), (9, intV 0)] ⟨4, (3, .cells [nilS] 0) :: (loO true (.cells (cxL l 0 n) 1) ++ oldT true t x y)⟩ (.exit 2) [(1, V1), (5, .bool true), (6, sliceV 2 n n), (8, ptrV 3), (9, intV m)] (lw2Z true t (flX 4 t m m) (.cells (elsV f 0 m) 4) (.cells (cxL l 0 n) 1) x y) (fun Q a w => Code.wp Tryz.prog (.loop (lwL 1)) Q a w)) :
    ∀ args', VRels ρ [V0, V1] args' → Calls Tryz.prog 8 ⟨args'⟩ w0 fun e w' => e = .returned (.bool true) ∧ RowKit.Below w0.heap.size w0 w' := by
  have P := pq_all n hn1 hn
  obtain ⟨Q3, Qx⟩ := eq3_all n hn1 hn
  obtain ⟨U, bad, hU, D, hgood⟩ := pieces (n := n) hl
  rcases of_call P.of D with ⟨j, _, _, ho⟩ | ⟨hb, ho⟩
  · exact law_few (b := true) hi0 h1 h2 rfl (fun h => by cases h) (e0 := 249) (ho 2 1 _ lo_in)
  have ho' := ho 2 1 _ (lo_in (t := t) (X := flX 4 t m m) (o := .cells (elsV f 0 m) 4) (lo := .cells (cxL l 0 n) 1) (x := x) (y := y))
  obtain ⟨v, e, hrv, he, hbv, hdiag⟩ := rows_exist (n := n) hl hU
  obtain ⟨xy, es, hs, hsp⟩ := speeds_exist (cb := m) hf hU
  have B : Body n (pn n l) U t m m f (oF4 t f m) v e xy es :=
    { of := fun i hi R k => (hgood i (hb i hi)).2.2 0 (by decide) R none k
      fl := hf
      ob := fun h => by subst h; exact ⟨4, rfl⟩
      flat := oF_flat
      rv := fun i hi => hrv i
      pos := fun i hi => ⟨firstE_nonneg (he i) n 0, by rcases hs i with ⟨h, _⟩ | ⟨h, _⟩ <;> omega⟩
      sp := fun i hi b H hm => hsp i b H fun h => by subst h; exact ⟨4, hm⟩ }
  obtain ⟨cA, cB, hRD, hNear⟩ := rowD_exist (n := n) hU hbv hs
  obtain ⟨σ, hσ, hσ2⟩ := max_exists (g := fun j => (vl (xy j).1).abs + (vl (xy j).2).abs) n (by omega)
  have ne5 : (5 : Nat) ≠ cF4 t := by have := cF4_lt (t := t); omega
  have ne6 : (6 : Nat) ≠ cF4 t := by have := cF4_lt (t := t); omega
  rcases solve_call P B hn1 hn (fun i _ h => hRD i h) (fun hok => sys_ok hU hs hok (fun i hi => hNear i (hok i hi)) hσ hσ2) with ⟨e0, h0, hc⟩ | ⟨hok, xs, hso, hin, hcall⟩
  · obtain ⟨k, rfl⟩ : ∃ k : Nat, e0 = Int.ofNat (k + 1) := ⟨e0.toNat - 1, by show e0 = ((e0.toNat - 1 + 1 : Nat) : Int); omega⟩
    have g := hc 5 (cF4 t) n 3 ⟨6, (5, .cells (panC (pn n l) 0 n) 3) :: (lw2Z true t (flX 4 t m m) (.cells (elsV f 0 m) 4) (.cells (cxL l 0 n) 1) x y).objs⟩ ne5 List.mem_cons_self (List.mem_cons_of_mem _ oF_in)
    rw [flX_c] at g
    exact law_none hi0 h1 h2 ho' g
  have hN : ∀ i, i < n → Near n U v xy cA cB i := fun i hi => hNear i (hok i hi)
  obtain ⟨F, exs, hx⟩ := sol_told hso hin
  have hxs : ∀ j, j < n → Fin (xs j) ∧ (vl (xs j)).abs ≤ (2 : Rat) ^ (40 : Int) := fun j hj => by
    rw [exs]
    exact (found_fin hx hj).2
  have hle : ∀ j, j < n → leF (absW (xs j)) 4787326403894837248 = true := fun j hj => allIn_get n 0 hin j (Nat.zero_le _) (by omega)
  obtain ⟨w, S, T, z, hz⟩ := mids_exist hn1 hn hU hbv hs hok hxs
  have B2 : Body n (setS (pn n l) xs) U t m m f (oF4 t f m) v e xy es :=
    { of := fun i hi R k => (hgood i (hb i hi)).2.2 (xs i) (hle i hi) R none k
      fl := hf
      ob := fun h => by subst h; exact ⟨4, rfl⟩
      flat := oF_flat
      rv := fun i hi => ⟨(hrv i).own, (hrv i).ei, (hrv i).at_⟩
      pos := B.pos
      sp := B.sp }
  have hM := mid_call P B2 hok fun i hi => (hz i hi).1
  obtain ⟨s1, s2, s3, s4, s5, s6⟩ := sys_facts hU hs hok hN hσ hσ2
  obtain ⟨q0, q1, _⟩ := sig_bd hs hok hσ2
  have X1 : sm (fun j => (vl (wordX (bX n (Wc n (W0f n (matA cA) (vecB cB)) n) n) j)).abs) 0 n ≤ 8 * 1099511627776 := by
    have h := sm_le_mul (f := fun j => (vl (wordX (bX n (Wc n (W0f n (matA cA) (vecB cB)) n) n) j)).abs) (B := 1099511627776) n 0 fun j _ hj => by
      have := (found_fin hx (show j < n by omega)).2.2; rw [p2_40] at this; exact this
    have n8 : (n : Rat) ≤ 8 := by exact_mod_cast hn
    have := Rat.mul_le_mul_of_nonneg_right n8 (show (0 : Rat) ≤ 1099511627776 by decide)
    grind
  have off := found_off s1 s2 hn s3 s4 s5 s6 F.1 (show (2 : Rat) ^ (-300 : Int) ≤ _ by show tq ≤ _; grind) hx Rat.le_refl (by have := p390_lo; have := tq_small; grind)
  rw [← exs] at off
  have hzero : σ = 0 → ∀ j, j < n → vl (xs j) = 0 := fun h0 j hj => by
    rw [exs]
    refine vl_eq (zero_sol s1 s2 hn s3 s4 s5 s6 F.1 (fun r hr => ?_) hx j hj)
    rw [w0_at]
    obtain ⟨fb, _, hz0⟩ := (hN r hr).b
    have g := hσ r hr
    have n1 := abs_nonneg (vl (xy r).1)
    have n2 := abs_nonneg (vl (xy r).2)
    have hv0 := hz0 (abs_nought (by grind)) (abs_nought (by grind))
    have hi := vec_is fb
    rw [hv0, show (-0 : Rat) = 0 by grind] at hi
    exact hi
  obtain ⟨hF, hsz, a, c, ha, hc, hend⟩ := end_le hn1 hn hU (fun i hi => (hgood i (hb i hi)).1) hbv hdiag hs hok hN hσ hσ2 hxs (fun i hi => (hz i hi).2) off hzero
  obtain ⟨hsc, Mo, _, _, _, _, hmax⟩ := speeds_told hn1 hn hU hbv hs hok
  have D3 : ThreeD n l U xs xy (sSz xs) (sCw xy) (sMx xy) :=
    { fin := fun i hi => ⟨w16_fin (hl i).1, w16_fin (hl i).2⟩
      mid := fun i hi R k => half_told (hgood i (hb i hi)).2.1
      s0 := rfl
      s := hsz
      c := hsc
      m0 := rfl
      m := hmax }
  have g := hcall 5 (cF4 t) n 3 ⟨6, (5, .cells (panC (pn n l) 0 n) 3) :: (lw2Z true t (flX 4 t m m) (.cells (elsV f 0 m) 4) (.cells (cxL l 0 n) 1) x y).objs⟩ ne5 List.mem_cons_self (List.mem_cons_of_mem _ oF_in)
  rw [flX_c] at g
  have ht := through_call P.th oF_flat hM hF (b := 6) (c := cF4 t) (ca := n) (sz := 3) (H := ⟨7, (6, .cells (panC (setS (pn n l) xs) 0 n) 3) :: (5, .cells (panC (pn n l) 0 n) 3) :: (lw2Z true t (flX 4 t m m) (.cells (elsV f 0 m) 4) (.cells (cxL l 0 n) 1) x y).objs⟩) ne6 List.mem_cons_self (List.mem_cons_of_mem _ (List.mem_cons_of_mem _ oF_in))
  rw [flX_c] at ht
  have hsH : ∀ i, i < n → FlatCall Tryz.prog 52 [.agg ⟨[flX 4 t m m]⟩, .complex .f64 (U i).m1 (U i).m2] (lw3H n (setS (pn n l) xs) (.cells (panC (pn n l) 0 n) 3) (flX 4 t m m) t (.cells (elsV f 0 m) 4) x y l) (.tuple ⟨[.complex .f64 (xy i).1 (xy i).2, .int .i64 0]⟩) := fun i hi => by
    have g := hsp i 4 (lw3H n (setS (pn n l) xs) (.cells (panC (pn n l) 0 n) 3) (flX 4 t m m) t (.cells (elsV f 0 m) 4) x y l) fun h => by
      subst h
      exact ⟨4, List.mem_cons_of_mem _ (List.mem_cons_of_mem _ (List.mem_cons_of_mem _ List.mem_cons_self))⟩
    rw [fl_fx, (hok i hi).2] at g
    exact g
  have h3 := l3_loop D3 Q3 Qx (th := mxW z n 0 0) (H0 := ⟨2, oldT true t x y⟩) hsH
  rw [lw3_eq] at h3
  exact law_good hi0 h1 h2 ho' g ht (BaseOk.fixed h3 hi0 (Nat.le_refl _)) ha hc hend
end Go.Vm
namespace Go.Vm
open Go.Proofs Go.ChangeShapes Go.WideShapes Go.ChangeAt Go.RowKit Go.Deep
set_option linter.unusedVariables false
set_option linter.unusedSectionVars false
set_option linter.unusedSimpArgs false
set_option maxRecDepth 100000

/-! ### PanelThrough's arguments are opened -/
section
variable {H : Type} {enc : TypeId × Value → H} {w : World} {base : Nat} {spare : Nat → Bool} {held : Bool}
theorem pair_open {fuel : Nat} {cs : List Value} {x : DataW H × List MemPlace} (h : DataW.trod enc Tryz.prog w base spare held fuel 85 cs = some x) : ∃ a b : Int, cs = [.int .i64 a, .int .i64 b] := by
  obtain ⟨xs, m, _, rfl, hl, hx, hi⟩ := DataW.trod_array Tryz.underlying85 h
  match xs, hx with
  | [y0, y1], _ =>
    have h0 : DataW.trod enc Tryz.prog w base spare held m 3 ((cs.drop 0).take 1) = some y0 := hi 0 (by decide)
    have h1 : DataW.trod enc Tryz.prog w base spare held m 3 ((cs.drop 1).take 1) = some y1 := hi 1 (by decide)
    obtain ⟨a, e0, _, _⟩ := DataW.trod_int Tryz.underlying3 h0
    obtain ⟨b, e1, _, _⟩ := DataW.trod_int Tryz.underlying3 h1
    have hl' : cs.length = 2 := hl
    match cs, hl' with
    | [p, q], _ =>
      have e0' : [p] = [Value.int .i64 a] := e0
      have e1' : [q] = [Value.int .i64 b] := e1
      simp only [List.cons.injEq, and_true] at e0' e1'
      subst e0' e1'
      exact ⟨a, b, rfl⟩
theorem five_open {fuel : Nat} {cs : List Value} {x : DataW H × List MemPlace} (h : DataW.trod enc Tryz.prog w base spare held fuel 87 cs = some x) : ∃ (so : Bool) (a b c d : Int), cs = [.bool so, .int .i64 a, .int .i64 b, .int .i64 c, .int .i64 d] := by
  obtain ⟨xs, m, _, rfl, hl, hx, hi⟩ := DataW.trod_struct Tryz.underlying87 h
  have hx' : xs.length = 5 := hx
  match xs, hx' with
  | [y0, y1, y2, y3, y4], _ =>
    have h0 : DataW.trod enc Tryz.prog w base spare held m 4 ((cs.drop 0).take 1) = some y0 := hi 0 _ rfl
    have h1 : DataW.trod enc Tryz.prog w base spare held m 3 ((cs.drop 1).take 1) = some y1 := hi 1 _ rfl
    have h2 : DataW.trod enc Tryz.prog w base spare held m 3 ((cs.drop 2).take 1) = some y2 := hi 2 _ rfl
    have h3 : DataW.trod enc Tryz.prog w base spare held m 3 ((cs.drop 3).take 1) = some y3 := hi 3 _ rfl
    have h4 : DataW.trod enc Tryz.prog w base spare held m 3 ((cs.drop 4).take 1) = some y4 := hi 4 _ rfl
    obtain ⟨so, e0, _⟩ := DataW.trod_bool Tryz.underlying4 h0
    obtain ⟨a, e1, _, _⟩ := DataW.trod_int Tryz.underlying3 h1
    obtain ⟨b, e2, _, _⟩ := DataW.trod_int Tryz.underlying3 h2
    obtain ⟨c, e3, _, _⟩ := DataW.trod_int Tryz.underlying3 h3
    obtain ⟨d, e4, _, _⟩ := DataW.trod_int Tryz.underlying3 h4
    have hl' : cs.length = 5 := hl
    match cs, hl' with
    | [p, q, r, s, t], _ =>
      have e0' : [p] = [Value.bool so] := e0
      have e1' : [q] = [Value.int .i64 a] := e1
      have e2' : [r] = [Value.int .i64 b] := e2
      have e3' : [s] = [Value.int .i64 c] := e3
      have e4' : [t] = [Value.int .i64 d] := e4
      simp only [List.cons.injEq, and_true] at e0' e1' e2' e3' e4'
      subst e0' e1' e2' e3' e4'
      exact ⟨so, a, b, c, d, rfl⟩
end
theorem inns_all2 : ∀ {l : List Value}, (∀ v ∈ l, inn 0 v = true) → inns 0 l = true
  | [], _ => rfl
  | v :: r, h => by
    simp only [inns, Bool.and_eq_true]
    exact ⟨h v (by simp), inns_all2 fun u hu => h u (by simp [hu])⟩
/-- rows of cells that lie in memory -/
theorem row_at {W : World} {a : Addr} {n c : Nat} {g : Nat → List Value} (ha : a.spot = none) (hn : 0 < n) (hc : 0 < c) (hg : ∀ i, i < n → (g i).length = c ∧ inns 0 (g i) = true) (hr : ∀ i, i < n → W.cells? 0 (a.add (i * c)) c = some (g i)) (hfz : ∀ j, j < n * c → W.frozen? ⟨a.block, a.off + j, none⟩ = false) :
    ∃ cs, (∀ i k, i < n → k < c → cs[i * c + k]? = (g i)[k]?) ∧ ∀ ρ, OHas ρ (.cells cs c) ⟨a.block, a.off, 0⟩ W := by
  have cellAt : ∀ i j, i < n → j < c → W.cell? ⟨a.block, a.off + (i * c + j), none⟩ = (g i)[j]? := fun i j hi hj => by
    have := (World.cells?_some (hr i hi)).2.2 j hj
    rw [add_add] at this
    have e : a.add (i * c + j) = ⟨a.block, a.off + (i * c + j), none⟩ := by
      unfold Addr.add
      split
      · rename_i h0
        rw [h0, Nat.add_zero]
        cases a
        simp only at ha
        subst ha
        rfl
      · rfl
    rw [e] at this
    exact this
  have get : ∀ i j, i < n → j < c → ∃ v, (g i)[j]? = some v ∧ inn 0 v = true := fun i j hi hj => by
    have hl := (hg i hi).1
    exact ⟨(g i)[j]'(by omega), List.getElem?_eq_getElem (by omega), inns_mem (hg i hi).2 _ (List.getElem_mem _)⟩
  have h00 := cellAt 0 0 hn hc
  have hex : ∃ arr ty fr, W.heap[a.block]? = some (.cells arr ty fr) := by
    unfold World.cell? at h00
    simp only at h00
    split at h00
    · rename_i c e fr hh; exact ⟨_, _, _, hh⟩
    · obtain ⟨v, hv, _⟩ := get 0 0 hn hc
      rw [hv] at h00
      cases h00
  obtain ⟨arr, ty, fr, hb⟩ := hex
  have arrAt : ∀ i j, i < n → j < c → arr[a.off + (i * c + j)]? = (g i)[j]? := fun i j hi hj => by
    have := cellAt i j hi hj
    unfold World.cell? at this
    simpa [hb] using this
  have hlast : (n - 1) * c + (c - 1) + 1 = n * c := by
    have h1 : n * c = (n - 1) * c + c := by
      have : n = (n - 1) + 1 := by omega
      rw [this, Nat.add_mul, Nat.one_mul, Nat.add_sub_cancel]
    omega
  have hsize : a.off + n * c ≤ arr.size := by
    have h1 := arrAt (n - 1) (c - 1) (by omega) (by omega)
    obtain ⟨v, hv, _⟩ := get (n - 1) (c - 1) (by omega) (by omega)
    rw [hv] at h1
    have := (Array.getElem?_eq_some_iff.1 h1).1
    omega
  obtain ⟨cs, hcs⟩ : ∃ cs, cs = (arr.toList.drop a.off).take (n * c) := ⟨_, rfl⟩
  have hlen : cs.length = n * c := by
    rw [hcs, List.length_take, List.length_drop, Array.length_toList]
    omega
  have hget : ∀ k, k < n * c → cs[k]? = arr[a.off + k]? := fun k hk => by
    rw [hcs, List.getElem?_take_of_lt hk, List.getElem?_drop, Array.getElem?_toList]
  have bd : ∀ i k, i < n → k < c → i * c + k < n * c := fun i k hi hk => by
    have := Nat.mul_le_mul_right c (show i ≤ n - 1 by omega)
    omega
  have hflat : inns 0 cs = true := inns_all2 fun v hv => by
    obtain ⟨k, hk, rfl⟩ := List.mem_iff_getElem.1 hv
    rw [hlen] at hk
    have e1 : cs[k]? = some cs[k] := List.getElem?_eq_getElem (by rw [hlen]; exact hk)
    have hd := Nat.div_add_mod k c
    have hm := Nat.mod_lt k hc
    have hq : k / c < n := by
      rw [Nat.div_lt_iff_lt_mul hc]
      exact hk
    rw [hget k hk, show a.off + k = a.off + (k / c * c + k % c) by rw [Nat.mul_comm (k / c)]; omega, arrAt _ _ hq hm] at e1
    obtain ⟨v, hv1, hv2⟩ := get (k / c) (k % c) hq hm
    rw [hv1] at e1
    rw [← Option.some.inj e1]
    exact hv2
  refine ⟨cs, fun i k hi hk => by rw [hget _ (bd i k hi hk)]; exact arrAt i k hi hk, fun ρ => ⟨arr, ty, cs, ⟨⟨fr, hb⟩, fun j hj => hfz j (by simp only [hlen] at hj; omega)⟩, VRels.ofFlat _ hflat, fun i v hv => ?_, ?_, fun h => rfl⟩⟩
  · have hi := (List.getElem?_eq_some_iff.1 hv).1
    rw [hlen] at hi
    rw [hget i hi] at hv
    exact hv
  · simp only [hlen]; omega
end Go.Vm
namespace Go.Vm
open Go.Proofs
set_option linter.unusedVariables false
set_option linter.unusedSectionVars false
set_option linter.unusedSimpArgs false
set_option maxRecDepth 100000

/-! ### PanelThrough, told of its arguments -/
/-- a list that is handed in: nothing of it, or its cells -/
inductive ArgP (ρ : Map) (w : World) (j : Nat) (V : Value) (L : Nat) (At : List Value → Prop) : Prop
  | none (a : Option Addr) (c : Nat) (hV : V = .slice a 0 c) (hs : Stays V) (hL : L = 0)
  | some (c : Nat) (cs : List Value) (sz : Nat) (s0 : Spot) (hV : V = sliceV j L c) (hL : 0 < L) (hA : At cs) (h1 : ρ j = some s0) (h2 : OHas ρ (.cells cs sz) s0 w)
theorem ArgP.stays {ρ : Map} {w : World} {j : Nat} {V : Value} {L : Nat} {At : List Value → Prop} (h : ArgP ρ w j V L At) (hj : j < 2) : Stays V := by
  cases h with
  | none a c hV hs hL => exact hs
  | some c cs sz s0 hV hL hA h1 h2 => rw [hV]; exact stays_some hj
section
variable {ρ : Map} {w : World} (hi : Inv ρ ⟨2, []⟩ w) {V0 V1 : Value} {L M : Nat}
include hi
theorem l1_at (hV : Stays V1) {A B : Nat → Int} (h : ArgP ρ w 0 V0 L fun cs => PlAt cs L A B) :
    BaseAt Tryz.prog ρ w 2 237 ⟨2, []⟩ [(0, V0), (1, V1), (5, .bool true), (6, nilS), (7, intV 0)] ⟨2, []⟩ (.exit 0) [(0, V0), (1, V1), (5, .bool true), (6, lvB (Nat.blt 0 L) (min L 8)), (7, intV (min L 8))] ⟨3, loO (Nat.blt 0 L) (.cells (cxL (pl A B) 0 (min L 8)) 1) ++ []⟩ (fun Q a w => Code.wp Tryz.prog (.loop (lwL 0)) Q a w) := by
  cases h with
  | none a c hV0 hs hL =>
    subst hV0 hL
    exact BaseOk.fixed (l1_empty hV hs rfl) hi (Nat.le_refl _)
  | some c cs sz s0 hV0 hL hA h1 h2 =>
    subst hV0
    have hb : Nat.blt 0 L = true := by rw [Nat.blt_eq]; exact hL
    rw [hb]
    exact BaseOk.swap (A := []) (A' := [(2, .cells (cxL (pl A B) 0 (min L 8)) 1)]) (l1_loop hA hV (t := false) (y := .cells [] 0) hL) hi (by decide) h1 h2 rfl
theorem l2_at {So : Nat → Bool} {X Y S T : Nat → Int} (h : ArgP ρ w 1 V1 M fun cs => FvAt cs M So X Y S T) {b : Bool} {n : Nat} {lo x y : AObj} (hlo : ∀ q, renO q lo = some lo) :
    BaseAt Tryz.prog ρ w 2 237 ⟨2, []⟩ [(1, V1), (5, .bool true), (6, lvB b n), (8, ptrV 3), (9, intV 0)] ⟨4, (3, .cells [nilS] 0) :: (loO b lo ++ [])⟩ (.exit 2) [(1, V1), (5, .bool true), (6, lvB b n), (8, ptrV 3), (9, intV (min M 4))]
      (lw2Z b (Nat.blt 0 M) (flX 4 (Nat.blt 0 M) (min M 4) (min M 4)) (.cells (elsV (elF So X Y S T) 0 (min M 4)) 4) lo x y) (fun Q a w => Code.wp Tryz.prog (.loop (lwL 1)) Q a w) := by
  cases h with
  | none a c hV1 hs hL =>
    subst hV1 hL
    exact BaseOk.fixed (l2_empty (x := x) hlo hs) hi (Nat.le_refl _)
  | some c cs sz s0 hV1 hL hA h1 h2 =>
    subst hV1
    have hb : Nat.blt 0 M = true := by rw [Nat.blt_eq]; exact hL
    rw [hb]
    have h := l2_loop (c1 := c) (sz := sz) hA (n := n) (b := b) (x := x) hlo hL
    have e1 : (3, AObj.cells [nilS] 0) :: (loO b lo ++ old2 b x cs sz) = ((3, AObj.cells [nilS] 0) :: (loO b lo ++ [])) ++ [(1, .cells cs sz)] := by cases b <;> rfl
    have e2 : (3, AObj.cells [sliceV 4 (min M 4) (min M 4)] 0) :: (4, .cells (elsV (elF So X Y S T) 0 (min M 4)) 4) :: (loO b lo ++ old2 b x cs sz) = ((3, AObj.cells [sliceV 4 (min M 4) (min M 4)] 0) :: (4, .cells (elsV (elF So X Y S T) 0 (min M 4)) 4) :: (loO b lo ++ [])) ++ [(1, .cells cs sz)] := by cases b <;> rfl
    rw [e1, e2] at h
    exact BaseOk.swap h hi (by decide) h1 h2 (by
      have := loO_ge (b := b) (lo := lo)
      show geB 2 ((3, _) :: (4, _) :: (loO b lo ++ [])) = true
      rw [List.append_nil]
      simp only [geB, this]
      rfl)
theorem law_at {A B : Nat → Int} (h0 : ArgP ρ w 0 V0 L fun cs => PlAt cs L A B) {So : Nat → Bool} {X Y S T : Nat → Int} (h1 : ArgP ρ w 1 V1 M fun cs => FvAt cs M So X Y S T) :
    ∀ args', VRels ρ [V0, V1] args' → Calls Tryz.prog 8 ⟨args'⟩ w fun e w' => e = .returned (.bool true) ∧ RowKit.Below w.heap.size w w' := by
  have hlo : ∀ n, ∀ q, renO q (.cells (cxL (pl A B) 0 n) 1) = some (.cells (cxL (pl A B) 0 n) 1) := fun n q => by
    simp only [renO, rens_flat (cxL_flat _ _ _), Option.bind_some]
  have g1 := l1_at hi (h1.stays (by decide)) h0
  have g2 := l2_at hi h1 (b := Nat.blt 0 L) (n := min L 8) (x := .cells [] 0) (y := .cells [] 0) (hlo (min L 8))
  have hf : FlOk (Nat.blt 0 M) (min M 4) (elF So X Y S T) := ⟨by omega, fun h => by rw [Nat.blt_eq] at h; omega, fun j _ => elF_ok So X Y S T j⟩
  cases hb : Nat.blt 0 L with
  | false =>
    have hL : L = 0 := by
      rcases Nat.eq_zero_or_pos L with h | h
      · exact h
      · have h' : 0 < L := h
        rw [← Nat.blt_eq] at h'; rw [h'] at hb; cases hb
    subst hL
    exact law_few (b := false) (n := 0) hi g1 g2 rfl (fun _ => rfl) (e0 := 3) (of_few0 _)
  | true =>
    have hL : 0 < L := by rw [Nat.blt_eq] at hb; exact hb
    rw [hb] at g1 g2
    rcases Nat.lt_or_ge (min L 8) 3 with h3 | h3
    · exact law_few (b := true) hi g1 g2 rfl (fun h => by cases h) (e0 := 3) (of_few1 (pl A B) (show min L 8 = 1 ∨ min L 8 = 2 by omega) lo_in)
    · exact law_run h3 (by omega) (fun i => ⟨w17_w16 _, w17_w16 _⟩) hf hi g1 g2
end
end Go.Vm
namespace Go.Proofs.YtnbpfafngidimaaGreat
open Go.ChangeShapes Go.WideShapes Go.ChangeAt Go.RowKit Go.Vm Go.Deep

set_option maxRecDepth 100000
set_option linter.unusedVariables false
set_option linter.unusedSectionVars false
theorem own8_ : ownKnob Tryz.prog.godebug = none := by kernel_rfl
theorem laid8_ : laidOutB Tryz.prog = true := by kernel_rfl

section
variable {H : Type} {enc : TypeId × Value → H} {W : World} {base : Nat}
theorem slice_value {v : Value} {a : Option Addr} {len cap len' cap' : Nat} {b : Option Addr} (hv : v = .slice a len cap) (hc : v.cells.toList = [Value.slice b len' cap']) : v = .slice b len' cap' := by
  subst hv
  simpa [Value.cells] using hc
theorem spot_none {t e : TypeId} {base : Nat} {a : Addr} {len cap : Nat} (hu : Tryz.prog.underlying t = some (.slice e)) (h : Value.okWide Tryz.prog W .any base t (.slice (some a) len cap)) : a.spot = none := by
  simp only [Value.okWide, hu, Cell.okWide, Cell.ok] at h
  exact h.2.2.2.1
/-- the names of both lists -/
def twoMap (r0 r1 : Option Spot) : Map := fun k => match k with
  | 0 => r0
  | 1 => r1
  | _ => none
theorem two_inv (r0 r1 : Option Spot) : Inv (twoMap r0 r1) ⟨2, []⟩ W where
  dom := fun k hk => match k, hk with
    | k + 2, _ => rfl
    | 0, h => absurd (show 2 ≤ 0 from h) (by decide)
    | 1, h => absurd (show 2 ≤ 1 from h) (by decide)
  wf := fun k o hm => by simp at hm
  one := fun k o o' hm => by simp at hm
  rel := ⟨fun k o hm => by simp at hm, fun k o k' o' s s' hm => by simp at hm⟩
/-- a list is opened -/
theorem arg_open {t e : TypeId} {c : Nat} (hc : Tryz.prog.cellsOf e = c) (hc0 : 0 < c) {v : Value} (hu : Tryz.prog.underlying t = some (.slice e)) (hv : Value.okWide Tryz.prog W .any base t v) {d : DataW H} {p : List MemPlace} (h : DataW.Trod enc Tryz.prog W 0 (fun _ => true) true t v d p) (hfz : ∀ b j, MemPlace.cell b j ∈ p → W.frozen? ⟨b, j, none⟩ = false)
    {Q : List Value → Prop} (hQ : ∀ cs, Q cs → cs.length = c ∧ inns 0 cs = true) (hopen : ∀ {n : Nat} {cs : List Value} {x : DataW H × List MemPlace}, DataW.trod enc Tryz.prog W 0 (fun _ => true) true n e cs = some x → Q cs) :
    v = .slice none 0 0 ∨ (∃ (a : Addr) (cap : Nat), v = .slice (some a) 0 cap ∧ a.spot = none) ∨
    ∃ (a : Addr) (len cap : Nat) (g : Nat → List Value) (cs : List Value), v = .slice (some a) len cap ∧ a.spot = none ∧ 0 < len ∧ (∀ i, i < len → Q (g i)) ∧ (∀ i k, i < len → k < c → cs[i * c + k]? = (g i)[k]?) ∧ ∀ ρ, OHas ρ (.cells cs c) ⟨a.block, a.off, 0⟩ W := by
  obtain ⟨a0, len0, cap0, hv0⟩ := okWide_slice hu hv
  obtain ⟨fuel, hf⟩ := h
  rcases open_slice hu hf with ⟨hcs, hx⟩ | ⟨a, len, cap, m, n, D, Pl, hcs, _, hlc, _, hm, hx, hel⟩
  · exact .inl (slice_value hv0 hcs)
  · have ev := slice_value hv0 hcs
    have hs := spot_none hu (ev ▸ hv)
    rcases Nat.eq_zero_or_pos len with hz | hpos
    · subst hz
      exact .inr (.inl ⟨a, cap, ev, hs⟩)
    · have hm' : m = cap := by simpa using hm
      rw [hc] at hel
      obtain ⟨g, hg⟩ := choose_lt (α := List Value) (n := len) (p := fun i cs => W.cells? 0 (a.add (i * c)) c = some cs ∧ Q cs) (fun i hi => by
        obtain ⟨cs', g1, g2⟩ := hel i (by omega)
        exact ⟨cs', g1, hopen g2⟩)
      have hp0 : p = MemPlace.row a (m * Tryz.prog.cellsOf e) ++ (List.range m).flatMap Pl := congrArg Prod.snd hx
      obtain ⟨cs, c1, c2⟩ := row_at (g := g) hs hpos hc0 (fun i hi => hQ _ (hg i hi).2) (fun i hi => (hg i hi).1) (fun j hj => by
        refine hfz a.block (a.off + j) ?_
        rw [hp0]
        refine List.mem_append_left _ ?_
        unfold MemPlace.row
        refine List.mem_map.2 ⟨j, List.mem_range.2 ?_, rfl⟩
        rw [hc]
        have := Nat.mul_le_mul_right c (show len ≤ m by omega)
        omega)
      exact .inr (.inr ⟨a, len, cap, g, cs, ev, hs, hpos, fun i hi => (hg i hi).2, c1, c2⟩)
end
end Go.Proofs.YtnbpfafngidimaaGreat
