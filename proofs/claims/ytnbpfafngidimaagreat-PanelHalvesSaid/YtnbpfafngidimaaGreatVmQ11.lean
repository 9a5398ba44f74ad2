/- Two runs side by side: logarithms of near lengths are near; no conditions. -/
import Derived.Test.YtnbpfafngidimaaGreatVmQ7
import Derived.Test.YtnbpfafngidimaaGreatVmP62
namespace Go.Vm
open Ieee
set_option linter.unusedVariables false
set_option linter.unusedSimpArgs false

/-! ### Logarithms of two runs -/
theorem seriesP_pr {z z' : Nat} {kz : Rat} (hz : Pr (3 / 100) kz z z') (hk : 0 ≤ kz) : ∀ (l : List Nat) (s s' : Nat), (∀ r ∈ l, Pr (3334 / 10000) 0 r r) → Pr (36 / 100) (2 / 5 * kz + 3) s s' →
    ∃ t t', Pr (36 / 100) (2 / 5 * kz + 3) t t' ∧ (∀ (R : Type) (k : Nat → Option R), seriesP z l s k = k t) ∧ ∀ (R : Type) (k : Nat → Option R), seriesP z' l s' k = k t'
  | [], s, s', _, hs => ⟨s, s', hs, fun _ _ => rfl, fun _ _ => rfl⟩
  | r :: l, s, s', hl, hs => by
    obtain ⟨p, p', e1, e2, h1⟩ := pr_mul (n := 2 / 5 * kz + 1) hz hs (C := 11 / 1000) (by grind) (by grind) (by grind) (by grind)
    obtain ⟨q, q', g1, g2, h2⟩ := pr_add (n := 2 / 5 * kz + 3) (hl r (by simp)) h1 (C := 36 / 100) (by grind) (by grind) (by grind) (by grind)
    obtain ⟨t, t', h3, h4, h5⟩ := seriesP_pr hz hk l q q' (fun r hr => hl r (by simp [hr])) h2
    refine ⟨t, t', h3, fun R k => ?_, fun R k => ?_⟩
    · unfold seriesP; rw [bindF_eq e1, bindF_eq g1]; exact h4 R k
    · unfold seriesP; rw [bindF_eq e2, bindF_eq g2]; exact h5 R k
theorem third_is : ∃ x, Is 4599676419421066581 x ∧ x.abs ≤ 3334 / 10000 := by
  have := is_num (w := 4599676419421066581) (m := 6004799503160661) (n := 54) (by decide) (by decide)
  have e : ((2 ^ 54 : Nat) : Rat) = 18014398509481984 := rfl
  have e2 : ((6004799503160661 : Nat) : Rat) = 6004799503160661 := rfl
  rw [e, e2] at this
  exact ⟨_, this, abs_le_iff.2 ⟨by grind, by grind⟩⟩
theorem quarter_m2 : (2 : Rat) ^ (-2 : Int) ≤ 3334 / 10000 := by
  have h := p2_neg 2
  have e : ((2 ^ 2 : Nat) : Rat) = 4 := rfl
  rw [e] at h
  rw [show (-2 : Int) = -((2 : Nat) : Int) by rfl]
  grind
theorem odd_pr : ∀ r ∈ oddList, Pr (3334 / 10000) 0 r r := fun r hr => by
  have h : oddList.all (fun r => magB (-2) r || Nat.beq r 4599676419421066581) = true := by kernel_rfl
  have h1 := List.all_eq_true.1 h r hr
  simp only [Bool.or_eq_true] at h1
  rcases h1 with h1 | h1
  · exact lit_pr h1 quarter_m2
  · rw [Nat.eq_of_beq_eq_true h1]
    obtain ⟨x, h2, h3⟩ := third_is
    exact pr_same h2 h3
theorem oddK_pr {t t' : Nat} {k : Rat} (h : Pr (173 / 1000) k t t') (hk : 0 ≤ k) : ∃ c c', Pr (36 / 100) (21 / 10 * k + 5) c c' ∧ (∀ (R : Type) (f : Nat → Option R), oddK R t f = f c) ∧ ∀ (R : Type) (f : Nat → Option R), oddK R t' f = f c' := by
  obtain ⟨s, s', e1, e2, h1⟩ := pr_mul (n := 346 / 1000 * k + 7 / 100) h h (C := 3 / 100) (by grind) (by grind) (by grind) (by grind)
  obtain ⟨q, q', h2, e3, e4⟩ := seriesP_pr h1 (by grind) oddList 4585925428558828667 4585925428558828667 odd_pr (((lit_pr (e := -2) (B := 3334 / 10000) (w := 4585925428558828667) (by decide) quarter_m2)).mono (by grind) (by grind))
  obtain ⟨a, a', e5, e6, h3⟩ := pr_mul (n := 2 * k + 7 / 10) (pr_same (B := 2) l2 two_abs) h (C := 347 / 1000) (by grind) (by grind) (by grind) (by grind)
  obtain ⟨x, x', e7, e8, h4⟩ := pr_mul (n := 13 / 100 * k + 2 / 10) h1 h2 (C := 11 / 1000) (by grind) (by grind) (by grind) (by grind)
  obtain ⟨y, y', e9, e10, h5⟩ := pr_mul (n := 7 / 100 * k + 1 / 10) h3 h4 (C := 4 / 1000) (by grind) (by grind) (by grind) (by grind)
  obtain ⟨c, c', e11, e12, h6⟩ := pr_add (n := 21 / 10 * k + 5) h3 h5 (C := 36 / 100) (by grind) (by grind) (by grind) (by grind)
  refine ⟨c, c', h6, fun R f => ?_, fun R f => ?_⟩
  · unfold oddK; rw [bindF_eq e1, e3, bindF_eq e5, bindF_eq e7, bindF_eq e9, bindF_eq e11]
  · unfold oddK; rw [bindF_eq e2, e4, bindF_eq e6, bindF_eq e8, bindF_eq e10, bindF_eq e12]
theorem ln_is : Is 4604418534311723008 (6243314766446592 / 9007199254740992 : Rat) := by
  have := is_num (w := 4604418534311723008) (m := 6243314766446592) (n := 53) (by decide) (by decide)
  have e : ((2 ^ 53 : Nat) : Rat) = 9007199254740992 := rfl
  have e2 : ((6243314766446592 : Nat) : Rat) = 6243314766446592 := rfl
  rw [e, e2] at this
  rw [show (6243314766446592 / 9007199254740992 : Rat) = 6243314766446592 * (1 / 9007199254740992) by grind]
  exact this
theorem ln_pr : Pr (7 / 10) 0 4604418534311723008 4604418534311723008 := pr_same ln_is (abs_le_iff.2 ⟨by grind, by grind⟩)
/-- the same exponent -/
theorem restL_pr {m m' : Nat} {e : Int} {k : Rat} (h : Pr (1415 / 1000) k m m') (b : Vb (707 / 1000) (1415 / 1000) m) (b' : Vb (707 / 1000) (1415 / 1000) m') (hk : 0 ≤ k) (he : e.natAbs ≤ 8) :
    ∃ c c', Pr 8 (29 / 20 * k + 50) c c' ∧ (∀ (R : Type) (f : Nat → Option R), restL m e f = f c) ∧ ∀ (R : Type) (f : Nat → Option R), restL m' e f = f c' := by
  have sb : ∀ {w : Nat}, Vb (707 / 1000) (1415 / 1000) w → ∀ x y, Is w x → Is 4607182418800017408 y → (x - y).abs ≤ 415 / 1000 := fun hb x y hx hy => by
    have := hb.val hx
    have e := is_fun hy one_is
    subst e
    exact abs_le_iff.2 ⟨by grind, by grind⟩
  obtain ⟨d, d', e1, e2, h1⟩ := pr_subv (n := k + 1) h one_pr (sb b) (sb b') (C := 4155 / 10000) (by grind) (by grind) (by grind) (by grind)
  obtain ⟨g, g', e3, e4, h2⟩ := pr_add (n := k + 5) h one_pr (C := 242 / 100) (by grind) (by grind) (by grind) (by grind)
  have lo : ∀ {w c : Nat}, Vb (707 / 1000) (1415 / 1000) w → fbF .add w 4607182418800017408 = some c → ∀ z, Is c z → 1705 / 1000 ≤ z.abs := fun hb hc z hz => by
    obtain ⟨x, hx, x1, x2⟩ := hb
    have := add_low hx one_is hc (L := 1707 / 1000) (by grind) (by grind) (by grind) z hz
    grind
  have qb : ∀ {w d c : Nat}, Vb (707 / 1000) (1415 / 1000) w → fbF .sub w 4607182418800017408 = some d → fbF .add w 4607182418800017408 = some c → ∀ x y, Is d x → Is c y → x.abs ≤ (1725 / 10000) * y.abs := fun {w d c} hb hd hc x y hx hy => by
    obtain ⟨v, hv, v1, v2⟩ := hb
    obtain ⟨d0, z, a1, a2, a3⟩ := sub_is hv one_is (lt_p2_1023 (abs_le_iff.2 ⟨by grind, by grind⟩))
    obtain ⟨c0, z', a4, a5, a6⟩ := add_is hv one_is (lt_p2_1023 (abs_le_iff.2 ⟨by grind, by grind⟩))
    rw [hd] at a1
    rw [hc] at a4
    cases a1
    cases a4
    have q1 := is_fun hx a2
    have q2 := is_fun hy a5
    subst q1 q2
    have n1 := a3.le (B := 1 / 2) (abs_le_iff.2 ⟨by grind, by grind⟩) (low_small (by grind))
    have n2 := a6.le (B := 5 / 2) (abs_le_iff.2 ⟨by grind, by grind⟩) (low_small (by grind))
    rw [eps_eq] at n1 n2
    have n3 := abs_le_iff.1 n1
    have n4 := abs_le_iff.1 n2
    clear sb lo b b' h h1 h2 he
    rw [Rat.abs_of_nonneg (x := y) (by grind)]
    exact abs_le_iff.2 ⟨by grind, by grind⟩
  obtain ⟨t, t', e5, e6, h3⟩ := pr_quov (n := 69 / 100 * k + 2) (D := 1705 / 1000) (Q := 1725 / 10000) h1 h2 (lo b e3) (lo b' e4) (by grind) (qb b e1 e3) (qb b' e2 e4) (by grind) (C := 173 / 1000) (by grind) (by grind) (by grind)
  obtain ⟨o, o', h4, e7, e8⟩ := oddK_pr h3 (by grind)
  have hn : Pr 8 0 (floatOfInt .f64 e) (floatOfInt .f64 e) := pr_same (ofInt_is (by omega)) (int_le he rfl)
  obtain ⟨u, u', e9, e10, h5⟩ := pr_mul (n := 12) hn ln_pr (C := 57 / 10) (by grind) (by grind) (by grind) (by grind)
  obtain ⟨v, v', e11, e12, h6⟩ := pr_mul (n := 1) hn (lit_pr (e := -10) (B := 1 / 1000) (w := 4461442080421002358) (by decide) m10) (C := 1 / 100) (by grind) (by grind) (by grind) (by grind)
  obtain ⟨w, w', e13, e14, h7⟩ := pr_add (n := 29 / 20 * k + 12) h6 h4 (C := 38 / 100) (by grind) (by grind) (by grind) (by grind)
  obtain ⟨c, c', e15, e16, h8⟩ := pr_add (n := 29 / 20 * k + 50) h5 h7 (C := 8) (by grind) (by grind) (by grind) (by grind)
  have q1 : u = u' := by rw [e9] at e10; cases e10; rfl
  have q2 : v = v' := by rw [e11] at e12; cases e12; rfl
  subst q1 q2
  refine ⟨c, c', h8, fun R f => ?_, fun R f => ?_⟩
  · unfold restL; rw [forceN_eq, bindF_eq e9, bindF_eq e11, bindF_eq e1, bindF_eq e3, bindF_eq e5, e7, bindF_eq e13, bindF_eq e15]
  · unfold restL; rw [forceN_eq, bindF_eq e9, bindF_eq e11, bindF_eq e2, bindF_eq e4, bindF_eq e6, e8, bindF_eq e14, bindF_eq e16]
end Go.Vm
namespace Go.Vm
open Ieee
set_option linter.unusedVariables false
set_option linter.unusedSimpArgs false

/-! ### Where the exponent changes -/
theorem is_numN {w m n : Nat} (hw : w < 2 ^ 64) (h : double.read w = .number true m (-(n : Int))) : Is w (-((m : Rat) * (1 / ((2 ^ n : Nat) : Rat)))) := by
  refine ⟨hw, true, m, -(n : Int), h, ?_⟩
  have e := p2_neg n
  unfold dv sg
  rw [if_pos rfl]
  have : ((2 ^ n : Nat) : Rat) ≠ 0 := fun z => by rw [z] at e; grind
  grind
theorem v_13823286971540847085 : Is 13823286971540847085 (-(6243314768165357 / 18014398509481984) : Rat) := by
  have := is_numN (w := 13823286971540847085) (m := 6243314768165357) (n := 54) (by decide) (by decide)
  have e : ((2 ^ 54 : Nat) : Rat) = 18014398509481984 := rfl
  have e2 : ((6243314768165357 : Nat) : Rat) = 6243314768165357 := rfl
  rw [e, e2] at this
  rw [show (-(6243314768165357 / 18014398509481984) : Rat) = -(6243314768165357 * (1 / 18014398509481984)) by grind]
  exact this
theorem v_13823286971540847086 : Is 13823286971540847086 (-(6243314768165358 / 18014398509481984) : Rat) := by
  have := is_numN (w := 13823286971540847086) (m := 6243314768165358) (n := 54) (by decide) (by decide)
  have e : ((2 ^ 54 : Nat) : Rat) = 18014398509481984 := rfl
  have e2 : ((6243314768165358 : Nat) : Rat) = 6243314768165358 := rfl
  rw [e, e2] at this
  rw [show (-(6243314768165358 / 18014398509481984) : Rat) = -(6243314768165358 * (1 / 18014398509481984)) by grind]
  exact this
theorem edge_m1 : ∃ c c', Pr 8 8 c c' ∧ (∀ (R : Type) (f : Nat → Option R), restL 4609047870845172685 (-1) f = f c) ∧ ∀ (R : Type) (f : Nat → Option R), restL 4604544271217802189 (-1 + 1) f = f c' :=
  ⟨13823286971540847085, 13823286971540847086, ⟨_, _, v_13823286971540847085, v_13823286971540847086, abs_le_iff.2 ⟨by grind, by grind⟩, abs_le_iff.2 ⟨by grind, by grind⟩, by rw [eps_eq]; exact abs_le_iff.2 ⟨by grind, by grind⟩⟩, fun R f => by kernel_rfl, fun R f => by kernel_rfl⟩
theorem v_4599914934686071281 : Is 4599914934686071281 ((6243314768165361 / 18014398509481984) : Rat) := by
  have := is_num (w := 4599914934686071281) (m := 6243314768165361) (n := 54) (by decide) (by decide)
  have e : ((2 ^ 54 : Nat) : Rat) = 18014398509481984 := rfl
  have e2 : ((6243314768165361 : Nat) : Rat) = 6243314768165361 := rfl
  rw [e, e2] at this
  rw [show ((6243314768165361 / 18014398509481984) : Rat) = (6243314768165361 * (1 / 18014398509481984)) by grind]
  exact this
theorem v_4599914934686071280 : Is 4599914934686071280 ((6243314768165360 / 18014398509481984) : Rat) := by
  have := is_num (w := 4599914934686071280) (m := 6243314768165360) (n := 54) (by decide) (by decide)
  have e : ((2 ^ 54 : Nat) : Rat) = 18014398509481984 := rfl
  have e2 : ((6243314768165360 : Nat) : Rat) = 6243314768165360 := rfl
  rw [e, e2] at this
  rw [show ((6243314768165360 / 18014398509481984) : Rat) = (6243314768165360 * (1 / 18014398509481984)) by grind]
  exact this
theorem edge_0 : ∃ c c', Pr 8 8 c c' ∧ (∀ (R : Type) (f : Nat → Option R), restL 4609047870845172685 (0) f = f c) ∧ ∀ (R : Type) (f : Nat → Option R), restL 4604544271217802189 (0 + 1) f = f c' :=
  ⟨4599914934686071281, 4599914934686071280, ⟨_, _, v_4599914934686071281, v_4599914934686071280, abs_le_iff.2 ⟨by grind, by grind⟩, abs_le_iff.2 ⟨by grind, by grind⟩, by rw [eps_eq]; exact abs_le_iff.2 ⟨by grind, by grind⟩⟩, fun R f => by kernel_rfl, fun R f => by kernel_rfl⟩
theorem v_4607361305248770932 : Is 4607361305248770932 ((4682486076124020 / 4503599627370496) : Rat) := by
  have := is_num (w := 4607361305248770932) (m := 4682486076124020) (n := 52) (by decide) (by decide)
  have e : ((2 ^ 52 : Nat) : Rat) = 4503599627370496 := rfl
  have e2 : ((4682486076124020 : Nat) : Rat) = 4682486076124020 := rfl
  rw [e, e2] at this
  rw [show ((4682486076124020 / 4503599627370496) : Rat) = (4682486076124020 * (1 / 4503599627370496)) by grind]
  exact this
theorem edge_1 : ∃ c c', Pr 8 8 c c' ∧ (∀ (R : Type) (f : Nat → Option R), restL 4609047870845172685 (1) f = f c) ∧ ∀ (R : Type) (f : Nat → Option R), restL 4604544271217802189 (1 + 1) f = f c' :=
  ⟨4607361305248770932, 4607361305248770932, ⟨_, _, v_4607361305248770932, v_4607361305248770932, abs_le_iff.2 ⟨by grind, by grind⟩, abs_le_iff.2 ⟨by grind, by grind⟩, by rw [eps_eq]; exact abs_le_iff.2 ⟨by grind, by grind⟩⟩, fun R f => by kernel_rfl, fun R f => by kernel_rfl⟩
theorem v_4610482962632853612 : Is 4610482962632853612 ((7804143460206700 / 4503599627370496) : Rat) := by
  have := is_num (w := 4610482962632853612) (m := 7804143460206700) (n := 52) (by decide) (by decide)
  have e : ((2 ^ 52 : Nat) : Rat) = 4503599627370496 := rfl
  have e2 : ((7804143460206700 : Nat) : Rat) = 7804143460206700 := rfl
  rw [e, e2] at this
  rw [show ((7804143460206700 / 4503599627370496) : Rat) = (7804143460206700 * (1 / 4503599627370496)) by grind]
  exact this
theorem v_4610482962632853611 : Is 4610482962632853611 ((7804143460206699 / 4503599627370496) : Rat) := by
  have := is_num (w := 4610482962632853611) (m := 7804143460206699) (n := 52) (by decide) (by decide)
  have e : ((2 ^ 52 : Nat) : Rat) = 4503599627370496 := rfl
  have e2 : ((7804143460206699 : Nat) : Rat) = 7804143460206699 := rfl
  rw [e, e2] at this
  rw [show ((7804143460206699 / 4503599627370496) : Rat) = (7804143460206699 * (1 / 4503599627370496)) by grind]
  exact this
theorem edge_2 : ∃ c c', Pr 8 8 c c' ∧ (∀ (R : Type) (f : Nat → Option R), restL 4609047870845172685 (2) f = f c) ∧ ∀ (R : Type) (f : Nat → Option R), restL 4604544271217802189 (2 + 1) f = f c' :=
  ⟨4610482962632853612, 4610482962632853611, ⟨_, _, v_4610482962632853612, v_4610482962632853611, abs_le_iff.2 ⟨by grind, by grind⟩, abs_le_iff.2 ⟨by grind, by grind⟩, by rw [eps_eq]; exact abs_le_iff.2 ⟨by grind, by grind⟩⟩, fun R f => by kernel_rfl, fun R f => by kernel_rfl⟩
theorem v_4612645319222162098 : Is 4612645319222162098 ((5462900422144690 / 2251799813685248) : Rat) := by
  have := is_num (w := 4612645319222162098) (m := 5462900422144690) (n := 51) (by decide) (by decide)
  have e : ((2 ^ 51 : Nat) : Rat) = 2251799813685248 := rfl
  have e2 : ((5462900422144690 : Nat) : Rat) = 5462900422144690 := rfl
  rw [e, e2] at this
  rw [show ((5462900422144690 / 2251799813685248) : Rat) = (5462900422144690 * (1 / 2251799813685248)) by grind]
  exact this
theorem edge_3 : ∃ c c', Pr 8 8 c c' ∧ (∀ (R : Type) (f : Nat → Option R), restL 4609047870845172685 (3) f = f c) ∧ ∀ (R : Type) (f : Nat → Option R), restL 4604544271217802189 (3 + 1) f = f c' :=
  ⟨4612645319222162098, 4612645319222162098, ⟨_, _, v_4612645319222162098, v_4612645319222162098, abs_le_iff.2 ⟨by grind, by grind⟩, abs_le_iff.2 ⟨by grind, by grind⟩, by rw [eps_eq]; exact abs_le_iff.2 ⟨by grind, by grind⟩⟩, fun R f => by kernel_rfl, fun R f => by kernel_rfl⟩
theorem v_4614206147914203437 : Is 4614206147914203437 ((7023729114186029 / 2251799813685248) : Rat) := by
  have := is_num (w := 4614206147914203437) (m := 7023729114186029) (n := 51) (by decide) (by decide)
  have e : ((2 ^ 51 : Nat) : Rat) = 2251799813685248 := rfl
  have e2 : ((7023729114186029 : Nat) : Rat) = 7023729114186029 := rfl
  rw [e, e2] at this
  rw [show ((7023729114186029 / 2251799813685248) : Rat) = (7023729114186029 * (1 / 2251799813685248)) by grind]
  exact this
theorem edge_4 : ∃ c c', Pr 8 8 c c' ∧ (∀ (R : Type) (f : Nat → Option R), restL 4609047870845172685 (4) f = f c) ∧ ∀ (R : Type) (f : Nat → Option R), restL 4604544271217802189 (4 + 1) f = f c' :=
  ⟨4614206147914203437, 4614206147914203437, ⟨_, _, v_4614206147914203437, v_4614206147914203437, abs_le_iff.2 ⟨by grind, by grind⟩, abs_le_iff.2 ⟨by grind, by grind⟩, by rw [eps_eq]; exact abs_le_iff.2 ⟨by grind, by grind⟩⟩, fun R f => by kernel_rfl, fun R f => by kernel_rfl⟩
theorem v_4615766976606244777 : Is 4615766976606244777 ((8584557806227369 / 2251799813685248) : Rat) := by
  have := is_num (w := 4615766976606244777) (m := 8584557806227369) (n := 51) (by decide) (by decide)
  have e : ((2 ^ 51 : Nat) : Rat) = 2251799813685248 := rfl
  have e2 : ((8584557806227369 : Nat) : Rat) = 8584557806227369 := rfl
  rw [e, e2] at this
  rw [show ((8584557806227369 / 2251799813685248) : Rat) = (8584557806227369 * (1 / 2251799813685248)) by grind]
  exact this
theorem edge_5 : ∃ c c', Pr 8 8 c c' ∧ (∀ (R : Type) (f : Nat → Option R), restL 4609047870845172685 (5) f = f c) ∧ ∀ (R : Type) (f : Nat → Option R), restL 4604544271217802189 (5 + 1) f = f c' :=
  ⟨4615766976606244777, 4615766976606244777, ⟨_, _, v_4615766976606244777, v_4615766976606244777, abs_le_iff.2 ⟨by grind, by grind⟩, abs_le_iff.2 ⟨by grind, by grind⟩, by rw [eps_eq]; exact abs_le_iff.2 ⟨by grind, by grind⟩⟩, fun R f => by kernel_rfl, fun R f => by kernel_rfl⟩
theorem v_4616758711676522258 : Is 4616758711676522258 ((5072693249134354 / 1125899906842624) : Rat) := by
  have := is_num (w := 4616758711676522258) (m := 5072693249134354) (n := 50) (by decide) (by decide)
  have e : ((2 ^ 50 : Nat) : Rat) = 1125899906842624 := rfl
  have e2 : ((5072693249134354 : Nat) : Rat) = 5072693249134354 := rfl
  rw [e, e2] at this
  rw [show ((5072693249134354 / 1125899906842624) : Rat) = (5072693249134354 * (1 / 1125899906842624)) by grind]
  exact this
theorem edge_6 : ∃ c c', Pr 8 8 c c' ∧ (∀ (R : Type) (f : Nat → Option R), restL 4609047870845172685 (6) f = f c) ∧ ∀ (R : Type) (f : Nat → Option R), restL 4604544271217802189 (6 + 1) f = f c' :=
  ⟨4616758711676522258, 4616758711676522258, ⟨_, _, v_4616758711676522258, v_4616758711676522258, abs_le_iff.2 ⟨by grind, by grind⟩, abs_le_iff.2 ⟨by grind, by grind⟩, by rw [eps_eq]; exact abs_le_iff.2 ⟨by grind, by grind⟩⟩, fun R f => by kernel_rfl, fun R f => by kernel_rfl⟩
theorem edge {e : Int} (h1 : -1 ≤ e) (h2 : e ≤ 6) : ∃ c c', Pr 8 8 c c' ∧ (∀ (R : Type) (f : Nat → Option R), restL 4609047870845172685 e f = f c) ∧ ∀ (R : Type) (f : Nat → Option R), restL 4604544271217802189 (e + 1) f = f c' := by
  have he : e = -1 ∨ e = 0 ∨ e = 1 ∨ e = 2 ∨ e = 3 ∨ e = 4 ∨ e = 5 ∨ e = 6 := by omega
  rcases he with rfl | rfl | rfl | rfl | rfl | rfl | rfl | rfl
  · exact edge_m1
  · exact edge_0
  · exact edge_1
  · exact edge_2
  · exact edge_3
  · exact edge_4
  · exact edge_5
  · exact edge_6
end Go.Vm
namespace Go.Vm
open Ieee
set_option linter.unusedVariables false
set_option linter.unusedSimpArgs false

def Hf : Rat := 6369051672525773 / 9007199254740992
theorem half_is : Is 4604544271217802189 Hf := by
  have := is_num (w := 4604544271217802189) (m := 6369051672525773) (n := 53) (by decide) (by decide)
  have e : ((2 ^ 53 : Nat) : Rat) = 9007199254740992 := rfl
  have e2 : ((6369051672525773 : Nat) : Rat) = 6369051672525773 := rfl
  rw [e, e2] at this
  unfold Hf
  rw [show (6369051672525773 / 9007199254740992 : Rat) = 6369051672525773 * (1 / 9007199254740992) by grind]
  exact this
theorem root2_is : Is 4609047870845172685 (2 * Hf) := by
  have := is_num (w := 4609047870845172685) (m := 6369051672525773) (n := 52) (by decide) (by decide)
  have e : ((2 ^ 52 : Nat) : Rat) = 4503599627370496 := rfl
  have e2 : ((6369051672525773 : Nat) : Rat) = 6369051672525773 := rfl
  rw [e, e2] at this
  unfold Hf
  rw [show (2 * (6369051672525773 / 9007199254740992) : Rat) = 6369051672525773 * (1 / 4503599627370496) by grind]
  exact this
theorem Hf_ge : 7071 / 10000 ≤ Hf := by unfold Hf; grind
theorem Hf_le : Hf ≤ 70711 / 100000 := by unfold Hf; grind
theorem p2_m2 : (2 : Rat) ^ (-2 : Int) = 1 / 4 := by
  have h := p2_neg 2
  have e : ((2 ^ 2 : Nat) : Rat) = 4 := rfl
  rw [e] at h
  rw [show (-2 : Int) = -((2 : Nat) : Int) by rfl]
  grind
theorem norm_log {a : Nat} {x : Rat} (h : Is a x) (h1 : 45 / 100 ≤ x) (h2 : x ≤ 100) : ∃ (m : Nat) (e : Int) (u : Rat), Is m u ∧ u = x * (2 : Rat) ^ (-e) ∧ Hf ≤ u ∧ u < 2 * Hf ∧ -1 ≤ e ∧ e ≤ 7 ∧ ∀ (R : Type) (k : Nat → Option R), logK R a k = restL m e k := by
  have hx : 0 < x := by grind
  obtain ⟨w, n, v, iw, hv, v1, v2, n1, n2, n3, n4, hf⟩ := frexpK_ex h hx
  have ge := Hf_ge
  have le := Hf_le
  have start : ∀ (R : Type) (k : Nat → Option R), logK R a k = forceB (ltF w 4604544271217802189) fun t => match t with
      | true => bindF (fbF .mul 4611686018427387904 w) fun m => fiReal R (IntKind.i64.wrap (n - 1)) fun e => restL m e k
      | false => restL w n k := fun R k => by
    rw [logK_def, forceB_eq, neF_is h h]
    simp only [decide_true, Bool.not_true]
    rw [isInfPK_no h, forceB_eq]
    simp only
    have z0 : ((0 : Int) : Rat) = 0 := rfl
    rw [forceB_eq, ltF_is h is_zero, z0, decide_eq_false (by grind)]
    simp only
    rw [forceB_eq, eqF_is h is_zero, z0, decide_eq_false (by grind)]
    simp only
    rw [hf]
    rfl
  have bounds : ∀ {u : Rat} {e : Int}, u = x * (2 : Rat) ^ (-e) → Hf ≤ u → u < 2 * Hf → -1 ≤ e ∧ e ≤ 7 := fun {u e} hu a1 a2 => by
    have hxu : x = u * (2 : Rat) ^ e := by rw [hu, Rat.mul_assoc, Rat.mul_comm ((2 : Rat) ^ (-e)), p2_cancel, Rat.mul_one]
    have pp := p2_pos e
    constructor
    · refine Int.not_lt.1 fun hc => ?_
      have g1 := p2_le (show e ≤ -2 by omega)
      rw [p2_m2] at g1
      have := Rat.mul_le_mul_of_nonneg_left g1 (show 0 ≤ u by grind)
      grind
    · refine Int.not_lt.1 fun hc => ?_
      have g1 := p2_le (show (8 : Int) ≤ e by omega)
      have e8 : (2 : Rat) ^ (8 : Int) = 256 := by rw [show (8 : Int) = ((8 : Nat) : Int) by rfl, p2_nat]; rfl
      rw [e8] at g1
      have := Rat.mul_le_mul_of_nonneg_left g1 (show 0 ≤ u by grind)
      grind
  by_cases hl : v < Hf
  · obtain ⟨m, m1, m2⟩ := twice_is iw (lt_p2_1023 (abs_le_iff.2 ⟨by grind, by grind⟩))
    have hu : 2 * v = x * (2 : Rat) ^ (-(n - 1)) := by
      have := p2_succ (-n)
      rw [show -n + 1 = -(n - 1) by omega] at this
      rw [this, hv]
      grind
    obtain ⟨b1, b2⟩ := bounds hu (by grind) (by grind)
    refine ⟨m, n - 1, 2 * v, m2, hu, by grind, by grind, b1, b2, fun R k => ?_⟩
    rw [start, ltF_is iw half_is, decide_eq_true hl, forceB_eq]
    simp only
    rw [bindF_eq m1, wrapI (n := n - 1) (by omega) (by omega), fiReal_fair]
  · obtain ⟨b1, b2⟩ := bounds hv (by grind) (by grind)
    refine ⟨w, n, v, iw, hv, by grind, by grind, b1, b2, fun R k => ?_⟩
    rw [start, ltF_is iw half_is, decide_eq_false hl, forceB_eq]
theorem log_le {a a' : Nat} {x x' k : Rat} (h : Is a x) (h' : Is a' x') (x1 : 45 / 100 ≤ x) (x2 : x' ≤ 100) (hxx : x ≤ x') (hd : x' - x ≤ k * eps) (hk0 : 0 ≤ k) (hk : k * eps ≤ 1 / 100) :
    ∃ c c', Pr 8 (29 / 10 * k + 110) c c' ∧ (∀ (R : Type) (f : Nat → Option R), logK R a f = f c) ∧ ∀ (R : Type) (f : Nat → Option R), logK R a' f = f c' := by
  obtain ⟨m, e, u, im, hu, u1, u2, e1, e2, hl⟩ := norm_log h x1 (by grind)
  obtain ⟨m', e', u', im', hu', u1', u2', e1', e2', hl'⟩ := norm_log h' (by grind) x2
  have ge := Hf_ge
  have le := Hf_le
  have ep := eps_pos
  have pe := p2_pos (-e)
  have p1 : (2 : Rat) ^ (-e) ≤ 2 := by
    have := p2_le (show -e ≤ 1 by omega)
    rwa [p2_one] at this
  have vb : ∀ {w : Nat} {z : Rat}, Is w z → Hf ≤ z → z ≤ 2 * Hf → Vb (707 / 1000) (1415 / 1000) w := fun {w z} hw a1 a2 => ⟨z, hw, by grind, by grind⟩
  have ab : ∀ {z : Rat}, Hf ≤ z → z ≤ 2 * Hf → z.abs ≤ 1415 / 1000 := fun {z} a1 a2 => abs_le_iff.2 ⟨by grind, by grind⟩
  by_cases he : e = e'
  · subst he
    have dif : (u - u').abs ≤ (2 * k) * eps := by
      have s1 : u' - u = (x' - x) * (2 : Rat) ^ (-e) := by rw [hu, hu']; grind
      have s2 := Rat.mul_le_mul_of_nonneg_left p1 (show 0 ≤ x' - x by grind)
      have s3 := Rat.mul_nonneg (show 0 ≤ x' - x by grind) (Rat.le_of_lt pe)
      exact abs_le_iff.2 ⟨by grind, by grind⟩
    obtain ⟨c, c', h1, f1, f2⟩ := restL_pr (e := e) (k := 2 * k) ⟨u, u', im, im', ab u1 (by grind), ab u1' (by grind), dif⟩ (vb im u1 (by grind)) (vb im' u1' (by grind)) (by grind) (by omega)
    exact ⟨c, c', h1.mono Rat.le_refl (by grind), fun R f => (hl R f).trans (f1 R f), fun R f => (hl' R f).trans (f2 R f)⟩
  · have hxu : x = u * (2 : Rat) ^ e := by rw [hu, Rat.mul_assoc, Rat.mul_comm ((2 : Rat) ^ (-e)), p2_cancel, Rat.mul_one]
    have hxu' : x' = u' * (2 : Rat) ^ e' := by rw [hu', Rat.mul_assoc, Rat.mul_comm ((2 : Rat) ^ (-e')), p2_cancel, Rat.mul_one]
    have pE := p2_pos e
    have pE' := p2_pos e'
    have lt : e < e' := by
      refine Int.not_le.1 fun hc => ?_
      have g1 := p2_le (show e' + 1 ≤ e by omega)
      rw [p2_succ] at g1
      have g2 := Rat.mul_le_mul_of_nonneg_left g1 (show 0 ≤ u by grind)
      have g3 := Rat.mul_lt_mul_of_pos_right u2' pE'
      have g4 := Rat.mul_le_mul_of_nonneg_right u1 (show 0 ≤ 2 * (2 : Rat) ^ e' by grind)
      grind
    have pm := p2_le (show (-1 : Int) ≤ e by omega)
    have pmv : (2 : Rat) ^ (-1 : Int) = 1 / 2 := by
      have := p2_half 0
      rw [Rat.zpow_zero, show (0 - 1 : Int) = -1 by decide] at this
      grind
    rw [pmv] at pm
    have one : e' = e + 1 := by
      refine Classical.byContradiction fun hc => ?_
      have g1 := p2_le (show e + 1 + 1 ≤ e' by omega)
      rw [p2_succ, p2_succ] at g1
      have g2 := Rat.mul_le_mul_of_nonneg_left g1 (show 0 ≤ u' by grind)
      have g3 := Rat.mul_lt_mul_of_pos_right u2 pE
      have g4 := Rat.mul_le_mul_of_nonneg_right u1' (show 0 ≤ 2 * (2 * (2 : Rat) ^ e) by grind)
      have g5 := Rat.mul_le_mul_of_nonneg_left pm (show 0 ≤ Hf by grind)
      grind
    subst one
    have half : (2 : Rat) ^ (-e) = 2 * (2 : Rat) ^ (-(e + 1)) := by
      have := p2_succ (-(e + 1))
      rw [show -(e + 1) + 1 = -e by omega] at this
      exact this
    have pe2 := p2_pos (-(e + 1))
    have split : ∀ {u : Rat}, 0 ≤ u → ∃ m, 0 ≤ m ∧ u = m * eps := fun {u} hu => ⟨u / eps, by rw [Rat.div_def]; exact Rat.mul_nonneg hu (Rat.le_of_lt (Rat.inv_pos.2 ep)), by rw [Rat.div_def, Rat.mul_assoc, Rat.inv_mul_cancel _ (by grind), Rat.mul_one]⟩
    have hcan := p2_cancel e
    have hb : ∀ z : Rat, z * (2 : Rat) ^ e * (2 : Rat) ^ (-e) = z := fun z => by rw [Rat.mul_assoc, hcan, Rat.mul_one]
    -- the border
    obtain ⟨k1, k10, k11⟩ := split (u := 2 * Hf - u) (by grind)
    obtain ⟨k2, k20, k21⟩ := split (u := u' - Hf) (by grind)
    have ks : k1 + k2 ≤ 2 * k := by
      refine Rat.le_of_mul_le_mul_right (c := eps) ?_ ep
      have s1 : 2 * Hf - u = (2 * Hf * (2 : Rat) ^ e - x) * (2 : Rat) ^ (-e) := by
        have := hb (2 * Hf)
        rw [hu]
        grind
      have s2 : 2 * (u' - Hf) = (x' - 2 * Hf * (2 : Rat) ^ e) * (2 : Rat) ^ (-e) := by
        have := hb (2 * Hf)
        rw [hu', half] 
        rw [half] at this
        grind
      have s3 := Rat.mul_le_mul_of_nonneg_left p1 (show 0 ≤ x' - x by grind)
      grind
    obtain ⟨c, c0, q1, f1, f2⟩ := restL_pr (m := m) (m' := 4609047870845172685) (e := e) (k := k1) ⟨u, _, im, root2_is, ab u1 (by grind), ab (by grind) Rat.le_refl, abs_le_iff.2 ⟨by grind, by grind⟩⟩ (vb im u1 (by grind)) (vb root2_is (by grind) Rat.le_refl) k10 (by omega)
    obtain ⟨c1, c', q2, f3, f4⟩ := restL_pr (m := 4604544271217802189) (m' := m') (e := e + 1) (k := k2) ⟨_, u', half_is, im', ab Rat.le_refl (by grind), ab u1' (by grind), abs_le_iff.2 ⟨by grind, by grind⟩⟩ (vb half_is Rat.le_refl (by grind)) (vb im' u1' (by grind)) k20 (by omega)
    obtain ⟨d, d', q3, f5, f6⟩ := edge (e := e) (by omega) (by omega)
    have r0 := some_eq ((f2 Nat some).symm.trans (f5 Nat some))
    have r1 := some_eq ((f3 Nat some).symm.trans (f6 Nat some))
    subst r0 r1
    exact ⟨c, c', ((q1.trans q3).trans q2).mono Rat.le_refl (by grind), fun R f => (hl R f).trans (f1 R f), fun R f => (hl' R f).trans (f4 R f)⟩
theorem log_pr {a a' : Nat} {x x' k : Rat} (h : Is a x) (h' : Is a' x') (x1 : 45 / 100 ≤ x) (x1' : 45 / 100 ≤ x') (x2 : x ≤ 100) (x2' : x' ≤ 100) (hd : (x - x').abs ≤ k * eps) (hk0 : 0 ≤ k) (hk : k * eps ≤ 1 / 100) :
    ∃ c c', Pr 8 (29 / 10 * k + 110) c c' ∧ (∀ (R : Type) (f : Nat → Option R), logK R a f = f c) ∧ ∀ (R : Type) (f : Nat → Option R), logK R a' f = f c' := by
  have d := abs_le_iff.1 hd
  by_cases hxx : x ≤ x'
  · exact log_le h h' x1 x2' hxx (by grind) hk0 hk
  · obtain ⟨c, c', h1, f1, f2⟩ := log_le h' h x1' x2 (by grind) (by grind) hk0 hk
    exact ⟨c', c, h1.symm, f2, f1⟩
end Go.Vm
