/- An element moved, and the way to it; no conditions. Values before and behind a move are the same; corners of the powers 1 and 2 are products; no conditions. Values before and behind a move, by the kind; no conditions. What ElementMoved computes is true whatever the input; no conditions. -/
import Derived.Test.YtnbpfafngidimaaVmP53
namespace Go.Vm
open Ieee
set_option linter.unusedVariables false
set_option linter.unusedSimpArgs false

/-! ### Places -/
def WdC (a b : Nat) (x y : Int) : Prop := Wd a x ∧ Wd b y
theorem WdC.isC {a b : Nat} {x y : Int} (h : WdC a b x y) : IsC a b x y := ⟨h.1.1, h.2.1⟩
theorem addK_wd {a b c d : Nat} {x y u v : Int} (h1 : WdC a b x y) (h2 : WdC c d u v) (b1 : (x + u).natAbs < 2 ^ 53) (b2 : (y + v).natAbs < 2 ^ 53) :
    ∃ p q, WdC p q (x + u) (y + v) ∧ ∀ (R : Type) (k : Nat → Nat → Option R), addK R a b c d k = k p q := by
  obtain ⟨p, e1, g1⟩ := wd_add h1.1 h2.1 b1
  obtain ⟨q, e2, g2⟩ := wd_add h1.2 h2.2 b2
  exact ⟨p, q, ⟨g1, g2⟩, fun R k => by unfold addK; rw [bindF_eq e1, bindF_eq e2]⟩
theorem subK_wd {a b c d : Nat} {x y u v : Int} (h1 : WdC a b x y) (h2 : WdC c d u v) (b1 : (x - u).natAbs < 2 ^ 53) (b2 : (y - v).natAbs < 2 ^ 53) :
    ∃ p q, WdC p q (x - u) (y - v) ∧ ∀ (R : Type) (k : Nat → Nat → Option R), subK R a b c d k = k p q := by
  obtain ⟨p, e1, g1⟩ := wd_sub h1.1 h2.1 b1
  obtain ⟨q, e2, g2⟩ := wd_sub h1.2 h2.2 b2
  exact ⟨p, q, ⟨g1, g2⟩, fun R k => by unfold subK; rw [bindF_eq e1, bindF_eq e2]⟩
theorem of_wd {x y : Int} (hx : x.natAbs ≤ 1000) (hy : y.natAbs ≤ 1000) : WdC (floatOfInt .f64 x) (floatOfInt .f64 y) x y := ⟨wd_ofInt (by omega), wd_ofInt (by omega)⟩
theorem of_eq {R : Type} (x y : Int) (k : Nat → Nat → Option R) : ofK x y k = k (floatOfInt .f64 x) (floatOfInt .f64 y) := by
  unfold ofK
  rw [forceN_eq, forceN_eq]
theorem smM_eq (x y : Int) : (∀ (R : Type) (k : Bool → Option R), smM R x y k = k false) ∨ ((∀ (R : Type) (k : Bool → Option R), smM R x y k = k true) ∧ x.natAbs ≤ 1000 ∧ y.natAbs ≤ 1000) := by
  cases h1 : decide (x ≥ -1000) with
  | false => exact .inl fun R k => by unfold smM; rw [h1, forceB_eq]
  | true =>
    cases h2 : decide (x ≤ 1000) with
    | false => exact .inl fun R k => by unfold smM; rw [h1, forceB_eq]; simp only; rw [h2, forceB_eq]
    | true =>
      cases h3 : decide (y ≥ -1000) with
      | false => exact .inl fun R k => by unfold smM; rw [h1, forceB_eq]; simp only; rw [h2, forceB_eq]; simp only; rw [h3, forceB_eq]
      | true =>
        cases h4 : decide (y ≤ 1000) with
        | false => exact .inl fun R k => by unfold smM; rw [h1, forceB_eq]; simp only; rw [h2, forceB_eq]; simp only; rw [h3, forceB_eq]; simp only; rw [h4, forceB_eq]
        | true =>
          have g1 := of_decide_eq_true h1
          have g2 := of_decide_eq_true h2
          have g3 := of_decide_eq_true h3
          have g4 := of_decide_eq_true h4
          exact .inr ⟨fun R k => by unfold smM; rw [h1, forceB_eq]; simp only; rw [h2, forceB_eq]; simp only; rw [h3, forceB_eq]; simp only; rw [h4, forceB_eq], by omega, by omega⟩

/-! ### The element moved -/
theorem mov_eq {kind : Int} {a1 a2 s1 s2 b1 b2 p : Nat} {xa ya xs ys xb yb : Int} (ha : WdC a1 a2 xa ya) (hs : WdC s1 s2 xs ys) (hb : WdC b1 b2 xb yb)
    (h1 : xa.natAbs ≤ 1000) (h2 : ya.natAbs ≤ 1000) (h3 : xs.natAbs ≤ 1000) (h4 : ys.natAbs ≤ 1000) (h5 : xb.natAbs ≤ 1000) (h6 : yb.natAbs ≤ 1000) (hp : p < 2 ^ 64) (hc : checkV kind (decide (xa = 0 ∧ ya = 0)) p = 0) :
    ∃ u1 u2 xu yu, WdC u1 u2 xu yu ∧ (kind = 1 ∧ xu = xa ∧ yu = ya ∨ kind ≠ 1 ∧ xu = xa + xb ∧ yu = ya + yb) ∧ checkV kind (decide (xu = 0 ∧ yu = 0)) p = 0 ∧
      ∀ (R : Type) (er : Int → Option R) (ok : Nat → Nat → Option R), movT R kind a1 a2 s1 s2 p b1 b2 er ok = ok u1 u2 := by
  have c40 : (1000 : Nat) ≤ 2 ^ 40 := by decide
  cases hk : kind == 1 with
  | true =>
    refine ⟨a1, a2, xa, ya, ha, .inl ⟨by simpa using hk, rfl, rfl⟩, hc, fun R er ok => ?_⟩
    unfold movT movB checkE
    rw [check_eq ha.isC hs.isC (by omega) (by omega) (by omega) (by omega) hp, decide_eq_true hc]
    simp only
    rw [placeK_int hb.isC (by omega) (by omega), forceB_eq]
    simp only
    rw [hk, forceB_eq]
  | false =>
    have hk1 : kind ≠ 1 := by simpa using hk
    obtain ⟨u1, u2, hu, he⟩ := addK_wd ha hb (by omega) (by omega)
    have hc' : checkV kind (decide (xa + xb = 0 ∧ ya + yb = 0)) p = 0 := (checkV_move hk1).trans hc
    refine ⟨u1, u2, xa + xb, ya + yb, hu, .inr ⟨hk1, rfl, rfl⟩, hc', fun R er ok => ?_⟩
    unfold movT movB checkE
    rw [check_eq ha.isC hs.isC (by omega) (by omega) (by omega) (by omega) hp, decide_eq_true hc]
    simp only
    rw [placeK_int hb.isC (by omega) (by omega), forceB_eq]
    simp only
    rw [hk, forceB_eq]
    simp only
    rw [he, check_eq hu.isC hs.isC (by omega) (by omega) (by omega) (by omega) hp, decide_eq_true hc']
theorem at_of {kind : Int} {a1 a2 s1 s2 z1 z2 p : Nat} {xa ya xs ys xz yz : Int} (ha : WdC a1 a2 xa ya) (hs : WdC s1 s2 xs ys) (hz : WdC z1 z2 xz yz)
    (h1 : xa.natAbs ≤ 2000) (h2 : ya.natAbs ≤ 2000) (h3 : xs.natAbs ≤ 1000) (h4 : ys.natAbs ≤ 1000) (h5 : xz.natAbs ≤ 2000) (h6 : yz.natAbs ≤ 2000) (hp : p < 2 ^ 64) (hc : checkV kind (decide (xa = 0 ∧ ya = 0)) p = 0)
    (h7 : (xz - xa).natAbs ≤ 2000) (h8 : (yz - ya).natAbs ≤ 2000) :
    ∃ d1 d2, WdC d1 d2 (xz - xa) (yz - ya) ∧ At kind p s1 s2 d1 d2 a1 a2 z1 z2 ∧ Dt s1 s2 d1 d2 xs ys (xz - xa) (yz - ya) := by
  obtain ⟨d1, d2, hd, he⟩ := subK_wd hz ha (by omega) (by omega)
  have c40 : (2000 : Nat) ≤ 2 ^ 40 := by decide
  refine ⟨d1, d2, hd, ⟨fun R k => ?_, fun R k => placeK_int hz.isC (by omega) (by omega) k, he⟩, ⟨hs.1.1, hs.2.1, h3, h4, hd.1, hd.2, h7, h8⟩⟩
  rw [check_eq ha.isC hs.isC (by omega) (by omega) (by omega) (by omega) hp, hc]
end Go.Vm
namespace Go.Vm
open Ieee
set_option linter.unusedVariables false
set_option linter.unusedSimpArgs false
variable {s1 s2 d1 d2 : Nat} {u v x y : Int}

/-! ### Values before and after -/
def Vals (kind : Int) (s1 s2 p a1 a2 z1 z2 u1 u2 w1 w2 : Nat) : Prop :=
  (∃ c1 c2 h, (∀ (R : Type) (k : Nat → Nat → Int → Option R), spdK R kind a1 a2 s1 s2 p z1 z2 k = k c1 c2 h) ∧ ∀ (R : Type) (k : Nat → Nat → Int → Option R), spdK R kind u1 u2 s1 s2 p w1 w2 k = k c1 c2 h) ∧
  (∃ c1 c2 h, (∀ (R : Type) (k : Nat → Nat → Int → Option R), slpK R kind a1 a2 s1 s2 p z1 z2 k = k c1 c2 h) ∧ ∀ (R : Type) (k : Nat → Nat → Int → Option R), slpK R kind u1 u2 s1 s2 p w1 w2 k = k c1 c2 h) ∧
  ∃ p1 p2 f q1 q2 g, (kind ≠ 1 → p1 = q1 ∧ p2 = q2 ∧ f = g) ∧ (∀ (R : Type) (k : Nat → Nat → Int → Option R), potK R kind a1 a2 s1 s2 p z1 z2 k = k p1 p2 f) ∧ ∀ (R : Type) (k : Nat → Nat → Int → Option R), potK R kind u1 u2 s1 s2 p w1 w2 k = k q1 q2 g
theorem spd_one {p a1 a2 z1 z2 : Nat} (h : Dt s1 s2 d1 d2 u v x y) (ha : At 1 p s1 s2 d1 d2 a1 a2 z1 z2) (R : Type) (k : Nat → Nat → Int → Option R) : spdK R 1 a1 a2 s1 s2 p z1 z2 k = k s1 s2 0 := by
  show vS1 a1 a2 s1 s2 p z1 z2 _ _ = _
  unfold vS1
  rw [valP_at ha h.dc]
  cases decide (x = 0 ∧ y = 0) <;> (simp only; rw [toldE_yes h.s1 h.s2])
theorem slp_one {p a1 a2 z1 z2 : Nat} (h : Dt s1 s2 d1 d2 u v x y) (ha : At 1 p s1 s2 d1 d2 a1 a2 z1 z2) (R : Type) (k : Nat → Nat → Int → Option R) : slpK R 1 a1 a2 s1 s2 p z1 z2 k = k 0 0 0 := by
  show vS2 a1 a2 s1 s2 p z1 z2 _ _ = _
  unfold vS2
  rw [valP_at ha h.dc]
  cases decide (x = 0 ∧ y = 0) <;> (simp only; rw [toldE_yes is_zero is_zero])
theorem vals_one {p a1 a2 z1 z2 w1 w2 e1 e2 : Nat} {x' y' xz yz xw yw : Int} (h : Dt s1 s2 d1 d2 u v x y) (ha : At 1 p s1 s2 d1 d2 a1 a2 z1 z2) (h' : Dt s1 s2 e1 e2 u v x' y') (ha' : At 1 p s1 s2 e1 e2 a1 a2 w1 w2)
    (hz : IsC z1 z2 xz yz) (hw : IsC w1 w2 xw yw) (b1 : xz.natAbs ≤ 2000) (b2 : yz.natAbs ≤ 2000) (b3 : xw.natAbs ≤ 2000) (b4 : yw.natAbs ≤ 2000) : Vals 1 s1 s2 p a1 a2 z1 z2 a1 a2 w1 w2 := by
  obtain ⟨p1, p2, hp⟩ := c_S0 h ha hz b1 b2
  obtain ⟨q1, q2, hq⟩ := c_S0 h' ha' hw b3 b4
  exact ⟨⟨s1, s2, 0, spd_one h ha, spd_one h' ha'⟩, ⟨0, 0, 0, slp_one h ha, slp_one h' ha'⟩, p1, p2, 0, q1, q2, 0, fun hn => absurd rfl hn, fun R k => hp R _ _, fun R k => hq R _ _⟩
theorem vals_else {kind : Int} {n : Bool} {p a1 a2 z1 z2 u1 u2 w1 w2 : Nat} (h : Dt s1 s2 d1 d2 u v x y) (ha : At kind p s1 s2 d1 d2 a1 a2 z1 z2) (ha' : At kind p s1 s2 d1 d2 u1 u2 w1 w2) (hk : kind ≠ 1) (hp : p < 2 ^ 64) (hc : checkV kind n p = 0) :
    Vals kind s1 s2 p a1 a2 z1 z2 u1 u2 w1 w2 := by
  obtain ⟨c1, c2, e1, h1⟩ := (came_spd h hp hc).val
  obtain ⟨l1, l2, e2, h2⟩ := (came_slp h hp hc).val
  obtain ⟨p1, p2, e3, h3⟩ := (came_pot h hk hp hc).val
  exact ⟨⟨c1, c2, e1, fun R k => h1 _ _ _ _ ha R k, fun R k => h1 _ _ _ _ ha' R k⟩, ⟨l1, l2, e2, fun R k => h2 _ _ _ _ ha R k, fun R k => h2 _ _ _ _ ha' R k⟩,
    p1, p2, e3, p1, p2, e3, fun _ => ⟨rfl, rfl, rfl⟩, fun R k => h3 _ _ _ _ ha R k, fun R k => h3 _ _ _ _ ha' R k⟩

/-! ### Corners of the powers 1 and 2 -/
theorem pot_c1 {a1 a2 z1 z2 m1 m2 : Nat} {X Y : Int} (h : Dt s1 s2 d1 d2 u v x y) (ha : At 4 4607182418800017408 s1 s2 d1 d2 a1 a2 z1 z2) (hm : ∀ (R : Type) (k : Nat → Nat → Option R), mulK R s1 s2 d1 d2 k = k m1 m2) (im : IsC m1 m2 X Y)
    (R : Type) (k : Nat → Nat → Int → Option R) : potK R 4 a1 a2 s1 s2 4607182418800017408 z1 z2 k = k m1 m2 0 := by
  show vC0_1 a1 a2 s1 s2 4607182418800017408 z1 z2 _ _ = _
  unfold vC0_1
  rw [valP_at ha h.dc, wy_of l1 (by decide +kernel)]
  cases decide (x = 0 ∧ y = 0) <;> (show mulK R s1 s2 d1 d2 _ = _; rw [hm, toldE_yes im.1 im.2])
theorem pot_c2 {a1 a2 z1 z2 m1 m2 n1 n2 : Nat} {X Y : Int} (h : Dt s1 s2 d1 d2 u v x y) (ha : At 4 4611686018427387904 s1 s2 d1 d2 a1 a2 z1 z2) (hd : ∀ (R : Type) (k : Nat → Nat → Option R), mulK R d1 d2 d1 d2 k = k n1 n2) (hm : ∀ (R : Type) (k : Nat → Nat → Option R), mulK R s1 s2 n1 n2 k = k m1 m2) (im : IsC m1 m2 X Y)
    (R : Type) (k : Nat → Nat → Int → Option R) : potK R 4 a1 a2 s1 s2 4611686018427387904 z1 z2 k = k m1 m2 0 := by
  show vC0_2 a1 a2 s1 s2 4611686018427387904 z1 z2 _ _ = _
  unfold vC0_2
  rw [valP_at ha h.dc, wy_of l2 (by decide +kernel)]
  cases decide (x = 0 ∧ y = 0) <;> (show mulK R d1 d2 d1 d2 _ = _; rw [hd]; show mulK R s1 s2 n1 n2 _ = _; rw [hm, toldE_yes im.1 im.2])
theorem three_eq {p1 p2 q1 q2 : Nat} {e f : Int} (h : (some (p1, p2, e) : Option (Nat × Nat × Int)) = some (q1, q2, f)) : p1 = q1 ∧ p2 = q2 ∧ e = f := by
  cases h; exact ⟨rfl, rfl, rfl⟩
theorem finM_eq {p1 p2 v1 v2 : Nat} {X Y : Int} (hv : IsC v1 v2 X Y) (hp : IsC p1 p2 X Y) {R : Type} (k : Bool → Option R) : finM mulK 0 p1 p2 v1 v2 k = k true := by
  unfold finM
  rw [forceB_eq]
  simp only [beq_self_eq_true]
  rw [forceB_eq, forceB_eq, eqF_is hv.1 hp.1, eqF_is hv.2 hp.2]
  simp
theorem tail_true {kind x3 y3 : Int} {n : Bool} {p a1 a2 : Nat} {f : Int} {p1 p2 : Nat} (h : Dt s1 s2 d1 d2 u v x y) (ha : At kind p s1 s2 d1 d2 a1 a2 (floatOfInt .f64 x3) (floatOfInt .f64 y3)) (hp : p < 2 ^ 64) (hc : checkV kind n p = 0)
    (hpot : ∀ (R : Type) (k : Nat → Nat → Int → Option R), potK R kind a1 a2 s1 s2 p (floatOfInt .f64 x3) (floatOfInt .f64 y3) k = k p1 p2 f) {R : Type} (k : Bool → Option R) :
    tailM (fun R x y k => ofK x y k) subK mulK kind x3 y3 a1 a2 s1 s2 p f p1 p2 k = k true := by
  unfold tailM
  simp only [of_eq]
  rw [ha.sub, forceB_eq]
  cases hk : kind != 4 with
  | true => rfl
  | false =>
    have hk4 : kind = 4 := by simpa using hk
    subst hk4
    obtain ⟨P, ip, ⟨h0, _⟩ | h0 | ⟨h0, _⟩ | ⟨_, q1, q2⟩⟩ := checkV_zero hp hc
    · cases h0
    · cases h0
    · cases h0
    simp only
    obtain ⟨m1, m2, im, b1, b2, hm⟩ := mulK_int (p := 1000) (q := 2000) ⟨h.s1, h.s2⟩ h.dc h.u h.v h.x h.y (by decide)
    by_cases e1 : p = 4607182418800017408
    · subst e1
      obtain ⟨rfl, rfl, rfl⟩ := three_eq ((hpot _ fun x y e => some (x, y, e)).symm.trans (pot_c1 h ha hm im _ fun x y e => some (x, y, e)))
      rw [forceB_eq, neF_is l1 l1, decide_eq_true rfl]
      simp only [Bool.not_true]
      rw [hm, forceB_eq, eqF_is l1 l2, decide_eq_false (by grind)]
      exact finM_eq im im k
    · by_cases e2 : p = 4611686018427387904
      · subst e2
        obtain ⟨n1, n2, i2, c1, c2, hn⟩ := mulK_int (p := 2000) (q := 2000) h.dc h.dc h.x h.y h.x h.y (by decide)
        obtain ⟨o1, o2, i3, c3, c4, ho⟩ := mulK_int (p := 1000) (q := 8000000) ⟨h.s1, h.s2⟩ i2 h.u h.v c1 c2 (by decide)
        obtain ⟨t1, t2, i4, c5, c6, ht⟩ := mulK_int (p := 4000000) (q := 2000) im h.dc b1 b2 h.x h.y (by decide)
        obtain ⟨rfl, rfl, rfl⟩ := three_eq ((hpot _ fun x y e => some (x, y, e)).symm.trans (pot_c2 h ha hn ho i3 _ fun x y e => some (x, y, e)))
        rw [forceB_eq, neF_is l2 l1, decide_eq_false (by grind)]
        simp only [Bool.not_false]
        rw [forceB_eq, neF_is l2 l2, decide_eq_true rfl]
        simp only [Bool.not_true]
        rw [hm, forceB_eq, eqF_is l2 l2, decide_eq_true rfl]
        simp only
        rw [ht]
        refine finM_eq i4 ?_ k
        have g1 : (u * x - v * y) * x - (u * y + v * x) * y = u * (x * x - y * y) - v * (x * y + y * x) := by grind
        have g2 : (u * x - v * y) * y + (u * y + v * x) * x = u * (x * y + y * x) + v * (x * x - y * y) := by grind
        rw [g1, g2]
        exact i3
      · have n1 : ¬ P = ((1 : Int) : Rat) := fun e => e1 (word_of (by rw [← e]; exact ip) l1 (by decide))
        have n2 : ¬ P = ((2 : Int) : Rat) := fun e => e2 (word_of (by rw [← e]; exact ip) l2 (by decide))
        rw [forceB_eq, neF_is ip l1, decide_eq_false n1]
        simp only [Bool.not_false]
        rw [forceB_eq, neF_is ip l2, decide_eq_false n2]
        rfl
end Go.Vm
namespace Go.Vm
open Ieee
set_option linter.unusedVariables false
set_option linter.unusedSimpArgs false

theorem vals_of {kind : Int} {a1 a2 s1 s2 z1 z2 u1 u2 w1 w2 d1 d2 p : Nat} {x1 y1 x2 y2 x3 y3 x4 y4 xu yu : Int} (ha : WdC a1 a2 x1 y1) (hs : WdC s1 s2 x2 y2) (hz : WdC z1 z2 x3 y3) (hu : WdC u1 u2 xu yu) (hw : WdC w1 w2 (x3 + x4) (y3 + y4))
    (hku : kind = 1 ∧ xu = x1 ∧ yu = y1 ∨ kind ≠ 1 ∧ xu = x1 + x4 ∧ yu = y1 + y4)
    (bx1 : x1.natAbs ≤ 1000) (by1 : y1.natAbs ≤ 1000) (bx2 : x2.natAbs ≤ 1000) (by2 : y2.natAbs ≤ 1000) (bx3 : x3.natAbs ≤ 1000) (by3 : y3.natAbs ≤ 1000) (bx4 : x4.natAbs ≤ 1000) (by4 : y4.natAbs ≤ 1000)
    (hp : p < 2 ^ 64) (hc : checkV kind (decide (x1 = 0 ∧ y1 = 0)) p = 0) (hc' : checkV kind (decide (xu = 0 ∧ yu = 0)) p = 0)
    (hd : WdC d1 d2 (x3 - x1) (y3 - y1)) (hat : At kind p s1 s2 d1 d2 a1 a2 z1 z2) (hdt : Dt s1 s2 d1 d2 x2 y2 (x3 - x1) (y3 - y1)) : Vals kind s1 s2 p a1 a2 z1 z2 u1 u2 w1 w2 := by
  have m3 : x3.natAbs ≤ 2000 := Nat.le_trans bx3 (by decide)
  have n3 : y3.natAbs ≤ 2000 := Nat.le_trans by3 (by decide)
  have m1 : x1.natAbs ≤ 2000 := Nat.le_trans bx1 (by decide)
  have n1 : y1.natAbs ≤ 2000 := Nat.le_trans by1 (by decide)
  have ms : ∀ {a b : Int}, a.natAbs ≤ 1000 → b.natAbs ≤ 1000 → (a + b).natAbs ≤ 2000 := fun h g => by omega
  have md : ∀ {a b : Int}, a.natAbs ≤ 1000 → b.natAbs ≤ 1000 → (a - b).natAbs ≤ 2000 := fun h g => by omega
  have mw := ms bx3 bx4
  have nw := ms by3 by4
  rcases hku with ⟨hk, rfl, rfl⟩ | ⟨hk, rfl, rfl⟩
  · obtain ⟨P, ip, ⟨_, hn⟩ | h0 | ⟨h0, _⟩ | ⟨h0, _⟩⟩ := checkV_zero hp hc
    · obtain ⟨hx, hy⟩ := of_decide_eq_true hn
      obtain ⟨e1, e2, he, hat', hdt'⟩ := at_of ha hs hw m1 n1 bx2 by2 mw nw hp hc (by rw [hx, Int.sub_zero]; exact mw) (by rw [hy, Int.sub_zero]; exact nw)
      have f1 := wd_eq hu.1 ha.1
      have f2 := wd_eq hu.2 ha.2
      subst hk f1 f2
      exact vals_one hdt hat hdt' hat' hz.isC hw.isC m3 n3 mw nw
    · rw [hk] at h0; cases h0
    · rw [hk] at h0; cases h0
    · rw [hk] at h0; cases h0
  · have g1 : x3 + x4 - (x1 + x4) = x3 - x1 := by omega
    have g2 : y3 + y4 - (y1 + y4) = y3 - y1 := by omega
    obtain ⟨e1, e2, he, hat', hdt'⟩ := at_of hu hs hw (ms bx1 bx4) (ms by1 by4) bx2 by2 mw nw hp hc' (by rw [g1]; exact md bx3 bx1) (by rw [g2]; exact md by3 by1)
    rw [g1, g2] at he
    have f1 := wd_eq he.1 hd.1
    have f2 := wd_eq he.2 hd.2
    subst f1 f2
    exact vals_else hdt hat hat' hk hp hc

end Go.Vm
namespace Go.Vm
open Ieee
set_option linter.unusedVariables false
set_option linter.unusedSimpArgs false

/-! ### ElementMoved's law, in plain -/
theorem lawMB_true (kind x1 y1 x2 y2 x3 y3 x4 y4 : Int) {p : Nat} (hp : p < 2 ^ 64) {R : Type} (k : Bool → Option R) :
    lawMB (fun R x y k => ofK x y k) smM (checkB placeK withinK noughtK wholeK) movT addK subK mulK potK spdK slpK sameB kind x1 y1 x2 y2 x3 y3 x4 y4 p k = k true := by
  unfold lawMB
  simp only [of_eq]
  rcases smM_eq x1 y1 with h | ⟨h, bx1, by1⟩
  · rw [h, forceB_eq]
  rw [h, forceB_eq]
  simp only
  rcases smM_eq x2 y2 with h | ⟨h, bx2, by2⟩
  · rw [h, forceB_eq]
  rw [h, forceB_eq]
  simp only
  rcases smM_eq x3 y3 with h | ⟨h, bx3, by3⟩
  · rw [h, forceB_eq]
  rw [h, forceB_eq]
  simp only
  rcases smM_eq x4 y4 with h | ⟨h, bx4, by4⟩
  · rw [h, forceB_eq]
  rw [h, forceB_eq]
  simp only
  have ha := of_wd bx1 by1
  have hs := of_wd bx2 by2
  have hz := of_wd bx3 by3
  have hb := of_wd bx4 by4
  have c40 : (1000 : Nat) ≤ 2 ^ 40 := by decide
  have m3 : x3.natAbs ≤ 2000 := Nat.le_trans bx3 (by decide)
  have n3 : y3.natAbs ≤ 2000 := Nat.le_trans by3 (by decide)
  have m1 : x1.natAbs ≤ 2000 := Nat.le_trans bx1 (by decide)
  have n1 : y1.natAbs ≤ 2000 := Nat.le_trans by1 (by decide)
  have md : ∀ {a b : Int}, a.natAbs ≤ 1000 → b.natAbs ≤ 1000 → (a - b).natAbs ≤ 2000 := fun h g => by omega
  have ms : ∀ {a b : Int}, a.natAbs ≤ 1000 → b.natAbs ≤ 1000 → (a + b).natAbs < 2 ^ 53 := fun h g => by omega
  rw [check_eq ha.isC hs.isC (Nat.le_trans bx1 c40) (Nat.le_trans by1 c40) (Nat.le_trans bx2 c40) (Nat.le_trans by2 c40) hp]
  by_cases hc : checkV kind (decide (x1 = 0 ∧ y1 = 0)) p = 0
  rotate_left
  · rw [decide_eq_false hc]
  rw [decide_eq_true hc]
  simp only
  obtain ⟨u1, u2, xu, yu, hu, hku, hc', hmov⟩ := mov_eq ha hs hb bx1 by1 bx2 by2 bx4 by4 hp hc
  obtain ⟨w1, w2, hw, hadd⟩ := addK_wd hz hb (ms bx3 bx4) (ms by3 by4)
  rw [hmov, hadd]
  obtain ⟨d1, d2, hd, hat, hdt⟩ := at_of ha hs hz m1 n1 bx2 by2 m3 n3 hp hc (md bx3 bx1) (md by3 by1)
  have hv := vals_of ha hs hz hu hw hku bx1 by1 bx2 by2 bx3 by3 bx4 by4 hp hc hc' hd hat hdt
  obtain ⟨⟨c1, c2, e1, hs1, hs2⟩, ⟨l1, l2, e2, hl1, hl2⟩, p1, p2, f, q1, q2, g, hfg, hp1, hp2⟩ := hv
  have ht : tailM (fun R x y k => ofK x y k) subK mulK kind x3 y3 (floatOfInt .f64 x1) (floatOfInt .f64 y1) (floatOfInt .f64 x2) (floatOfInt .f64 y2) p f p1 p2 k = k true := tail_true hdt hat hp hc hp1 k
  simp only [of_eq] at ht
  rw [hp1, hp2, hs1, hs2, hl1, hl2, forceB_eq, show (e1 != e1) = false by simp]
  simp only
  rw [forceB_eq, show (e2 != e2) = false by simp]
  simp only
  rw [sameB_refl, forceB_eq]
  simp only
  rw [sameB_refl, forceB_eq]
  simp only
  rw [forceB_eq]
  cases hk : kind != 1 with
  | false => exact ht
  | true =>
    obtain ⟨rfl, rfl, rfl⟩ := hfg (by simpa using hk)
    simp only
    rw [forceB_eq, show (f != f) = false by simp]
    simp only
    rw [sameB_refl, forceB_eq]
    exact ht
end Go.Vm
