/- The parts of Joukowski's map on words; no conditions. Joukowski's map on words, there and back; no conditions. -/
import Derived.Test.YtnbpfafngidimaaGreatVmP18
namespace Go.Vm
open Ieee Cq
set_option linter.unusedVariables false
set_option linter.unusedSimpArgs false

def sqrK : KMC := sqrB mulK
def joukK : KMZ := joukB noughtK sqrK divK addK
def mbackK : KMZ := moebBackB noughtK mulK subK divK
def jbackK : KMZ := joukBackB sclK mulK subK addK negK rootK
def jotherK : KMZ := joukOtherB jbackK sqrK divK

theorem is_half : Is 4602678819172646912 (1 / 2) := by
  have := fields_is (s := false) (E := 1022) (f := 0) (by decide) (by decide) (by decide)
  have e : dv false (2 ^ 52 + 0) (((1022 : Nat) : Int) - 1075) = 1 / 2 := by
    unfold dv sg
    rw [if_neg (by decide), Rat.one_mul, Nat.add_zero, ← p2_nat, ← p2_add]
    show (2 : Rat) ^ (-1 : Int) = 1 / 2
    have := p2_half 0
    rw [Rat.zpow_zero, show (0 - 1 : Int) = -1 by decide] at this
    grind
  rw [e] at this
  exact this

theorem sclQ {a b c : Nat} {z : Cq} {s B : Rat} (h : IsQ a b z) (g : Is c s) (hB : Bd ⟨z.x * s, z.y * s⟩ B) (B1 : 1 / 1000 ≤ B) (B2 : B ≤ 1000000000000) :
    ∃ p q w, IsQ p q w ∧ Nr w ⟨z.x * s, z.y * s⟩ (eps * B) ∧ ∀ (R : Type) (k : Nat → Nat → Option R), sclK R a b c k = k p q := by
  obtain ⟨p, x, e1, i1, n1⟩ := mul_is h.1 g (big_lt' hB.1 B2)
  obtain ⟨q, y, e2, i2, n2⟩ := mul_is h.2 g (big_lt' hB.2 B2)
  exact ⟨p, q, ⟨x, y⟩, ⟨i1, i2⟩, ⟨n1.le hB.1 (low_le B1), n2.le hB.2 (low_le B1)⟩, fun R k => by unfold sclK; rw [bindF_eq e1, bindF_eq e2]⟩

/-- a map of Joukowski's of whole parts, as it lies in words -/
structure IsJ (m : Mp) (A : Cq) (a1 a2 : Int) : Prop where
  a : IsC m.a1 m.a2 a1 a2
  A : A = ⟨a1, a2⟩
  l1 : a1.natAbs ≤ 8
  l2 : a2.natAbs ≤ 8
  b1 : m.b1 = 0
  b2 : m.b2 = 0
  c1 : m.c1 = 0
  c2 : m.c2 = 0
  d1 : m.d1 = 0
  d2 : m.d2 = 0
  p : m.p = 0

theorem intQ {a b : Nat} {x y : Int} (h : IsC a b x y) : IsQ a b ⟨x, y⟩ := ⟨h.1, h.2⟩
theorem int_bd {x y : Int} {n : Nat} (h : x.natAbs ≤ n) (g : y.natAbs ≤ n) : Bd ⟨x, y⟩ n := ⟨by rw [int_abs_nat]; exact nat_cast_le h, by rw [int_abs_nat]; exact nat_cast_le g⟩
theorem bd8 {x y : Int} (h : x.natAbs ≤ 8) (g : y.natAbs ≤ 8) : Bd ⟨x, y⟩ 8 := int_bd h g
theorem sq_one {x y : Int} (h : ¬ (x = 0 ∧ y = 0)) : 1 ≤ (Cq.mk x y).n := by
  have : 1 ≤ x * x + y * y := by
    rcases Classical.em (x = 0) with rfl | hx
    · have hy : y ≠ 0 := fun hy => h ⟨rfl, hy⟩
      have := Int.natAbs_pos.2 hy
      have h2 : y * y = ((y.natAbs * y.natAbs : Nat) : Int) := by rw [Int.natCast_mul, Int.natAbs_mul_self']
      have h3 := Nat.mul_le_mul this this
      omega
    · have := Int.natAbs_pos.2 hx
      have h2 : x * x = ((x.natAbs * x.natAbs : Nat) : Int) := by rw [Int.natCast_mul, Int.natAbs_mul_self']
      have h3 := Nat.mul_le_mul this this
      have h4 : 0 ≤ y * y := by
        have h5 : y * y = ((y.natAbs * y.natAbs : Nat) : Int) := by rw [Int.natCast_mul, Int.natAbs_mul_self']
        omega
      omega
  have h2 : ((1 : Int) : Rat) ≤ ((x * x + y * y : Int) : Rat) := by exact_mod_cast this
  show 1 ≤ (x : Rat) * x + (y : Rat) * y
  have h3 : ((x * x + y * y : Int) : Rat) = (x : Rat) * x + (y : Rat) * y := by push_cast; rfl
  rw [h3] at h2
  exact h2

/-- the square of the map's number, exact -/
theorem sqrQ {m : Mp} {A : Cq} {a1 a2 : Int} (h : IsJ m A a1 a2) : ∃ p q, IsQ p q (A.mul A) ∧ ∀ (R : Type) (k : Nat → Nat → Option R), sqrK R m k = k p q := by
  obtain ⟨p, q, i, _, _, e⟩ := mulK_int (p := 8) (q := 8) h.a h.a h.l1 h.l2 h.l1 h.l2 (by decide)
  refine ⟨p, q, ?_, fun R k => by unfold sqrK sqrB; rw [e]⟩
  rw [h.A]
  have := intQ i
  push_cast at this
  exact this

theorem chk2K_yes {m : Mp} {A : Cq} {a1 a2 : Int} (h : IsJ m A a1 a2) {R : Type} (k : Int → Option R) : chk2B placeK noughtK withinK R m k = k (if a1 = 0 ∧ a2 = 0 then 180 else 0) := by
  have hz : IsC 0 0 0 0 := ⟨is_zero, is_zero⟩
  have hw : ∀ (k : Bool → Option R), withinK R 0 4787326403894837248 k = k true := fun k => withinK_int is_zero (by decide) k
  have he : eqF 0 0 = true := by rw [eqF_is is_zero is_zero]; simp
  have hp : ∀ (k : Bool → Option R), placeK R 0 0 k = k true := fun k => placeK_int hz (by decide) (by decide) k
  have hn : ∀ (k : Bool → Option R), noughtK R 0 0 k = k true := fun k => by rw [noughtK_int hz]; simp
  have l1 := h.l1
  have l2 := h.l2
  unfold chk2B chkHead
  rw [placeK_int h.a (by omega) (by omega)]
  simp only [forceB_eq, h.b1, h.b2, h.c1, h.c2, h.d1, h.d2, h.p, hp, hw, he, hn]
  rw [noughtK_int h.a]
  by_cases h0 : a1 = 0 ∧ a2 = 0
  · simp [h0]
  · simp [h0]
end Go.Vm
namespace Go.Vm
open Ieee Cq
set_option linter.unusedVariables false
set_option linter.unusedSimpArgs false

theorem is_two' : Is 4611686018427387904 ((2 : Int) : Rat) := is_two

theorem root_bd {P d : Cq} {B : Rat} (h : RootOf P d) (hd : Bd d B) (hB : 3 ≤ B) : Bd P B := by
  unfold RootOf at h
  have h1 : d.n ≤ 2 * (B * B) := n_le hd.1 hd.2
  have h2 := n_add (Cq.sub (Cq.mul P P) d) d
  rw [show Cq.add (Cq.sub (Cq.mul P P) d) d = Cq.mul P P from ext' (by simp only [Cq.add, Cq.sub]; grind) (by simp only [Cq.add, Cq.sub]; grind), n_mul] at h2
  have h0 := d.n_nonneg
  have hp := P.n_nonneg
  rw [eps_val] at h
  have h3 : P.n * P.n ≤ 9 * (B * B) := by grind
  have h4 : P.n ≤ 3 * B := by
    rcases (Rat.le_total : P.n ≤ 3 * B ∨ 3 * B ≤ P.n) with g | g
    · exact g
    · rcases (Rat.le_total : P.n ≤ 3 * B ∨ 3 * B ≤ P.n) with g2 | g2
      · exact g2
      · have h5 := Rat.mul_le_mul_of_nonneg_right g hp
        have h6 := Rat.mul_le_mul_of_nonneg_left g (show 0 ≤ 3 * B by grind)
        have h7 : (P.n - 3 * B) * (P.n + 3 * B) = 0 := by
          have := Rat.mul_nonneg (show 0 ≤ P.n - 3 * B by grind) (show 0 ≤ P.n + 3 * B by grind)
          grind
        rcases Rat.mul_eq_zero.1 h7 with h8 | h8 <;> grind
  have h5 := Rat.mul_le_mul_of_nonneg_right hB (show 0 ≤ B by grind)
  exact le_n (show 0 ≤ B by grind) (by grind)

/-- Joukowski's map, there. -/
theorem joukQ {m : Mp} {A : Cq} {a1 a2 : Int} (h : IsJ m A a1 a2) {a b : Nat} {x y : Int} (hz : IsC a b x y) (x8 : x.natAbs ≤ 8) (y8 : y.natAbs ≤ 8) (z0 : ¬ (x = 0 ∧ y = 0)) {u : Cq} {M : Rat}
    (hu : Bd u M) (M1 : 10 ≤ M) (M2 : M ≤ 128) (e : u.mul ⟨x, y⟩ = A.mul A) :
    ∃ p q W, IsQ p q W ∧ Nr W (Cq.add ⟨x, y⟩ u) (34 * (M * eps)) ∧ ∀ (R : Type) (ke : Int → Option R) (k : Nat → Nat → Option R), joukK R m a b ke k = k p q := by
  obtain ⟨p1, q1, i1, e1⟩ := sqrQ h
  have hzq := intQ hz
  have z8 := bd8 x8 y8
  have zn := sq_one z0
  have het := eps_tiny
  have he := eps_pos
  obtain ⟨p2, q2, U, i2, n2, e2⟩ := divQ i1 hzq (by grind) (z8.mono (by grind)) e hu (by grind) (by grind)
  have hMe : M * eps ≤ 1 / 1000 := by
    have := Rat.mul_le_mul_of_nonneg_right M2 (Rat.le_of_lt he)
    grind
  have bU := n2.bd hu
  obtain ⟨p3, q3, W, i3, n3, e3⟩ := addQ hzq i2 (B := 2 * M) ((z8.add bU).mono (by grind)) (by grind) (by grind)
  refine ⟨p3, q3, W, i3, (n3.trans ((Nr.refl _).add n2)).mono (by grind), fun R ke k => ?_⟩
  unfold joukK joukB
  rw [noughtQ hzq (by grind), forceB_eq]
  simp only
  rw [e1, e2, e3]

/-- the last steps of the way back -/
theorem jback_end {w1 w2 s1 s2 : Nat} {z u W s : Cq} (iw : IsQ w1 w2 W) (is' : IsQ s1 s2 s) (bW : Bd W 150) (bs : Bd s 150) (zn : 1 ≤ z.n)
    (hW : (Cq.sub W (Cq.add z u)).n ≤ 38000000 * (eps * eps)) (hs : (Cq.sub s (Cq.sub z u)).n ≤ 160000 * eps ∨ (Cq.add s (Cq.sub z u)).n ≤ 160000 * eps) (hd : -(1 / 1000) ≤ dot W s) :
    ∃ p q b, IsQ p q b ∧ Bd b 1000 ∧ ((Cq.sub b z).n ≤ 120001 * eps ∨ ((Cq.sub b u).n ≤ 120001 * eps ∧ 48 / 100 * z.n ≤ b.n)) ∧
      ∀ (R : Type) (k : Nat → Nat → Option R), (addK R w1 w2 s1 s2 fun x y => sclK R x y 4602678819172646912 k) = k p q := by
  have het := eps_tiny
  have he := eps_pos
  obtain ⟨p1, q1, v, i1, n1, e1⟩ := addQ iw is' (B := 300) ((bW.add bs).mono (by grind)) (by grind) (by grind)
  have bv := n1.bd (bW.add bs)
  have bv2 : Bd ⟨v.x * (1 / 2), v.y * (1 / 2)⟩ 300 := ⟨by
      show (v.x * (1 / 2)).abs ≤ 300
      rw [abs_mul, Rat.abs_of_nonneg (show (0 : Rat) ≤ 1 / 2 by grind)]; have := bv.1; grind, by
      show (v.y * (1 / 2)).abs ≤ 300
      rw [abs_mul, Rat.abs_of_nonneg (show (0 : Rat) ≤ 1 / 2 by grind)]; have := bv.2; grind⟩
  obtain ⟨p2, q2, b, i2, n2, e2⟩ := sclQ i1 is_half bv2 (by grind) (by grind)
  have n3 : Nr (Cq.add b b) (Cq.add W s) (900 * eps) := by
    have h := (n2.add n2).trans (show Nr (Cq.add ⟨v.x * (1 / 2), v.y * (1 / 2)⟩ ⟨v.x * (1 / 2), v.y * (1 / 2)⟩) (Cq.add W s) (eps * 300) from by
      have : Cq.add ⟨v.x * (1 / 2), v.y * (1 / 2)⟩ ⟨v.x * (1 / 2), v.y * (1 / 2)⟩ = v := ext' (by simp only [Cq.add]; grind) (by simp only [Cq.add]; grind)
      rw [this]; exact n1)
    exact h.mono (by grind)
  have hb : (Cq.sub (Cq.add b b) (Cq.add W s)).n ≤ 8000000 * (eps * eps) := by
    have := n3.n
    have := Rat.mul_nonneg (Rat.le_of_lt he) (Rat.le_of_lt he)
    grind
  refine ⟨p2, q2, b, i2, (n2.bd bv2).mono (by grind), ?_, fun R k => by rw [e1, e2]⟩
  rcases hs with g | g
  · exact .inl (jouk_half hW hb g)
  · exact .inr ⟨jouk_half' hW hb g, jouk_long zn hW hb g hd⟩

/-- Joukowski's map, back. -/
theorem jbackQ {m : Mp} {A : Cq} {a1 a2 : Int} (h : IsJ m A a1 a2) {w1 w2 : Nat} {z u W : Cq} {M : Rat} (iw : IsQ w1 w2 W) (z8 : Bd z 8) (zn : 1 ≤ z.n) (hu : Bd u M) (e : u.mul z = A.mul A)
    (hW : Nr W (Cq.add z u) (34 * (M * eps))) (hM : (M = 10 ∧ (Cq.sub z u).n ≤ 1) ∨ (M = 128 ∧ 1 ≤ (Cq.sub z u).n)) :
    ∃ p q b, IsQ p q b ∧ Bd b 1000 ∧ ((Cq.sub b z).n ≤ 120001 * eps ∨ ((Cq.sub b u).n ≤ 120001 * eps ∧ 48 / 100 * z.n ≤ b.n)) ∧
      ∀ (R : Type) (ke : Int → Option R) (k : Nat → Nat → Option R), jbackK R m w1 w2 ke k = k p q := by
  have het := eps_tiny
  have he := eps_pos
  have hee := Rat.mul_nonneg (Rat.le_of_lt he) (Rat.le_of_lt he)
  have M1 : 10 ≤ M := by rcases hM with g | g <;> grind
  have M2 : M ≤ 128 := by rcases hM with g | g <;> grind
  have hMe : M * eps ≤ 1 / 1000 := by
    have := Rat.mul_le_mul_of_nonneg_right M2 (Rat.le_of_lt he)
    grind
  -- twice the number
  obtain ⟨f1, ef1, if1⟩ := mul_int h.a.1 is_two' (by have := h.l1; omega)
  obtain ⟨f2, ef2, if2⟩ := mul_int h.a.2 is_two' (by have := h.l2; omega)
  have iF : IsQ f1 f2 ⟨((a1 * 2 : Int) : Rat), ((a2 * 2 : Int) : Rat)⟩ := ⟨if1, if2⟩
  have bF : Bd ⟨((a1 * 2 : Int) : Rat), ((a2 * 2 : Int) : Rat)⟩ 16 := int_bd (n := 16) (by have := h.l1; omega) (by have := h.l2; omega)
  have eF : Cq.mul ⟨((a1 * 2 : Int) : Rat), ((a2 * 2 : Int) : Rat)⟩ ⟨((a1 * 2 : Int) : Rat), ((a2 * 2 : Int) : Rat)⟩ = Cq.mul ⟨4, 0⟩ (Cq.mul u z) := by
    rw [e, h.A]
    push_cast
    exact ext' (by simp only [Cq.mul]; grind) (by simp only [Cq.mul]; grind)
  generalize Cq.mk ((a1 * 2 : Int) : Rat) ((a2 * 2 : Int) : Rat) = F at *
  have bW := hW.bd (z8.add hu)
  have bw0 := z8.add hu
  obtain ⟨d1, d2, d, id, nd, ed⟩ := subQ iw iF (B := 4 * M) ((bW.sub bF).mono (by grind)) (by grind) (by grind)
  obtain ⟨g1, g2, g, ig, ng, eg⟩ := addQ iw iF (B := 4 * M) ((bW.add bF).mono (by grind)) (by grind) (by grind)
  have nd' : Nr d (Cq.sub (Cq.add z u) F) (38 * (M * eps)) := (nd.trans (hW.sub (Nr.refl F))).mono (by grind)
  have ng' : Nr g (Cq.add (Cq.add z u) F) (38 * (M * eps)) := (ng.trans (hW.add (Nr.refl F))).mono (by grind)
  have bd : Bd d (4 * M) := (nd'.bd (bw0.sub bF)).mono (by grind)
  have bg : Bd g (4 * M) := (ng'.bd (bw0.add bF)).mono (by grind)
  obtain ⟨r1, r2, P1, ip1, rp1, ep1⟩ := rootQ id (bd.mono (by grind))
  obtain ⟨r3, r4, P2, ip2, rp2, ep2⟩ := rootQ ig (bg.mono (by grind))
  have bp1 := root_bd rp1 bd (by grind)
  have bp2 := root_bd rp2 bg (by grind)
  have hMM : M * M ≤ 16384 := by
    have := Cq.mul_le (show 0 ≤ M by grind) M2 (show 0 ≤ M by grind) M2
    grind
  have hMM1 : 10 ≤ M * M := by
    have := Cq.mul_le (show (0 : Rat) ≤ 10 by decide) M1 (show (0 : Rat) ≤ 10 by decide) M1
    grind
  obtain ⟨s1, s2, s, is', ns, es⟩ := mulQ ip1 ip2 bp1 bp2 (B := 4 * M * (4 * M)) Rat.le_refl (by grind) (by grind)
  have idd : Cq.mul (Cq.sub z u) (Cq.sub z u) = Cq.sub (Cq.mul (Cq.add z u) (Cq.add z u)) (Cq.mul F F) := by
    rw [eF]
    exact ext' (by simp only [Cq.mul, Cq.sub, Cq.add]; grind) (by simp only [Cq.mul, Cq.sub, Cq.add]; grind)
  have alt : (Cq.sub s (Cq.sub z u)).n ≤ 160000 * eps ∨ (Cq.add s (Cq.sub z u)).n ≤ 160000 * eps := by
    rcases hM with ⟨hM, hX⟩ | ⟨hM, hX⟩
    · subst hM
      refine jouk_small idd hX (by have := nd'.n; grind) (by have := ng'.n; grind) ?_ ?_ rp1 rp2 (by have := ns.n; grind)
      · have := n_le (bw0.sub bF).1 (bw0.sub bF).2; grind
      · have := n_le (bw0.add bF).1 (bw0.add bF).2; grind
    · subst hM
      refine jouk_far idd hX ?_ (by have := nd'.n; grind) (by have := ng'.n; grind) ?_ ?_ rp1 rp2 (by have := ns.n; grind)
      · have := n_le (z8.sub hu).1 (z8.sub hu).2; grind
      · have := n_le (bw0.sub bF).1 (bw0.sub bF).2; grind
      · have := n_le (bw0.add bF).1 (bw0.add bF).2; grind
  have bs : Bd s 138 := by
    rcases alt with k | k
    · have k1 := le_n (show (0 : Rat) ≤ 1 by decide) (Rat.le_trans k (show 160000 * eps ≤ 1 * 1 by grind))
      have k2 := Bd.add (a := Cq.sub s (Cq.sub z u)) (m := 1) ⟨k1.1, k1.2⟩ (z8.sub hu)
      rw [show Cq.add (Cq.sub s (Cq.sub z u)) (Cq.sub z u) = s from ext' (by simp only [Cq.add, Cq.sub]; grind) (by simp only [Cq.add, Cq.sub]; grind)] at k2
      exact k2.mono (by grind)
    · have k1 := le_n (show (0 : Rat) ≤ 1 by decide) (Rat.le_trans k (show 160000 * eps ≤ 1 * 1 by grind))
      have k2 := Bd.sub (a := Cq.add s (Cq.sub z u)) (m := 1) ⟨k1.1, k1.2⟩ (z8.sub hu)
      rw [show Cq.sub (Cq.add s (Cq.sub z u)) (Cq.sub z u) = s from ext' (by simp only [Cq.add, Cq.sub]; grind) (by simp only [Cq.add, Cq.sub]; grind)] at k2
      exact k2.mono (by grind)
  have bW' : Bd W 138 := bW.mono (by grind)
  -- the sign
  have t1 := abs_mul_le bW'.1 bs.1
  have t2 := abs_mul_le bW'.2 bs.2
  obtain ⟨x1, v1, ex1, ix1, nx1⟩ := mul_is iw.1 is'.1 (big_lt' t1 (by grind))
  obtain ⟨x2, v2, ex2, ix2, nx2⟩ := mul_is iw.2 is'.2 (big_lt' t2 (by grind))
  have c1 := nx1.le t1 (low_le (by grind))
  have c2 := nx2.le t2 (low_le (by grind))
  have t3 : (v1 + v2).abs ≤ 40000 := by
    have a1 := abs_near c1
    have a2 := abs_near c2
    have a3 := abs_add_le v1 v2
    grind
  obtain ⟨x3, v3, ex3, ix3, nx3⟩ := add_is ix1 ix2 (big_lt' t3 (by grind))
  have c3 := nx3.le t3 (low_le (by grind))
  have cd : (v3 - dot W s).abs ≤ 1 / 1000 := by
    have a1 := abs_add_le (v3 - (v1 + v2)) (v1 - W.x * s.x)
    have a2 := abs_add_le (v3 - (v1 + v2) + (v1 - W.x * s.x)) (v2 - W.y * s.y)
    rw [show v3 - (v1 + v2) + (v1 - W.x * s.x) + (v2 - W.y * s.y) = v3 - dot W s by unfold dot; grind] at a2
    grind
  obtain ⟨cd1, cd2⟩ := abs_le_iff.1 cd
  have hWn : (Cq.sub W (Cq.add z u)).n ≤ 38000000 * (eps * eps) := by
    have k1 := hW.n
    have k2 := Rat.mul_le_mul_of_nonneg_right hMM hee
    have k3 : 34 * (M * eps) * (34 * (M * eps)) = 1156 * (M * M * (eps * eps)) := by grind
    rw [k3] at k1
    grind
  have hrun : ∀ (R : Type) (ke : Int → Option R) (k : Nat → Nat → Option R), jbackK R m w1 w2 ke k = (match decide (v3 < 0) with
      | true => negK R s1 s2 fun s1 s2 => addK R w1 w2 s1 s2 fun x y => sclK R x y 4602678819172646912 k
      | false => addK R w1 w2 s1 s2 fun x y => sclK R x y 4602678819172646912 k) := fun R ke k => by
    unfold jbackK joukBackB
    have hscl : ∀ k, sclK R m.a1 m.a2 4611686018427387904 k = k f1 f2 := fun k => by unfold sclK; rw [bindF_eq ef1, bindF_eq ef2]
    rw [hscl, ed, ep1, eg, ep2, es, bindF_eq ex1, bindF_eq ex2, bindF_eq ex3, forceB_eq, ltF_is ix3 is0]
    cases decide (v3 < 0) <;> rfl
  by_cases hneg : v3 < 0
  · obtain ⟨n1, n2, inn, en⟩ := negQ is'
    obtain ⟨p, q, b, ib, bb, hb, eb⟩ := jback_end iw inn (bW'.mono (by grind)) ((bs.neg).mono (by grind)) zn hWn (by
      rcases alt with k | k
      · right
        rw [show Cq.add s.neg (Cq.sub z u) = (Cq.sub s (Cq.sub z u)).neg from ext' (by simp only [Cq.add, Cq.sub, Cq.neg]; grind) (by simp only [Cq.add, Cq.sub, Cq.neg]; grind), n_neg]; exact k
      · left
        rw [show Cq.sub s.neg (Cq.sub z u) = (Cq.add s (Cq.sub z u)).neg from ext' (by simp only [Cq.add, Cq.sub, Cq.neg]; grind) (by simp only [Cq.add, Cq.sub, Cq.neg]; grind), n_neg]; exact k)
      (by
        have : dot W s.neg = -dot W s := by unfold dot Cq.neg; grind
        rw [this]; grind)
    refine ⟨p, q, b, ib, bb, hb, fun R ke k => ?_⟩
    rw [hrun]
    simp only [hneg, decide_true]
    rw [en, eb]
  · obtain ⟨p, q, b, ib, bb, hb, eb⟩ := jback_end iw is' (bW'.mono (by grind)) (bs.mono (by grind)) zn hWn alt (by grind)
    refine ⟨p, q, b, ib, bb, hb, fun R ke k => ?_⟩
    rw [hrun]
    simp only [hneg, decide_false]
    rw [eb]
end Go.Vm
