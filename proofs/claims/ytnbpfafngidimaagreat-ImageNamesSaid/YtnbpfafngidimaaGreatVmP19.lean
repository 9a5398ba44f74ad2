/- The parts of Joukowski's map on words; no conditions. Joukowski's map on words, there and back; no conditions. Of Joukowski's map one of both ways back comes near; no conditions. A Moebius map on words, there and back; no conditions. What ChartThere computes is true for each map and places; no conditions. The program's small functions compute what the Lean functions tell; no conditions. The program's chart functions compute what the Lean functions tell; no conditions. The program's ChartGroup computes what the Lean function tells; no conditions. A call of ChartGroup returns true and leaves alone what was there; no conditions. -/
import Derived.Test.YtnbpfafngidimaaGreatVmP12
import Derived.Test.YtnbpfafngidimaaGreatVmLP
import Derived.Test.YtnbpfafngidimaaGreatProg
import Derived.Test.YtnbpfafngidimaaGreatVmKC
import Derived.Test.YtnbpfafngidimaaGreatVmLS
namespace Go.Vm
open Ieee Cq
set_option linter.unusedVariables false
set_option linter.unusedSimpArgs false

def sqrK : KMC := sqrB mulK
def joukK : KMZ := joukB noughtK sqrK divK addK
def mbackK : KMZ := moebBackB noughtK mulK subK divK
def jbackK : KMZ := joukBackB sclK mulK subK addK negK rootK
def jotherK : KMZ := joukOtherB jbackK sqrK divK

theorem is_half : Is 4602678819172646912 (1 / 2) := by
  have := fields_is (s := false) (E := 1022) (f := 0) (by decide) (by decide) (by decide)
  have e : dv false (2 ^ 52 + 0) (((1022 : Nat) : Int) - 1075) = 1 / 2 := by
    unfold dv sg
    rw [if_neg (by decide), Rat.one_mul, Nat.add_zero, ← p2_nat, ← p2_add]
    show (2 : Rat) ^ (-1 : Int) = 1 / 2
    have := p2_half 0
    rw [Rat.zpow_zero, show (0 - 1 : Int) = -1 by decide] at this
    grind
  rw [e] at this
  exact this

theorem sclQ {a b c : Nat} {z : Cq} {s B : Rat} (h : IsQ a b z) (g : Is c s) (hB : Bd ⟨z.x * s, z.y * s⟩ B) (B1 : 1 / 1000 ≤ B) (B2 : B ≤ 1000000000000) :
    ∃ p q w, IsQ p q w ∧ Nr w ⟨z.x * s, z.y * s⟩ (eps * B) ∧ ∀ (R : Type) (k : Nat → Nat → Option R), sclK R a b c k = k p q := by
  obtain ⟨p, x, e1, i1, n1⟩ := mul_is h.1 g (big_lt' hB.1 B2)
  obtain ⟨q, y, e2, i2, n2⟩ := mul_is h.2 g (big_lt' hB.2 B2)
  exact ⟨p, q, ⟨x, y⟩, ⟨i1, i2⟩, ⟨n1.le hB.1 (low_le B1), n2.le hB.2 (low_le B1)⟩, fun R k => by unfold sclK; rw [bindF_eq e1, bindF_eq e2]⟩

/-- a map of Joukowski's of whole parts, as it lies in words -/
structure IsJ (m : Mp) (A : Cq) (a1 a2 : Int) : Prop where
  a : IsC m.a1 m.a2 a1 a2
  A : A = ⟨a1, a2⟩
  l1 : a1.natAbs ≤ 8
  l2 : a2.natAbs ≤ 8
  b1 : m.b1 = 0
  b2 : m.b2 = 0
  c1 : m.c1 = 0
  c2 : m.c2 = 0
  d1 : m.d1 = 0
  d2 : m.d2 = 0
  p : m.p = 0

theorem intQ {a b : Nat} {x y : Int} (h : IsC a b x y) : IsQ a b ⟨x, y⟩ := ⟨h.1, h.2⟩
theorem int_bd {x y : Int} {n : Nat} (h : x.natAbs ≤ n) (g : y.natAbs ≤ n) : Bd ⟨x, y⟩ n := ⟨by rw [int_abs_nat]; exact nat_cast_le h, by rw [int_abs_nat]; exact nat_cast_le g⟩
theorem bd8 {x y : Int} (h : x.natAbs ≤ 8) (g : y.natAbs ≤ 8) : Bd ⟨x, y⟩ 8 := int_bd h g
theorem sq_one {x y : Int} (h : ¬ (x = 0 ∧ y = 0)) : 1 ≤ (Cq.mk x y).n := by
  have : 1 ≤ x * x + y * y := by
    rcases Classical.em (x = 0) with rfl | hx
    · have hy : y ≠ 0 := fun hy => h ⟨rfl, hy⟩
      have := Int.natAbs_pos.2 hy
      have h2 : y * y = ((y.natAbs * y.natAbs : Nat) : Int) := by rw [Int.natCast_mul, Int.natAbs_mul_self']
      have h3 := Nat.mul_le_mul this this
      omega
    · have := Int.natAbs_pos.2 hx
      have h2 : x * x = ((x.natAbs * x.natAbs : Nat) : Int) := by rw [Int.natCast_mul, Int.natAbs_mul_self']
      have h3 := Nat.mul_le_mul this this
      have h4 : 0 ≤ y * y := by
        have h5 : y * y = ((y.natAbs * y.natAbs : Nat) : Int) := by rw [Int.natCast_mul, Int.natAbs_mul_self']
        omega
      omega
  have h2 : ((1 : Int) : Rat) ≤ ((x * x + y * y : Int) : Rat) := by exact_mod_cast this
  show 1 ≤ (x : Rat) * x + (y : Rat) * y
  have h3 : ((x * x + y * y : Int) : Rat) = (x : Rat) * x + (y : Rat) * y := by push_cast; rfl
  rw [h3] at h2
  exact h2

/-- the square of the map's number, exact -/
theorem sqrQ {m : Mp} {A : Cq} {a1 a2 : Int} (h : IsJ m A a1 a2) : ∃ p q, IsQ p q (A.mul A) ∧ ∀ (R : Type) (k : Nat → Nat → Option R), sqrK R m k = k p q := by
  obtain ⟨p, q, i, _, _, e⟩ := mulK_int (p := 8) (q := 8) h.a h.a h.l1 h.l2 h.l1 h.l2 (by decide)
  refine ⟨p, q, ?_, fun R k => by unfold sqrK sqrB; rw [e]⟩
  rw [h.A]
  have := intQ i
  push_cast at this
  exact this

theorem chk2K_yes {m : Mp} {A : Cq} {a1 a2 : Int} (h : IsJ m A a1 a2) {R : Type} (k : Int → Option R) : chk2B placeK noughtK withinK R m k = k (if a1 = 0 ∧ a2 = 0 then 180 else 0) := by
  have hz : IsC 0 0 0 0 := ⟨is_zero, is_zero⟩
  have hw : ∀ (k : Bool → Option R), withinK R 0 4787326403894837248 k = k true := fun k => withinK_int is_zero (by decide) k
  have he : eqF 0 0 = true := by rw [eqF_is is_zero is_zero]; simp
  have hp : ∀ (k : Bool → Option R), placeK R 0 0 k = k true := fun k => placeK_int hz (by decide) (by decide) k
  have hn : ∀ (k : Bool → Option R), noughtK R 0 0 k = k true := fun k => by rw [noughtK_int hz]; simp
  have l1 := h.l1
  have l2 := h.l2
  unfold chk2B chkHead
  rw [placeK_int h.a (by omega) (by omega)]
  simp only [forceB_eq, h.b1, h.b2, h.c1, h.c2, h.d1, h.d2, h.p, hp, hw, he, hn]
  rw [noughtK_int h.a]
  by_cases h0 : a1 = 0 ∧ a2 = 0
  · simp [h0]
  · simp [h0]
end Go.Vm
namespace Go.Vm
open Ieee Cq
set_option linter.unusedVariables false
set_option linter.unusedSimpArgs false

theorem is_two' : Is 4611686018427387904 ((2 : Int) : Rat) := is_two

theorem root_bd {P d : Cq} {B : Rat} (h : RootOf P d) (hd : Bd d B) (hB : 3 ≤ B) : Bd P B := by
  unfold RootOf at h
  have h1 : d.n ≤ 2 * (B * B) := n_le hd.1 hd.2
  have h2 := n_add (Cq.sub (Cq.mul P P) d) d
  rw [show Cq.add (Cq.sub (Cq.mul P P) d) d = Cq.mul P P from ext' (by simp only [Cq.add, Cq.sub]; grind) (by simp only [Cq.add, Cq.sub]; grind), n_mul] at h2
  have h0 := d.n_nonneg
  have hp := P.n_nonneg
  rw [eps_val] at h
  have h3 : P.n * P.n ≤ 9 * (B * B) := by grind
  have h4 : P.n ≤ 3 * B := by
    rcases (Rat.le_total : P.n ≤ 3 * B ∨ 3 * B ≤ P.n) with g | g
    · exact g
    · rcases (Rat.le_total : P.n ≤ 3 * B ∨ 3 * B ≤ P.n) with g2 | g2
      · exact g2
      · have h5 := Rat.mul_le_mul_of_nonneg_right g hp
        have h6 := Rat.mul_le_mul_of_nonneg_left g (show 0 ≤ 3 * B by grind)
        have h7 : (P.n - 3 * B) * (P.n + 3 * B) = 0 := by
          have := Rat.mul_nonneg (show 0 ≤ P.n - 3 * B by grind) (show 0 ≤ P.n + 3 * B by grind)
          grind
        rcases Rat.mul_eq_zero.1 h7 with h8 | h8 <;> grind
  have h5 := Rat.mul_le_mul_of_nonneg_right hB (show 0 ≤ B by grind)
  exact le_n (show 0 ≤ B by grind) (by grind)

/-- Joukowski's map, there. -/
theorem joukQ {m : Mp} {A : Cq} {a1 a2 : Int} (h : IsJ m A a1 a2) {a b : Nat} {x y : Int} (hz : IsC a b x y) (x8 : x.natAbs ≤ 8) (y8 : y.natAbs ≤ 8) (z0 : ¬ (x = 0 ∧ y = 0)) {u : Cq} {M : Rat}
    (hu : Bd u M) (M1 : 10 ≤ M) (M2 : M ≤ 128) (e : u.mul ⟨x, y⟩ = A.mul A) :
    ∃ p q W, IsQ p q W ∧ Nr W (Cq.add ⟨x, y⟩ u) (34 * (M * eps)) ∧ ∀ (R : Type) (ke : Int → Option R) (k : Nat → Nat → Option R), joukK R m a b ke k = k p q := by
  obtain ⟨p1, q1, i1, e1⟩ := sqrQ h
  have hzq := intQ hz
  have z8 := bd8 x8 y8
  have zn := sq_one z0
  have het := eps_tiny
  have he := eps_pos
  obtain ⟨p2, q2, U, i2, n2, e2⟩ := divQ i1 hzq (by grind) (z8.mono (by grind)) e hu (by grind) (by grind)
  have hMe : M * eps ≤ 1 / 1000 := by
    have := Rat.mul_le_mul_of_nonneg_right M2 (Rat.le_of_lt he)
    grind
  have bU := n2.bd hu
  obtain ⟨p3, q3, W, i3, n3, e3⟩ := addQ hzq i2 (B := 2 * M) ((z8.add bU).mono (by grind)) (by grind) (by grind)
  refine ⟨p3, q3, W, i3, (n3.trans ((Nr.refl _).add n2)).mono (by grind), fun R ke k => ?_⟩
  unfold joukK joukB
  rw [noughtQ hzq (by grind), forceB_eq]
  simp only
  rw [e1, e2, e3]

/-- the last steps of the way back -/
theorem jback_end {w1 w2 s1 s2 : Nat} {z u W s : Cq} (iw : IsQ w1 w2 W) (is' : IsQ s1 s2 s) (bW : Bd W 150) (bs : Bd s 150) (zn : 1 ≤ z.n)
    (hW : (Cq.sub W (Cq.add z u)).n ≤ 38000000 * (eps * eps)) (hs : (Cq.sub s (Cq.sub z u)).n ≤ 160000 * eps ∨ (Cq.add s (Cq.sub z u)).n ≤ 160000 * eps) (hd : -(1 / 1000) ≤ dot W s) :
    ∃ p q b, IsQ p q b ∧ Bd b 1000 ∧ ((Cq.sub b z).n ≤ 120001 * eps ∨ ((Cq.sub b u).n ≤ 120001 * eps ∧ 48 / 100 * z.n ≤ b.n)) ∧
      ∀ (R : Type) (k : Nat → Nat → Option R), (addK R w1 w2 s1 s2 fun x y => sclK R x y 4602678819172646912 k) = k p q := by
  have het := eps_tiny
  have he := eps_pos
  obtain ⟨p1, q1, v, i1, n1, e1⟩ := addQ iw is' (B := 300) ((bW.add bs).mono (by grind)) (by grind) (by grind)
  have bv := n1.bd (bW.add bs)
  have bv2 : Bd ⟨v.x * (1 / 2), v.y * (1 / 2)⟩ 300 := ⟨by
      show (v.x * (1 / 2)).abs ≤ 300
      rw [abs_mul, Rat.abs_of_nonneg (show (0 : Rat) ≤ 1 / 2 by grind)]; have := bv.1; grind, by
      show (v.y * (1 / 2)).abs ≤ 300
      rw [abs_mul, Rat.abs_of_nonneg (show (0 : Rat) ≤ 1 / 2 by grind)]; have := bv.2; grind⟩
  obtain ⟨p2, q2, b, i2, n2, e2⟩ := sclQ i1 is_half bv2 (by grind) (by grind)
  have n3 : Nr (Cq.add b b) (Cq.add W s) (900 * eps) := by
    have h := (n2.add n2).trans (show Nr (Cq.add ⟨v.x * (1 / 2), v.y * (1 / 2)⟩ ⟨v.x * (1 / 2), v.y * (1 / 2)⟩) (Cq.add W s) (eps * 300) from by
      have : Cq.add ⟨v.x * (1 / 2), v.y * (1 / 2)⟩ ⟨v.x * (1 / 2), v.y * (1 / 2)⟩ = v := ext' (by simp only [Cq.add]; grind) (by simp only [Cq.add]; grind)
      rw [this]; exact n1)
    exact h.mono (by grind)
  have hb : (Cq.sub (Cq.add b b) (Cq.add W s)).n ≤ 8000000 * (eps * eps) := by
    have := n3.n
    have := Rat.mul_nonneg (Rat.le_of_lt he) (Rat.le_of_lt he)
    grind
  refine ⟨p2, q2, b, i2, (n2.bd bv2).mono (by grind), ?_, fun R k => by rw [e1, e2]⟩
  rcases hs with g | g
  · exact .inl (jouk_half hW hb g)
  · exact .inr ⟨jouk_half' hW hb g, jouk_long zn hW hb g hd⟩

/-- Joukowski's map, back. -/
theorem jbackQ {m : Mp} {A : Cq} {a1 a2 : Int} (h : IsJ m A a1 a2) {w1 w2 : Nat} {z u W : Cq} {M : Rat} (iw : IsQ w1 w2 W) (z8 : Bd z 8) (zn : 1 ≤ z.n) (hu : Bd u M) (e : u.mul z = A.mul A)
    (hW : Nr W (Cq.add z u) (34 * (M * eps))) (hM : (M = 10 ∧ (Cq.sub z u).n ≤ 1) ∨ (M = 128 ∧ 1 ≤ (Cq.sub z u).n)) :
    ∃ p q b, IsQ p q b ∧ Bd b 1000 ∧ ((Cq.sub b z).n ≤ 120001 * eps ∨ ((Cq.sub b u).n ≤ 120001 * eps ∧ 48 / 100 * z.n ≤ b.n)) ∧
      ∀ (R : Type) (ke : Int → Option R) (k : Nat → Nat → Option R), jbackK R m w1 w2 ke k = k p q := by
  have het := eps_tiny
  have he := eps_pos
  have hee := Rat.mul_nonneg (Rat.le_of_lt he) (Rat.le_of_lt he)
  have M1 : 10 ≤ M := by rcases hM with g | g <;> grind
  have M2 : M ≤ 128 := by rcases hM with g | g <;> grind
  have hMe : M * eps ≤ 1 / 1000 := by
    have := Rat.mul_le_mul_of_nonneg_right M2 (Rat.le_of_lt he)
    grind
  -- twice the number
  obtain ⟨f1, ef1, if1⟩ := mul_int h.a.1 is_two' (by have := h.l1; omega)
  obtain ⟨f2, ef2, if2⟩ := mul_int h.a.2 is_two' (by have := h.l2; omega)
  have iF : IsQ f1 f2 ⟨((a1 * 2 : Int) : Rat), ((a2 * 2 : Int) : Rat)⟩ := ⟨if1, if2⟩
  have bF : Bd ⟨((a1 * 2 : Int) : Rat), ((a2 * 2 : Int) : Rat)⟩ 16 := int_bd (n := 16) (by have := h.l1; omega) (by have := h.l2; omega)
  have eF : Cq.mul ⟨((a1 * 2 : Int) : Rat), ((a2 * 2 : Int) : Rat)⟩ ⟨((a1 * 2 : Int) : Rat), ((a2 * 2 : Int) : Rat)⟩ = Cq.mul ⟨4, 0⟩ (Cq.mul u z) := by
    rw [e, h.A]
    push_cast
    exact ext' (by simp only [Cq.mul]; grind) (by simp only [Cq.mul]; grind)
  generalize Cq.mk ((a1 * 2 : Int) : Rat) ((a2 * 2 : Int) : Rat) = F at *
  have bW := hW.bd (z8.add hu)
  have bw0 := z8.add hu
  obtain ⟨d1, d2, d, id, nd, ed⟩ := subQ iw iF (B := 4 * M) ((bW.sub bF).mono (by grind)) (by grind) (by grind)
  obtain ⟨g1, g2, g, ig, ng, eg⟩ := addQ iw iF (B := 4 * M) ((bW.add bF).mono (by grind)) (by grind) (by grind)
  have nd' : Nr d (Cq.sub (Cq.add z u) F) (38 * (M * eps)) := (nd.trans (hW.sub (Nr.refl F))).mono (by grind)
  have ng' : Nr g (Cq.add (Cq.add z u) F) (38 * (M * eps)) := (ng.trans (hW.add (Nr.refl F))).mono (by grind)
  have bd : Bd d (4 * M) := (nd'.bd (bw0.sub bF)).mono (by grind)
  have bg : Bd g (4 * M) := (ng'.bd (bw0.add bF)).mono (by grind)
  obtain ⟨r1, r2, P1, ip1, rp1, ep1⟩ := rootQ id (bd.mono (by grind))
  obtain ⟨r3, r4, P2, ip2, rp2, ep2⟩ := rootQ ig (bg.mono (by grind))
  have bp1 := root_bd rp1 bd (by grind)
  have bp2 := root_bd rp2 bg (by grind)
  have hMM : M * M ≤ 16384 := by
    have := Cq.mul_le (show 0 ≤ M by grind) M2 (show 0 ≤ M by grind) M2
    grind
  have hMM1 : 10 ≤ M * M := by
    have := Cq.mul_le (show (0 : Rat) ≤ 10 by decide) M1 (show (0 : Rat) ≤ 10 by decide) M1
    grind
  obtain ⟨s1, s2, s, is', ns, es⟩ := mulQ ip1 ip2 bp1 bp2 (B := 4 * M * (4 * M)) Rat.le_refl (by grind) (by grind)
  have idd : Cq.mul (Cq.sub z u) (Cq.sub z u) = Cq.sub (Cq.mul (Cq.add z u) (Cq.add z u)) (Cq.mul F F) := by
    rw [eF]
    exact ext' (by simp only [Cq.mul, Cq.sub, Cq.add]; grind) (by simp only [Cq.mul, Cq.sub, Cq.add]; grind)
  have alt : (Cq.sub s (Cq.sub z u)).n ≤ 160000 * eps ∨ (Cq.add s (Cq.sub z u)).n ≤ 160000 * eps := by
    rcases hM with ⟨hM, hX⟩ | ⟨hM, hX⟩
    · subst hM
      refine jouk_small idd hX (by have := nd'.n; grind) (by have := ng'.n; grind) ?_ ?_ rp1 rp2 (by have := ns.n; grind)
      · have := n_le (bw0.sub bF).1 (bw0.sub bF).2; grind
      · have := n_le (bw0.add bF).1 (bw0.add bF).2; grind
    · subst hM
      refine jouk_far idd hX ?_ (by have := nd'.n; grind) (by have := ng'.n; grind) ?_ ?_ rp1 rp2 (by have := ns.n; grind)
      · have := n_le (z8.sub hu).1 (z8.sub hu).2; grind
      · have := n_le (bw0.sub bF).1 (bw0.sub bF).2; grind
      · have := n_le (bw0.add bF).1 (bw0.add bF).2; grind
  have bs : Bd s 138 := by
    rcases alt with k | k
    · have k1 := le_n (show (0 : Rat) ≤ 1 by decide) (Rat.le_trans k (show 160000 * eps ≤ 1 * 1 by grind))
      have k2 := Bd.add (a := Cq.sub s (Cq.sub z u)) (m := 1) ⟨k1.1, k1.2⟩ (z8.sub hu)
      rw [show Cq.add (Cq.sub s (Cq.sub z u)) (Cq.sub z u) = s from ext' (by simp only [Cq.add, Cq.sub]; grind) (by simp only [Cq.add, Cq.sub]; grind)] at k2
      exact k2.mono (by grind)
    · have k1 := le_n (show (0 : Rat) ≤ 1 by decide) (Rat.le_trans k (show 160000 * eps ≤ 1 * 1 by grind))
      have k2 := Bd.sub (a := Cq.add s (Cq.sub z u)) (m := 1) ⟨k1.1, k1.2⟩ (z8.sub hu)
      rw [show Cq.sub (Cq.add s (Cq.sub z u)) (Cq.sub z u) = s from ext' (by simp only [Cq.add, Cq.sub]; grind) (by simp only [Cq.add, Cq.sub]; grind)] at k2
      exact k2.mono (by grind)
  have bW' : Bd W 138 := bW.mono (by grind)
  -- the sign
  have t1 := abs_mul_le bW'.1 bs.1
  have t2 := abs_mul_le bW'.2 bs.2
  obtain ⟨x1, v1, ex1, ix1, nx1⟩ := mul_is iw.1 is'.1 (big_lt' t1 (by grind))
  obtain ⟨x2, v2, ex2, ix2, nx2⟩ := mul_is iw.2 is'.2 (big_lt' t2 (by grind))
  have c1 := nx1.le t1 (low_le (by grind))
  have c2 := nx2.le t2 (low_le (by grind))
  have t3 : (v1 + v2).abs ≤ 40000 := by
    have a1 := abs_near c1
    have a2 := abs_near c2
    have a3 := abs_add_le v1 v2
    grind
  obtain ⟨x3, v3, ex3, ix3, nx3⟩ := add_is ix1 ix2 (big_lt' t3 (by grind))
  have c3 := nx3.le t3 (low_le (by grind))
  have cd : (v3 - dot W s).abs ≤ 1 / 1000 := by
    have a1 := abs_add_le (v3 - (v1 + v2)) (v1 - W.x * s.x)
    have a2 := abs_add_le (v3 - (v1 + v2) + (v1 - W.x * s.x)) (v2 - W.y * s.y)
    rw [show v3 - (v1 + v2) + (v1 - W.x * s.x) + (v2 - W.y * s.y) = v3 - dot W s by unfold dot; grind] at a2
    grind
  obtain ⟨cd1, cd2⟩ := abs_le_iff.1 cd
  have hWn : (Cq.sub W (Cq.add z u)).n ≤ 38000000 * (eps * eps) := by
    have k1 := hW.n
    have k2 := Rat.mul_le_mul_of_nonneg_right hMM hee
    have k3 : 34 * (M * eps) * (34 * (M * eps)) = 1156 * (M * M * (eps * eps)) := by grind
    rw [k3] at k1
    grind
  have hrun : ∀ (R : Type) (ke : Int → Option R) (k : Nat → Nat → Option R), jbackK R m w1 w2 ke k = (match decide (v3 < 0) with
      | true => negK R s1 s2 fun s1 s2 => addK R w1 w2 s1 s2 fun x y => sclK R x y 4602678819172646912 k
      | false => addK R w1 w2 s1 s2 fun x y => sclK R x y 4602678819172646912 k) := fun R ke k => by
    unfold jbackK joukBackB
    have hscl : ∀ k, sclK R m.a1 m.a2 4611686018427387904 k = k f1 f2 := fun k => by unfold sclK; rw [bindF_eq ef1, bindF_eq ef2]
    rw [hscl, ed, ep1, eg, ep2, es, bindF_eq ex1, bindF_eq ex2, bindF_eq ex3, forceB_eq, ltF_is ix3 is0]
    cases decide (v3 < 0) <;> rfl
  by_cases hneg : v3 < 0
  · obtain ⟨n1, n2, inn, en⟩ := negQ is'
    obtain ⟨p, q, b, ib, bb, hb, eb⟩ := jback_end iw inn (bW'.mono (by grind)) ((bs.neg).mono (by grind)) zn hWn (by
      rcases alt with k | k
      · right
        rw [show Cq.add s.neg (Cq.sub z u) = (Cq.sub s (Cq.sub z u)).neg from ext' (by simp only [Cq.add, Cq.sub, Cq.neg]; grind) (by simp only [Cq.add, Cq.sub, Cq.neg]; grind), n_neg]; exact k
      · left
        rw [show Cq.sub s.neg (Cq.sub z u) = (Cq.add s (Cq.sub z u)).neg from ext' (by simp only [Cq.add, Cq.sub, Cq.neg]; grind) (by simp only [Cq.add, Cq.sub, Cq.neg]; grind), n_neg]; exact k)
      (by
        have : dot W s.neg = -dot W s := by unfold dot Cq.neg; grind
        rw [this]; grind)
    refine ⟨p, q, b, ib, bb, hb, fun R ke k => ?_⟩
    rw [hrun]
    simp only [hneg, decide_true]
    rw [en, eb]
  · obtain ⟨p, q, b, ib, bb, hb, eb⟩ := jback_end iw is' (bW'.mono (by grind)) (bs.mono (by grind)) zn hWn alt (by grind)
    refine ⟨p, q, b, ib, bb, hb, fun R ke k => ?_⟩
    rw [hrun]
    simp only [hneg, decide_false]
    rw [eb]
end Go.Vm
namespace Go.Vm
open Ieee Cq
set_option linter.unusedVariables false
set_option linter.unusedSimpArgs false

def chk2P : KMI := chk2B placeK noughtK withinK
def at2K : KMZ := atLB [6] chk2P placeK joukK FiniteK
def bk1K : KMZ := atLB [181] chkK placeK mbackK placeK
def bk2K : KMZ := atLB [] chk2P placeK jbackK placeK
def bk3K : KMZ := atLB [] chk2P placeK jotherK placeK

theorem is_m14 : Is 4544132024016830464 (1 / 16384) := by
  have := fields_is (s := false) (E := 1009) (f := 0) (by decide) (by decide) (by decide)
  have e : dv false (2 ^ 52 + 0) (((1009 : Nat) : Int) - 1075) = 1 / 16384 := by
    unfold dv sg
    rw [if_neg (by decide), Rat.one_mul, Nat.add_zero, ← p2_nat, ← p2_add]
    show (2 : Rat) ^ (-14 : Int) = 1 / 16384
    have h7 := p2_cancel 14
    have h8 : (2 : Rat) ^ (14 : Int) = 16384 := by rw [show (14 : Int) = ((14 : Nat) : Int) by rfl, p2_nat]; rfl
    rw [h8] at h7
    grind
  rw [e] at this
  exact this
theorem is_m20 : Is 4517110426252607488 (1 / 1048576) := by
  have := fields_is (s := false) (E := 1003) (f := 0) (by decide) (by decide) (by decide)
  have e : dv false (2 ^ 52 + 0) (((1003 : Nat) : Int) - 1075) = 1 / 1048576 := by
    unfold dv sg
    rw [if_neg (by decide), Rat.one_mul, Nat.add_zero, ← p2_nat, ← p2_add]
    show (2 : Rat) ^ (-20 : Int) = 1 / 1048576
    have h7 := p2_cancel 20
    have h8 : (2 : Rat) ^ (20 : Int) = 1048576 := by rw [show (20 : Int) = ((20 : Nat) : Int) by rfl, p2_nat]; rfl
    rw [h8] at h7
    grind
  rw [e] at this
  exact this

theorem n_zero {a : Cq} (h : a.n ≤ 0) : a.x = 0 ∧ a.y = 0 := by
  have := le_n (a := a) (m := 0) (by decide) (by grind)
  have h1 := abs_le_self a.x
  have h2 := abs_le_self a.y
  obtain ⟨g1, g2⟩ := this
  exact ⟨by grind, by grind⟩
theorem mul_cancel {a b c : Cq} (h : Cq.mul a b = Cq.mul c b) (hb : 0 < b.n) : a = c := by
  have h1 := n_mul (Cq.sub a c) b
  have h2 : Cq.mul (Cq.sub a c) b = ⟨0, 0⟩ := by
    have hx := congrArg Cq.x h
    have hy := congrArg Cq.y h
    simp only [Cq.mul] at hx hy
    exact ext' (by simp only [Cq.mul, Cq.sub]; grind) (by simp only [Cq.mul, Cq.sub]; grind)
  rw [h2] at h1
  have h3 : (Cq.mk 0 0).n = 0 := by unfold Cq.n; grind
  rw [h3] at h1
  rcases Rat.mul_eq_zero.1 h1.symm with g | g
  · obtain ⟨g1, g2⟩ := n_zero (a := Cq.sub a c) (by rw [g]; exact Rat.le_refl)
    simp only [Cq.sub] at g1 g2
    exact ext' (by grind) (by grind)
  · grind

/-- ONE KIND: Joukowski's map, there and back. -/
theorem jouk_law {m : Mp} {A : Cq} {a1 a2 : Int} (h : IsJ m A a1 a2) (a0 : ¬ (a1 = 0 ∧ a2 = 0)) {a b : Nat} {x y : Int} (hz : IsC a b x y) (x8 : x.natAbs ≤ 8) (y8 : y.natAbs ≤ 8) (z0 : ¬ (x = 0 ∧ y = 0)) :
    ∃ w1 w2 b1 b2 c1 c2 s t, (∀ (R : Type) (ke : Int → Option R) (k : Nat → Nat → Option R), at2K R m a b ke k = k w1 w2) ∧ (∀ (R : Type) (ke : Int → Option R) (k : Nat → Nat → Option R), bk2K R m w1 w2 ke k = k b1 b2) ∧
      (∀ (R : Type) (ke : Int → Option R) (k : Nat → Nat → Option R), bk3K R m w1 w2 ke k = k c1 c2) ∧
      (∀ (R : Type) (k : Bool → Option R), nearK R b1 b2 a b 4544132024016830464 k = k s) ∧ (∀ (R : Type) (k : Bool → Option R), nearK R c1 c2 a b 4544132024016830464 k = k t) ∧ (s || t) = true := by
  have het := eps_tiny
  have he := eps_pos
  have hzq := intQ hz
  have z8 := bd8 x8 y8
  have zn := sq_one z0
  obtain ⟨u, hu⟩ := quo_ex (Cq.mul A A) (b := ⟨x, y⟩) (by grind)
  have bA : Bd A 8 := by rw [h.A]; exact bd8 h.l1 h.l2
  have nA : (Cq.mul A A).n ≤ 16384 := by
    have k1 := n_le bA.1 bA.2
    have k2 := n_mul_le k1 k1
    grind
  have hM : ∃ M : Rat, Bd u M ∧ ((M = 10 ∧ (Cq.sub ⟨x, y⟩ u).n ≤ 1) ∨ (M = 128 ∧ 1 ≤ (Cq.sub ⟨x, y⟩ u).n)) := by
    rcases (Rat.le_total : (Cq.sub ⟨x, y⟩ u).n ≤ 1 ∨ 1 ≤ (Cq.sub ⟨x, y⟩ u).n) with g | g
    · refine ⟨10, ?_, .inl ⟨rfl, g⟩⟩
      have k1 := le_n (show (0 : Rat) ≤ 1 by decide) (Rat.le_trans g (show (1 : Rat) ≤ 1 * 1 by grind))
      have k2 := z8.sub (b := Cq.sub ⟨x, y⟩ u) (n := 1) ⟨k1.1, k1.2⟩
      rw [show Cq.sub ⟨x, y⟩ (Cq.sub ⟨x, y⟩ u) = u from ext' (by simp only [Cq.sub]; grind) (by simp only [Cq.sub]; grind)] at k2
      exact k2.mono (by grind)
    · refine ⟨128, ?_, .inr ⟨rfl, g⟩⟩
      have k1 := n_mul u ⟨x, y⟩
      rw [hu] at k1
      have k2 := Rat.mul_le_mul_of_nonneg_left zn u.n_nonneg
      have k3 := le_n (a := u) (show (0 : Rat) ≤ 128 by decide) (by grind)
      exact ⟨k3.1, k3.2⟩
  obtain ⟨M, bu, hM⟩ := hM
  have M1 : 10 ≤ M := by rcases hM with g | g <;> grind
  have M2 : M ≤ 128 := by rcases hM with g | g <;> grind
  have hMe : M * eps ≤ 1 / 1000 := by
    have := Rat.mul_le_mul_of_nonneg_right M2 (Rat.le_of_lt he)
    grind
  obtain ⟨w1, w2, W, iw, nw, ew⟩ := joukQ h hz x8 y8 z0 bu M1 M2 hu
  have bW : Bd W 1000 := (nw.bd (z8.add bu)).mono (by grind)
  obtain ⟨b1, b2, v, ib, bb, hb, eb⟩ := jbackQ h iw z8 zn bu hu nw hM
  obtain ⟨p1, q1, i1, e1⟩ := sqrQ h
  have vn : 1 / 3 ≤ v.n := by
    rcases hb with g | ⟨_, g⟩
    · have k := n_add v (Cq.sub ⟨x, y⟩ v)
      rw [show Cq.add v (Cq.sub ⟨x, y⟩ v) = ⟨x, y⟩ from ext' (by simp only [Cq.add, Cq.sub]; grind) (by simp only [Cq.add, Cq.sub]; grind), n_sub_comm] at k
      grind
    · grind
  obtain ⟨c, hc⟩ := quo_ex (Cq.mul A A) (b := v) (by grind)
  have bc : Bd c 222 := by
    have k1 := n_mul c v
    rw [hc] at k1
    have k2 := Rat.mul_le_mul_of_nonneg_left vn c.n_nonneg
    have k3 := le_n (a := c) (show (0 : Rat) ≤ 222 by decide) (by grind)
    exact ⟨k3.1, k3.2⟩
  obtain ⟨c1, c2, C, ic, nc, ec⟩ := divQ i1 ib (by grind) (bb.mono (by grind)) hc bc (by grind) (by grind)
  have bC : Bd C 1000 := (nc.bd bc).mono (by grind)
  obtain ⟨s, es⟩ := nearQ ib hzq is_m14 (bb.mono (by grind)) (z8.mono (by grind))
  obtain ⟨t, et⟩ := nearQ ic hzq is_m14 (bC.mono (by grind)) (z8.mono (by grind))
  have hchk : ∀ (R : Type) (k : Int → Option R), chk2P R m k = k 0 := fun R k => by
    unfold chk2P
    rw [chk2K_yes h, if_neg a0]
  refine ⟨w1, w2, b1, b2, c1, c2, s, t, fun R ke k => ?_, fun R ke k => ?_, fun R ke k => ?_, es, et, ?_⟩
  · unfold at2K atLB
    rw [hchk, forceB_eq]
    simp only [bne_self_eq_false]
    rw [placeQ hzq (z8.mono (by grind)), forceB_eq]
    simp only
    rw [ew, FiniteK_yes iw.1 iw.2, forceB_eq]
  · unfold bk2K atLB
    rw [hchk, forceB_eq]
    simp only [bne_self_eq_false]
    rw [placeQ iw (bW.mono (by grind)), forceB_eq]
    simp only
    rw [eb, placeQ ib (bb.mono (by grind)), forceB_eq]
  · unfold bk3K atLB
    rw [hchk, forceB_eq]
    simp only [bne_self_eq_false]
    rw [placeQ iw (bW.mono (by grind)), forceB_eq]
    simp only
    unfold jotherK joukOtherB
    rw [eb, e1, ec, placeQ ic (bC.mono (by grind)), forceB_eq]
  · rcases hb with g | ⟨g1, g2⟩
    · have k := le_n (a := Cq.sub v ⟨x, y⟩) (m := 1 / 49152) (by grind) (by rw [eps_val] at g; grind)
      have k2 : nearK Bool b1 b2 a b 4544132024016830464 some = some true := nearQ_yes ib hzq is_m14 ⟨k.1, k.2⟩ (by grind) (by grind) (by grind) _
      rw [es] at k2
      cases k2
      rfl
    · have g3 := jouk_other zn g1 g2 (by rw [hc, hu])
      have g4 := n_tri C c ⟨x, y⟩
      have g5 := nc.n
      have k := le_n (a := Cq.sub C ⟨x, y⟩) (m := 1 / 49152) (by grind) (by rw [eps_val] at *; grind)
      have k2 : nearK Bool c1 c2 a b 4544132024016830464 some = some true := nearQ_yes ic hzq is_m14 ⟨k.1, k.2⟩ (by grind) (by grind) (by grind) _
      rw [et] at k2
      cases k2
      simp
end Go.Vm
namespace Go.Vm
open Ieee Cq
set_option linter.unusedVariables false
set_option linter.unusedSimpArgs false

set_option maxHeartbeats 4000000 in
/-- THE OTHER KIND: a Moebius map of whole parts, there and back. -/
theorem moeb_law {m : Mp} {M : GM} (hm : IsM m M) (lm : M.Le 8) {a b : Nat} {x y : Int} (hz : IsC a b x y) (x8 : x.natAbs ≤ 8) (y8 : y.natAbs ≤ 8) :
    (∃ e, (e = 180 ∨ e = 6) ∧ ∀ (R : Type) (ke : Int → Option R) (k : Nat → Nat → Option R), atK R m a b ke k = ke e) ∨
    ∃ w1 w2 b1 b2, (∀ (R : Type) (ke : Int → Option R) (k : Nat → Nat → Option R), atK R m a b ke k = k w1 w2) ∧ (∀ (R : Type) (ke : Int → Option R) (k : Nat → Nat → Option R), bk1K R m w1 w2 ke k = k b1 b2) ∧
      (∀ (R : Type) (k : Bool → Option R), nearK R b1 b2 a b 4517110426252607488 k = k true) := by
  have het := eps_tiny
  have he := eps_pos
  have hee := Rat.mul_nonneg (Rat.le_of_lt he) (Rat.le_of_lt he)
  have hzq := intQ hz
  have z8 := bd8 x8 y8
  by_cases hd : M.No
  · left
    refine ⟨180, .inl rfl, fun R ke k => ?_⟩
    unfold atK atB
    rw [chkK_int hm lm (by decide) (by decide), if_pos hd, forceB_eq]
    rfl
  obtain ⟨s1, t1, i1, b1, b2, e1⟩ := mulK_int (p := 8) (q := 8) hm.c hz lm.c1 lm.c2 x8 y8 (by decide)
  have bd1 := lm.d1
  have bd2 := lm.d2
  obtain ⟨s2, t2, i2, e2⟩ := addK_int i1 hm.d (by omega) (by omega)
  obtain ⟨s3, t3, i3, b3, b4, e3⟩ := mulK_int (p := 8) (q := 8) hm.a hz lm.a1 lm.a2 x8 y8 (by decide)
  have bb1 := lm.b1
  have bb2 := lm.b2
  obtain ⟨s4, t4, i4, e4⟩ := addK_int i3 hm.b (by omega) (by omega)
  have E1 : M.c1 * x - M.c2 * y + M.d1 = M.e1 x y := rfl
  have E2 : M.c1 * y + M.c2 * x + M.d2 = M.e2 x y := rfl
  have N1 : M.a1 * x - M.a2 * y + M.b1 = M.n1 x y := rfl
  have N2 : M.a1 * y + M.a2 * x + M.b2 = M.n2 x y := rfl
  have hun : ∀ (R : Type) (k : Nat → Nat → Option R), underK R m a b k = k s2 t2 := fun R k => by
    unfold underK underB
    rw [e1, e2]
  rw [E1, E2] at i2
  rw [N1, N2] at i4
  by_cases h0 : M.e1 x y = 0 ∧ M.e2 x y = 0
  · left
    refine ⟨6, .inr rfl, fun R ke k => ?_⟩
    unfold atK atB
    rw [chkK_int hm lm (by decide) (by decide), if_neg hd, forceB_eq]
    simp only [bne_self_eq_false]
    rw [placeK_int hz (by omega) (by omega), forceB_eq]
    simp only
    unfold moebK moebB
    rw [hun, noughtK_int i2, forceB_eq]
    simp only [h0, and_self, decide_true]
    exact errIn_eq ke (by decide)
  right
  have en := sq_one h0
  have be : Bd ⟨(M.e1 x y : Int), (M.e2 x y : Int)⟩ 136 := int_bd (n := 136) (by rw [← E1]; omega) (by rw [← E2]; omega)
  have bn : Bd ⟨(M.n1 x y : Int), (M.n2 x y : Int)⟩ 136 := int_bd (n := 136) (by rw [← N1]; omega) (by rw [← N2]; omega)
  have qe := intQ i2
  have qn := intQ i4
  have qa := intQ hm.a
  have qb := intQ hm.b
  have qc := intQ hm.c
  have qd := intQ hm.d
  have ba := bd8 lm.a1 lm.a2
  have bb := bd8 lm.b1 lm.b2
  have bc := bd8 lm.c1 lm.c2
  have bdd := bd8 lm.d1 lm.d2
  have hE : Cq.mk (M.e1 x y : Int) (M.e2 x y : Int) = Cq.add (Cq.mul ⟨M.c1, M.c2⟩ ⟨x, y⟩) ⟨M.d1, M.d2⟩ := by
    rw [← E1, ← E2]; push_cast; rfl
  have hN : Cq.mk (M.n1 x y : Int) (M.n2 x y : Int) = Cq.add (Cq.mul ⟨M.a1, M.a2⟩ ⟨x, y⟩) ⟨M.b1, M.b2⟩ := by
    rw [← N1, ← N2]; push_cast; rfl
  have hdet : 1 ≤ (Cq.sub (Cq.mul ⟨M.a1, M.a2⟩ ⟨M.d1, M.d2⟩) (Cq.mul ⟨M.b1, M.b2⟩ ⟨M.c1, M.c2⟩)).n := by
    have := sq_one (x := M.x) (y := M.y) hd
    have e : Cq.mk (M.x : Int) (M.y : Int) = Cq.sub (Cq.mul ⟨M.a1, M.a2⟩ ⟨M.d1, M.d2⟩) (Cq.mul ⟨M.b1, M.b2⟩ ⟨M.c1, M.c2⟩) := by
      unfold GM.x GM.y; push_cast; rfl
    rw [e] at this
    exact this
  have hchk : ∀ (R : Type) (k : Int → Option R), chkK R m k = k 0 := fun R k => by rw [chkK_int hm lm (by decide) (by decide), if_neg hd]
  generalize Cq.mk (M.e1 x y : Int) (M.e2 x y : Int) = E at *
  generalize Cq.mk (M.n1 x y : Int) (M.n2 x y : Int) = N at *
  generalize Cq.mk (x : Rat) (y : Rat) = z at *
  generalize Cq.mk (M.a1 : Rat) (M.a2 : Rat) = A at *
  generalize Cq.mk (M.b1 : Rat) (M.b2 : Rat) = B at *
  generalize Cq.mk (M.c1 : Rat) (M.c2 : Rat) = C at *
  generalize Cq.mk (M.d1 : Rat) (M.d2 : Rat) = D at *
  have nE : E.n ≤ 36992 := by have := n_le be.1 be.2; grind
  have nN : N.n ≤ 36992 := by have := n_le bn.1 bn.2; grind
  obtain ⟨u, hu⟩ := quo_ex N (b := E) (by grind)
  have bu : Bd u 193 := by
    have k1 := n_mul u E
    rw [hu] at k1
    have k2 := Rat.mul_le_mul_of_nonneg_left en u.n_nonneg
    have k3 := le_n (a := u) (show (0 : Rat) ≤ 193 by decide) (by grind)
    exact ⟨k3.1, k3.2⟩
  obtain ⟨w1, w2, W, iw, nw, ew⟩ := divQ qn qe (by grind) (be.mono (by grind)) hu bu (by grind) (by grind)
  have bw : Bd W 194 := (nw.bd bu).mono (by grind)
  -- the divisor of the way back
  obtain ⟨p1, q1, X, iX, nX, eX⟩ := mulQ qc iw bc bw (B := 1552) (by grind) (by grind) (by grind)
  have nX' : Nr X (Cq.mul C u) (105100 * eps) := (nX.trans (nw.mulLeft bc)).mono (by grind)
  have bX : Bd X 3200 := (nX'.bd (bc.mul bu)).mono (by grind)
  obtain ⟨g1, g2, g, ig, ng, eg⟩ := subQ qa iX (B := 3300) ((ba.sub bX).mono (by grind)) (by grind) (by grind)
  have ng' : Nr g (Cq.sub A (Cq.mul C u)) (108500 * eps) := (ng.trans ((Nr.refl A).sub nX')).mono (by grind)
  obtain ⟨p2, q2, Y, iY, nY, eY⟩ := mulQ qd iw bdd bw (B := 1552) (by grind) (by grind) (by grind)
  have nY' : Nr Y (Cq.mul D u) (105100 * eps) := (nY.trans (nw.mulLeft bdd)).mono (by grind)
  have bY : Bd Y 3200 := (nY'.bd (bdd.mul bu)).mono (by grind)
  obtain ⟨n1, n2, n, inn, nn, enn⟩ := subQ iY qb (B := 3300) ((bY.sub bb).mono (by grind)) (by grind) (by grind)
  have nn' : Nr n (Cq.sub (Cq.mul D u) B) (108500 * eps) := (nn.trans (nY'.sub (Nr.refl B))).mono (by grind)
  -- what they are exactly
  have hγ : Cq.mul (Cq.sub A (Cq.mul C u)) E = Cq.sub (Cq.mul A D) (Cq.mul B C) := by
    have k1 : Cq.mul (Cq.sub A (Cq.mul C u)) E = Cq.sub (Cq.mul A E) (Cq.mul C (Cq.mul u E)) := ext' (by simp only [Cq.mul, Cq.sub]; grind) (by simp only [Cq.mul, Cq.sub]; grind)
    rw [k1, hu, hE, hN]
    exact ext' (by simp only [Cq.mul, Cq.sub, Cq.add]; grind) (by simp only [Cq.mul, Cq.sub, Cq.add]; grind)
  have hν : Cq.sub (Cq.mul D u) B = Cq.mul z (Cq.sub A (Cq.mul C u)) := by
    refine mul_cancel (b := E) ?_ (by grind)
    have k1 : Cq.mul (Cq.sub (Cq.mul D u) B) E = Cq.sub (Cq.mul D (Cq.mul u E)) (Cq.mul B E) := ext' (by simp only [Cq.mul, Cq.sub]; grind) (by simp only [Cq.mul, Cq.sub]; grind)
    have k2 : Cq.mul (Cq.mul z (Cq.sub A (Cq.mul C u))) E = Cq.mul z (Cq.mul (Cq.sub A (Cq.mul C u)) E) := ext' (by simp only [Cq.mul, Cq.sub]; grind) (by simp only [Cq.mul, Cq.sub]; grind)
    rw [k1, k2, hγ, hu, hE, hN]
    exact ext' (by simp only [Cq.mul, Cq.sub, Cq.add]; grind) (by simp only [Cq.mul, Cq.sub, Cq.add]; grind)
  have nγ : 1 / 36992 ≤ (Cq.sub A (Cq.mul C u)).n := by
    have k1 := n_mul (Cq.sub A (Cq.mul C u)) E
    rw [hγ] at k1
    have k2 := Rat.mul_le_mul_of_nonneg_left nE (Cq.sub A (Cq.mul C u)).n_nonneg
    grind
  generalize hγe : Cq.sub A (Cq.mul C u) = γ at *
  rw [hν] at nn'
  have sg := ng'.n
  have sn := nn'.n
  have gn : 1 / 37400 ≤ g.n := by
    have k := n_add' g (Cq.sub γ g)
    rw [show Cq.add g (Cq.sub γ g) = γ from ext' (by simp only [Cq.add, Cq.sub]; grind) (by simp only [Cq.add, Cq.sub]; grind), n_sub_comm] at k
    rw [eps_val] at *
    grind
  have bg : Bd g 10000 := (ng.bd (ba.sub bX)).mono (by grind)
  obtain ⟨β, hβ⟩ := quo_ex n (b := g) (by grind)
  have zn2 : z.n ≤ 128 := by have := n_le z8.1 z8.2; grind
  have nβ : (Cq.sub β z).n ≤ 230000000000000000 * (eps * eps) := by
    have k1 : Cq.mul (Cq.sub β z) g = Cq.sub (Cq.sub n (Cq.mul z γ)) (Cq.mul z (Cq.sub g γ)) := by
      have hx := congrArg Cq.x hβ
      have hy := congrArg Cq.y hβ
      simp only [Cq.mul] at hx hy
      exact ext' (by simp only [Cq.mul, Cq.sub]; grind) (by simp only [Cq.mul, Cq.sub]; grind)
    have k2 := n_mul (Cq.sub β z) g
    rw [k1] at k2
    have k3 := n_sub (Cq.sub n (Cq.mul z γ)) (Cq.mul z (Cq.sub g γ))
    have k4 := n_mul_le zn2 sg
    have k5 := Rat.mul_le_mul_of_nonneg_left gn (Cq.sub β z).n_nonneg
    rw [eps_val] at *
    grind
  have bβ : Bd β 9 := by
    have k := le_n (a := Cq.sub β z) (m := 1) (by grind) (by rw [eps_val] at nβ; grind)
    have k2 := Bd.add (a := Cq.sub β z) (m := 1) ⟨k.1, k.2⟩ z8
    rw [show Cq.add (Cq.sub β z) z = β from ext' (by simp only [Cq.add, Cq.sub]; grind) (by simp only [Cq.add, Cq.sub]; grind)] at k2
    exact k2.mono (by grind)
  obtain ⟨r1, r2, v, iv, nv, ev⟩ := divQ inn ig (by grind) (bg.mono (by grind)) hβ bβ (by grind) (by grind)
  have bv : Bd v 10 := (nv.bd bβ).mono (by grind)
  refine ⟨w1, w2, r1, r2, fun R ke k => ?_, fun R ke k => ?_, fun R k => ?_⟩
  · unfold atK atB
    rw [hchk, forceB_eq]
    simp only [bne_self_eq_false]
    rw [placeQ hzq (z8.mono (by grind)), forceB_eq]
    simp only
    unfold moebK moebB
    rw [hun, noughtK_int i2, forceB_eq]
    simp only [h0, decide_false]
    rw [e3, e4, ew, FiniteK_yes iw.1 iw.2, forceB_eq]
  · unfold bk1K atLB
    rw [hchk, forceB_eq]
    simp only [bne_self_eq_false]
    rw [placeQ iw (bw.mono (by grind)), forceB_eq]
    simp only
    unfold mbackK moebBackB
    rw [eX, eg, noughtQ ig (by grind), forceB_eq]
    simp only
    rw [eY, enn, ev, placeQ iv (bv.mono (by grind)), forceB_eq]
  · have k1 := n_tri v β z
    have k2 := nv.n
    have k := le_n (a := Cq.sub v z) (m := 1 / 3145728) (by grind) (by rw [eps_val] at *; grind)
    exact nearQ_yes iv hzq is_m20 ⟨k.1, k.2⟩ (by grind) (by grind) (by grind) _
end Go.Vm
namespace Go.Vm
open Ieee Cq
set_option linter.unusedVariables false
set_option linter.unusedSimpArgs false

def thereLawK := thereLaw upG ofG smallK frK atK at2K bk1K bk2K bk3K nearK

theorem of8 {x : Int} (h : x.natAbs ≤ 8) : Is (floatOfInt .f64 x) x := ofInt_is (Nat.lt_of_le_of_lt h (by decide))

theorem thereRest_true {a p : G2} (ha : a.x.natAbs ≤ 8 ∧ a.y.natAbs ≤ 8) (hp : p.x.natAbs ≤ 8 ∧ p.y.natAbs ≤ 8) {R : Type} (k : Bool → Option R) :
    thereRest ofG at2K bk2K bk3K nearK a p (floatOfInt .f64 p.x) (floatOfInt .f64 p.y) k = k true := by
  unfold thereRest
  rw [ofG_eq]
  have hz : IsC (floatOfInt .f64 p.x) (floatOfInt .f64 p.y) p.x p.y := ⟨of8 hp.1, of8 hp.2⟩
  have hj : IsJ ⟨floatOfInt .f64 a.x, floatOfInt .f64 a.y, 0, 0, 0, 0, 0, 0, 0⟩ ⟨a.x, a.y⟩ a.x a.y := ⟨⟨of8 ha.1, of8 ha.2⟩, rfl, ha.1, ha.2, rfl, rfl, rfl, rfl, rfl, rfl, rfl⟩
  by_cases a0 : a.x = 0 ∧ a.y = 0
  · have : ∀ (ke : Int → Option R) (kk : Nat → Nat → Option R), at2K R ⟨floatOfInt .f64 a.x, floatOfInt .f64 a.y, 0, 0, 0, 0, 0, 0, 0⟩ (floatOfInt .f64 p.x) (floatOfInt .f64 p.y) ke kk = ke 180 := fun ke kk => by
      unfold at2K atLB
      have hchk : ∀ (k : Int → Option R), chk2P R ⟨floatOfInt .f64 a.x, floatOfInt .f64 a.y, 0, 0, 0, 0, 0, 0, 0⟩ k = k 180 := fun k => by
        unfold chk2P
        rw [chk2K_yes hj, if_pos a0]
      rw [hchk, forceB_eq]
      rfl
    rw [this, errIn_eq _ (by decide), eq2_eq]
    simp [a0]
  by_cases z0 : p.x = 0 ∧ p.y = 0
  · have : ∀ (ke : Int → Option R) (kk : Nat → Nat → Option R), at2K R ⟨floatOfInt .f64 a.x, floatOfInt .f64 a.y, 0, 0, 0, 0, 0, 0, 0⟩ (floatOfInt .f64 p.x) (floatOfInt .f64 p.y) ke kk = ke 6 := fun ke kk => by
      unfold at2K atLB
      have hchk : ∀ (k : Int → Option R), chk2P R ⟨floatOfInt .f64 a.x, floatOfInt .f64 a.y, 0, 0, 0, 0, 0, 0, 0⟩ k = k 0 := fun k => by
        unfold chk2P
        rw [chk2K_yes hj, if_neg a0]
      rw [hchk, forceB_eq]
      simp only [bne_self_eq_false]
      rw [placeK_int hz (by omega) (by omega), forceB_eq]
      simp only
      unfold joukK joukB
      rw [noughtK_int hz, forceB_eq]
      simp only [z0, and_self, decide_true]
      exact errIn_eq ke (by decide)
    rw [this, errIn_eq _ (by decide), eq2_eq]
    simp only [a0, decide_false]
    rw [eq2_eq]
    simp [z0]
  obtain ⟨w1, w2, b1, b2, c1, c2, s, t, e1, e2, e3, e4, e5, hst⟩ := jouk_law hj a0 hz hp.1 hp.2 z0
  rw [e1, e2, e3, e4, forceB_eq, e5, forceB_eq]
  cases s with
  | true => rfl
  | false =>
    have : t = true := by simpa using hst
    rw [this]

theorem thereLawK_true {R : Type} (f : Fr) (a p : G2) (k : Bool → Option R) : thereLawK R f a p k = k true := by
  unfold thereLawK thereLaw
  rcases smallK_cases f with ⟨hs, hf⟩ | hs
  case inr => rw [hs, forceB_eq]
  rw [hs, forceB_eq]
  simp only
  rw [upG_eq, forceB_eq]
  by_cases ha : a.x.natAbs ≤ 8 ∧ a.y.natAbs ≤ 8
  case neg => simp [ha]
  simp only [ha, and_self, decide_true]
  rw [upG_eq, forceB_eq]
  by_cases hp : p.x.natAbs ≤ 8 ∧ p.y.natAbs ≤ 8
  case neg => simp [hp]
  simp only [hp, and_self, decide_true]
  rw [ofG_eq, frK_eq]
  have hz : IsC (floatOfInt .f64 p.x) (floatOfInt .f64 p.y) p.x p.y := ⟨of8 hp.1, of8 hp.2⟩
  have hrest := thereRest_true (R := R) ha hp k
  rcases moeb_law (fr_is hf) hf hz hp.1 hp.2 with ⟨e, he, e1⟩ | ⟨w1, w2, b1, b2, e1, e2, e3⟩
  · rw [e1, errIn_eq _ (by rcases he with rfl | rfl <;> decide), hrest]
  · rw [e1, e2, e3, forceB_eq]
    simp only
    exact hrest
end Go.Vm
namespace Go.Vm
open Go.Proofs
set_option linter.unusedVariables false
set_option maxRecDepth 1000000

theorem z_sub (R : Type) a b c d (k : Value → Option R) : evFn (cx Tryz.prog []) 10 21 [.complex .f64 a b, .complex .f64 c d] k = subK R a b c d fun x y => k (.complex .f64 x y) := by kernel_rfl
theorem z_mul (R : Type) a b c d (k : Value → Option R) : evFn (cx Tryz.prog []) 10 22 [.complex .f64 a b, .complex .f64 c d] k = mulK R a b c d fun x y => k (.complex .f64 x y) := by kernel_rfl
theorem z_add (R : Type) a b c d (k : Value → Option R) : evFn (cx Tryz.prog []) 10 84 [.complex .f64 a b, .complex .f64 c d] k = addK R a b c d fun x y => k (.complex .f64 x y) := by kernel_rfl
theorem z_neg (R : Type) a b (k : Value → Option R) : evFn (cx Tryz.prog []) 10 86 [.complex .f64 a b] k = negK R a b fun x y => k (.complex .f64 x y) := by kernel_rfl
theorem z_like (R : Type) a b (k : Value → Option R) : evFn (cx Tryz.prog []) 10 87 [.float .f64 a, .float .f64 b] k = likeK R a b fun t => k (.bool t) := by kernel_rfl
theorem z_Like (lk : KFFB) (R : Type) a b c d (k : Value → Option R) : evFn (cx Tryz.prog [(87, sFFB lk)]) 10 23 [.complex .f64 a b, .complex .f64 c d] k = LikeB lk R a b c d fun t => k (.bool t) := by kernel_rfl
theorem z_nought (R : Type) a b (k : Value → Option R) : evFn (cx Tryz.prog []) 10 81 [.complex .f64 a b] k = noughtK R a b fun t => k (.bool t) := by kernel_rfl
theorem z_abs (R : Type) a (k : Value → Option R) : evFn (cx Tryz.prog []) 10 53 [.float .f64 a] k = absK R a fun t => k (.float .f64 t) := by kernel_rfl
theorem z_within (ab : KFF) (R : Type) a b (k : Value → Option R) : evFn (cx Tryz.prog [(53, sFF ab)]) 10 80 [.float .f64 a, .float .f64 b] k = withinB ab R a b fun t => k (.bool t) := by kernel_rfl
theorem z_Within (wi : KFFB) (R : Type) a b c (k : Value → Option R) : evFn (cx Tryz.prog [(80, sFFB wi)]) 10 135 [.complex .f64 a b, .float .f64 c] k = WithinB wi R a b c fun t => k (.bool t) := by kernel_rfl
theorem z_place (wi : KCFB) (R : Type) a b (k : Value → Option R) : evFn (cx Tryz.prog [(135, sCFB wi)]) 10 79 [.complex .f64 a b] k = placeB wi R a b fun t => k (.bool t) := by kernel_rfl
end Go.Vm
namespace Go.Vm
open Go.Proofs
set_option linter.unusedVariables false
set_option maxRecDepth 1000000

theorem z_up (R : Type) x y (k : Value → Option R) : evFn (cx Tryz.prog []) 10 24 [.agg ⟨[.int .i16 x, .int .i16 y]⟩, .int .i16 8] k = upK x y fun t => k (.bool t) := by kernel_rfl
theorem z_of (R : Type) x y (k : Value → Option R) : evFn (cx Tryz.prog []) 10 25 [.agg ⟨[.int .i16 x, .int .i16 y]⟩] k = ofK x y fun a b => k (.complex .f64 a b) := by kernel_rfl
theorem z_small (up : KGB) (R : Type) (f : Fr) (k : Value → Option R) : evFn (cx Tryz.prog [(24, sUp up)]) 10 16 [fv f] k = smallB up R f fun t => k (.bool t) := by kernel_rfl
theorem z_fr (of_ : KGC) (R : Type) (f : Fr) (k : Value → Option R) : evFn (cx Tryz.prog [(25, sOf of_)]) 10 15 [fv f] k = frB of_ R f fun m => k (mv 1 m) := by kernel_rfl
theorem z_det (mul sub : KCCC) (R : Type) (m : Mp) (k : Value → Option R) : evFn (cx Tryz.prog [(22, sCCC mul), (21, sCCC sub)]) 10 82 [mv 1 m] k = detB mul sub R m fun x y => k (.complex .f64 x y) := by kernel_rfl
theorem z_both (mul add : KCCC) (R : Type) a b c d a' b' c' d' (k : Value → Option R) : evFn (cx Tryz.prog [(22, sCCC mul), (84, sCCC add)]) 10 83 [.complex .f64 a b, .complex .f64 c d, .complex .f64 a' b', .complex .f64 c' d'] k = bothB mul add R a b c d a' b' c' d' fun x y => k (.complex .f64 x y) := by kernel_rfl
theorem z_chk1 (pl no : KCB) (wi : KFFB) (det : KMC) (R : Type) (m : Mp) (k : Value → Option R) : evFn (cx Tryz.prog [(79, sCB pl), (81, sCB no), (80, sFFB wi), (82, sDet det)]) 40 17 [mv 1 m] k = chk1B pl no wi det R m fun e => k (.int .i64 e) := by kernel_rfl
theorem z_chk2 (pl no : KCB) (wi : KFFB) (det : KMC) (R : Type) (m : Mp) (k : Value → Option R) : evFn (cx Tryz.prog [(79, sCB pl), (81, sCB no), (80, sFFB wi), (82, sDet det)]) 40 17 [mv 2 m] k = chk2B pl no wi R m fun e => k (.int .i64 e) := by kernel_rfl
theorem z_told (c1 c2 : KMI) (R : Type) (m : Mp) (k : Value → Option R) : evFn (cx Tryz.prog [(17, sChk c1 c2)]) 20 85 [mv 1 m] k = toldB c1 R m (fun e => k (.tuple ⟨[mv 0 zm, .int .i64 e]⟩)) (fun m => k (.tuple ⟨[mv 1 m, .int .i64 0]⟩)) := by kernel_rfl
theorem z_turned (c1 c2 : KMI) (ng : KCC) (told : KMM) (R : Type) (m : Mp) (k : Value → Option R) : evFn (cx Tryz.prog [(17, sChk c1 c2), (86, sCC ng), (85, sMM told)]) 20 20 [mv 1 m] k = turnedB c1 ng told R m (fun e => k (.tuple ⟨[mv 0 zm, .int .i64 e]⟩)) (fun m => k (.tuple ⟨[mv 1 m, .int .i64 0]⟩)) := by kernel_rfl
theorem z_alike (lk : KCCB) (R : Type) (m n : Mp) (k : Value → Option R) : evFn (cx Tryz.prog [(23, sCCB lk)]) 20 19 [mv 1 m, mv 1 n] k = alikeB lk R m n fun t => k (.bool t) := by kernel_rfl
theorem z_then (c1 c2 : KMI) (both : KC4) (told : KMM) (R : Type) (m n : Mp) (k : Value → Option R) : evFn (cx Tryz.prog [(17, sChk c1 c2), (83, sC4 both), (85, sMM told)]) 30 18 [mv 1 m, mv 1 n] k = thenB c1 both told R m n (fun e => k (.tuple ⟨[mv 0 zm, .int .i64 e]⟩)) (fun m => k (.tuple ⟨[mv 1 m, .int .i64 0]⟩)) := by kernel_rfl
end Go.Vm
namespace Go.Vm
open Go.Proofs
set_option linter.unusedVariables false
set_option maxRecDepth 1000000

def sTrue : Sum := fun R args k => match args with | [] => k (.bool true) | _ => none
theorem z_group (small : KFrB) (fr : KFrM) (chk c2 : KMI) (thn : KMMM) (alike : KMMB) (turned : KMM) (mul sub : KCCC) (lk : KCCB) (R : Type) (f g h : Fr) (k : Value → Option R) :
   evFn (cx Tryz.prog [(14, sTrue), (15, sFrM fr), (16, sFrB small), (17, sChk chk c2), (18, sMMM thn), (19, sMMB alike), (20, sMM turned), (21, sCCC sub), (22, sCCC mul), (23, sCCB lk)]) 40 3 [fv f, fv g, fv h] k =
   groupB small fr chk thn alike turned mul sub lk R f g h fun t => k (.bool t) := by kernel_rfl
end Go.Vm
namespace Go.Vm
open Go.Proofs
set_option linter.unusedVariables false
set_option maxRecDepth 1000000

theorem zm_ok : Tryz.prog.follows .mixedOrders = true := by kernel_rfl
theorem h14 : Has Tryz.prog 14 := ⟨Tryz.f14, _, Tryz.func14, by kernel_rfl, rfl⟩
theorem h15 : Has Tryz.prog 15 := ⟨Tryz.f15, _, Tryz.func15, by kernel_rfl, rfl⟩
theorem h16 : Has Tryz.prog 16 := ⟨Tryz.f16, _, Tryz.func16, by kernel_rfl, rfl⟩
theorem h17 : Has Tryz.prog 17 := ⟨Tryz.f17, _, Tryz.func17, by kernel_rfl, rfl⟩
theorem h18 : Has Tryz.prog 18 := ⟨Tryz.f18, _, Tryz.func18, by kernel_rfl, rfl⟩
theorem h19 : Has Tryz.prog 19 := ⟨Tryz.f19, _, Tryz.func19, by kernel_rfl, rfl⟩
theorem h20 : Has Tryz.prog 20 := ⟨Tryz.f20, _, Tryz.func20, by kernel_rfl, rfl⟩
theorem h21 : Has Tryz.prog 21 := ⟨Tryz.f21, _, Tryz.func21, by kernel_rfl, rfl⟩
theorem h22 : Has Tryz.prog 22 := ⟨Tryz.f22, _, Tryz.func22, by kernel_rfl, rfl⟩
theorem h23 : Has Tryz.prog 23 := ⟨Tryz.f23, _, Tryz.func23, by kernel_rfl, rfl⟩
theorem h24 : Has Tryz.prog 24 := ⟨Tryz.f24, _, Tryz.func24, by kernel_rfl, rfl⟩
theorem h25 : Has Tryz.prog 25 := ⟨Tryz.f25, _, Tryz.func25, by kernel_rfl, rfl⟩
theorem h53 : Has Tryz.prog 53 := ⟨Tryz.f53, _, Tryz.func53, by kernel_rfl, rfl⟩
theorem h79 : Has Tryz.prog 79 := ⟨Tryz.f79, _, Tryz.func79, by kernel_rfl, rfl⟩
theorem h80 : Has Tryz.prog 80 := ⟨Tryz.f80, _, Tryz.func80, by kernel_rfl, rfl⟩
theorem h81 : Has Tryz.prog 81 := ⟨Tryz.f81, _, Tryz.func81, by kernel_rfl, rfl⟩
theorem h82 : Has Tryz.prog 82 := ⟨Tryz.f82, _, Tryz.func82, by kernel_rfl, rfl⟩
theorem h83 : Has Tryz.prog 83 := ⟨Tryz.f83, _, Tryz.func83, by kernel_rfl, rfl⟩
theorem h84 : Has Tryz.prog 84 := ⟨Tryz.f84, _, Tryz.func84, by kernel_rfl, rfl⟩
theorem h85 : Has Tryz.prog 85 := ⟨Tryz.f85, _, Tryz.func85, by kernel_rfl, rfl⟩
theorem h86 : Has Tryz.prog 86 := ⟨Tryz.f86, _, Tryz.func86, by kernel_rfl, rfl⟩
theorem h87 : Has Tryz.prog 87 := ⟨Tryz.f87, _, Tryz.func87, by kernel_rfl, rfl⟩
theorem h135 : Has Tryz.prog 135 := ⟨Tryz.f135, _, Tryz.func135, by kernel_rfl, rfl⟩

section shapes
variable {P : Program} {l : List (Nat × Sum)} {n : Nat} {f : FuncId}
theorem ok_sDet {g : KMC} (hm : P.follows .mixedOrders = true) (h : AllOk P l)
    (hg : ∀ (R : Type) (m : Mp) (k : Value → Option R), evFn (cx P l) n f [mv 1 m] k = g R m fun x y => k (.complex .f64 x y)) : SumOk P f (sDet g) :=
  sumOk_of hm h (n := n) fun R args k r hr => by
    unfold sDet at hr; split at hr
    · obtain ⟨i, m, rfl, hx⟩ := oneM_some hr
      cases hi : (i == 1) with
      | false => rw [hi] at hx; cases hx
      | true =>
        rw [hi] at hx
        have : i = 1 := by simpa using hi
        subst this
        exact ⟨rfl, by rw [hg]; exact hx⟩
    · cases hr
theorem ok_sMM {g : KMM} (hm : P.follows .mixedOrders = true) (h : AllOk P l)
    (hg : ∀ (R : Type) (m : Mp) (k : Value → Option R), evFn (cx P l) n f [mv 1 m] k = g R m (fun e => k (.tuple ⟨[mv 0 zm, .int .i64 e]⟩)) (fun m => k (.tuple ⟨[mv 1 m, .int .i64 0]⟩))) : SumOk P f (sMM g) :=
  sumOk_of hm h (n := n) fun R args k r hr => by
    unfold sMM at hr; split at hr
    · obtain ⟨i, m, rfl, hx⟩ := oneM_some hr
      cases hi : (i == 1) with
      | false => rw [hi] at hx; cases hx
      | true =>
        rw [hi] at hx
        have : i = 1 := by simpa using hi
        subst this
        exact ⟨rfl, by rw [hg]; exact hx⟩
    · cases hr
theorem ok_sMMM {g : KMMM} (hm : P.follows .mixedOrders = true) (h : AllOk P l)
    (hg : ∀ (R : Type) (m u : Mp) (k : Value → Option R), evFn (cx P l) n f [mv 1 m, mv 1 u] k = g R m u (fun e => k (.tuple ⟨[mv 0 zm, .int .i64 e]⟩)) (fun m => k (.tuple ⟨[mv 1 m, .int .i64 0]⟩))) : SumOk P f (sMMM g) :=
  sumOk_of hm h (n := n) fun R args k r hr => by
    unfold sMMM at hr; split at hr
    · obtain ⟨i, m, rfl, hx⟩ := oneM_some hr
      obtain ⟨j, u, rfl, hy⟩ := oneM_some hx
      cases hi : (i == 1 && j == 1) with
      | false => rw [hi] at hy; cases hy
      | true =>
        rw [hi] at hy
        obtain ⟨rfl, rfl⟩ : i = 1 ∧ j = 1 := by simpa using hi
        exact ⟨rfl, by rw [hg]; exact hy⟩
    · cases hr
theorem ok_sMMB {g : KMMB} (hm : P.follows .mixedOrders = true) (h : AllOk P l)
    (hg : ∀ (R : Type) (m u : Mp) (k : Value → Option R), evFn (cx P l) n f [mv 1 m, mv 1 u] k = g R m u fun t => k (.bool t)) : SumOk P f (sMMB g) :=
  sumOk_of hm h (n := n) fun R args k r hr => by
    unfold sMMB at hr; split at hr
    · obtain ⟨i, m, rfl, hx⟩ := oneM_some hr
      obtain ⟨j, u, rfl, hy⟩ := oneM_some hx
      cases hi : (i == 1 && j == 1) with
      | false => rw [hi] at hy; cases hy
      | true =>
        rw [hi] at hy
        obtain ⟨rfl, rfl⟩ : i = 1 ∧ j = 1 := by simpa using hi
        exact ⟨rfl, by rw [hg]; simpa only [forceB_eq, cond_true] using hy⟩
    · cases hr
theorem ok_sChk {g1 g2 : KMI} (hm : P.follows .mixedOrders = true) (h : AllOk P l)
    (hg1 : ∀ (R : Type) (m : Mp) (k : Value → Option R), evFn (cx P l) n f [mv 1 m] k = g1 R m fun e => k (.int .i64 e))
    (hg2 : ∀ (R : Type) (m : Mp) (k : Value → Option R), evFn (cx P l) n f [mv 2 m] k = g2 R m fun e => k (.int .i64 e)) : SumOk P f (sChk g1 g2) :=
  sumOk_of hm h (n := n) fun R args k r hr => by
    unfold sChk at hr; split at hr
    · obtain ⟨i, m, rfl, hx⟩ := oneM_some hr
      cases hi : (i == 1) with
      | true =>
        rw [hi] at hx
        have : i = 1 := by simpa using hi
        subst this
        exact ⟨rfl, by rw [hg1]; exact hx⟩
      | false =>
        rw [hi] at hx
        simp only [cond_false] at hx
        cases hj : (i == 2) with
        | false => rw [hj] at hx; cases hx
        | true =>
          rw [hj] at hx
          have : i = 2 := by simpa using hj
          subst this
          exact ⟨rfl, by rw [hg2]; exact hx⟩
    · cases hr
theorem ok_sC4 {g : KC4} (hm : P.follows .mixedOrders = true) (h : AllOk P l)
    (hg : ∀ (R : Type) a b c d a' b' c' d' (k : Value → Option R), evFn (cx P l) n f [.complex .f64 a b, .complex .f64 c d, .complex .f64 a' b', .complex .f64 c' d'] k = g R a b c d a' b' c' d' fun x y => k (.complex .f64 x y)) : SumOk P f (sC4 g) :=
  sumOk_of hm h (n := n) fun R args k r hr => by
    unfold sC4 at hr; split at hr
    · exact ⟨rfl, by rw [hg]; exact hr⟩
    · cases hr
theorem ok_sUp {g : KGB} (hm : P.follows .mixedOrders = true) (h : AllOk P l)
    (hg : ∀ (R : Type) x y (k : Value → Option R), evFn (cx P l) n f [.agg ⟨[.int .i16 x, .int .i16 y]⟩, .int .i16 8] k = g R x y fun t => k (.bool t)) : SumOk P f (sUp g) :=
  sumOk_of hm h (n := n) fun R args k r hr => by
    unfold sUp at hr; split at hr
    · rename_i x y to
      cases hi : (to == 8) with
      | false => rw [hi] at hr; cases hr
      | true =>
        rw [hi] at hr
        have : to = 8 := by simpa using hi
        subst this
        exact ⟨rfl, by rw [hg]; simpa only [forceB_eq, cond_true] using hr⟩
    · cases hr
theorem ok_sOf {g : KGC} (hm : P.follows .mixedOrders = true) (h : AllOk P l)
    (hg : ∀ (R : Type) x y (k : Value → Option R), evFn (cx P l) n f [.agg ⟨[.int .i16 x, .int .i16 y]⟩] k = g R x y fun a b => k (.complex .f64 a b)) : SumOk P f (sOf g) :=
  sumOk_of hm h (n := n) fun R args k r hr => by
    unfold sOf at hr; split at hr
    · exact ⟨rfl, by rw [hg]; exact hr⟩
    · cases hr
theorem ok_sFrM {g : KFrM} (hm : P.follows .mixedOrders = true) (h : AllOk P l)
    (hg : ∀ (R : Type) (q : Fr) (k : Value → Option R), evFn (cx P l) n f [fv q] k = g R q fun m => k (mv 1 m)) : SumOk P f (sFrM g) :=
  sumOk_of hm h (n := n) fun R args k r hr => by
    unfold sFrM at hr; split at hr
    · obtain ⟨q, rfl, hx⟩ := oneF_some hr
      exact ⟨rfl, by rw [hg]; exact hx⟩
    · cases hr
theorem ok_sFrB {g : KFrB} (hm : P.follows .mixedOrders = true) (h : AllOk P l)
    (hg : ∀ (R : Type) (q : Fr) (k : Value → Option R), evFn (cx P l) n f [fv q] k = g R q fun t => k (.bool t)) : SumOk P f (sFrB g) :=
  sumOk_of hm h (n := n) fun R args k r hr => by
    unfold sFrB at hr; split at hr
    · obtain ⟨q, rfl, hx⟩ := oneF_some hr
      exact ⟨rfl, by rw [hg]; simpa only [forceB_eq] using hx⟩
    · cases hr
theorem ok_sTrue (hm : P.follows .mixedOrders = true) (h : AllOk P l)
    (hg : ∀ (R : Type) (k : Value → Option R), evFn (cx P l) n f [] k = k (.bool true)) : SumOk P f sTrue :=
  sumOk_of hm h (n := n) fun R args k r hr => by
    unfold sTrue at hr; split at hr
    · exact ⟨rfl, by rw [hg]; exact hr⟩
    · cases hr
end shapes

theorem k21 : SumOk Tryz.prog 21 (sCCC subK) := ok_sCCC zm_ok .nil z_sub
theorem k22 : SumOk Tryz.prog 22 (sCCC mulK) := ok_sCCC zm_ok .nil z_mul
theorem k84 : SumOk Tryz.prog 84 (sCCC addK) := ok_sCCC zm_ok .nil z_add
theorem k86 : SumOk Tryz.prog 86 (sCC negK) := ok_sCC zm_ok .nil z_neg
theorem k87 : SumOk Tryz.prog 87 (sFFB likeK) := ok_sFFB zm_ok .nil z_like
theorem k23 : SumOk Tryz.prog 23 (sCCB LikeK) := ok_sCCB zm_ok (.cons k87 h87 .nil) (z_Like _)
theorem k81 : SumOk Tryz.prog 81 (sCB noughtK) := ok_sCB zm_ok .nil z_nought
theorem k53 : SumOk Tryz.prog 53 (sFF absK) := ok_sFF zm_ok .nil z_abs
theorem k80 : SumOk Tryz.prog 80 (sFFB withinK) := ok_sFFB zm_ok (.cons k53 h53 .nil) (z_within _)
theorem k135 : SumOk Tryz.prog 135 (sCFB WithinK) := ok_sCFB zm_ok (.cons k80 h80 .nil) (z_Within _)
theorem k79 : SumOk Tryz.prog 79 (sCB placeK) := ok_sCB zm_ok (.cons k135 h135 .nil) (z_place _)
theorem k24 : SumOk Tryz.prog 24 (sUp upG) := ok_sUp zm_ok .nil z_up
theorem k25 : SumOk Tryz.prog 25 (sOf ofG) := ok_sOf zm_ok .nil z_of
theorem k16 : SumOk Tryz.prog 16 (sFrB smallK) := ok_sFrB zm_ok (.cons k24 h24 .nil) (z_small _)
theorem k15 : SumOk Tryz.prog 15 (sFrM frK) := ok_sFrM zm_ok (.cons k25 h25 .nil) (z_fr _)
theorem k82 : SumOk Tryz.prog 82 (sDet detK) := ok_sDet zm_ok (.cons k22 h22 (.cons k21 h21 .nil)) (z_det _ _)
theorem k83 : SumOk Tryz.prog 83 (sC4 bothK) := ok_sC4 zm_ok (.cons k22 h22 (.cons k84 h84 .nil)) (z_both _ _)
def chk2K : KMI := chk2B placeK noughtK withinK
theorem k17 : SumOk Tryz.prog 17 (sChk chkK chk2K) := ok_sChk zm_ok (.cons k79 h79 (.cons k81 h81 (.cons k80 h80 (.cons k82 h82 .nil)))) (z_chk1 _ _ _ _) (z_chk2 _ _ _ _)
theorem k85 : SumOk Tryz.prog 85 (sMM toldK) := ok_sMM zm_ok (.cons k17 h17 .nil) (z_told _ _)
theorem k20 : SumOk Tryz.prog 20 (sMM turnedK) := ok_sMM zm_ok (.cons k17 h17 (.cons k86 h86 (.cons k85 h85 .nil))) (z_turned _ _ _ _)
theorem k19 : SumOk Tryz.prog 19 (sMMB alikeK) := ok_sMMB zm_ok (.cons k23 h23 .nil) (z_alike _)
theorem k18 : SumOk Tryz.prog 18 (sMMM thenK) := ok_sMMM zm_ok (.cons k17 h17 (.cons k83 h83 (.cons k85 h85 .nil))) (z_then _ _ _ _)
theorem z_awake (R : Type) (k : Value → Option R) : evFn (cx Tryz.prog []) 1000 14 [] k = k (.bool true) := by kernel_rfl
theorem k14 : SumOk Tryz.prog 14 sTrue := ok_sTrue zm_ok .nil z_awake

theorem group_calls (f g h : Fr) (w : World) : Calls Tryz.prog 3 ⟨[fv f, fv g, fv h]⟩ w fun e w' => e = .returned (.bool true) ∧ RowKit.Below w.heap.size w w' := by
  have hall : AllOk Tryz.prog [(14, sTrue), (15, sFrM frK), (16, sFrB smallK), (17, sChk chkK chk2K), (18, sMMM thenK), (19, sMMB alikeK), (20, sMM turnedK), (21, sCCC subK), (22, sCCC mulK), (23, sCCB LikeK)] :=
    .cons k14 h14 (.cons k15 h15 (.cons k16 h16 (.cons k17 h17 (.cons k18 h18 (.cons k19 h19 (.cons k20 h20 (.cons k21 h21 (.cons k22 h22 (.cons k23 h23 .nil)))))))))
  have e : evFn (cx Tryz.prog [(14, sTrue), (15, sFrM frK), (16, sFrB smallK), (17, sChk chkK chk2K), (18, sMMM thenK), (19, sMMB alikeK), (20, sMM turnedK), (21, sCCC subK), (22, sCCC mulK), (23, sCCB LikeK)]) 40 3 [fv f, fv g, fv h] (fun v => match v with | .bool true => some () | _ => none) = some () := by
    rw [z_group]
    exact groupK_true f g h _
  obtain ⟨v, h1, _, h2⟩ := evFn_sound (cx_ok hall) zm_ok e rfl
  have : v = .bool true := by
    split at h1
    · rfl
    · cases h1
  subst this
  exact h2 w
end Go.Vm
