/- Sums, products and quotients of words of floats, quickly, are those of the standard's; no conditions. Sums, products, comparisons of words are those of their numbers, rounded; no conditions. -/
import Derived.Laws.FloatArith
import Derived.Test.YtnbpfafngidimaaGreatVmF0
namespace Go.Vm
open Ieee
set_option linter.unusedVariables false
set_option linter.unusedSimpArgs false

/-! ### Arithmetic of words by whole numbers alone: quick where a machine reckons with them -/
def forceN {R : Type} (n : Nat) (k : Nat → R) : R := Nat.casesOn n (k 0) fun m => k (Nat.succ m)
theorem forceN_eq {R : Type} (n : Nat) (k : Nat → R) : forceN n k = k n := by cases n <;> rfl

def expoW (w : Nat) : Nat := Nat.mod (Nat.div w 4503599627370496) 2048
def mantW (w : Nat) : Nat := bif Nat.beq (expoW w) 0 then Nat.mod w 4503599627370496 else Nat.add 4503599627370496 (Nat.mod w 4503599627370496)
def plcW (w : Nat) : Nat := Nat.sub (expoW w) 1
def sgnW (w : Nat) : Bool := Nat.beq (Nat.mod (Nat.div w 9223372036854775808) 2) 1
def finW (w : Nat) : Bool := Nat.blt (expoW w) 2047

theorem nb (a b : Nat) : Nat.beq a b = decide (a = b) := by
  cases h : Nat.beq a b with
  | true => have := Nat.eq_of_beq_eq_true h; simp [this]
  | false => have : a ≠ b := fun e => by subst e; simp at h
             simp [this]
theorem nl (a b : Nat) : Nat.blt a b = decide (a < b) := by
  cases h : Nat.blt a b with
  | true => have : a < b := by simpa using h
            simp [this]
  | false => have : ¬ a < b := fun e => by rw [show Nat.blt a b = true by simpa using e] at h; cases h
             simp [this]
theorem nle (a b : Nat) : Nat.ble a b = decide (a ≤ b) := by
  cases h : Nat.ble a b with
  | true => have : a ≤ b := by simpa using h
            simp [this]
  | false => have : ¬ a ≤ b := fun e => by rw [show Nat.ble a b = true by simpa using e] at h; cases h
             simp [this]

theorem read_fast {w : Nat} (h : finW w = true) : double.read w = .number (sgnW w) (mantW w) ((plcW w : Int) - 1074) := by
  have e1 : double.signWeight = 9223372036854775808 := by decide
  have e2 : double.binade = 4503599627370496 := by decide
  have e3 : double.infRung = 9218868437227405312 := by decide
  have e4 : double.leastPlace = -1074 := by decide
  unfold finW at h
  rw [nl] at h
  have hE : expoW w < 2047 := by simpa using h
  have hEe : expoW w = w / 4503599627370496 % 2048 := rfl
  have hs : sgnW w = (w / 9223372036854775808 % 2 == 1) := by
    unfold sgnW
    rw [nb]
    show decide (w / 9223372036854775808 % 2 = 1) = _
    by_cases g : w / 9223372036854775808 % 2 = 1 <;> simp [g]
  unfold Format.read
  simp only [e1, e2, e3, e4]
  rw [← hs]
  unfold mantW plcW
  rw [nb]
  by_cases h0 : expoW w = 0
  · have : w % 9223372036854775808 < 4503599627370496 := by omega
    have e : w % 9223372036854775808 = w % 4503599627370496 := by omega
    rw [if_pos this]
    simp only [h0, decide_true, cond_true]
    rw [e]
    rfl
  · have h1 : ¬ (w % 9223372036854775808 < 4503599627370496) := by omega
    have h2 : w % 9223372036854775808 < 9218868437227405312 := by omega
    rw [if_neg h1, if_pos h2]
    simp only [h0, decide_false, cond_false]
    have q1 : w % 9223372036854775808 % 4503599627370496 = w % 4503599627370496 := by omega
    have q2 : w % 9223372036854775808 / 4503599627370496 = expoW w := by omega
    rw [q1, q2]
    have q3 : (-1074 : Int) + ((expoW w - 1 : Nat) : Int) = (((expoW w - 1 : Nat)) : Int) - 1074 := by omega
    rw [q3]
    rfl

/-! the binary logarithm, by halves -/
def lgStep (k : Nat) (m acc : Nat) (next : Nat → Nat → Nat) : Nat := forceN (Nat.shiftRight m k) fun h => bif Nat.beq h 0 then next m acc else next h (Nat.add acc k)
def lg7 (m acc : Nat) : Nat := lgStep 64 m acc fun m acc => lgStep 32 m acc fun m acc => lgStep 16 m acc fun m acc => lgStep 8 m acc fun m acc => lgStep 4 m acc fun m acc => lgStep 2 m acc fun m acc => lgStep 1 m acc fun m acc => acc
def lgW (m : Nat) : Nat :=
  bif Nat.beq (Nat.shiftRight m 128) 0 then lg7 m 0 else
  bif Nat.beq (Nat.shiftRight m 4096) 0 then lgStep 2048 m 0 fun m acc => lgStep 1024 m acc fun m acc => lgStep 512 m acc fun m acc => lgStep 256 m acc fun m acc => lgStep 128 m acc lg7
  else Nat.log2 m

theorem log2_shift {m k : Nat} (h : m >>> k ≠ 0) : m.log2 = (m >>> k).log2 + k := by
  rw [Nat.shiftRight_eq_div_pow] at h ⊢
  have hm : m ≠ 0 := fun e => by subst e; simp at h
  have hp : 0 < 2 ^ k := Nat.two_pow_pos k
  have h1 := Nat.log2_self_le h
  have h2 : m / 2 ^ k < 2 ^ ((m / 2 ^ k).log2 + 1) := Nat.lt_log2_self
  have h3 : 2 ^ ((m / 2 ^ k).log2 + k) ≤ m := by
    rw [Nat.pow_add]
    exact Nat.le_trans (Nat.mul_le_mul_right _ h1) (Nat.div_mul_le_self m _)
  have h4 : m < 2 ^ ((m / 2 ^ k).log2 + k + 1) := by
    rw [show (m / 2 ^ k).log2 + k + 1 = (m / 2 ^ k).log2 + 1 + k by omega, Nat.pow_add]
    exact (Nat.div_lt_iff_lt_mul hp).1 h2
  have h5 := (Nat.le_log2 hm).2 h3
  have h6 := (Nat.log2_lt hm).2 h4
  omega
theorem lgStep_eq {k n m acc : Nat} {next : Nat → Nat → Nat} (hm : m < 2 ^ (n + k)) (hk : n ≤ k) (hnext : ∀ m acc, m < 2 ^ k → next m acc = m.log2 + acc) (hkk : n = k) : lgStep k m acc next = m.log2 + acc := by
  unfold lgStep
  rw [forceN_eq, nb]
  show (bif decide (m >>> k = 0) then next m acc else next (m >>> k) (acc + k)) = _
  by_cases h : m >>> k = 0
  · have : decide (m >>> k = 0) = true := by simp [h]
    rw [this]
    rw [Nat.shiftRight_eq_div_pow] at h
    have hp : 0 < 2 ^ k := Nat.two_pow_pos k
    have : m < 2 ^ k := by
      rcases Nat.lt_or_ge m (2 ^ k) with g | g
      · exact g
      · have := Nat.div_pos g hp; omega
    exact hnext m acc this
  · have : decide (m >>> k = 0) = false := by simp [h]
    rw [this, cond_false, hnext, log2_shift h]
    · omega
    · rw [Nat.shiftRight_eq_div_pow]
      subst hkk
      rw [Nat.pow_add] at hm
      exact (Nat.div_lt_iff_lt_mul (Nat.two_pow_pos n)).2 hm
theorem lg7_eq {m acc : Nat} (h : m < 2 ^ 128) : lg7 m acc = m.log2 + acc := by
  unfold lg7
  refine lgStep_eq (n := 64) h (by decide) (fun m acc h => ?_) rfl
  refine lgStep_eq (n := 32) h (by decide) (fun m acc h => ?_) rfl
  refine lgStep_eq (n := 16) h (by decide) (fun m acc h => ?_) rfl
  refine lgStep_eq (n := 8) h (by decide) (fun m acc h => ?_) rfl
  refine lgStep_eq (n := 4) h (by decide) (fun m acc h => ?_) rfl
  refine lgStep_eq (n := 2) h (by decide) (fun m acc h => ?_) rfl
  refine lgStep_eq (n := 1) h (by decide) (fun m acc h => ?_) rfl
  have : m = 0 ∨ m = 1 := by omega
  rcases this with rfl | rfl
  · simp
  · rw [show Nat.log2 1 = 0 by decide]; omega
theorem shift_zero {m k : Nat} (h : m >>> k = 0) : m < 2 ^ k := by
  rw [Nat.shiftRight_eq_div_pow] at h
  rcases Nat.lt_or_ge m (2 ^ k) with g | g
  · exact g
  · have := Nat.div_pos g (Nat.two_pow_pos k); omega
theorem lgUp {j k : Nat} (hj : j = k + k) {next : Nat → Nat → Nat} (hnext : ∀ m acc, m < 2 ^ k → next m acc = m.log2 + acc) : ∀ m acc, m < 2 ^ j → lgStep k m acc next = m.log2 + acc := fun m acc h => by
  subst hj
  exact lgStep_eq (n := k) h (Nat.le_refl _) hnext rfl
theorem lgW_eq (m : Nat) : lgW m = m.log2 := by
  have u128 : ∀ m acc, m < 2 ^ 128 → lg7 m acc = m.log2 + acc := fun m acc h => lg7_eq h
  generalize h1 : (4096 : Nat) = k4096
  have u256 := lgUp (j := 256) (k := 128) rfl u128
  generalize h256 : (256 : Nat) = k256 at u256
  have u512 := lgUp (j := 512) (k := k256) (by omega) u256
  generalize h512 : (512 : Nat) = k512 at u512
  have u1024 := lgUp (j := 1024) (k := k512) (by omega) u512
  generalize h1024 : (1024 : Nat) = k1024 at u1024
  have u2048 := lgUp (j := 2048) (k := k1024) (by omega) u1024
  generalize h2048 : (2048 : Nat) = k2048 at u2048
  have u4096 := lgUp (j := k4096) (k := k2048) (by omega) u2048
  unfold lgW
  rw [nb, nb, h1, h256, h512, h1024, h2048]
  show (bif decide (m >>> 128 = 0) then lg7 m 0 else bif decide (m >>> k4096 = 0) then _ else m.log2) = _
  by_cases h : m >>> 128 = 0
  · have e : decide (m >>> 128 = 0) = true := by simp only [h, decide_true]
    rw [e, cond_true, lg7_eq (shift_zero h)]
    omega
  · have e : decide (m >>> 128 = 0) = false := by simp only [h, decide_false]
    rw [e, cond_false]
    by_cases h2 : m >>> k4096 = 0
    · have e2 : decide (m >>> k4096 = 0) = true := by simp only [h2, decide_true]
      rw [e2, cond_true]
      exact (u4096 m 0 (shift_zero h2)).trans (by omega)
    · have e2 : decide (m >>> k4096 = 0) = false := by simp only [h2, decide_false]
      rw [e2]
      rfl

def cutW (n drop : Nat) : Nat :=
  forceN n fun n => forceN drop fun drop => forceN (Nat.add (lgW n) 2) fun lg => forceN (Nat.shiftLeft 1 (bif Nat.ble drop lg then drop else lg)) fun g =>
  forceN (Nat.div n g) fun low => forceN (Nat.mul 2 (Nat.mod n g)) fun rest =>
  bif Nat.blt g rest then Nat.succ low else bif Nat.beq g rest then (bif Nat.beq (Nat.mod low 2) 1 then Nat.succ low else low) else low

theorem cutW_eq (neg : Bool) (n drop : Nat) : cutW n drop = Toward.even.cut neg n drop := by
  unfold cutW Toward.cut
  simp only [forceN_eq, nb, nl, nle, lgW_eq]
  have hm : (bif decide (drop ≤ Nat.add n.log2 2) then drop else Nat.add n.log2 2) = min drop (n.log2 + 2) := by
    show (bif decide (drop ≤ n.log2 + 2) then drop else n.log2 + 2) = _
    by_cases h : drop ≤ n.log2 + 2
    · simp [h]
    · simp [h]; omega
  rw [hm]
  show (bif decide ((1 <<< min drop (n.log2 + 2)) < 2 * (n % (1 <<< min drop (n.log2 + 2)))) then Nat.succ (n / (1 <<< min drop (n.log2 + 2))) else
    bif decide ((1 <<< min drop (n.log2 + 2)) = 2 * (n % (1 <<< min drop (n.log2 + 2)))) then (bif decide (n / (1 <<< min drop (n.log2 + 2)) % 2 = 1) then Nat.succ (n / (1 <<< min drop (n.log2 + 2))) else n / (1 <<< min drop (n.log2 + 2))) else n / (1 <<< min drop (n.log2 + 2))) = _
  generalize 1 <<< min drop (n.log2 + 2) = g
  generalize n / g = low
  generalize 2 * (n % g) = rest
  by_cases h1 : g < rest
  · simp [h1]
  · by_cases h2 : g = rest
    · by_cases h3 : low % 2 = 1
      · simp [h1, h2, h3]
      · simp [h1, h2, h3]
    · simp [h1, h2]

def nearG (c52 c63 ci B : Nat) (neg : Bool) (m P : Nat) : Nat :=
  forceN m fun m => forceN P fun P => bif Nat.beq m 0 then (bif neg then c63 else 0) else
  forceN (Nat.add P (lgW m)) fun Q => forceN (bif Nat.ble (Nat.add B 52) (Nat.add Q 1074) then Nat.sub Q 52 else Nat.sub B 1074) fun L =>
  forceN (bif Nat.ble L P then Nat.shiftLeft m (Nat.sub P L) else cutW m (Nat.sub L P)) fun kept =>
  forceN (Nat.add (Nat.mul (Nat.sub (Nat.add L 1074) B) c52) kept) fun r =>
  forceN (bif Nat.ble r ci then r else ci) fun r =>
  bif neg then Nat.add c63 r else r
def nearW (B : Nat) (neg : Bool) (m P : Nat) : Nat := nearG 4503599627370496 9223372036854775808 9218868437227405312 B neg m P

theorem cut_none (neg : Bool) (q : Nat) : Toward.even.cut neg q 0 = q := by
  unfold Toward.cut
  simp [Nat.mod_one]

theorem nearG_eq {c52 c63 ci B : Nat} (e1 : double.signWeight = c63) (e2 : double.binade = c52) (e3 : double.infRung = ci) (hB : 1126 ≤ B) (neg : Bool) (m P : Nat) : nearG c52 c63 ci B neg m P = double.nearest neg m ((P : Int) - B) := by
  have e4 : double.leastPlace = -1074 := by decide
  have e5 : double.fractionBits = 52 := rfl
  unfold nearG Format.nearest Format.word
  simp only [forceN_eq, nb, nle, lgW_eq, e1, e2, e3, e4, e5]
  by_cases hm : m = 0
  · rw [if_pos hm]
    have : decide (m = 0) = true := by simp [hm]
    rw [this]
    cases neg <;> simp
  · rw [if_neg hm]
    have : decide (m = 0) = false := by simp [hm]
    rw [this]
    simp only [cond_false]
    have hL : (((bif decide (Nat.add B 52 ≤ Nat.add (Nat.add P m.log2) 1074) then Nat.sub (Nat.add P m.log2) 52 else Nat.sub B 1074) : Nat) : Int) = max ((P : Int) - B + m.log2 - (52 : Nat)) (-1074) + B := by
      show (((bif decide (B + 52 ≤ P + m.log2 + 1074) then P + m.log2 - 52 else B - 1074) : Nat) : Int) = _
      by_cases h : B + 52 ≤ P + m.log2 + 1074
      · simp only [h, decide_true, cond_true]; omega
      · simp only [h, decide_false, cond_false]; omega
    generalize (bif decide (Nat.add B 52 ≤ Nat.add (Nat.add P m.log2) 1074) then Nat.sub (Nat.add P m.log2) 52 else Nat.sub B 1074) = L at *
    have hmax : max ((P : Int) - B + m.log2 - (52 : Nat)) (-1074) = (L : Int) - B := by omega
    rw [hmax]
    have hk : (bif decide (L ≤ P) then Nat.shiftLeft m (Nat.sub P L) else cutW m (Nat.sub L P)) = Toward.even.cut neg (m <<< ((P : Int) - B - ((L : Int) - B)).toNat) ((L : Int) - B - ((P : Int) - B)).toNat := by
      by_cases h : L ≤ P
      · simp only [h, decide_true, cond_true]
        have d0 : ((L : Int) - B - ((P : Int) - B)).toNat = 0 := by omega
        have d1 : ((P : Int) - B - ((L : Int) - B)).toNat = P - L := by omega
        rw [d0, d1, cut_none]
        rfl
      · simp only [h, decide_false, cond_false]
        have d0 : ((L : Int) - B - ((P : Int) - B)).toNat = L - P := by omega
        have d1 : ((P : Int) - B - ((L : Int) - B)).toNat = 0 := by omega
        rw [d0, d1, cutW_eq neg]
        rfl
    rw [hk]
    generalize Toward.even.cut neg (m <<< ((P : Int) - B - ((L : Int) - B)).toNat) ((L : Int) - B - ((P : Int) - B)).toNat = kept
    have hr : ((L : Int) - B - -1074).toNat = L + 1074 - B := by omega
    rw [hr]
    have hrr : Nat.add (Nat.mul (Nat.sub (Nat.add L 1074) B) c52) kept = (L + 1074 - B) * c52 + kept := rfl
    rw [hrr]
    generalize (L + 1074 - B) * c52 + kept = r
    have hmin : (bif decide (r ≤ ci) then r else ci) = min r ci := by
      by_cases h : r ≤ ci
      · simp only [h, decide_true, cond_true]; omega
      · simp only [h, decide_false, cond_false]; omega
    rw [hmin]
    cases neg
    · rfl
    · rfl
theorem nearW_eq {B : Nat} (hB : 1126 ≤ B) (neg : Bool) (m P : Nat) : nearW B neg m P = double.nearest neg m ((P : Int) - B) :=
  nearG_eq (by decide) (by decide) (by decide) hB neg m P

def mulW (a b : Nat) : Option Nat :=
  bif finW a && finW b then forceN (mantW a) fun ma => forceN (mantW b) fun mb => some (nearW 2148 (sgnW a ^^ sgnW b) (Nat.mul ma mb) (Nat.add (plcW a) (plcW b))) else double.mul a b
theorem mulW_eq (a b : Nat) : mulW a b = double.mul a b := by
  unfold mulW
  cases h : (finW a && finW b) with
  | false => rfl
  | true =>
    simp only [Bool.and_eq_true] at h
    simp only [cond_true, forceN_eq]
    unfold Format.mul
    rw [read_fast h.1, read_fast h.2, nearW_eq (by decide)]
    have e : (((Nat.add (plcW a) (plcW b) : Nat)) : Int) - (2148 : Nat) = (plcW a : Int) - 1074 + ((plcW b : Int) - 1074) := by
      show (((plcW a + plcW b : Nat)) : Int) - (2148 : Nat) = _
      omega
    rw [e]
    rfl

def sumW (s t : Bool) (m n p q : Nat) : Nat :=
  forceN (bif Nat.ble p q then p else q) fun base => forceN (Nat.shiftLeft m (Nat.sub p base)) fun x => forceN (Nat.shiftLeft n (Nat.sub q base)) fun y =>
  bif s ^^ t then
    (bif Nat.blt y x then nearW 1126 s (Nat.sub x y) (Nat.add base 52) else bif Nat.blt x y then nearW 1126 t (Nat.sub y x) (Nat.add base 52) else 0)
  else nearW 1126 s (Nat.add x y) (Nat.add base 52)
theorem sumW_eq (s t : Bool) (m n p q : Nat) : (Datum.sum (.number s m ((p : Int) - 1074)) (.number t n ((q : Int) - 1074))).map double.write = some (sumW s t m n p q) := by
  unfold sumW Datum.sum
  simp only [forceN_eq, nl, nle]
  have hb : min ((p : Int) - 1074) ((q : Int) - 1074) = ((bif decide (p ≤ q) then p else q : Nat) : Int) - 1074 := by
    by_cases h : p ≤ q
    · simp only [h, decide_true, cond_true]; exact Int.min_eq_left (by omega)
    · simp only [h, decide_false, cond_false]; exact Int.min_eq_right (by omega)
  rw [hb]
  have hle : (bif decide (p ≤ q) then p else q) ≤ p ∧ (bif decide (p ≤ q) then p else q) ≤ q := by
    by_cases h : p ≤ q
    · have e : decide (p ≤ q) = true := by simp [h]
      rw [e]; exact ⟨Nat.le_refl _, h⟩
    · have e : decide (p ≤ q) = false := by simp [h]
      rw [e]; exact ⟨by simp only [cond_false]; omega, Nat.le_refl _⟩
  generalize (bif decide (p ≤ q) then p else q) = base at *
  have d1 : ((p : Int) - 1074 - ((base : Int) - 1074)).toNat = p - base := by omega
  have d2 : ((q : Int) - 1074 - ((base : Int) - 1074)).toNat = q - base := by omega
  rw [d1, d2]
  show Option.map double.write (some (Datum.number _ _ _)) = some _
  rw [Option.map_some]
  congr 1
  show double.nearest _ _ _ = _
  have w1 : ∀ (neg : Bool) (k : Nat), nearW 1126 neg k (Nat.add base 52) = double.nearest neg k ((base : Int) - 1074) := fun neg k => by
    rw [nearW_eq (by decide)]
    congr 1
    show ((base + 52 : Nat) : Int) - (1126 : Nat) = _
    omega
  simp only [w1]
  show double.nearest (if signed s m (p - base) + signed t n (q - base) = 0 then s && t else decide (signed s m (p - base) + signed t n (q - base) < 0)) (signed s m (p - base) + signed t n (q - base)).natAbs ((base : Int) - 1074) =
    (bif s ^^ t then (bif decide (n <<< (q - base) < m <<< (p - base)) then double.nearest s (m <<< (p - base) - n <<< (q - base)) ((base : Int) - 1074) else bif decide (m <<< (p - base) < n <<< (q - base)) then double.nearest t (n <<< (q - base) - m <<< (p - base)) ((base : Int) - 1074) else 0)
    else double.nearest s (m <<< (p - base) + n <<< (q - base)) ((base : Int) - 1074))
  unfold signed
  generalize m <<< (p - base) = x
  generalize n <<< (q - base) = y
  have z0 : double.nearest false 0 ((base : Int) - 1074) = 0 := by
    unfold Format.nearest Format.word
    rw [if_pos rfl]
    rfl
  cases s <;> cases t
  · simp only [Bool.false_eq_true, if_false, Bool.xor_self, cond_false]
    by_cases h : (x : Int) + y = 0
    · rw [if_pos h]
      have : ((x : Int) + y).natAbs = x + y := by omega
      rw [this]; rfl
    · rw [if_neg h]
      have : ((x : Int) + y).natAbs = x + y := by omega
      rw [this]
      have : decide ((x : Int) + y < 0) = false := by simp; omega
      rw [this]
  · simp only [Bool.false_eq_true, if_false, if_true, Bool.false_xor, cond_true]
    by_cases h1 : y < x
    · rw [if_neg (by omega)]
      simp only [h1, decide_true, cond_true]
      have : ((x : Int) + -(y : Int)).natAbs = x - y := by omega
      rw [this]
      have : decide ((x : Int) + -(y : Int) < 0) = false := by simp; omega
      rw [this]
    · by_cases h2 : x < y
      · rw [if_neg (by omega)]
        simp only [h1, h2, decide_true, decide_false, cond_true, cond_false]
        have : ((x : Int) + -(y : Int)).natAbs = y - x := by omega
        rw [this]
        have : decide ((x : Int) + -(y : Int) < 0) = true := by simp; omega
        rw [this]
      · rw [if_pos (by omega)]
        simp only [h1, h2, decide_false, cond_false]
        have : ((x : Int) + -(y : Int)).natAbs = 0 := by omega
        rw [this]
        exact z0
  · simp only [Bool.false_eq_true, if_false, if_true, Bool.xor_false, cond_true]
    by_cases h1 : y < x
    · rw [if_neg (by omega)]
      simp only [h1, decide_true, cond_true]
      have : (-(x : Int) + (y : Int)).natAbs = x - y := by omega
      rw [this]
      have : decide (-(x : Int) + (y : Int) < 0) = true := by simp; omega
      rw [this]
    · by_cases h2 : x < y
      · rw [if_neg (by omega)]
        simp only [h1, h2, decide_true, decide_false, cond_true, cond_false]
        have : (-(x : Int) + (y : Int)).natAbs = y - x := by omega
        rw [this]
        have : decide (-(x : Int) + (y : Int) < 0) = false := by simp; omega
        rw [this]
      · rw [if_pos (by omega)]
        simp only [h1, h2, decide_false, cond_false]
        have : (-(x : Int) + (y : Int)).natAbs = 0 := by omega
        rw [this]
        exact z0
  · simp only [if_true, Bool.xor_self, cond_false]
    by_cases h : -(x : Int) + -(y : Int) = 0
    · rw [if_pos h]
      have : (-(x : Int) + -(y : Int)).natAbs = x + y := by omega
      rw [this]; rfl
    · rw [if_neg h]
      have : (-(x : Int) + -(y : Int)).natAbs = x + y := by omega
      rw [this]
      have : decide (-(x : Int) + -(y : Int) < 0) = true := by simp; omega
      rw [this]

def addW (a b : Nat) : Option Nat :=
  bif finW a && finW b then forceN (mantW a) fun ma => forceN (mantW b) fun mb => forceN (plcW a) fun pa => forceN (plcW b) fun pb => some (sumW (sgnW a) (sgnW b) ma mb pa pb) else double.add a b
theorem addW_eq (a b : Nat) : addW a b = double.add a b := by
  unfold addW
  cases h : (finW a && finW b) with
  | false => rfl
  | true =>
    simp only [Bool.and_eq_true] at h
    simp only [cond_true, forceN_eq]
    unfold Format.add
    rw [read_fast h.1, read_fast h.2, sumW_eq]
def subW (a b : Nat) : Option Nat :=
  bif finW a && finW b then forceN (mantW a) fun ma => forceN (mantW b) fun mb => forceN (plcW a) fun pa => forceN (plcW b) fun pb => some (sumW (sgnW a) (!sgnW b) ma mb pa pb) else double.sub a b
theorem subW_eq (a b : Nat) : subW a b = double.sub a b := by
  unfold subW
  cases h : (finW a && finW b) with
  | false => rfl
  | true =>
    simp only [Bool.and_eq_true] at h
    simp only [cond_true, forceN_eq]
    unfold Format.sub
    rw [read_fast h.1, read_fast h.2]
    show _ = (Datum.sum (.number (sgnW a) (mantW a) ((plcW a : Int) - 1074)) (.number (!sgnW b) (mantW b) ((plcW b : Int) - 1074))).map double.write
    rw [sumW_eq]

def divW (a b : Nat) : Option Nat :=
  bif finW a && finW b then forceN (mantW a) fun m => forceN (mantW b) fun n =>
    bif Nat.beq n 0 then double.div a b else
    forceN (Nat.sub (Nat.add 54 (lgW n)) (lgW m)) fun more => forceN (Nat.shiftLeft m more) fun d =>
    some (nearW 4000 (sgnW a ^^ sgnW b) (Nat.add (Nat.mul 2 (Nat.div d n)) (bif Nat.beq (Nat.mod d n) 0 then 0 else 1)) (Nat.sub (Nat.add (plcW a) 3999) (Nat.add (plcW b) more)))
  else double.div a b
theorem divW_eq (a b : Nat) : divW a b = double.div a b := by
  unfold divW
  cases h : (finW a && finW b) with
  | false => rfl
  | true =>
    simp only [Bool.and_eq_true] at h
    simp only [cond_true, forceN_eq, nb, lgW_eq]
    by_cases hn : mantW b = 0
    · simp only [hn, decide_true, cond_true]
    · simp only [hn, decide_false, cond_false]
      unfold Format.div
      rw [read_fast h.1, read_fast h.2]
      unfold Datum.quotient
      simp only [hn, if_false]
      show some _ = some _
      congr 1
      rw [nearW_eq (by decide)]
      show double.nearest _ _ _ = double.nearest _ _ _
      have hmm : Nat.sub (Nat.add 54 (mantW b).log2) (mantW a).log2 = double.fractionBits + 2 + (mantW b).log2 - (mantW a).log2 := rfl
      rw [hmm]
      have hp : plcW b ≤ 2046 := by
        have hb := h.2
        unfold finW at hb
        rw [nl] at hb
        have : expoW b < 2047 := by simpa using hb
        show expoW b - 1 ≤ 2046
        omega
      have hl : (mantW b).log2 ≤ 53 := by
        have : mantW b < 2 ^ 54 := by
          unfold mantW
          have : Nat.mod b 4503599627370496 < 4503599627370496 := Nat.mod_lt _ (by decide)
          cases Nat.beq (expoW b) 0
          · show 4503599627370496 + Nat.mod b 4503599627370496 < 2 ^ 54; omega
          · show Nat.mod b 4503599627370496 < 2 ^ 54; omega
        have := (Nat.log2_lt hn).2 this
        omega
      have hf : double.fractionBits = 52 := rfl
      have hmore : double.fractionBits + 2 + (mantW b).log2 - (mantW a).log2 ≤ 107 := by omega
      generalize double.fractionBits + 2 + (mantW b).log2 - (mantW a).log2 = more at *
      congr 1
      · show 2 * (mantW a <<< more / mantW b) + (bif decide (mantW a <<< more % mantW b = 0) then 0 else 1) = _
        by_cases g : mantW a <<< more % mantW b = 0
        · simp [g]
        · have g2 : ((mantW a <<< more) % mantW b != 0) = true := by simpa using g
          have g3 : decide ((mantW a <<< more) % mantW b = 0) = false := by simpa using g
          rw [g2, g3]
          rfl
      · show ((plcW a + 3999 - (plcW b + more) : Nat) : Int) - (4000 : Nat) = _
        omega

/-- the arithmetic of words -/
def fbF (op : BinOp) (a b : Nat) : Option Nat :=
  match op with
  | .add => addW a b
  | .sub => subW a b
  | .mul => mulW a b
  | .quo => divW a b
  | op => floatBits op .f64 a b
theorem fbF_eq (op : BinOp) (a b : Nat) : fbF op a b = floatBits op .f64 a b := by
  unfold fbF
  split
  · rw [addW_eq]; rfl
  · rw [subW_eq]; rfl
  · rw [mulW_eq]; rfl
  · rw [divW_eq]; rfl
  · rfl

/-- how two words stand to each other -/
def ordW (a b : Nat) : Option Ordering :=
  bif finW a && finW b then
    forceN (mantW a) fun m => forceN (mantW b) fun n => forceN (plcW a) fun p => forceN (plcW b) fun q =>
    forceN (bif Nat.ble p q then p else q) fun base => forceN (Nat.shiftLeft m (Nat.sub p base)) fun x => forceN (Nat.shiftLeft n (Nat.sub q base)) fun y =>
    bif sgnW a then
      (bif sgnW b then (bif Nat.beq x y then some .eq else bif Nat.blt y x then some .lt else some .gt)
       else (bif Nat.beq x 0 && Nat.beq y 0 then some .eq else some .lt))
    else
      (bif sgnW b then (bif Nat.beq x 0 && Nat.beq y 0 then some .eq else some .gt)
       else (bif Nat.beq x y then some .eq else bif Nat.blt x y then some .lt else some .gt))
  else double.order a b
theorem cmp_int (x y : Int) : compare x y = if x < y then .lt else if x = y then .eq else .gt := by
  show compareOfLessAndEq x y = _
  rfl
theorem ordW_eq (a b : Nat) : ordW a b = double.order a b := by
  unfold ordW
  cases h : (finW a && finW b) with
  | false => rfl
  | true =>
    simp only [Bool.and_eq_true] at h
    simp only [cond_true, forceN_eq, nb, nl, nle]
    unfold Format.order
    rw [read_fast h.1, read_fast h.2]
    unfold Datum.order
    simp only
    generalize plcW a = p
    generalize plcW b = q
    generalize mantW a = m
    generalize mantW b = n
    have hb : min ((p : Int) - 1074) ((q : Int) - 1074) = ((bif decide (p ≤ q) then p else q : Nat) : Int) - 1074 := by
      by_cases h : p ≤ q
      · simp only [h, decide_true, cond_true]; exact Int.min_eq_left (by omega)
      · simp only [h, decide_false, cond_false]; exact Int.min_eq_right (by omega)
    rw [hb]
    have hle : (bif decide (p ≤ q) then p else q) ≤ p ∧ (bif decide (p ≤ q) then p else q) ≤ q := by
      by_cases h : p ≤ q
      · have e : decide (p ≤ q) = true := by simp [h]
        rw [e]; exact ⟨Nat.le_refl _, h⟩
      · have e : decide (p ≤ q) = false := by simp [h]
        rw [e]; exact ⟨by simp only [cond_false]; omega, Nat.le_refl _⟩
    generalize (bif decide (p ≤ q) then p else q) = base at *
    have d1 : ((p : Int) - 1074 - ((base : Int) - 1074)).toNat = p - base := by omega
    have d2 : ((q : Int) - 1074 - ((base : Int) - 1074)).toNat = q - base := by omega
    rw [d1, d2, cmp_int]
    unfold signed
    show (bif sgnW a then (bif sgnW b then (bif decide (m <<< (p - base) = n <<< (q - base)) then some Ordering.eq else bif decide (n <<< (q - base) < m <<< (p - base)) then some .lt else some .gt) else (bif decide (m <<< (p - base) = 0) && decide (n <<< (q - base) = 0) then some .eq else some .lt))
      else (bif sgnW b then (bif decide (m <<< (p - base) = 0) && decide (n <<< (q - base) = 0) then some .eq else some .gt) else (bif decide (m <<< (p - base) = n <<< (q - base)) then some .eq else bif decide (m <<< (p - base) < n <<< (q - base)) then some .lt else some .gt))) = _
    generalize m <<< (p - base) = x
    generalize n <<< (q - base) = y
    cases sgnW a <;> cases sgnW b
    · simp only [cond_false, Bool.false_eq_true, if_false]
      by_cases g1 : x = y
      · subst g1; simp
      · by_cases g2 : x < y
        · simp [g1, g2]
        · have : ¬ ((x : Int) < y) := by omega
          have : ¬ ((x : Int) = y) := by omega
          rw [if_neg ‹_›, if_neg ‹_›]
          simp [g1, g2]
    · simp only [cond_false, cond_true, Bool.false_eq_true, if_false, if_true]
      by_cases g1 : x = 0 ∧ y = 0
      · obtain ⟨rfl, rfl⟩ := g1; simp
      · have g2 : (decide (x = 0) && decide (y = 0)) = false := by simp; omega
        rw [g2, if_neg (by omega), if_neg (by omega)]
        rfl
    · simp only [cond_false, cond_true, Bool.false_eq_true, if_false, if_true]
      by_cases g1 : x = 0 ∧ y = 0
      · obtain ⟨rfl, rfl⟩ := g1; simp
      · have g2 : (decide (x = 0) && decide (y = 0)) = false := by simp; omega
        rw [g2, if_pos (by omega)]
        rfl
    · simp only [cond_true, if_true]
      by_cases g1 : x = y
      · subst g1; simp
      · by_cases g2 : y < x
        · have q1 : -(x : Int) < -(y : Int) := by omega
          simp [g1, g2]
        · have q1 : ¬ (-(x : Int) < -(y : Int)) := by omega
          have q2 : ¬ (-(x : Int) = -(y : Int)) := by omega
          rw [if_neg q1, if_neg q2]
          simp [g1, g2]
end Go.Vm
namespace Go.Vm
open Ieee
set_option linter.unusedVariables false
set_option linter.unusedSimpArgs false

theorem sg_not (s : Bool) : sg (!s) = -sg s := by cases s <;> simp [sg]
theorem sg_xor (s t : Bool) : sg (s ^^ t) = sg s * sg t := by cases s <;> cases t <;> simp [sg] <;> grind
theorem dv_abs (s : Bool) (m : Nat) (i : Int) : (dv s m i).abs = (m : Rat) * (2 : Rat) ^ i := by
  unfold dv
  rw [sg_abs, Rat.abs_of_nonneg]
  exact Rat.mul_nonneg (by exact_mod_cast Nat.zero_le _) (Rat.le_of_lt (p2_pos i))

theorem signed_val (s : Bool) (m up : Nat) : ((signed s m up : Int) : Rat) = sg s * ((m : Rat) * (2 : Rat) ^ (up : Int)) := by
  unfold signed sg
  rw [p2_nat, Nat.shiftLeft_eq]
  cases s
  · simp only [Bool.false_eq_true, if_false]; push_cast; grind
  · simp only [if_true]; push_cast; grind

theorem int_dv (n : Int) (b : Bool) (i : Int) (hb : n ≠ 0 → b = decide (n < 0)) : dv b n.natAbs i = (n : Rat) * (2 : Rat) ^ i := by
  unfold dv sg
  by_cases h : n = 0
  · subst h; simp
  · rw [hb h]
    rcases (show n < 0 ∨ 0 ≤ n by omega) with h1 | h1
    · simp only [h1, decide_true, if_true]
      have : ((n.natAbs : Nat) : Rat) = -(n : Rat) := by
        have : ((n.natAbs : Nat) : Int) = -n := by omega
        exact_mod_cast congrArg (fun z : Int => (z : Rat)) this
      rw [this]; grind
    · have h2 : ¬ n < 0 := by omega
      simp only [h2, decide_false, Bool.false_eq_true, if_false]
      have : ((n.natAbs : Nat) : Rat) = (n : Rat) := by
        have : ((n.natAbs : Nat) : Int) = n := by omega
        exact_mod_cast congrArg (fun z : Int => (z : Rat)) this
      rw [this]; grind

theorem number_is {s : Bool} {m : Nat} {i : Int} (h : (dv s m i).abs < (2 : Rat) ^ (1023 : Int)) :
    ∃ z, Is (double.write (.number s m i)) z ∧ Rnd (dv s m i) z := nearest_is (by rw [dv_abs] at h; exact h)

theorem sum_val {s t : Bool} {m n : Nat} {i j : Int} : ∃ b k e, Datum.sum (.number s m i) (.number t n j) = some (.number b k e) ∧ dv b k e = dv s m i + dv t n j := by
  refine ⟨_, _, _, rfl, ?_⟩
  have hs : ∀ (s : Bool) (m : Nat) (i b : Int), b ≤ i → ((signed s m (i - b).toNat : Int) : Rat) * (2 : Rat) ^ b = dv s m i := fun s m i b hb => by
    rw [signed_val, show (((i - b).toNat : Nat) : Int) = i - b by omega]
    unfold dv
    rw [show (2 : Rat) ^ i = (2 : Rat) ^ (i - b) * (2 : Rat) ^ b by rw [← p2_add]; congr 1; omega]
    grind
  rw [int_dv]
  · push_cast
    rw [← hs s m i (min i j) (by omega), ← hs t n j (min i j) (by omega)]
    grind
  · intro h0
    rw [if_neg h0]

theorem add_is {a b : Nat} {x y : Rat} (ha : Is a x) (hb : Is b y) (h : (x + y).abs < (2 : Rat) ^ (1023 : Int)) :
    ∃ r z, fbF .add a b = some r ∧ Is r z ∧ Rnd (x + y) z := by
  obtain ⟨_, s, m, i, h1, rfl⟩ := ha
  obtain ⟨_, t, n, j, h2, rfl⟩ := hb
  obtain ⟨c, k, e, h3, h4⟩ := @sum_val s t m n i j
  rw [← h4] at h ⊢
  obtain ⟨z, h5, h6⟩ := number_is h
  refine ⟨_, z, ?_, h5, h6⟩
  rw [fbF_eq]
  show double.add a b = _
  unfold Format.add
  rw [h1, h2, h3]
  rfl

theorem sub_is {a b : Nat} {x y : Rat} (ha : Is a x) (hb : Is b y) (h : (x - y).abs < (2 : Rat) ^ (1023 : Int)) :
    ∃ r z, fbF .sub a b = some r ∧ Is r z ∧ Rnd (x - y) z := by
  obtain ⟨_, s, m, i, h1, rfl⟩ := ha
  obtain ⟨_, t, n, j, h2, rfl⟩ := hb
  obtain ⟨c, k, e, h3, h4⟩ := @sum_val s (!t) m n i j
  have h7 : dv (!t) n j = - dv t n j := by unfold dv; rw [sg_not]; grind
  rw [show dv s m i - dv t n j = dv s m i + dv (!t) n j by grind, ← h4] at h ⊢
  obtain ⟨z, h5, h6⟩ := number_is h
  refine ⟨_, z, ?_, h5, h6⟩
  rw [fbF_eq]
  show double.sub a b = _
  unfold Format.sub
  rw [h1, h2]
  show (Datum.sum (.number s m i) (.number (!t) n j)).map double.write = _
  rw [h3]
  rfl

theorem mul_is {a b : Nat} {x y : Rat} (ha : Is a x) (hb : Is b y) (h : (x * y).abs < (2 : Rat) ^ (1023 : Int)) :
    ∃ r z, fbF .mul a b = some r ∧ Is r z ∧ Rnd (x * y) z := by
  obtain ⟨_, s, m, i, h1, rfl⟩ := ha
  obtain ⟨_, t, n, j, h2, rfl⟩ := hb
  have h4 : dv (s ^^ t) (m * n) (i + j) = dv s m i * dv t n j := by
    unfold dv; rw [sg_xor, p2_add]; push_cast; grind
  rw [← h4] at h ⊢
  obtain ⟨z, h5, h6⟩ := number_is h
  refine ⟨_, z, ?_, h5, h6⟩
  rw [fbF_eq]
  show double.mul a b = _
  unfold Format.mul
  rw [h1, h2]
  rfl

theorem neg_is {a : Nat} {x : Rat} (ha : Is a x) : Is (Op.negFloat .f64 a) (-x) := by
  obtain ⟨hw, s, m, i, h1, rfl⟩ := ha
  refine ⟨Nat.xor_lt_two_pow hw (by decide), !s, m, i, ?_, by unfold dv; rw [sg_not]; grind⟩
  have e1 : double.signWeight = 2 ^ 63 := by decide
  have hx : Op.negFloat .f64 a = a ^^^ 2 ^ 63 := rfl
  have hm : (a ^^^ 2 ^ 63) % 2 ^ 63 = a % 2 ^ 63 := by rw [Nat.xor_mod_two_pow]; simp
  have ht : ((a ^^^ 2 ^ 63) / 2 ^ 63 % 2 == 1) = !(a / 2 ^ 63 % 2 == 1) := by
    have h0 : ∀ x : Nat, (x / 2 ^ 63 % 2 == 1) = x.testBit 63 := fun x => by rw [Nat.testBit_eq_decide_div_mod_eq]; rfl
    rw [h0, h0, Nat.testBit_xor, Nat.testBit_two_pow_self]
    cases a.testBit 63 <;> rfl
  unfold Format.read at *
  rw [hx]
  simp only [e1] at h1 ⊢
  rw [hm, ht]
  split at h1
  · rename_i hc
    simp only [hc, if_true]
    injection h1 with g1 g2 g3
    rw [g1, g2, g3]
  · split at h1
    · rename_i hc1 hc
      simp only [hc, if_true, hc1, if_false]
      injection h1 with g1 g2 g3
      rw [g1, g2, g3]
    · split at h1 <;> cases h1

theorem order_is {a b : Nat} {x y : Rat} (ha : Is a x) (hb : Is b y) :
    ordW a b = some (if x < y then .lt else if x = y then .eq else .gt) := by
  rw [ordW_eq]
  obtain ⟨_, s, m, i, h1, rfl⟩ := ha
  obtain ⟨_, t, n, j, h2, rfl⟩ := hb
  unfold Format.order
  rw [h1, h2]
  show some (compare (signed s m (i - min i j).toNat) (signed t n (j - min i j).toNat)) = _
  have hs : ∀ (s : Bool) (m : Nat) (i b : Int), b ≤ i → ((signed s m (i - b).toNat : Int) : Rat) * (2 : Rat) ^ b = dv s m i := fun s m i b hb => by
    rw [signed_val, show (((i - b).toNat : Nat) : Int) = i - b by omega]
    unfold dv
    rw [show (2 : Rat) ^ i = (2 : Rat) ^ (i - b) * (2 : Rat) ^ b by rw [← p2_add]; congr 1; omega]
    grind
  have e1 := hs s m i (min i j) (by omega)
  have e2 := hs t n j (min i j) (by omega)
  generalize signed s m (i - min i j).toNat = p at *
  generalize signed t n (j - min i j).toNat = q at *
  rw [← e1, ← e2]
  have hp := p2_pos (min i j)
  generalize (2 : Rat) ^ (min i j) = u at *
  congr 1
  rcases Int.lt_trichotomy p q with h | h | h
  · have : ((p : Rat)) < (q : Rat) := by exact_mod_cast h
    have := Rat.mul_lt_mul_of_pos_right this hp
    rw [if_pos this]
    exact Int.compare_eq_lt.2 h
  · subst h
    rw [if_neg (by grind), if_pos rfl]
    exact Int.compare_eq_eq.2 rfl
  · have : ((q : Rat)) < (p : Rat) := by exact_mod_cast h
    have := Rat.mul_lt_mul_of_pos_right this hp
    rw [if_neg (by grind), if_neg (by grind)]
    exact Int.compare_eq_gt.2 h

theorem ofInt_is {n : Int} (h : n.natAbs < 2 ^ 53) : Is (floatOfInt .f64 n) n := by
  have h1 := int_dv n (decide (n < 0)) 0 fun _ => rfl
  have h2 : (n : Rat) * (2 : Rat) ^ (0 : Int) = n := by simp
  rw [h2] at h1
  have h3 : (dv (decide (n < 0)) n.natAbs 0).abs < (2 : Rat) ^ (1023 : Int) := by
    rw [dv_abs]
    have h4 : ((n.natAbs : Nat) : Rat) < ((2 ^ 53 : Nat) : Rat) := nat_cast_lt h
    have h5 : (2 : Rat) ^ (53 : Int) ≤ (2 : Rat) ^ (1023 : Int) := p2_le (by decide)
    have h6 : (2 : Rat) ^ (53 : Int) = ((2 ^ 53 : Nat) : Rat) := p2_nat 53
    have h7 : (2 : Rat) ^ (0 : Int) = 1 := by simp
    grind
  obtain ⟨z, h5, h6⟩ := number_is h3
  have : z = n := by
    rw [← h1]
    exact h6.rep n 0 h (by decide) (by rw [h1, h2])
  rw [this] at h5
  exact h5
end Go.Vm
